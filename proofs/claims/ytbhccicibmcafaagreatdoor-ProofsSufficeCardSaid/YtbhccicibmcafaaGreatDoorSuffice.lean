/- An answer, asked with its proof alone, is the same: the law returns true. -/
import Derived.Test.YtbhccicibmcafaaGreatDoorGJ
namespace Go.Proofs.YtbhccicibmcafaaGreatDoor
set_option linter.unusedVariables false
open Go.RowKit
set_option maxHeartbeats 1000000 in
set_option maxRecDepth 100000 in
theorem notIn_any {H : Frz} {g : Nat} {A : Option Addr} {cap : Nat} {zs : List Int} (hc : H.cell? ⟨g, 0, none⟩ = some (.slice A zs.length cap)) (hR : Rw H A 1 fI zs) (hl : zs.length ≤ 1000000) (d : StD) (W : World) (hH : H.In W) :
    Calls Tryz.prog 21 #[.agg #[.int .i64 d.no, .int .i64 d.at_, .int .i64 d.kind, .string d.text, .string d.purp, .string d.region, .int .i64 d.ch, .int .i64 d.what], .pointer (some ⟨g, 0, none⟩)] W fun e W' => e = .returned (.bool (!zs.contains d.no)) ∧ Below W.heap.size W W' := by
  have c5 := hH.cell hc
  have HB := Lib.hid (new1 (w := W) (.cells #[.int .i64 d.no, .int .i64 d.at_, .int .i64 d.kind, .string d.text, .string d.purp, .string d.region, .int .i64 d.ch, .int .i64 d.what] 43))
  have HIN := Lib.hid (hH.alloc (.cells #[.int .i64 d.no, .int .i64 d.at_, .int .i64 d.kind, .string d.text, .string d.purp, .string d.region, .int .i64 d.ch, .int .i64 d.what] 43))
  have HX : Hid ((W.alloc (.cells #[.int .i64 d.no, .int .i64 d.at_, .int .i64 d.kind, .string d.text, .string d.purp, .string d.region, .int .i64 d.ch, .int .i64 d.what] 43)).heap[W.heap.size]? = some (.cells #[.int .i64 d.no, .int .i64 d.at_, .int .i64 d.kind, .string d.text, .string d.purp, .string d.region, .int .i64 d.ch, .int .i64 d.what] 43)) := heap_alloc_new _ _
  have c6 : (W.alloc (.cells #[.int .i64 d.no, .int .i64 d.at_, .int .i64 d.kind, .string d.text, .string d.purp, .string d.region, .int .i64 d.ch, .int .i64 d.what] 43)).cell? ⟨g, 0, none⟩ = some (.slice A zs.length cap) := (World.cell?_alloc_lt W _ _ (World.block_lt_of_cell? W _ c5)).trans c5
  have HCO := Lib.hid (contains_I H A cap zs d.no (W.alloc (.cells #[.int .i64 d.no, .int .i64 d.at_, .int .i64 d.kind, .string d.text, .string d.purp, .string d.region, .int .i64 d.ch, .int .i64 d.what] 43)) HIN.out hR hl)
  clear c5 hc hH hR
  generalize zs.contains d.no = q at HCO ⊢
  go_enter Tryz.func21, Tryz.ntmps21
  go_upto_region 1 with (fail)
  generalize W.alloc (.cells #[.int .i64 d.no, .int .i64 d.at_, .int .i64 d.kind, .string d.text, .string d.purp, .string d.region, .int .i64 d.ch, .int .i64 d.what] 43) = W1 at *
  have z0 : W1.cell? ⟨W.heap.size, 0, none⟩ = some (.int .i64 d.no) := cell_h HX.out 0 rfl
  go_wp2_with fail
  refine HCO.out.mono ?_
  rintro e w2 ⟨rfl, hb⟩
  have HF := Lib.hid (HB.out.trans (hb.mono HB.out.size))
  clear hb HCO
  go_wp2_with fail
  go_ret
  exact ⟨rfl, HF.out⟩
set_option maxHeartbeats 8000000 in
set_option maxRecDepth 100000 in
theorem proofsSuffice_walk (a0 : Option Addr) (len0 cap0 : Nat) (z0 : List Int) (w : World) (w0 : IsRow .i64 w a0 len0 cap0 z0) (hG : GlobOk w) :
    Calls Tryz.prog 5 #[.slice a0 len0 cap0] w fun e w' => e = .returned (.bool true) ∧ Below w.heap.size w w' := by
  have L := Lw.whole w0
  have HG := Lib.hid hG
  clear hG w0
  go_enter Tryz.func5, Tryz.ntmps5
  go_wp2_with fail
  refine (L.rightPolicy (by omega)).mono ?_
  rintro e W1 ⟨A, cap, ps, H1, rfl, L1, le1, hP, hpe, hp0, hp3, hpc⟩
  have HL1 := Lib.hid L1
  have HP := Lib.hid hP
  have HPE := Lib.hid hpe
  have HPO := Lib.hid (HG.out.pool.le le1)
  have HML := Lib.hid (HG.out.mlen.le le1)
  clear L L1 hP hpe le1 HG
  go_wp2_with fail
  refine (HL1.out.range 1 14 (by omega) (by omega) (by omega) (by omega)).mono ?_
  rintro e W2 ⟨m, rfl, m1, m2, L2, -, -⟩
  obtain ⟨m, rfl⟩ := Int.eq_ofNat_of_zero_le (show 0 ≤ m by omega)
  have HL2 := Lib.hid L2
  clear L2 HL1
  go_wp2_with fail
  refine (HL2.out.rightStatements (by omega) HPO.out A cap ps HP.out HPE.out hp0 (by omega) m (by omega)).mono ?_
  rintro e W3 ⟨A2, cap2, ss, H3, rfl, L3, le3, hR, hse, hsz, hsl, hsc⟩
  have HL3 := Lib.hid (L3.more (K' := 400) (by omega))
  have HP3 := Lib.hid (HP.out.le le3)
  have HPO3 := Lib.hid (HPO.out.le le3)
  have HML3 := Lib.hid (HML.out.le le3)
  have HR3 := Lib.hid hR
  have HSE := Lib.hid hse
  have HSZ := Lib.hid hsz
  have hs14 : ss.length ≤ 14 := by omega
  clear L3 le3 hR hse hsz hsl HL2 HP HPO HML
  go_wp2_with fail
  refine (HL3.out.question HPO3.out (by omega) A cap ps HP3.out hp0 (by omega)).mono ?_
  rintro e W4 ⟨q, rfl, hq, L4, -⟩
  obtain ⟨H5, le5, hb5, L5⟩ := L4.put (.cells #[.int .i64 q.kind, .string q.text, .string q.purp, .string q.region, .int .i64 q.ch, .int .i64 q.at_] 34)
  have HL5 := Lib.hid L5
  have HQ := Lib.hid hq
  have HP5 := Lib.hid (HP3.out.le le5)
  have HML5 := Lib.hid (HML3.out.le le5)
  have HR5 := Lib.hid (HR3.out.le le5)
  have HB5 := Lib.hid hb5
  clear hq le5 hb5 L5 L4 HL3 HP3 HPO3 HML3 HR3
  go_upto_region 4 with (fail)
  generalize W4.alloc (.cells #[.int .i64 q.kind, .string q.text, .string q.purp, .string q.region, .int .i64 q.ch, .int .i64 q.at_] 34) = W5 at *
  have hq5 := HL5.out.fin _ _ HB5.out
  have q0 : W5.cell? ⟨W4.heap.size, 0, none⟩ = some (.int .i64 q.kind) := cell_h hq5 0 rfl
  have q1 : W5.cell? ⟨W4.heap.size, 1, none⟩ = some (.string q.text) := cell_h hq5 1 rfl
  have q2 : W5.cell? ⟨W4.heap.size, 2, none⟩ = some (.string q.purp) := cell_h hq5 2 rfl
  have q3 : W5.cell? ⟨W4.heap.size, 3, none⟩ = some (.string q.region) := cell_h hq5 3 rfl
  have q4 : W5.cell? ⟨W4.heap.size, 4, none⟩ = some (.int .i64 q.ch) := cell_h hq5 4 rfl
  have q5 : W5.cell? ⟨W4.heap.size, 5, none⟩ = some (.int .i64 q.at_) := cell_h hq5 5 rfl
  clear hq5
  have HPS := Lib.hid (fun h => proofs_suffice (ps := ps) (ss := ss) (kind := q.kind) (text := q.text) (purp := q.purp) (region := q.region) (ch := q.ch) (at_ := q.at_) h)
  have HMA := Lib.hid (may_any H5 HML5.out A cap ps A2 cap2 ss q.kind q.text q.purp q.region q.ch q.at_ W5 HL5.out.fin HP5.out (by omega) HR5.out (by omega) HSZ.out (by have := HQ.out.text; omega) (by have := HQ.out.region; omega))
  have HPR := Lib.hid (fun H6 W (le : H5.Le H6) (hW : H6.In W) => proof_any H6 (HML5.out.le le) A cap ps A2 cap2 ss q.kind q.text q.purp q.region q.ch q.at_ W hW (HP5.out.le le) (by omega) (HR5.out.le le) (by omega) HSZ.out (by have := HQ.out.text; omega) (by have := HQ.out.region; omega))
  generalize mayA ps ss q.kind q.text q.purp q.region q.ch q.at_ = ans at HPS HMA
  generalize allErr ps ss [⟨q.kind, q.text⟩] 1 q.purp q.region q.ch q.at_ = ae at HPS HMA HPR
  generalize proofA ps ss q.kind q.text q.purp q.region q.ch q.at_ = pr at HPS HPR
  obtain ⟨am, ay, an⟩ := ans
  go_wp2_with fail
  refine HMA.out.mono ?_
  rintro e W6 ⟨rfl, hb6⟩
  rw [show ansV ⟨am, ay, an⟩ = .agg #[.bool am, .int .i64 ay, .int .i64 an] from rfl]
  have L6 := HL5.out.call hb6
  obtain ⟨H7, le7, hb7, L7⟩ := L6.put (.cells #[.bool am, .int .i64 ay, .int .i64 an] 37)
  have HL7 := Lib.hid L7
  have HB7 := Lib.hid hb7
  have HP7 := Lib.hid (HP5.out.le le7)
  have HML7 := Lib.hid (HML5.out.le le7)
  have HR7 := Lib.hid (HR5.out.le le7)
  have HQ7 := Lib.hid (le7 _ _ HB5.out)
  have HPR7 := Lib.hid (fun W (hW : H7.In W) => HPR.out H7 W le7 hW)
  clear q0 q1 q2 q3 q4 q5 hb6 L6 le7 hb7 L7 HMA HP5 HML5 HR5 HB5 HL5 HPR
  go_upto_region 5 with (fail)
  generalize W6.alloc (.cells #[.bool am, .int .i64 ay, .int .i64 an] 37) = W7 at *
  have hq5 := HL7.out.fin _ _ HQ7.out
  have q0 : W7.cell? ⟨W4.heap.size, 0, none⟩ = some (.int .i64 q.kind) := cell_h hq5 0 rfl
  have q1 : W7.cell? ⟨W4.heap.size, 1, none⟩ = some (.string q.text) := cell_h hq5 1 rfl
  have q2 : W7.cell? ⟨W4.heap.size, 2, none⟩ = some (.string q.purp) := cell_h hq5 2 rfl
  have q3 : W7.cell? ⟨W4.heap.size, 3, none⟩ = some (.string q.region) := cell_h hq5 3 rfl
  have q4 : W7.cell? ⟨W4.heap.size, 4, none⟩ = some (.int .i64 q.ch) := cell_h hq5 4 rfl
  have q5 : W7.cell? ⟨W4.heap.size, 5, none⟩ = some (.int .i64 q.at_) := cell_h hq5 5 rfl
  clear hq5
  go_wp2_with fail
  refine (HPR7.out W7 HL7.out.fin).mono ?_
  rintro e W8 ⟨vp, rfl, hOp, hbp⟩
  have L8 := HL7.out.call hbp
  obtain ⟨Ap, capp, H8, hvp, hlep, p1, p2, hRp, p3, -⟩ := hOp.freeze H7
  subst hvp
  have le8 := p2 (fun g hg => HL7.out.fin.none_ (hOp.lt hg).1)
  have L8' : Lw w w.heap.size (400 + 20) H8 W8 := ⟨L8.st, L8.bel, L8.le, p1 L8.fin, by rw [p3 _ HL7.out.lt]; exact L8.apart⟩
  obtain ⟨H9, le9, hb9, L9⟩ := L8'.put (.cells #[.slice Ap pr.length capp] 22)
  have HL9 := Lib.hid L9
  have le79 := le8.trans le9
  have HB9 := Lib.hid (le79 _ _ HB7.out)
  have HP9 := Lib.hid (HP7.out.le le79)
  have HML9 := Lib.hid (HML7.out.le le79)
  have HR9 := Lib.hid (HR7.out.le le79)
  have HQ9 := Lib.hid (le79 _ _ HQ7.out)
  have HRP := Lib.hid (hRp.le le9)
  have HPB := Lib.hid hb9
  clear q0 q1 q2 q3 q4 q5 hbp hOp L8 L8' p1 p2 p3 hRp le8 le9 le79 hb9 L9 HPR7 HL7 HB7 HP7 HML7 HR7 HQ7
  go_upto_region 6 with (fail)
  generalize W8.alloc (.cells #[.slice Ap pr.length capp] 22) = W9 at *
  generalize W8.heap.size = pb at *
  have k0 : (ae != ae) = false := by simp
  by_cases hae : ae = 0
  · obtain ⟨hs1, hs2, hs3⟩ := HPS.out hae
    have HS1 := Lib.hid hs1
    have HS2 := Lib.hid hs2
    have HS3 := Lib.hid hs3
    subst hae
    have hp2 : pr.length ≤ 14 := by rw [← hs3]; exact Nat.le_trans (List.length_filter_le _ _) hs14
    clear hs1 hs2 hs3 HPS
    go_wp2_with fail
    refine (clone_St H9 fSt ss (fun d _ m => fSt_one d m) A2 cap2 W9 HL9.out.fin HR9.out (by omega)).mono ?_
    rintro e W10 ⟨⟨v8, rfl, hO8⟩, hb8⟩
    have HL10 := Lib.hid (HL9.out.call hb8)
    have HO8 := Lib.hid hO8
    have HCQ : Hid (H9.cell? ⟨pb, 0, none⟩ = some (.slice Ap pr.length capp)) := by
      show _ = _
      unfold Frz.cell?
      rw [show (⟨pb, 0, none⟩ : Addr).block = pb from rfl, HPB.out]
      rfl
    have HN8 := Lib.hid (fun g (hg : v8.ownBlock = some g) => HL9.out.fin.none_ (hO8.lt hg).1)
    have HB8 := Lib.hid (fun g (hg : v8.ownBlock = some g) => Nat.lt_of_lt_of_le HL9.out.lt (hO8.lt hg).1)
    have hbs9 := HL9.out.lt
    clear hO8 hb8 HL9
    go_wp2_with fail
    refine (deleteFunc_St H9 21 [.pointer (some ⟨pb, 0, none⟩)] (fun d => !pr.contains d.no) ss (fun W d _ hW => notIn_any HCQ.out HRP.out (by omega) d W hW) (fun _ _ => by kernel_rfl) W9.heap.size v8 W10 HL10.out.fin HO8.out HN8.out (by omega)).mono ?_
    rintro e W11 ⟨⟨v9, rfl, hO9, how⟩, hg9⟩
    have L11 := HL10.out.grown hg9 (fun g hg => ⟨HB8.out g hg, HN8.out g hg⟩)
    simp only [Bool.not_not] at hO9
    obtain ⟨A9, cap9, H11, hv9, hlc9, p1, p2, hR9, p3, -⟩ := hO9.freeze H9
    subst hv9
    have le9 := p2 (fun g hg => HN8.out g (how ▸ hg))
    have HL11 : Hid (Lw w w.heap.size (400 + 20) H11 W11) := ⟨L11.st, L11.bel, L11.le, p1 L11.fin, by rw [p3 _ hbs9]; exact L11.apart⟩
    have HP11 := Lib.hid (HP9.out.le le9)
    have HML11 := Lib.hid (HML9.out.le le9)
    have HQ11 := Lib.hid (le9 _ _ HQ9.out)
    have HB11 := Lib.hid (le9 _ _ HB9.out)
    have HPB11 := Lib.hid (le9 _ _ HPB.out)
    have HR11 := Lib.hid hR9
    have hel : (ss.filter fun d => pr.contains d.no).length ≤ 14 := Nat.le_trans (List.length_filter_le _ _) hs14
    have HSZ9 : Hid (SzSt (ss.filter fun d => pr.contains d.no)) := fun s hs => HSZ.out s (List.mem_filter.1 hs).1
    generalize (ss.filter fun d => pr.contains d.no) = es at *
    clear hg9 L11 p1 p2 p3 hR9 hO9 how le9 HL10 HO8 HCQ HN8 HB8 HP9 HML9 HR9 HQ9 HB9 hbs9 HPB HRP
    have hq5 := HL11.out.fin _ _ HQ11.out
    have q0 : W11.cell? ⟨W4.heap.size, 0, none⟩ = some (.int .i64 q.kind) := cell_h hq5 0 rfl
    have q1 : W11.cell? ⟨W4.heap.size, 1, none⟩ = some (.string q.text) := cell_h hq5 1 rfl
    have q2 : W11.cell? ⟨W4.heap.size, 2, none⟩ = some (.string q.purp) := cell_h hq5 2 rfl
    have q3 : W11.cell? ⟨W4.heap.size, 3, none⟩ = some (.string q.region) := cell_h hq5 3 rfl
    have q4 : W11.cell? ⟨W4.heap.size, 4, none⟩ = some (.int .i64 q.ch) := cell_h hq5 4 rfl
    have q5 : W11.cell? ⟨W4.heap.size, 5, none⟩ = some (.int .i64 q.at_) := cell_h hq5 5 rfl
    clear hq5
    have HMA := Lib.hid (may_any H11 HML11.out A cap ps A9 cap9 es q.kind q.text q.purp q.region q.ch q.at_ W11 HL11.out.fin HP11.out (by omega) HR11.out (by omega) HSZ9.out (by have := HQ.out.text; omega) (by have := HQ.out.region; omega))
    rw [HS1.out, HS2.out] at HMA
    go_wp2_with fail
    refine HMA.out.mono ?_
    rintro e W12 ⟨rfl, hb10⟩
    rw [show ansV ⟨am, ay, an⟩ = .agg #[.bool am, .int .i64 ay, .int .i64 an] from rfl]
    have L12 := HL11.out.call hb10
    obtain ⟨H13, le13, hb13, L13⟩ := L12.put (.cells #[.bool am, .int .i64 ay, .int .i64 an] 37)
    have HL13 := Lib.hid L13
    have HML13 := Lib.hid (HML11.out.le le13)
    have hb7 := L13.fin _ _ (le13 _ _ HB11.out)
    have hb8 := L13.fin _ _ hb13
    have hb9 := L13.fin _ _ (le13 _ _ HPB11.out)
    clear q0 q1 q2 q3 q4 q5 hb10 L12 le13 hb13 L13 HMA HP11 HML11 HR11 HL11
    go_upto_region 12 with (fail)
    generalize W12.alloc (.cells #[.bool am, .int .i64 ay, .int .i64 an] 37) = W13 at *
    have x0 : W13.cell? ⟨W6.heap.size, 0, none⟩ = some (.bool am) := cell_h hb7 0 rfl
    have x1 : W13.cell? ⟨W6.heap.size, 1, none⟩ = some (.int .i64 ay) := cell_h hb7 1 rfl
    have x2 : W13.cell? ⟨W6.heap.size, 2, none⟩ = some (.int .i64 an) := cell_h hb7 2 rfl
    have y0 : W13.cell? ⟨W12.heap.size, 0, none⟩ = some (.bool am) := cell_h hb8 0 rfl
    have y1 : W13.cell? ⟨W12.heap.size, 1, none⟩ = some (.int .i64 ay) := cell_h hb8 1 rfl
    have y2 : W13.cell? ⟨W12.heap.size, 2, none⟩ = some (.int .i64 an) := cell_h hb8 2 rfl
    have z0 : W13.cell? ⟨pb, 0, none⟩ = some (.slice Ap pr.length capp) := cell_h hb9 0 rfl
    have hlen : ((es.length : Int) == (pr.length : Int)) = true := by rw [HS3.out]; simp
    clear hb7 hb8 hb9
    go_wp2_with fail
    refine (consents_any H13 HML13.out W13 HL13.out.fin).mono ?_
    rintro e W14 ⟨rfl, hb12⟩
    have HF := Lib.hid (HL13.out.call hb12).bel
    clear hb12
    go_wp2_with fail
    go_ret
    exact ⟨rfl, HF.out⟩
  · have k1 : (ae != 0) = true := by simpa using hae
    clear hae HPS
    go_wp2_with fail
    refine (consents_any H9 HML9.out W9 HL9.out.fin).mono ?_
    rintro e W14 ⟨rfl, hb12⟩
    have HF := Lib.hid (HL9.out.call hb12).bel
    clear hb12
    go_wp2_with fail
    go_ret
    exact ⟨rfl, HF.out⟩
end Go.Proofs.YtbhccicibmcafaaGreatDoor
