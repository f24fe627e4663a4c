/- What is said later changes no answer: the law returns true. -/
import Derived.Test.YtbhccicibmcafaaGreatDoorGH
import Derived.Test.YtbhccicibmcafaaGreatDoorGE
import Derived.Test.YtbhccicibmcafaaGreatDoorGG
import Derived.Test.YtbhccicibmcafaaGreatDoorGF
namespace Go.Proofs.YtbhccicibmcafaaGreatDoor
set_option linter.unusedVariables false
open Go.RowKit
theorem mayA_back {ps : List PurD} {ss : List StD} (hs : sayErr idErr ps ss = 0) (kind : Int) (text purp region : ByteArray) (ch at_ : Int) :
    allErr ps (ss.filter fun d => !decide (at_ < d.at_)) [⟨kind, text⟩] 1 purp region ch at_ = allErr ps ss [⟨kind, text⟩] 1 purp region ch at_ ∧
    mayA ps (ss.filter fun d => !decide (at_ < d.at_)) kind text purp region ch at_ = mayA ps ss kind text purp region ch at_ := by
  have e : (fun d : StD => !decide (at_ < d.at_)) = fun d => decide (d.at_ ≤ at_) := by
    funext d
    by_cases h : at_ < d.at_
    · simp [h]
    · simp [h]; omega
  have h1 : allErr ps (ss.filter fun d => !decide (at_ < d.at_)) [⟨kind, text⟩] 1 purp region ch at_ = allErr ps ss [⟨kind, text⟩] 1 purp region ch at_ := by
    unfold allErr
    rw [hs, say_sub hs List.filter_sublist]
  refine ⟨h1, ?_⟩
  unfold mayA
  rw [h1]
  split
  · rfl
  · rw [e]; exact askF_back _ _ _ _ _ _ _ _
theorem fSt_one (d : StD) (m : Nat) : (fSt d m).oneCell' = true := by
  unfold fSt
  split <;> rfl
set_option maxHeartbeats 8000000 in
set_option maxRecDepth 100000 in
theorem consentsLookBack_walk (a0 : Option Addr) (len0 cap0 : Nat) (z0 : List Int) (w : World) (w0 : IsRow .i64 w a0 len0 cap0 z0) (hG : GlobOk w) :
    Calls Tryz.prog 3 #[.slice a0 len0 cap0] w fun e w' => e = .returned (.bool true) ∧ Below w.heap.size w w' := by
  have L := Lw.whole w0
  have HG := Lib.hid hG
  clear hG w0
  go_enter Tryz.func3, Tryz.ntmps3
  go_wp2_with fail
  refine (L.rightPolicy (by omega)).mono ?_
  rintro e W1 ⟨A, cap, ps, H1, rfl, L1, le1, hP, hpe, hp0, hp3, hpc⟩
  have HL1 := Lib.hid L1
  have HP := Lib.hid hP
  have HPE := Lib.hid hpe
  have HPO := Lib.hid (HG.out.pool.le le1)
  have HML := Lib.hid (HG.out.mlen.le le1)
  clear L L1 hP hpe le1 HG
  go_wp2_with fail
  refine (HL1.out.range 1 14 (by omega) (by omega) (by omega) (by omega)).mono ?_
  rintro e W2 ⟨m, rfl, m1, m2, L2, -, -⟩
  obtain ⟨m, rfl⟩ := Int.eq_ofNat_of_zero_le (show 0 ≤ m by omega)
  have HL2 := Lib.hid L2
  clear L2 HL1
  go_wp2_with fail
  refine (HL2.out.rightStatements (by omega) HPO.out A cap ps HP.out HPE.out hp0 (by omega) m (by omega)).mono ?_
  rintro e W3 ⟨A2, cap2, ss, H3, rfl, L3, le3, hR, hse, hsz, hsl, hsc⟩
  have HL3 := Lib.hid (L3.more (K' := 400) (by omega))
  have HP3 := Lib.hid (HP.out.le le3)
  have HPO3 := Lib.hid (HPO.out.le le3)
  have HML3 := Lib.hid (HML.out.le le3)
  have HR3 := Lib.hid hR
  have HSE := Lib.hid hse
  have HSZ := Lib.hid hsz
  have hs14 : ss.length ≤ 14 := by omega
  clear L3 le3 hR hse hsz hsl HL2 HP HPO HML
  go_wp2_with fail
  refine (HL3.out.question HPO3.out (by omega) A cap ps HP3.out hp0 (by omega)).mono ?_
  rintro e W4 ⟨q, rfl, hq, L4, -⟩
  obtain ⟨H5, le5, hb5, L5⟩ := L4.put (.cells #[.int .i64 q.kind, .string q.text, .string q.purp, .string q.region, .int .i64 q.ch, .int .i64 q.at_] 34)
  have HL5 := Lib.hid L5
  have HQ := Lib.hid hq
  have HP5 := Lib.hid (HP3.out.le le5)
  have HML5 := Lib.hid (HML3.out.le le5)
  have HR5 := Lib.hid (HR3.out.le le5)
  have HB5 := Lib.hid hb5
  clear hq le5 hb5 L5 L4 HL3 HP3 HPO3 HML3 HR3
  go_upto_region 4 with (fail)
  generalize W4.alloc (.cells #[.int .i64 q.kind, .string q.text, .string q.purp, .string q.region, .int .i64 q.ch, .int .i64 q.at_] 34) = W5 at *
  have hq5 := HL5.out.fin _ _ HB5.out
  have q0 : W5.cell? ⟨W4.heap.size, 0, none⟩ = some (.int .i64 q.kind) := cell_h hq5 0 rfl
  have q1 : W5.cell? ⟨W4.heap.size, 1, none⟩ = some (.string q.text) := cell_h hq5 1 rfl
  have q2 : W5.cell? ⟨W4.heap.size, 2, none⟩ = some (.string q.purp) := cell_h hq5 2 rfl
  have q3 : W5.cell? ⟨W4.heap.size, 3, none⟩ = some (.string q.region) := cell_h hq5 3 rfl
  have q4 : W5.cell? ⟨W4.heap.size, 4, none⟩ = some (.int .i64 q.ch) := cell_h hq5 4 rfl
  have q5 : W5.cell? ⟨W4.heap.size, 5, none⟩ = some (.int .i64 q.at_) := cell_h hq5 5 rfl
  clear hq5
  have HBK := Lib.hid (mayA_back HSE.out q.kind q.text q.purp q.region q.ch q.at_)
  have HMA := Lib.hid (may_any H5 HML5.out A cap ps A2 cap2 ss q.kind q.text q.purp q.region q.ch q.at_ W5 HL5.out.fin HP5.out (by omega) HR5.out (by omega) HSZ.out (by have := HQ.out.text; omega) (by have := HQ.out.region; omega))
  generalize mayA ps ss q.kind q.text q.purp q.region q.ch q.at_ = ans at HBK HMA
  generalize allErr ps ss [⟨q.kind, q.text⟩] 1 q.purp q.region q.ch q.at_ = ae at HBK HMA
  obtain ⟨am, ay, an⟩ := ans
  go_wp2_with fail
  refine HMA.out.mono ?_
  rintro e W6 ⟨rfl, hb6⟩
  rw [show ansV ⟨am, ay, an⟩ = .agg #[.bool am, .int .i64 ay, .int .i64 an] from rfl]
  have L6 := HL5.out.call hb6
  obtain ⟨H7, le7, hb7, L7⟩ := L6.put (.cells #[.bool am, .int .i64 ay, .int .i64 an] 37)
  have HL7 := Lib.hid L7
  have HB7 := Lib.hid hb7
  have HP7 := Lib.hid (HP5.out.le le7)
  have HML7 := Lib.hid (HML5.out.le le7)
  have HR7 := Lib.hid (HR5.out.le le7)
  have HQ7 := Lib.hid (le7 _ _ HB5.out)
  clear q0 q1 q2 q3 q4 q5 hb6 L6 le7 hb7 L7 HMA HP5 HML5 HR5 HB5 HL5
  go_upto_region 5 with (fail)
  generalize W6.alloc (.cells #[.bool am, .int .i64 ay, .int .i64 an] 37) = W7 at *
  go_wp2_with fail
  refine (clone_St H7 fSt ss (fun d _ m => fSt_one d m) A2 cap2 W7 HL7.out.fin HR7.out (by omega)).mono ?_
  rintro e W8 ⟨⟨v8, rfl, hO8⟩, hb8⟩
  have HL8 := Lib.hid (HL7.out.call hb8)
  have HO8 := Lib.hid hO8
  have HCQ : Hid (H7.cell? ⟨W4.heap.size, 5, none⟩ = some (.int .i64 q.at_)) := by
    show _ = _
    unfold Frz.cell?
    rw [show (⟨W4.heap.size, 5, none⟩ : Addr).block = W4.heap.size from rfl, HQ7.out]
    rfl
  have HN8 := Lib.hid (fun g (hg : v8.ownBlock = some g) => HL7.out.fin.none_ (hO8.lt hg).1)
  have HB8 := Lib.hid (fun g (hg : v8.ownBlock = some g) => Nat.lt_of_lt_of_le HL7.out.lt (hO8.lt hg).1)
  have hbs7 := HL7.out.lt
  clear hO8 hb8 HL7
  go_wp2_with fail
  refine (deleteFunc_St H7 15 [.pointer (some ⟨W4.heap.size, 0, none⟩)] (fun d => decide (q.at_ < d.at_)) ss (fun W d _ hW => later_any HCQ.out d W hW) (fun _ _ => by kernel_rfl) W7.heap.size v8 W8 HL8.out.fin HO8.out HN8.out (by omega)).mono ?_
  rintro e W9 ⟨⟨v9, rfl, hO9, how⟩, hg9⟩
  have L9 := HL8.out.grown hg9 (fun g hg => ⟨HB8.out g hg, HN8.out g hg⟩)
  obtain ⟨A9, cap9, H9, hv9, hlc9, p1, p2, hR9, p3, -⟩ := hO9.freeze H7
  subst hv9
  have le9 := p2 (fun g hg => HN8.out g (how ▸ hg))
  have HL9 : Hid (Lw w w.heap.size (400 + 20) H9 W9) := ⟨L9.st, L9.bel, L9.le, p1 L9.fin, by rw [p3 _ hbs7]; exact L9.apart⟩
  have HP9 := Lib.hid (HP7.out.le le9)
  have HML9 := Lib.hid (HML7.out.le le9)
  have HQ9 := Lib.hid (le9 _ _ HQ7.out)
  have HB9 := Lib.hid (le9 _ _ HB7.out)
  have HR9 := Lib.hid hR9
  have hel : (ss.filter fun d => !decide (q.at_ < d.at_)).length ≤ 14 := Nat.le_trans (List.length_filter_le _ _) hs14
  have HSZ9 : Hid (SzSt (ss.filter fun d => !decide (q.at_ < d.at_))) := fun s hs => HSZ.out s (List.mem_filter.1 hs).1
  generalize (ss.filter fun d => !decide (q.at_ < d.at_)) = es at *
  clear hg9 L9 p1 p2 p3 hR9 hO9 how le9 HL8 HO8 HCQ HN8 HB8 HP7 HML7 HR7 HQ7 HB7 hbs7
  have hq5 := HL9.out.fin _ _ HQ9.out
  have q0 : W9.cell? ⟨W4.heap.size, 0, none⟩ = some (.int .i64 q.kind) := cell_h hq5 0 rfl
  have q1 : W9.cell? ⟨W4.heap.size, 1, none⟩ = some (.string q.text) := cell_h hq5 1 rfl
  have q2 : W9.cell? ⟨W4.heap.size, 2, none⟩ = some (.string q.purp) := cell_h hq5 2 rfl
  have q3 : W9.cell? ⟨W4.heap.size, 3, none⟩ = some (.string q.region) := cell_h hq5 3 rfl
  have q4 : W9.cell? ⟨W4.heap.size, 4, none⟩ = some (.int .i64 q.ch) := cell_h hq5 4 rfl
  have q5 : W9.cell? ⟨W4.heap.size, 5, none⟩ = some (.int .i64 q.at_) := cell_h hq5 5 rfl
  clear hq5
  have HMA := Lib.hid (may_any H9 HML9.out A cap ps A9 cap9 es q.kind q.text q.purp q.region q.ch q.at_ W9 HL9.out.fin HP9.out (by omega) HR9.out (by omega) HSZ9.out (by have := HQ.out.text; omega) (by have := HQ.out.region; omega))
  rw [HBK.out.1, HBK.out.2] at HMA
  go_wp2_with fail
  refine HMA.out.mono ?_
  rintro e W10 ⟨rfl, hb10⟩
  rw [show ansV ⟨am, ay, an⟩ = .agg #[.bool am, .int .i64 ay, .int .i64 an] from rfl]
  have L10 := HL9.out.call hb10
  obtain ⟨H11, le11, hb11, L11⟩ := L10.put (.cells #[.bool am, .int .i64 ay, .int .i64 an] 37)
  have HL11 := Lib.hid L11
  have HML11 := Lib.hid (HML9.out.le le11)
  have hb7 := L11.fin _ _ (le11 _ _ HB9.out)
  have hb8 := L11.fin _ _ hb11
  clear q0 q1 q2 q3 q4 q5 hb10 L10 le11 hb11 L11 HMA HP9 HML9 HR9 HL9 HBK
  go_upto_region 7 with (fail)
  generalize W10.alloc (.cells #[.bool am, .int .i64 ay, .int .i64 an] 37) = W11 at *
  have x0 : W11.cell? ⟨W6.heap.size, 0, none⟩ = some (.bool am) := cell_h hb7 0 rfl
  have x1 : W11.cell? ⟨W6.heap.size, 1, none⟩ = some (.int .i64 ay) := cell_h hb7 1 rfl
  have x2 : W11.cell? ⟨W6.heap.size, 2, none⟩ = some (.int .i64 an) := cell_h hb7 2 rfl
  have y0 : W11.cell? ⟨W10.heap.size, 0, none⟩ = some (.bool am) := cell_h hb8 0 rfl
  have y1 : W11.cell? ⟨W10.heap.size, 1, none⟩ = some (.int .i64 ay) := cell_h hb8 1 rfl
  have y2 : W11.cell? ⟨W10.heap.size, 2, none⟩ = some (.int .i64 an) := cell_h hb8 2 rfl
  clear hb7 hb8
  go_wp2_with fail
  refine (consents_any H11 HML11.out W11 HL11.out.fin).mono ?_
  rintro e W12 ⟨rfl, hb12⟩
  have HF := Lib.hid (HL11.out.call hb12).bel
  clear hb12
  go_wp2_with fail
  go_ret
  exact ⟨rfl, HF.out⟩
end Go.Proofs.YtbhccicibmcafaaGreatDoor
