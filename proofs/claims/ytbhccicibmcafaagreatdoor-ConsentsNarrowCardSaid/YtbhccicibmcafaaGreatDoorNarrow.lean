/- An id of a person is permitted no more than by itself, and with more ids no more: the law returns true. -/
import Derived.Test.YtbhccicibmcafaaGreatDoorGI
namespace Go.Proofs.YtbhccicibmcafaaGreatDoor
set_option linter.unusedVariables false
open Go.RowKit
theorem infoId : (Tryz.prog.info? 32).map (fun i => (i.zero, i.size, i.bytes)) = some (some (.agg #[.int .i64 0, .string ⟨#[]⟩]), 2, 24) := by kernel_rfl
set_option maxHeartbeats 8000000 in
set_option maxRecDepth 100000 in
theorem consentsNarrow_walk (a0 : Option Addr) (len0 cap0 : Nat) (z0 : List Int) (w : World) (w0 : IsRow .i64 w a0 len0 cap0 z0) (hG : GlobOk w) :
    Calls Tryz.prog 4 #[.slice a0 len0 cap0] w fun e w' => e = .returned (.bool true) ∧ Below w.heap.size w w' := by
  obtain ⟨i0, hi0, hz0, hz1, hz2⟩ := info_parts infoId
  have L := Lw.whole w0
  have HG := Lib.hid hG
  clear hG w0
  go_enter Tryz.func4, Tryz.ntmps4
  go_wp2_with fail
  refine (L.rightPolicy (by omega)).mono ?_
  rintro e W1 ⟨A, cap, ps, H1, rfl, L1, le1, hP, hpe, hp0, hp3, hpc⟩
  have HL1 := Lib.hid L1
  have HP := Lib.hid hP
  have HPE := Lib.hid hpe
  have HPO := Lib.hid (HG.out.pool.le le1)
  have HML := Lib.hid (HG.out.mlen.le le1)
  clear L L1 hP hpe le1 HG
  go_wp2_with fail
  refine (HL1.out.range 1 14 (by omega) (by omega) (by omega) (by omega)).mono ?_
  rintro e W2 ⟨m, rfl, m1, m2, L2, -, -⟩
  obtain ⟨m, rfl⟩ := Int.eq_ofNat_of_zero_le (show 0 ≤ m by omega)
  have HL2 := Lib.hid L2
  clear L2 HL1
  go_wp2_with fail
  refine (HL2.out.rightStatements (by omega) HPO.out A cap ps HP.out HPE.out hp0 (by omega) m (by omega)).mono ?_
  rintro e W3 ⟨A2, cap2, ss, H3, rfl, L3, le3, hR, hse, hsz, hsl, hsc⟩
  have HL3 := Lib.hid (L3.more (K' := 400) (by omega))
  have HP3 := Lib.hid (HP.out.le le3)
  have HPO3 := Lib.hid (HPO.out.le le3)
  have HML3 := Lib.hid (HML.out.le le3)
  have HR3 := Lib.hid hR
  have HSE := Lib.hid hse
  have HSZ := Lib.hid hsz
  have hs14 : ss.length ≤ 14 := by omega
  clear L3 le3 hR hse hsz hsl HL2 HP HPO HML
  go_wp2_with fail
  refine (HL3.out.question HPO3.out (by omega) A cap ps HP3.out hp0 (by omega)).mono ?_
  rintro e W4 ⟨q, rfl, hq, L4, -⟩
  obtain ⟨H7, le5, hb5, L5⟩ := L4.put (.cells #[.int .i64 q.kind, .string q.text, .string q.purp, .string q.region, .int .i64 q.ch, .int .i64 q.at_] 34)
  have HQ := Lib.hid hq
  have HP7 := Lib.hid (HP3.out.le le5)
  have HPO7 := Lib.hid (HPO3.out.le le5)
  have HML7 := Lib.hid (HML3.out.le le5)
  have HR7 := Lib.hid (HR3.out.le le5)
  have HQB := Lib.hid hb5
  have hq5 := L5.fin _ _ hb5
  have q0 : (W4.alloc (.cells #[.int .i64 q.kind, .string q.text, .string q.purp, .string q.region, .int .i64 q.ch, .int .i64 q.at_] 34)).cell? ⟨W4.heap.size, 0, none⟩ = some (.int .i64 q.kind) := cell_h hq5 0 rfl
  have q1 : (W4.alloc (.cells #[.int .i64 q.kind, .string q.text, .string q.purp, .string q.region, .int .i64 q.ch, .int .i64 q.at_] 34)).cell? ⟨W4.heap.size, 1, none⟩ = some (.string q.text) := cell_h hq5 1 rfl
  have hqn : W4.heap.size < (W4.alloc (.cells #[.int .i64 q.kind, .string q.text, .string q.purp, .string q.region, .int .i64 q.ch, .int .i64 q.at_] 34)).heap.size := L5.fin.lt hb5
  have HL5 := Lib.hid L5
  clear hq le5 hb5 L5 L4 HL3 HP3 HPO3 HML3 HR3 hq5
  go_upto_region 4 with (fail)
  generalize W4.alloc (.cells #[.int .i64 q.kind, .string q.text, .string q.purp, .string q.region, .int .i64 q.ch, .int .i64 q.at_] 34) = W5 at *
  have HRM := Lib.hid (show RM 32 2 fId w w.heap.size 420 H7 W5.heap.size (.slice (some ⟨W5.heap.size, 0, none⟩) 1 1) [⟨q.kind, q.text⟩] (W5.alloc (.cells #[.int .i64 q.kind, .string q.text] 32)) from
    ⟨HL5.out.alloc _, Orow.of_blk (rest := []) (heap_alloc_new _ _) (Nat.le_refl _) (by decide) (Nat.le_refl _) rfl, fun g hg => by injection hg with hg; subst hg; exact HL5.out.fin.none_ (Nat.le_refl _), HL5.out.lt, by simp⟩)
  go_upto_region 5 with (fail)
  clear q0 q1 HL5
  have hB7 : W5.heap.size < (W5.alloc (.cells #[.int .i64 q.kind, .string q.text] 32)).heap.size := by simp
  generalize hW7 : W5.alloc (.cells #[.int .i64 q.kind, .string q.text] 32) = W7 at *
  clear hW7
  generalize W5.heap.size = ib at *
  have q0 : W7.cell? ⟨W4.heap.size, 0, none⟩ = some (.int .i64 q.kind) := cell_h (HRM.out.lw.fin _ _ HQB.out) 0 rfl
  have q1 : W7.cell? ⟨W4.heap.size, 1, none⟩ = some (.string q.text) := cell_h (HRM.out.lw.fin _ _ HQB.out) 1 rfl
  have q2 : W7.cell? ⟨W4.heap.size, 2, none⟩ = some (.string q.purp) := cell_h (HRM.out.lw.fin _ _ HQB.out) 2 rfl
  have q3 : W7.cell? ⟨W4.heap.size, 3, none⟩ = some (.string q.region) := cell_h (HRM.out.lw.fin _ _ HQB.out) 3 rfl
  have q4 : W7.cell? ⟨W4.heap.size, 4, none⟩ = some (.int .i64 q.ch) := cell_h (HRM.out.lw.fin _ _ HQB.out) 4 rfl
  have q5 : W7.cell? ⟨W4.heap.size, 5, none⟩ = some (.int .i64 q.at_) := cell_h (HRM.out.lw.fin _ _ HQB.out) 5 rfl
  have HMY := Lib.hid (may_any H7 HML7.out A cap ps A2 cap2 ss q.kind q.text q.purp q.region q.ch q.at_ W7 HRM.out.lw.fin HP7.out (by omega) HR7.out (by omega) HSZ.out (by have := HQ.out.text; omega) (by have := HQ.out.region; omega))
  have HAE := Lib.hid (fun h => all_right (ps := ps) (ss := ss) (ids := [⟨q.kind, q.text⟩]) (most := 1) (purp := q.purp) (region := q.region) (ch := q.ch) (at_ := q.at_) h)
  have HAM : Hid (allErr ps ss [⟨q.kind, q.text⟩] 1 q.purp q.region q.ch q.at_ = 0 → mayA ps ss q.kind q.text q.purp q.region q.ch q.at_ = askI ps ss q.purp q.region q.ch q.at_ ⟨q.kind, q.text⟩) := fun h => by
    unfold mayA
    rw [if_neg (by simpa using h)]
    rfl
  generalize mayA ps ss q.kind q.text q.purp q.region q.ch q.at_ = ans at HMY HAM
  generalize allErr ps ss [⟨q.kind, q.text⟩] 1 q.purp q.region q.ch q.at_ = ae at HMY HAM HAE
  obtain ⟨am, ay, an⟩ := ans
  go_wp2_with fail
  refine HMY.out.mono ?_
  rintro e W8 ⟨rfl, hb8⟩
  rw [show ansV ⟨am, ay, an⟩ = .agg #[.bool am, .int .i64 ay, .int .i64 an] from rfl]
  have hR8 := HRM.out.call hb8
  have hib : ib < W8.heap.size := Nat.lt_of_lt_of_le hB7 hb8.size
  have HN0 : Hid (NS w w.heap.size 420 H7 W8.heap.size ⟨am, ay, an⟩ ib (.slice (some ⟨ib, 0, none⟩) 1 1) [⟨q.kind, q.text⟩] (W8.alloc (.cells #[.bool am, .int .i64 ay, .int .i64 an] 37))) :=
    ⟨hR8.alloc _, heap_alloc_new _ _, hR8.lw.fin.none_ (Nat.le_refl _), hR8.lw.lt, fun c => by have c2 : ib = W8.heap.size := Option.some.inj c; omega⟩
  clear q0 q1 q2 q3 q4 q5 hb8 hR8 HMY HRM
  go_upto_region 6 with (fail)
  generalize W8.alloc (.cells #[.bool am, .int .i64 ay, .int .i64 an] 37) = W9 at *
  generalize W8.heap.size = tb at *
  by_cases hae : ae = 0
  · obtain ⟨-, hidx, hque⟩ := HAE.out hae
    rw [idsErr_one] at hidx
    have HIX := Lib.hid hidx
    have HQE := Lib.hid hque
    have HA1 := Lib.hid (HAM.out hae)
    have HOK0 : Hid (am = okAll (askI ps ss q.purp q.region q.ch q.at_) ⟨q.kind, q.text⟩ [⟨q.kind, q.text⟩]) := by
      show _ = _
      rw [okAll_one, ← HA1.out]
    subst hae
    have HTZ0 : Hid (∀ y ∈ ([⟨q.kind, q.text⟩] : List IdD), y.text.size ≤ 3000) := fun y hy => by simp at hy; subst hy; exact HQ.out.text
    have HCX0 : Hid (anyF (eqId ⟨q.kind, q.text⟩) [⟨q.kind, q.text⟩] = true) := by
      show List.any _ _ = true
      simp [eqId_self]
    clear hidx hque HAE HAM HA1
    go_wp2_with fail
    go_loopw [7, 10, 11, 12, 48] (fun v _ _ _ t wr => ∃ (i : Nat) (v' : Value) (a : AnsD) (ids : List IdD), i ≤ 4 ∧ t = .int .i64 i ∧ v = v' ∧ ids.length ≤ 1 + i ∧ NS w w.heap.size (420 + 20 * i) H7 tb a ib v' ids wr ∧ Hid (∀ y ∈ ids, y.text.size ≤ 3000) ∧ Hid (anyF (eqId ⟨q.kind, q.text⟩) ids = true) ∧ Hid (a.may = okAll (askI ps ss q.purp q.region q.ch q.at_) ⟨q.kind, q.text⟩ ids)) (fun _ _ _ _ t _ => 4 - (intOf t).toNat)
    case atStart => exact ⟨0, _, ⟨am, ay, an⟩, [⟨q.kind, q.text⟩], by omega, rfl, rfl, by simp, HN0.out, HTZ0, HCX0, HOK0⟩
    case round =>
      obtain ⟨i, v, a, ids, hi, rfl, rfl, hil, hN, HTZ, HCX, HOK⟩ := hrel
      have HN := Lib.hid hN
      obtain ⟨la, ly, ln⟩ := a
      clear hN HN0 HTZ0 HCX0 HOK0
      by_cases hi4 : i < 4
      · go_wp2_with fail
        refine (HN.out.rm.lw.id HPO7.out (by omega)).mono ?_
        rintro e W6 ⟨k, s, rfl, hs3, L6, g6⟩
        have HN1 := Lib.hid ((HN.out.asked L6 g6).alloc (.cells #[.int .i64 k, .string s] 32))
        have z0 : (W6.alloc (.cells #[.int .i64 k, .string s] 32)).cell? ⟨W6.heap.size, 0, none⟩ = some (.int .i64 k) := newc 0 rfl
        have z1 : (W6.alloc (.cells #[.int .i64 k, .string s] 32)).cell? ⟨W6.heap.size, 1, none⟩ = some (.string s) := newc 1 rfl
        clear L6 g6 HN
        go_upto_region 11 with (fail)
        have hxb : W6.heap.size < (W6.alloc (.cells #[.int .i64 k, .string s] 32)).heap.size := by simp
        have HXB : Hid ((W6.alloc (.cells #[.int .i64 k, .string s] 32)).heap[W6.heap.size]? = some (.cells #[.int .i64 k, .string s] 32)) := heap_alloc_new _ _
        generalize W6.alloc (.cells #[.int .i64 k, .string s] 32) = W9 at *
        generalize W6.heap.size = xb at *
        obtain ⟨A4, cap4, H4, hv4, hle4, p1, p2, hR4, -⟩ := HN1.out.rm.row.freeze H7
        subst hv4
        have HCN := Lib.hid (contains_Id H4 A4 cap4 ids ⟨k, s⟩ W9 (p1 HN1.out.rm.lw.fin) hR4 (by omega))
        clear hle4 p1 p2 hR4
        go_wp2_with fail
        refine HCN.out.mono ?_
        rintro e WN ⟨rfl, hbn⟩
        have HN2 := Lib.hid (HN1.out.call hbn)
        have HXB2 := Lib.hid ((hbn.block _ (lt_of_heap HXB.out)).trans HXB.out)
        clear HCN hbn HN1 HXB z0 z1 hxb
        generalize hany : anyF (eqId ⟨k, s⟩) ids = any
        clear hany
        cases any with
        | true =>
          have HN3 := Lib.hid (HN2.out.more (K' := 435 + 20 * i) (by omega))
          obtain ⟨ids2, he2⟩ : ∃ l, l = ids := ⟨_, rfl⟩
          have HTZ2 : Hid (∀ y ∈ ids2, y.text.size ≤ 3000) := by rw [he2]; exact HTZ
          have HCX2 : Hid (anyF (eqId ⟨q.kind, q.text⟩) ids2 = true) := by rw [he2]; exact HCX
          have HSB : Hid (∀ y ∈ ids, y ∈ ids2) := by rw [he2]; exact fun y hy => hy
          have hl2 : ids2.length ≤ 2 + i := by rw [he2]; omega
          rw [← he2] at HN3 ⊢
          clear he2 HN2 HTZ HCX
          go_upto_region 13 with (fail)
          have q0 : WN.cell? ⟨W4.heap.size, 0, none⟩ = some (.int .i64 q.kind) := cell_h (HN3.out.rm.lw.fin _ _ HQB.out) 0 rfl
          have q1 : WN.cell? ⟨W4.heap.size, 1, none⟩ = some (.string q.text) := cell_h (HN3.out.rm.lw.fin _ _ HQB.out) 1 rfl
          have q2 : WN.cell? ⟨W4.heap.size, 2, none⟩ = some (.string q.purp) := cell_h (HN3.out.rm.lw.fin _ _ HQB.out) 2 rfl
          have q3 : WN.cell? ⟨W4.heap.size, 3, none⟩ = some (.string q.region) := cell_h (HN3.out.rm.lw.fin _ _ HQB.out) 3 rfl
          have q4 : WN.cell? ⟨W4.heap.size, 4, none⟩ = some (.int .i64 q.ch) := cell_h (HN3.out.rm.lw.fin _ _ HQB.out) 4 rfl
          have q5 : WN.cell? ⟨W4.heap.size, 5, none⟩ = some (.int .i64 q.at_) := cell_h (HN3.out.rm.lw.fin _ _ HQB.out) 5 rfl
          obtain ⟨A5, cap5, H5, hv5, hle5, p1, p2, hR5, -⟩ := HN3.out.rm.row.freeze H7
          injection hv5 with e1 e2 e3
          subst e1 e3
          clear e2
          have le5 := p2 HN3.out.rm.2.2.1
          have HMY := Lib.hid (mayOf_any H5 (HML7.out.le le5) A cap ps A2 cap2 ss A4 cap4 ids2 ⟨q.kind, q.text⟩ q.purp q.region q.ch q.at_ WN (p1 HN3.out.rm.lw.fin) (HP7.out.le le5) (by omega) (HR7.out.le le5) (by omega) HSZ.out hR5 (by omega) (fun y hy => by have := HTZ2.out y hy; omega) (by have := HQ.out.text; show q.text.size ≤ 1000000; omega) (by have := HQ.out.region; omega))
          have HER : Hid (ofErr ps ss ids2 ⟨q.kind, q.text⟩ q.purp q.region q.ch q.at_ = idsErr ids2 100) := by
            show _ = _
            by_cases g : idsErr ids2 100 = 0
            · rw [ofErr_5 HSE.out g HIX.out HQE.out, if_neg (by rw [HCX2.out]; simp), g]
            · exact ofErr_2 HSE.out g
          have HMA : Hid (idsErr ids2 100 = 0 → (mayOfA ps ss ids2 ⟨q.kind, q.text⟩ q.purp q.region q.ch q.at_).may = okAll (askI ps ss q.purp q.region q.ch q.at_) ⟨q.kind, q.text⟩ ids2) := fun g => by
            rw [mayOf_ok (HER.out.trans g)]
            exact ofF_may (deny_may ps ss q.purp q.region q.ch q.at_) _ _
          have hi8 := idsErr_vals ids2 100
          rw [HER.out] at HMY
          generalize idsErr ids2 100 = ie at *
          generalize mayOfA ps ss ids2 ⟨q.kind, q.text⟩ q.purp q.region q.ch q.at_ = an2 at *
          clear hle5 p1 p2 hR5 le5 HER
          go_wp2_with fail
          refine HMY.out.mono ?_
          rintro e W10 ⟨rfl, hb⟩
          obtain ⟨am, ay, an⟩ := an2
          rw [show ansV ⟨am, ay, an⟩ = .agg #[.bool am, .int .i64 ay, .int .i64 an] from rfl]
          have HN10 := Lib.hid ((HN3.out.call hb).alloc (.cells #[.bool am, .int .i64 ay, .int .i64 an] 37))
          have HZB : Hid ((W10.alloc (.cells #[.bool am, .int .i64 ay, .int .i64 an] 37)).heap[W10.heap.size]? = some (.cells #[.bool am, .int .i64 ay, .int .i64 an] 37)) := heap_alloc_new _ _
          clear hb q0 q1 q2 q3 q4 q5 HMY HN3
          go_upto_region 14 with (fail)
          generalize W10.alloc (.cells #[.bool am, .int .i64 ay, .int .i64 an] 37) = W11 at *
          generalize W10.heap.size = zb at *
          have z0 : W11.cell? ⟨zb, 0, none⟩ = some (.bool am) := cell_h HZB.out 0 rfl
          have z1 : W11.cell? ⟨zb, 1, none⟩ = some (.int .i64 ay) := cell_h HZB.out 1 rfl
          have z2 : W11.cell? ⟨zb, 2, none⟩ = some (.int .i64 an) := cell_h HZB.out 2 rfl
          by_cases hie : ie = 0
          · have HAM := Lib.hid (HMA.out hie)
            subst hie
            have HLE := Lib.hid (fun (h : am = true) => HOK.out.trans (okAll_mono HSB.out (HAM.out.symm.trans h)))
            have ht := HN10.out.ht
            have t0 : W11.cell? ⟨tb, 0, none⟩ = some (.bool la) := cell_h ht 0 rfl
            have t1 : W11.cell? ⟨tb, 1, none⟩ = some (.int .i64 ly) := cell_h ht 1 rfl
            have t2 : W11.cell? ⟨tb, 2, none⟩ = some (.int .i64 ln) := cell_h ht 2 rfl
            have f0 := froz_h ht 0
            have f1 := froz_h ht 1
            have f2 := froz_h ht 2
            have HN11 := Lib.hid (HN10.out.set ⟨am, ay, an⟩)
            clear ht HMA HOK hi8
            cases am with
            | false =>
              clear HLE
              go_wp2_with fail
              go_roundw
              case rel => exact ⟨i + 1, _, ⟨false, ay, an⟩, ids2, by omega, by go_num, rfl, by omega, HN11.out.more (by omega), HTZ2, HCX2, HAM⟩
              case measure => simp [intOf]; omega
            | true =>
              have hla : la = true := HLE.out rfl
              subst hla
              clear HLE
              go_wp2_with fail
              go_roundw
              case rel => exact ⟨i + 1, _, ⟨true, ay, an⟩, ids2, by omega, by go_num, rfl, by omega, HN11.out.more (by omega), HTZ2, HCX2, HAM⟩
              case measure => simp [intOf]; omega
          · have k1 : (ie != 0) = true := by simpa using hie
            have k8 : (ie != 8) = true := by simpa using hi8
            clear hie hi8 HMA
            go_wp2_with fail
            refine (consents_any H7 HML7.out W11 HN10.out.rm.lw.fin).mono ?_
            rintro e W12 ⟨rfl, hb12⟩
            have HF := Lib.hid (HN10.out.rm.lw.call hb12).bel
            clear hb12
            go_wp2_with fail
            go_ret
            exact ⟨rfl, HF.out⟩
        | false =>
          have y0 : WN.cell? ⟨xb, 0, none⟩ = some (.int .i64 k) := cell_h HXB2.out 0 rfl
          have y1 : WN.cell? ⟨xb, 1, none⟩ = some (.string s) := cell_h HXB2.out 1 rfl
          have HRow := Lib.hid HN2.out.rm.row
          have HST := Lib.hid (fun v' W' o g1 at1 => HN2.out.app (v' := v') (W' := W') (ids' := ids ++ [⟨k, s⟩]) o g1 at1)
          have hB9 := HN2.out.rm.2.2.2.2
          have hpl : ids.length ≤ 4294967296 := by omega
          obtain ⟨v9, hv9⟩ : ∃ v9 : Value, v9 = .slice A4 ids.length cap4 := ⟨_, rfl⟩
          rw [← hv9] at HRow HST ⊢
          clear HN2 hv9
          go_upto_region 13 with (at_builtin; refine wpList_app_at rfl _ _ 48 rfl ib 32 i0 (.agg #[.int .i64 0, .string ⟨#[]⟩]) 2 24 Tryz.underlying48 hi0 hz0 hz1 hz2 rfl (by decide) fId _ ids rfl HRow.out ⟨k, s⟩ #[.int .i64 k, .string s] 32 rfl rfl (by simp [Value.oneCell']) hpl (by omega) hB9 ?_; intro v1 WM o1 g1 b1 at1; have HN4 := Lib.hid (HST.out _ _ o1 g1 at1); clear o1 g1 b1 at1 HST HRow)
          clear y0 y1
          have HN3 := Lib.hid (HN4.out.more (K' := 435 + 20 * i) (by omega))
          obtain ⟨ids2, he2⟩ : ∃ l, l = ids ++ [⟨k, s⟩] := ⟨_, rfl⟩
          have HTZ2 : Hid (∀ y ∈ ids2, y.text.size ≤ 3000) := by
            rw [he2]
            intro y hy
            rcases List.mem_append.1 hy with h | h
            · exact HTZ.out y h
            · simp at h; subst h; exact hs3
          have HCX2 : Hid (anyF (eqId ⟨q.kind, q.text⟩) ids2 = true) := by
            rw [he2]
            show List.any _ _ = true
            rw [List.any_append, show List.any ids _ = true from HCX.out]; rfl
          have HSB : Hid (∀ y ∈ ids, y ∈ ids2) := by rw [he2]; exact fun y hy => List.mem_append_left _ hy
          have hl2 : ids2.length ≤ 2 + i := by rw [he2]; simp; omega
          rw [← he2] at HN3
          clear he2 HN4 HTZ HCX
          have q0 : WM.cell? ⟨W4.heap.size, 0, none⟩ = some (.int .i64 q.kind) := cell_h (HN3.out.rm.lw.fin _ _ HQB.out) 0 rfl
          have q1 : WM.cell? ⟨W4.heap.size, 1, none⟩ = some (.string q.text) := cell_h (HN3.out.rm.lw.fin _ _ HQB.out) 1 rfl
          have q2 : WM.cell? ⟨W4.heap.size, 2, none⟩ = some (.string q.purp) := cell_h (HN3.out.rm.lw.fin _ _ HQB.out) 2 rfl
          have q3 : WM.cell? ⟨W4.heap.size, 3, none⟩ = some (.string q.region) := cell_h (HN3.out.rm.lw.fin _ _ HQB.out) 3 rfl
          have q4 : WM.cell? ⟨W4.heap.size, 4, none⟩ = some (.int .i64 q.ch) := cell_h (HN3.out.rm.lw.fin _ _ HQB.out) 4 rfl
          have q5 : WM.cell? ⟨W4.heap.size, 5, none⟩ = some (.int .i64 q.at_) := cell_h (HN3.out.rm.lw.fin _ _ HQB.out) 5 rfl
          obtain ⟨A5, cap5, H5, hv5, hle5, p1, p2, hR5, -⟩ := HN3.out.rm.row.freeze H7
          subst hv5
          have le5 := p2 HN3.out.rm.2.2.1
          have HMY := Lib.hid (mayOf_any H5 (HML7.out.le le5) A cap ps A2 cap2 ss A5 cap5 ids2 ⟨q.kind, q.text⟩ q.purp q.region q.ch q.at_ WM (p1 HN3.out.rm.lw.fin) (HP7.out.le le5) (by omega) (HR7.out.le le5) (by omega) HSZ.out hR5 (by omega) (fun y hy => by have := HTZ2.out y hy; omega) (by have := HQ.out.text; show q.text.size ≤ 1000000; omega) (by have := HQ.out.region; omega))
          have HER : Hid (ofErr ps ss ids2 ⟨q.kind, q.text⟩ q.purp q.region q.ch q.at_ = idsErr ids2 100) := by
            show _ = _
            by_cases g : idsErr ids2 100 = 0
            · rw [ofErr_5 HSE.out g HIX.out HQE.out, if_neg (by rw [HCX2.out]; simp), g]
            · exact ofErr_2 HSE.out g
          have HMA : Hid (idsErr ids2 100 = 0 → (mayOfA ps ss ids2 ⟨q.kind, q.text⟩ q.purp q.region q.ch q.at_).may = okAll (askI ps ss q.purp q.region q.ch q.at_) ⟨q.kind, q.text⟩ ids2) := fun g => by
            rw [mayOf_ok (HER.out.trans g)]
            exact ofF_may (deny_may ps ss q.purp q.region q.ch q.at_) _ _
          have hi8 := idsErr_vals ids2 100
          rw [HER.out] at HMY
          generalize idsErr ids2 100 = ie at *
          generalize mayOfA ps ss ids2 ⟨q.kind, q.text⟩ q.purp q.region q.ch q.at_ = an2 at *
          clear hle5 p1 p2 hR5 le5 HER
          go_wp2_with fail
          refine HMY.out.mono ?_
          rintro e W10 ⟨rfl, hb⟩
          obtain ⟨am, ay, an⟩ := an2
          rw [show ansV ⟨am, ay, an⟩ = .agg #[.bool am, .int .i64 ay, .int .i64 an] from rfl]
          have HN10 := Lib.hid ((HN3.out.call hb).alloc (.cells #[.bool am, .int .i64 ay, .int .i64 an] 37))
          have HZB : Hid ((W10.alloc (.cells #[.bool am, .int .i64 ay, .int .i64 an] 37)).heap[W10.heap.size]? = some (.cells #[.bool am, .int .i64 ay, .int .i64 an] 37)) := heap_alloc_new _ _
          clear hb q0 q1 q2 q3 q4 q5 HMY HN3
          go_upto_region 14 with (fail)
          generalize W10.alloc (.cells #[.bool am, .int .i64 ay, .int .i64 an] 37) = W11 at *
          generalize W10.heap.size = zb at *
          have z0 : W11.cell? ⟨zb, 0, none⟩ = some (.bool am) := cell_h HZB.out 0 rfl
          have z1 : W11.cell? ⟨zb, 1, none⟩ = some (.int .i64 ay) := cell_h HZB.out 1 rfl
          have z2 : W11.cell? ⟨zb, 2, none⟩ = some (.int .i64 an) := cell_h HZB.out 2 rfl
          by_cases hie : ie = 0
          · have HAM := Lib.hid (HMA.out hie)
            subst hie
            have HLE := Lib.hid (fun (h : am = true) => HOK.out.trans (okAll_mono HSB.out (HAM.out.symm.trans h)))
            have ht := HN10.out.ht
            have t0 : W11.cell? ⟨tb, 0, none⟩ = some (.bool la) := cell_h ht 0 rfl
            have t1 : W11.cell? ⟨tb, 1, none⟩ = some (.int .i64 ly) := cell_h ht 1 rfl
            have t2 : W11.cell? ⟨tb, 2, none⟩ = some (.int .i64 ln) := cell_h ht 2 rfl
            have f0 := froz_h ht 0
            have f1 := froz_h ht 1
            have f2 := froz_h ht 2
            have HN11 := Lib.hid (HN10.out.set ⟨am, ay, an⟩)
            clear ht HMA HOK hi8
            cases am with
            | false =>
              clear HLE
              go_wp2_with fail
              go_roundw
              case rel => exact ⟨i + 1, _, ⟨false, ay, an⟩, ids2, by omega, by go_num, rfl, by omega, HN11.out.more (by omega), HTZ2, HCX2, HAM⟩
              case measure => simp [intOf]; omega
            | true =>
              have hla : la = true := HLE.out rfl
              subst hla
              clear HLE
              go_wp2_with fail
              go_roundw
              case rel => exact ⟨i + 1, _, ⟨true, ay, an⟩, ids2, by omega, by go_num, rfl, by omega, HN11.out.more (by omega), HTZ2, HCX2, HAM⟩
              case measure => simp [intOf]; omega
          · have k1 : (ie != 0) = true := by simpa using hie
            have k8 : (ie != 8) = true := by simpa using hi8
            clear hie hi8 HMA
            go_wp2_with fail
            refine (consents_any H7 HML7.out W11 HN10.out.rm.lw.fin).mono ?_
            rintro e W12 ⟨rfl, hb12⟩
            have HF := Lib.hid (HN10.out.rm.lw.call hb12).bel
            clear hb12
            go_wp2_with fail
            go_ret
            exact ⟨rfl, HF.out⟩
      · have hi4' : i = 4 := by omega
        subst hi4'
        go_wp2_with fail
        refine (consents_any H7 HML7.out wr HN.out.rm.lw.fin).mono ?_
        rintro e W12 ⟨rfl, hb12⟩
        have HF := Lib.hid (HN.out.rm.lw.call hb12).bel
        clear hb12
        go_wp2_with fail
        go_ret
        exact ⟨rfl, HF.out⟩
  · have k1 : (ae != 0) = true := by simpa using hae
    clear hae HAE HAM
    go_wp2_with fail
    refine (consents_any H7 HML7.out W9 HN0.out.rm.lw.fin).mono ?_
    rintro e W12 ⟨rfl, hb12⟩
    have HF := Lib.hid (HN0.out.rm.lw.call hb12).bel
    clear hb12
    go_wp2_with fail
    go_ret
    exact ⟨rfl, HF.out⟩
end Go.Proofs.YtbhccicibmcafaaGreatDoor
