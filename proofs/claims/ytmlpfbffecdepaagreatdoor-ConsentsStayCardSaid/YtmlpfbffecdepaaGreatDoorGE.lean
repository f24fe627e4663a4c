/- Texts of this claim, put together: ConsK, ConsK2, ConsK3, ConsK4, EqId, ConsM, ConsM2, SayP. -/
import Derived.Test.YtmlpfbffecdepaaGreatDoorGB
import Derived.Test.YtmlpfbffecdepaaGreatDoorGA
import Derived.WalkLawsBesides
import Derived.Test.YtmlpfbffecdepaaGreatDoorGC
import Derived.Test.YtmlpfbffecdepaaGreatDoorGD
/- Consents: what is wrong with terms, with a policy. -/
namespace Go.Proofs.YtmlpfbffecdepaaGreatDoor
set_option linter.unusedVariables false
open Go.RowKit
theorem lift_below {w : World} {p : Addr} {v : Value} (h : w.cell? p = some v) {W : World} (hb : Below w.heap.size w W) : W.cell? p = some v := lift_cell h W hb
theorem teErr_at {ts : List TermD} {i : Nat} (h : i < ts.length) : teErr ts i = if isKey ts[i].region = false then 5 else if chB ts[i].ch = false then 4 else if ts[i].free = true ∧ (ts[i].days ≠ 0 ∨ ts[i].wait ≠ 0) then 3
    else if ¬ (0 ≤ ts[i].days ∧ ts[i].days ≤ 2000 ∧ 0 ≤ ts[i].wait ∧ ts[i].wait ≤ 100000) then 1
    else if 0 < i ∧ 0 ≤ teCmp (ts.getD (i - 1) zeroTe) ts[i] then 7 else 0 := by
  unfold teErr
  rw [List.getElem?_eq_getElem h]
set_option maxHeartbeats 4000000 in
set_option maxRecDepth 100000 in
theorem checkTerms_any (H : Frz) (A : Option Addr) (cap : Nat) (ts : List TermD) (w : World) (hH : H.In w) (hR : Rw H A 5 fTe ts) (hl : ts.length ≤ 1000000) (hsz : ∀ t ∈ ts, t.region.size ≤ 1000000) :
    Calls Tryz.prog 52 #[.slice A ts.length cap] w fun e w' => e = .returned (.int .i64 (tesErr ts)) ∧ Below w.heap.size w w' := by
  have HR := Lib.hid hR
  have HH := Lib.hid hH
  have HS := Lib.hid hsz
  clear hR hH hsz
  by_cases hlong : 160 < ts.length
  · have h1 : decide ((160 : Int) < ts.length) = true := by simp; omega
    have hv : Hid (tesErr ts = 2) := by show _ = _; unfold tesErr; rw [if_pos hlong]
    clear hlong
    go_enter Tryz.func52, Tryz.ntmps52
    go_wp2_with fail
    go_ret
    exact ⟨ret_int hv.out.symm, Below.refl _ _⟩
  · have h1 : decide ((160 : Int) < ts.length) = false := by simp; omega
    have HV : Hid (tesErr ts = fstErr (teErr ts) ts.length) := by show _ = _; unfold tesErr; rw [if_neg hlong]
    clear hlong
    go_enter Tryz.func52, Tryz.ntmps52
    go_wp2_with fail
    go_loopw [3, 10] (fun _ t wr => ∃ i : Nat, i ≤ ts.length ∧ t = .int .i64 i ∧ Hid (fstErr (teErr ts) i = 0) ∧ Hid (Below w.heap.size w wr)) (fun _ t _ => ts.length - (intOf t).toNat)
    case atStart => exact ⟨0, by omega, rfl, rfl, Below.refl _ _⟩
    case round =>
      obtain ⟨i, hi, rfl, h0, hb⟩ := hrel
      by_cases hlt : i < ts.length
      · have hin := HH.out.below hb.out
        obtain ⟨b, off, hA, hbl, hc⟩ := HR.out.at_ hin hlt (by omega)
        have hprev : Hid (∀ p, i = p + 1 → ∀ W', Below wr.heap.size wr W' → ∀ j, j < 5 → W'.cell? ⟨b, off + p * 5 + j, none⟩ = some (fTe (ts.getD (i - 1) zeroTe) j)) := by
          rintro p rfl W' hW' j hj
          have hp : p < ts.length := by omega
          obtain ⟨b', off', hA', hbl', hc'⟩ := HR.out.at_ hin hp (by omega)
          rw [hA] at hA'
          simp only [Option.some.injEq, Addr.mk.injEq] at hA'
          obtain ⟨rfl, rfl, _⟩ := hA'
          rw [Nat.add_sub_cancel, List.getD_eq_getElem?_getD, List.getElem?_eq_getElem hp, Option.getD_some]
          exact lift_below (hc' j hj) hW'
        subst hA
        have c0 : wr.cell? ⟨b, off + i * 5, none⟩ = some (.string ts[i].region) := hc 0 (by omega)
        have c1 : wr.cell? ⟨b, off + i * 5 + 1, none⟩ = some (.int .i64 ts[i].ch) := hc 1 (by omega)
        have c2 : wr.cell? ⟨b, off + i * 5 + 2, none⟩ = some (.bool ts[i].free) := hc 2 (by omega)
        have c3 : wr.cell? ⟨b, off + i * 5 + 3, none⟩ = some (.int .i64 ts[i].days) := hc 3 (by omega)
        have c4 : wr.cell? ⟨b, off + i * 5 + 4, none⟩ = some (.int .i64 ts[i].wait) := hc 4 (by omega)
        have HAT := Lib.hid (teErr_at hlt)
        have HBAD : Hid (∀ n, teErr ts i = n → n ≠ 0 → tesErr ts = n) := fun n h1 h2 => HV.out.trans ((fstErr_bad hlt h0.out (by rw [h1]; exact h2)).trans h1)
        have HNX : Hid (teErr ts i = 0 → fstErr (teErr ts) (i + 1) = 0) := fun h1 => fstErr_next h0.out h1
        have hks := HS.out _ (List.getElem_mem hlt)
        clear hc
        generalize ts.getD (i - 1) zeroTe = pt at *
        generalize ts[i] = d at *
        have z0 : (wr.alloc (.cells #[.string d.region, .int .i64 d.ch, .bool d.free, .int .i64 d.days, .int .i64 d.wait] 60)).cell? ⟨wr.heap.size, 0, none⟩ = some (.string d.region) := newc 0 rfl
        have z1 : (wr.alloc (.cells #[.string d.region, .int .i64 d.ch, .bool d.free, .int .i64 d.days, .int .i64 d.wait] 60)).cell? ⟨wr.heap.size, 1, none⟩ = some (.int .i64 d.ch) := newc 1 rfl
        have z2 : (wr.alloc (.cells #[.string d.region, .int .i64 d.ch, .bool d.free, .int .i64 d.days, .int .i64 d.wait] 60)).cell? ⟨wr.heap.size, 2, none⟩ = some (.bool d.free) := newc 2 rfl
        have z3 : (wr.alloc (.cells #[.string d.region, .int .i64 d.ch, .bool d.free, .int .i64 d.days, .int .i64 d.wait] 60)).cell? ⟨wr.heap.size, 3, none⟩ = some (.int .i64 d.days) := newc 3 rfl
        have z4 : (wr.alloc (.cells #[.string d.region, .int .i64 d.ch, .bool d.free, .int .i64 d.days, .int .i64 d.wait] 60)).cell? ⟨wr.heap.size, 4, none⟩ = some (.int .i64 d.wait) := newc 4 rfl
        have HBN := Lib.hid (new1 (w := wr) (.cells #[.string d.region, .int .i64 d.ch, .bool d.free, .int .i64 d.days, .int .i64 d.wait] 60))
        go_upto_region 6 with (fail)
        clear c0 c1 c2 c3 c4
        have hwz : wr.heap.size < (wr.alloc (.cells #[.string d.region, .int .i64 d.ch, .bool d.free, .int .i64 d.days, .int .i64 d.wait] 60)).heap.size := by simp
        generalize wr.alloc (.cells #[.string d.region, .int .i64 d.ch, .bool d.free, .int .i64 d.days, .int .i64 d.wait] 60) = W1 at *
        have HB1 := Lib.hid (hb.out.trans (HBN.out.mono hb.out.size))
        have HBN2 := Lib.hid HBN.out
        clear hb h0 HBN hin
        go_wp2_with fail
        refine (isKey_any d.region _ (by omega)).mono ?_
        rintro e w' ⟨rfl, rfl⟩
        generalize isKey d.region = k1 at HAT
        cases k1 with
        | false =>
          have hv := Lib.hid (HBAD.out 5 (HAT.out.trans (if_pos rfl)) (by omega))
          go_wp2_with fail
          go_ret
          exact ⟨ret_int hv.out.symm, HB1.out⟩
        | true =>
          have HA1 := Lib.hid (HAT.out.trans (if_neg (by simp)))
          clear HAT
          go_wp2_with fail
          refine (isChannel_any d.ch _).mono ?_
          rintro e w' ⟨rfl, rfl⟩
          generalize chB d.ch = k2 at HA1
          cases k2 with
          | false =>
            have hv := Lib.hid (HBAD.out 4 (HA1.out.trans (if_pos rfl)) (by omega))
            go_wp2_with fail
            go_ret
            exact ⟨ret_int hv.out.symm, HB1.out⟩
          | true =>
            have HA2 := Lib.hid (HA1.out.trans (if_neg (by simp)))
            clear HA1
            by_cases h3 : d.free = true ∧ (d.days ≠ 0 ∨ d.wait ≠ 0)
            · have hv := Lib.hid (HBAD.out 3 (HA2.out.trans (if_pos h3)) (by omega))
              obtain ⟨h3, h4⟩ := h3
              rw [h3] at z2
              have hE : (d.days != 0) = true ∨ ((d.days != 0) = false ∧ (d.wait != 0) = true) := by
                by_cases e : d.days = 0
                · right
                  refine ⟨by simpa using e, ?_⟩
                  rcases h4 with h4 | h4
                  · exact absurd e h4
                  · simpa using h4
                · left; simpa using e
              clear h3 h4
              rcases hE with e1 | ⟨e1, e2⟩
              all_goals
                go_wp2_with fail
                go_ret
                exact ⟨ret_int hv.out.symm, HB1.out⟩
            · have HA3 := Lib.hid (HA2.out.trans (if_neg h3))
              have hE : d.free = false ∨ (d.free = true ∧ (d.days != 0) = false ∧ (d.wait != 0) = false) := by
                cases hf : d.free with
                | false => left; rfl
                | true =>
                  right
                  have e1 : d.days = 0 := Classical.byContradiction fun c => h3 ⟨hf, Or.inl c⟩
                  have e2 : d.wait = 0 := Classical.byContradiction fun c => h3 ⟨hf, Or.inr c⟩
                  exact ⟨rfl, by simpa using e1, by simpa using e2⟩
              clear h3 HA2
              by_cases h4 : 0 ≤ d.days ∧ d.days ≤ 2000 ∧ 0 ≤ d.wait ∧ d.wait ≤ 100000
              · have HA4 := Lib.hid (HA3.out.trans (if_neg (by simpa using h4)))
                have q1 : (decide ((0 : Int) ≤ d.days) && decide (d.days ≤ 2000)) = true := by simp; omega
                have q2 : (decide ((0 : Int) ≤ d.wait) && decide (d.wait ≤ 100000)) = true := by simp; omega
                have Q1 := Lib.hid q1
                have Q2 := Lib.hid q2
                clear h4 HA3 q1 q2
                rcases hE with e1 | ⟨e1, e2, e3⟩
                all_goals
                  rw [e1] at z2
                  have HE1 := Lib.hid e1
                  clear e1
                  go_wp2_with fail
                  refine (cwithin_any _ _ _ _).mono ?_
                  rintro e w' ⟨rfl, rfl⟩
                  rw [Q1.out]
                  go_wp2_with fail
                  refine (cwithin_any _ _ _ _).mono ?_
                  rintro e w' ⟨rfl, rfl⟩
                  rw [Q2.out]
                  rw [← HE1.out] at z2
                  have J0 := lift_cell z0
                  have J1 := lift_cell z1
                  have J2 := lift_cell z2
                  have J3 := lift_cell z3
                  have J4 := lift_cell z4
                  have HEK := Lib.hid HE1.out
                  clear z0 z1 z2 z3 z4 HE1
                  try clear e2 e3
                  rcases Nat.eq_zero_or_pos i with h0 | hpos
                  · have d2 : decide ((0 : Int) < (i : Int)) = false := by simp; omega
                    have hok := Lib.hid (HNX.out (HA4.out.trans (if_neg (by omega))))
                    clear h0
                    go_upto_region 14 with (fail)
                    (refine wp_region_det 12 63 (fun W => Below (W1).heap.size (W1) W) (by kernel_rfl) (by kernel_rfl) (by rfl) (Below.refl _ _).drew ?_; simp only [List.take_succ_cons, List.take_zero, List.drop_succ_cons, List.drop_zero])
                    iterate 1 (refine detSeq_op rfl ?_ (fun W hW => ?_) ?_; rotate_left; (focus simp only [OpV]; go_simp; first | exact rfl | exact ⟨rfl, hW⟩))
                    (refine detSeq_op rfl (.bool false) (fun W hW => ?_) ?_; focus (simp only [OpV]; go_simp; try (first | exact rfl | exact hW | (have h9 := d2; simp at h9; omega))))
                    iterate 1 (refine detSeq_op rfl ?_ (fun W hW => ?_) ?_; rotate_left; (focus simp only [OpV]; go_simp; first | exact rfl | exact ⟨rfl, hW⟩))
                    iterate 8 (refine detSeq_no (by kernel_rfl) ?_)
                    iterate 1 (refine detSeq_op rfl ?_ (fun W hW => ?_) ?_; rotate_left; (focus simp only [OpV]; go_simp; first | exact rfl | exact ⟨rfl, hW⟩))
                    refine detSeq_nil (fun W3 hW3 => ?_)
                    have HB3 := Lib.hid (HB1.out.trans (hW3.mono HB1.out.size))
                    clear J0 J1 J2 J3 J4 hW3
                    go_wp2_with fail
                    go_roundw
                    case rel => exact ⟨i + 1, by omega, by go_num, hok, HB3⟩
                    case measure => simp [intOf]; omega
                  · obtain ⟨p, hp⟩ : ∃ p, i = p + 1 := ⟨i - 1, by omega⟩
                    have d2 : decide ((0 : Int) < (i : Int)) = true := by simp; omega
                    have a1 : IntKind.i64.wrap ((i : Int) - 1) = (p : Int) := by rw [show (i : Int) - 1 = p from by omega]; exact IntWalk.i64_in _ (by omega)
                    have a6 : IntKind.i64.wrap (p : Int) = (p : Int) := IntWalk.i64_in _ (by omega)
                    have a2 : (i : Int) - 1 = (p : Int) := by omega
                    have a3 : (p : Int) < ts.length := by omega
                    have a4 : (0 : Int) ≤ (p : Int) := by omega
                    have a5 : p < ts.length := by omega
                    have K0 : ∀ W, Below W1.heap.size W1 W → W.cell? ⟨b, off + p * 5, none⟩ = some (.string pt.region) := fun W hW => hprev.out p hp W (HBN2.out.trans (hW.mono HBN2.out.size)) 0 (by omega)
                    have K1 : ∀ W, Below W1.heap.size W1 W → W.cell? ⟨b, off + p * 5 + 1, none⟩ = some (.int .i64 pt.ch) := fun W hW => hprev.out p hp W (HBN2.out.trans (hW.mono HBN2.out.size)) 1 (by omega)
                    have K2 : ∀ W, Below W1.heap.size W1 W → W.cell? ⟨b, off + p * 5 + 2, none⟩ = some (.bool pt.free) := fun W hW => hprev.out p hp W (HBN2.out.trans (hW.mono HBN2.out.size)) 2 (by omega)
                    have K3 : ∀ W, Below W1.heap.size W1 W → W.cell? ⟨b, off + p * 5 + 3, none⟩ = some (.int .i64 pt.days) := fun W hW => hprev.out p hp W (HBN2.out.trans (hW.mono HBN2.out.size)) 3 (by omega)
                    have K4 : ∀ W, Below W1.heap.size W1 W → W.cell? ⟨b, off + p * 5 + 4, none⟩ = some (.int .i64 pt.wait) := fun W hW => hprev.out p hp W (HBN2.out.trans (hW.mono HBN2.out.size)) 4 (by omega)
                    have HPOS : Hid (0 < i) := hpos
                    clear hp hpos
                    go_upto_region 14 with (fail)
                    (refine wp_region_det 12 63 (fun W => Below (W1).heap.size (W1) W) (by kernel_rfl) (by kernel_rfl) (by rfl) (Below.refl _ _).drew ?_; simp only [List.take_succ_cons, List.take_zero, List.drop_succ_cons, List.drop_zero])
                    iterate 1 (refine detSeq_op rfl ?_ (fun W hW => ?_) ?_; rotate_left; (focus simp only [OpV]; go_simp; first | exact rfl | exact ⟨rfl, hW⟩))
                    (refine detSeq_op rfl (.bool true) (fun W hW => ?_) ?_; focus (simp only [OpV]; go_simp; try (first | exact rfl | exact hW | (have h9 := d2; simp at h9; omega))))
                    iterate 1 (refine detSeq_op rfl ?_ (fun W hW => ?_) ?_; rotate_left; (focus simp only [OpV]; go_simp; first | exact rfl | exact ⟨rfl, hW⟩))
                    iterate 2 (refine detSeq_yes (by kernel_rfl) ?_ (fun W hW => ?_) ?_; rotate_left; (focus simp only [OpV]; go_simp; first | exact rfl | exact ⟨rfl, hW⟩))
                    (refine detSeq_yes (by kernel_rfl) (.int .i64 (p : Int)) (fun W hW => ?_) ?_; focus (simp only [OpV]; go_simp; try (first | exact rfl | exact hW | omega)))
                    iterate 3 (refine detSeq_yes (by kernel_rfl) ?_ (fun W hW => ?_) ?_; rotate_left; (focus simp only [OpV]; go_simp; first | exact rfl | exact ⟨rfl, hW⟩))
                    (refine detSeq_yes (by kernel_rfl) ?_ (fun W hW => ?_) ?_; rotate_left; focus (simp only [OpV]; go_simp; refine (termOrder_any pt d W).mono ?_; rintro e w' ⟨rfl, hb⟩; refine ⟨_, rfl, ?_, det_back hW hb⟩; exact rfl))
                    iterate 1 (refine detSeq_yes (by kernel_rfl) ?_ (fun W hW => ?_) ?_; rotate_left; (focus simp only [OpV]; go_simp; first | exact rfl | exact ⟨rfl, hW⟩))
                    iterate 1 (refine detSeq_op rfl ?_ (fun W hW => ?_) ?_; rotate_left; (focus simp only [OpV]; go_simp; first | exact rfl | exact ⟨rfl, hW⟩))
                    refine detSeq_nil (fun W3 hW3 => ?_)
                    have HB3 := Lib.hid (HB1.out.trans (hW3.mono HB1.out.size))
                    clear K0 K1 K2 K3 K4 J0 J1 J2 J3 J4 hW3
                    generalize teCmp pt d = tc at HA4 ⊢
                    by_cases h7 : 0 ≤ tc
                    · have h7' : decide (0 ≤ tc) = true := by simpa using h7
                      have hv := Lib.hid (HBAD.out 7 (HA4.out.trans (if_pos ⟨HPOS.out, h7⟩)) (by omega))
                      clear h7
                      go_wp2_with fail
                      go_ret
                      exact ⟨ret_int hv.out.symm, HB3.out⟩
                    · have h7' : decide (0 ≤ tc) = false := by simpa using h7
                      have hok := Lib.hid (HNX.out (HA4.out.trans (if_neg (fun c => h7 c.2))))
                      clear h7
                      go_wp2_with fail
                      go_roundw
                      case rel => exact ⟨i + 1, by omega, by go_num, hok, HB3⟩
                      case measure => simp [intOf]; omega
              · have hv := Lib.hid (HBAD.out 1 (HA3.out.trans (if_pos h4)) (by omega))
                by_cases h5 : 0 ≤ d.days ∧ d.days ≤ 2000
                · have q1 : (decide ((0 : Int) ≤ d.days) && decide (d.days ≤ 2000)) = true := by simp; omega
                  have q2 : (decide ((0 : Int) ≤ d.wait) && decide (d.wait ≤ 100000)) = false := by simp; omega
                  have Q1 := Lib.hid q1
                  have Q2 := Lib.hid q2
                  clear h4 h5 q1 q2
                  rcases hE with e1 | ⟨e1, e2, e3⟩
                  all_goals
                    rw [e1] at z2
                    clear e1
                    go_wp2_with fail
                    refine (cwithin_any _ _ _ _).mono ?_
                    rintro e w' ⟨rfl, rfl⟩
                    rw [Q1.out]
                    go_wp2_with fail
                    refine (cwithin_any _ _ _ _).mono ?_
                    rintro e w' ⟨rfl, rfl⟩
                    rw [Q2.out]
                    go_wp2_with fail
                    go_ret
                    exact ⟨ret_int hv.out.symm, HB1.out⟩
                · have q1 : (decide ((0 : Int) ≤ d.days) && decide (d.days ≤ 2000)) = false := by simp; omega
                  have Q1 := Lib.hid q1
                  clear h4 h5 q1
                  rcases hE with e1 | ⟨e1, e2, e3⟩
                  all_goals
                    rw [e1] at z2
                    clear e1
                    go_wp2_with fail
                    refine (cwithin_any _ _ _ _).mono ?_
                    rintro e w' ⟨rfl, rfl⟩
                    rw [Q1.out]
                    go_wp2_with fail
                    go_ret
                    exact ⟨ret_int hv.out.symm, HB1.out⟩
      · have hie : i = ts.length := by omega
        subst hie
        have hv := Lib.hid (HV.out.trans h0.out)
        go_wp2_with fail
        go_ret
        exact ⟨ret_int hv.out.symm, hb.out⟩
end Go.Proofs.YtmlpfbffecdepaaGreatDoor

/- Consents: what is wrong with a policy. -/
namespace Go.Proofs.YtmlpfbffecdepaaGreatDoor
set_option linter.unusedVariables false
open Go.RowKit
theorem puErr_at {ps : List PurD} {i : Nat} (h : i < ps.length) : puErr ps i = if isKey ps[i].name = false then 5 else if 0 < i ∧ 0 ≤ cmpS (ps.getD (i - 1) ps[i]).name ps[i].name then 7 else tesErr ps[i].terms := by
  unfold puErr
  rw [List.getElem?_eq_getElem h]
def leB (a b : ByteArray) : Bool := Op.bytesLess a.toList b.toList || a.toList == b.toList
theorem leB_iff (a b : ByteArray) : leB a b = true ↔ 0 ≤ cmpS b a := by
  have h1 := cmpS_swap a b
  unfold leB
  rw [Bool.or_eq_true, ← cmpS_lt, beq_iff_eq]
  constructor
  · rintro (h | h)
    · omega
    · have : a = b := toList_inj h
      subst this
      rw [cmpS_self]; exact Int.le_refl _
  · intro h
    rcases Int.lt_or_eq_of_le (show cmpS a b ≤ 0 by omega) with h2 | h2
    · exact Or.inl h2
    · exact Or.inr (by rw [cmpS_zero h2])
set_option maxHeartbeats 4000000 in
set_option maxRecDepth 100000 in
theorem checkPolicy_any (H : Frz) (A : Option Addr) (cap : Nat) (ps : List PurD) (w : World) (hH : H.In w) (hP : PolIn H A ps) (hl : ps.length ≤ 1000000) :
    Calls Tryz.prog 24 #[.slice A ps.length cap] w fun e w' => e = .returned (.int .i64 (polErr ps)) ∧ Below w.heap.size w w' := by
  have HR := Lib.hid hP.row
  have HH := Lib.hid hH
  have HS := Lib.hid hP.size
  have HT := Lib.hid (fun p hp W (hW : H.In W) => checkTerms_any H p.adr p.cap p.terms W hW (hP.terms p hp) (by have := (hP.size p hp).2.1; omega) (hP.size p hp).2.2.2)
  clear hP hH
  by_cases hz : ps.length = 0
  · have h1 : ((ps.length : Int) == 0) = true := by simp; exact List.length_eq_zero_iff.1 hz
    have hv : Hid (polErr ps = 3) := by show _ = _; unfold polErr; rw [if_pos hz]
    clear hz
    go_enter Tryz.func24, Tryz.ntmps24
    go_wp2_with fail
    go_ret
    exact ⟨ret_int hv.out.symm, Below.refl _ _⟩
  · have h1 : ((ps.length : Int) == 0) = false := by simp; intro c; exact hz (by rw [c]; rfl)
    by_cases hlong : 30 < ps.length
    · have h2 : decide ((30 : Int) < ps.length) = true := by simp; omega
      have hv : Hid (polErr ps = 2) := by show _ = _; unfold polErr; rw [if_neg hz, if_pos hlong]
      clear hlong hz
      go_enter Tryz.func24, Tryz.ntmps24
      go_wp2_with fail
      go_ret
      exact ⟨ret_int hv.out.symm, Below.refl _ _⟩
    · have h2 : decide ((30 : Int) < ps.length) = false := by simp; omega
      have HV : Hid (polErr ps = fstErr (puErr ps) ps.length) := by show _ = _; unfold polErr; rw [if_neg hz, if_neg hlong]
      clear hlong hz
      go_enter Tryz.func24, Tryz.ntmps24
      go_wp2_with fail
      go_loopw [3, 16] (fun _ t wr => ∃ i : Nat, i ≤ ps.length ∧ t = .int .i64 i ∧ Hid (fstErr (puErr ps) i = 0) ∧ Hid (Below w.heap.size w wr)) (fun _ t _ => ps.length - (intOf t).toNat)
      case atStart => exact ⟨0, by omega, rfl, rfl, Below.refl _ _⟩
      case round =>
        obtain ⟨i, hi, rfl, h0, hb⟩ := hrel
        by_cases hlt : i < ps.length
        · have hin := HH.out.below hb.out
          obtain ⟨b, off, hA, hbl, hc⟩ := HR.out.at_ hin hlt (by omega)
          have hprev : Hid (∀ p, i = p + 1 → ∀ W', Below wr.heap.size wr W' → W'.cell? ⟨b, off + p * 2, none⟩ = some (.string (ps.getD (i - 1) ps[i]).name)) := by
            rintro p rfl W' hW'
            have hp : p < ps.length := by omega
            obtain ⟨b', off', hA', hbl', hc'⟩ := HR.out.at_ hin hp (by omega)
            rw [hA] at hA'
            simp only [Option.some.injEq, Addr.mk.injEq] at hA'
            obtain ⟨rfl, rfl, _⟩ := hA'
            rw [Nat.add_sub_cancel, List.getD_eq_getElem?_getD, List.getElem?_eq_getElem hp, Option.getD_some]
            exact lift_below (hc' 0 (by omega)) hW'
          subst hA
          have c0 : wr.cell? ⟨b, off + i * 2, none⟩ = some (.string ps[i].name) := hc 0 (by omega)
          have c1 : wr.cell? ⟨b, off + i * 2 + 1, none⟩ = some (.slice ps[i].adr ps[i].terms.length ps[i].cap) := hc 1 (by omega)
          have HAT := Lib.hid (puErr_at hlt)
          have HBAD : Hid (∀ n, puErr ps i = n → n ≠ 0 → polErr ps = n) := fun n h1 h2 => HV.out.trans ((fstErr_bad hlt h0.out (by rw [h1]; exact h2)).trans h1)
          have HNX : Hid (puErr ps i = 0 → fstErr (puErr ps) (i + 1) = 0) := fun h1 => fstErr_next h0.out h1
          have hks := HS.out _ (List.getElem_mem hlt)
          have HTD := Lib.hid (HT.out _ (List.getElem_mem hlt))
          clear hc
          generalize (ps.getD (i - 1) ps[i]).name = pn at *
          generalize ps[i] = d at *
          have z0 : (wr.alloc (.cells #[.string d.name, .slice d.adr d.terms.length d.cap] 58)).cell? ⟨wr.heap.size, 0, none⟩ = some (.string d.name) := newc 0 rfl
          have z1 : (wr.alloc (.cells #[.string d.name, .slice d.adr d.terms.length d.cap] 58)).cell? ⟨wr.heap.size, 1, none⟩ = some (.slice d.adr d.terms.length d.cap) := newc 1 rfl
          have HBN := Lib.hid (new1 (w := wr) (.cells #[.string d.name, .slice d.adr d.terms.length d.cap] 58))
          go_upto_region 8 with (fail)
          clear c0 c1
          generalize wr.alloc (.cells #[.string d.name, .slice d.adr d.terms.length d.cap] 58) = W1 at *
          have HB1 := Lib.hid (hb.out.trans (HBN.out.mono hb.out.size))
          have HBN2 := Lib.hid HBN.out
          have HIN1 := Lib.hid (hin.below HBN.out)
          clear hb h0 HBN hin
          go_wp2_with fail
          refine (isKey_any d.name _ (by omega)).mono ?_
          rintro e w' ⟨rfl, rfl⟩
          generalize isKey d.name = k1 at HAT
          cases k1 with
          | false =>
            have hv := Lib.hid (HBAD.out 5 (HAT.out.trans (if_pos rfl)) (by omega))
            go_wp2_with fail
            go_ret
            exact ⟨ret_int hv.out.symm, HB1.out⟩
          | true =>
            have HA1 := Lib.hid (HAT.out.trans (if_neg (by simp)))
            clear HAT
            have J0 := lift_cell z0
            have J1 := lift_cell z1
            clear z0 z1
            go_wp2_with fail
            rcases Nat.eq_zero_or_pos i with h0 | hpos
            · have d2 : decide ((0 : Int) < (i : Int)) = false := by simp; omega
              have HA2 := Lib.hid (HA1.out.trans (if_neg (by omega)))
              clear h0
              (refine wp_region_det 13 47 (fun W => Below (W1).heap.size (W1) W) (by kernel_rfl) (by kernel_rfl) (by rfl) (Below.refl _ _).drew ?_; simp only [List.take_succ_cons, List.take_zero, List.drop_succ_cons, List.drop_zero])
              iterate 1 (refine detSeq_op rfl ?_ (fun W hW => ?_) ?_; rotate_left; (focus simp only [OpV]; go_simp; first | exact rfl | exact ⟨rfl, hW⟩))
              (refine detSeq_op rfl (.bool false) (fun W hW => ?_) ?_; focus (simp only [OpV]; go_simp; try (first | exact rfl | exact hW | (have h9 := d2; simp at h9; omega))))
              iterate 1 (refine detSeq_op rfl ?_ (fun W hW => ?_) ?_; rotate_left; (focus simp only [OpV]; go_simp; first | exact rfl | exact ⟨rfl, hW⟩))
              iterate 9 (refine detSeq_no (by kernel_rfl) ?_)
              iterate 1 (refine detSeq_op rfl ?_ (fun W hW => ?_) ?_; rotate_left; (focus simp only [OpV]; go_simp; first | exact rfl | exact ⟨rfl, hW⟩))
              refine detSeq_nil (fun W3 hW3 => ?_)
              have HB3 := Lib.hid (HB1.out.trans (hW3.mono HB1.out.size))
              have HIN3 := Lib.hid (HIN1.out.below hW3)
              have x0 := J0 _ hW3
              have x1 := J1 _ hW3
              clear J0 J1 hW3
              go_wp2_with fail
              refine (HTD.out _ HIN3.out).mono ?_
              rintro e w4 ⟨rfl, hb4⟩
              have HB4 := Lib.hid (HB3.out.trans (hb4.mono HB3.out.size))
              generalize tesErr d.terms = te at HA2 ⊢
              clear hb4 x0 x1
              by_cases ht : te = 0
              · have hok := Lib.hid (HNX.out (HA2.out.trans ht))
                have k0 : (te != 0) = false := by simpa using ht
                clear ht
                go_wp2_with fail
                go_roundw
                case rel => exact ⟨i + 1, by omega, by go_num, hok, HB4⟩
                case measure => simp [intOf]; omega
              · have hv := Lib.hid (HBAD.out te HA2.out ht)
                have k0 : (te != 0) = true := by simpa using ht
                clear ht
                go_wp2_with fail
                go_ret
                exact ⟨ret_int hv.out.symm, HB4.out⟩
            · obtain ⟨p, hp⟩ : ∃ p, i = p + 1 := ⟨i - 1, by omega⟩
              have d2 : decide ((0 : Int) < (i : Int)) = true := by simp; omega
              have a1 : IntKind.i64.wrap ((i : Int) - 1) = (p : Int) := by rw [show (i : Int) - 1 = p from by omega]; exact IntWalk.i64_in _ (by omega)
              have a6 : IntKind.i64.wrap (p : Int) = (p : Int) := IntWalk.i64_in _ (by omega)
              have a2 : (i : Int) - 1 = (p : Int) := by omega
              have a3 : (p : Int) < ps.length := by omega
              have a4 : (0 : Int) ≤ (p : Int) := by omega
              have a5 : p < ps.length := by omega
              have K0 : ∀ W, Below W1.heap.size W1 W → W.cell? ⟨b, off + p * 2, none⟩ = some (.string pn) := fun W hW => hprev.out p hp W (HBN2.out.trans (hW.mono HBN2.out.size))
              have HPOS : Hid (0 < i) := hpos
              clear hp hpos
              (refine wp_region_det 13 47 (fun W => Below (W1).heap.size (W1) W) (by kernel_rfl) (by kernel_rfl) (by rfl) (Below.refl _ _).drew ?_; simp only [List.take_succ_cons, List.take_zero, List.drop_succ_cons, List.drop_zero])
              iterate 1 (refine detSeq_op rfl ?_ (fun W hW => ?_) ?_; rotate_left; (focus simp only [OpV]; go_simp; first | exact rfl | exact ⟨rfl, hW⟩))
              (refine detSeq_op rfl (.bool true) (fun W hW => ?_) ?_; focus (simp only [OpV]; go_simp; try (first | exact rfl | exact hW | (have h9 := d2; simp at h9; omega))))
              iterate 1 (refine detSeq_op rfl ?_ (fun W hW => ?_) ?_; rotate_left; (focus simp only [OpV]; go_simp; first | exact rfl | exact ⟨rfl, hW⟩))
              iterate 4 (refine detSeq_yes (by kernel_rfl) ?_ (fun W hW => ?_) ?_; rotate_left; (focus simp only [OpV]; go_simp; first | exact rfl | exact ⟨rfl, hW⟩))
              (refine detSeq_yes (by kernel_rfl) (.int .i64 (p : Int)) (fun W hW => ?_) ?_; focus (simp only [OpV]; go_simp; try (first | exact rfl | exact hW | omega)))
              iterate 3 (refine detSeq_yes (by kernel_rfl) ?_ (fun W hW => ?_) ?_; rotate_left; (focus simp only [OpV]; go_simp; first | exact rfl | exact ⟨rfl, hW⟩))
              (refine detSeq_yes (by kernel_rfl) (.bool (leB d.name pn)) (fun W hW => ?_) ?_; focus (simp only [OpV]; go_simp; try (first | exact rfl | exact hW | exact ⟨rfl, hW⟩)))
              iterate 1 (refine detSeq_op rfl ?_ (fun W hW => ?_) ?_; rotate_left; (focus simp only [OpV]; go_simp; first | exact rfl | exact ⟨rfl, hW⟩))
              refine detSeq_nil (fun W3 hW3 => ?_)
              have HB3 := Lib.hid (HB1.out.trans (hW3.mono HB1.out.size))
              have HIN3 := Lib.hid (HIN1.out.below hW3)
              have x0 := J0 _ hW3
              have x1 := J1 _ hW3
              clear J0 J1 K0 hW3
              have HLE := Lib.hid (leB_iff d.name pn)
              generalize leB d.name pn = le at HLE ⊢
              cases le with
              | true =>
                have hv := Lib.hid (HBAD.out 7 (HA1.out.trans (if_pos ⟨HPOS.out, HLE.out.1 rfl⟩)) (by omega))
                go_wp2_with fail
                go_ret
                exact ⟨ret_int hv.out.symm, HB3.out⟩
              | false =>
                have HA2 := Lib.hid (HA1.out.trans (if_neg (fun c => by have := HLE.out.2 c.2; cases this)))
                go_wp2_with fail
                refine (HTD.out _ HIN3.out).mono ?_
                rintro e w4 ⟨rfl, hb4⟩
                have HB4 := Lib.hid (HB3.out.trans (hb4.mono HB3.out.size))
                generalize tesErr d.terms = te at HA2 ⊢
                clear hb4 x0 x1
                by_cases ht : te = 0
                · have hok := Lib.hid (HNX.out (HA2.out.trans ht))
                  have k0 : (te != 0) = false := by simpa using ht
                  clear ht
                  go_wp2_with fail
                  go_roundw
                  case rel => exact ⟨i + 1, by omega, by go_num, hok, HB4⟩
                  case measure => simp [intOf]; omega
                · have hv := Lib.hid (HBAD.out te HA2.out ht)
                  have k0 : (te != 0) = true := by simpa using ht
                  clear ht
                  go_wp2_with fail
                  go_ret
                  exact ⟨ret_int hv.out.symm, HB4.out⟩
        · have hie : i = ps.length := by omega
          subst hie
          have hv := Lib.hid (HV.out.trans h0.out)
          go_wp2_with fail
          go_ret
          exact ⟨ret_int hv.out.symm, hb.out⟩
end Go.Proofs.YtmlpfbffecdepaaGreatDoor

/- Consents: what is wrong with statements, ids, a question. -/
namespace Go.Proofs.YtmlpfbffecdepaaGreatDoor
set_option linter.unusedVariables false
open Go.RowKit
theorem chain_pw {D : Type} {R : D → D → Prop} (ht : ∀ a b c, R a b → R b c → R a c) {l : List D} (h : ∀ i (h1 : i + 1 < l.length), R l[i] l[i + 1]) : l.Pairwise R := by
  rw [List.pairwise_iff_getElem]
  intro i j hi hj hij
  have : ∀ k, (hk : i + k + 1 < l.length) → R l[i] l[i + k + 1] := by
    intro k
    induction k with
    | zero => intro hk; exact h i hk
    | succ k ih =>
      intro hk
      exact ht _ _ _ (ih (by omega)) (h (i + k + 1) hk)
  have h2 := this (j - i - 1) (by omega)
  have e : i + (j - i - 1) + 1 = j := by omega
  simp only [e] at h2
  exact h2
theorem tes_right {ts : List TermD} (h : tesErr ts = 0) : TerSorted ts ∧ ∀ t ∈ ts, (0 ≤ t.days ∧ t.days ≤ 2000) ∧ 0 ≤ t.wait ∧ t.wait ≤ 100000 := by
  unfold tesErr at h
  split at h
  · omega
  · rw [fstErr_zero] at h
    refine ⟨chain_pw (R := fun a b => teCmp a b < 0) (fun a b c h1 h2 => teCmp_trans h1 h2) (fun i h1 => ?_), fun t ht => ?_⟩
    · have h2 := h (i + 1) h1
      rw [teErr_at h1] at h2
      by_cases a1 : isKey ts[i + 1].region = false
      · rw [if_pos a1] at h2; omega
      · rw [if_neg a1] at h2
        by_cases a2 : chB ts[i + 1].ch = false
        · rw [if_pos a2] at h2; omega
        · rw [if_neg a2] at h2
          split at h2
          · omega
          · split at h2
            · omega
            · split at h2
              · omega
              · rename_i a5
                have e : ts.getD (i + 1 - 1) zeroTe = ts[i] := by rw [Nat.add_sub_cancel, List.getD_eq_getElem?_getD, List.getElem?_eq_getElem (by omega)]; rfl
                rw [e] at a5
                apply Classical.byContradiction
                intro c
                exact a5 ⟨by omega, by omega⟩
    · obtain ⟨i, hi, rfl⟩ := List.mem_iff_getElem.1 ht
      have h2 := h i hi
      rw [teErr_at hi] at h2
      by_cases a1 : isKey ts[i].region = false
      · rw [if_pos a1] at h2; omega
      · rw [if_neg a1] at h2
        by_cases a2 : chB ts[i].ch = false
        · rw [if_pos a2] at h2; omega
        · rw [if_neg a2] at h2
          split at h2
          · omega
          · split at h2
            · omega
            · rename_i a4
              have := Classical.not_not.1 a4
              exact ⟨⟨this.1, this.2.1⟩, this.2.2.1, this.2.2.2⟩
theorem pol_right {ps : List PurD} (h : polErr ps = 0) : PurSorted ps ∧ ∀ p ∈ ps, tesErr p.terms = 0 := by
  unfold polErr at h
  split at h
  · omega
  · split at h
    · omega
    · rw [fstErr_zero] at h
      refine ⟨chain_pw (R := fun a b : PurD => cmpS a.name b.name < 0) (fun a b c h1 h2 => cmpS_trans h1 h2) (fun i h1 => ?_), fun p hp => ?_⟩
      · have h2 := h (i + 1) h1
        rw [puErr_at h1] at h2
        split at h2
        · omega
        · split at h2
          · omega
          · rename_i a5
            have e : (ps.getD (i + 1 - 1) ps[i + 1]) = ps[i] := by rw [Nat.add_sub_cancel, List.getD_eq_getElem?_getD, List.getElem?_eq_getElem (by omega)]; rfl
            rw [e] at a5
            apply Classical.byContradiction
            intro c
            exact a5 ⟨by omega, by omega⟩
      · obtain ⟨i, hi, rfl⟩ := List.mem_iff_getElem.1 hp
        have h2 := h i hi
        rw [puErr_at hi] at h2
        split at h2
        · omega
        · split at h2
          · omega
          · exact h2
theorem stErr_at (idE : Int → ByteArray → Int) {ps : List PurD} {ss : List StD} {i : Nat} (h : i < ss.length) : stErr idE ps ss i = if ¬ (1 ≤ ss[i].no ∧ ss[i].no ≤ 1000000) then 1 else if 0 < i ∧ ss[i].no ≤ (ss.getD (i - 1) ss[i]).no then 7 else if ¬ (0 ≤ ss[i].at_ ∧ ss[i].at_ ≤ 4321439) then 1
    else if idE ss[i].kind ss[i].text ≠ 0 then idE ss[i].kind ss[i].text
    else if ¬ (chB ss[i].ch = true ∧ 1 ≤ ss[i].what ∧ ss[i].what ≤ 5) then 4
    else if ofCh ss[i].what = true ∧ ¬ ss[i].purp.size = 0 then 3 else if ofCh ss[i].what = false ∧ (purF ps ss[i].purp).isNone = true then 8
    else if isKey ss[i].region = false then 5 else 0 := by
  unfold stErr
  rw [List.getElem?_eq_getElem h]
theorem size0_iff (s : ByteArray) : s.size = 0 ↔ s.toList = [] := by
  rw [ByteArray.toList_eq]
  constructor
  · intro h; exact List.eq_nil_of_length_eq_zero (by simpa using h)
  · intro h; have := congrArg List.length h; simpa using this
def SzSt (ss : List StD) : Prop := ∀ s ∈ ss, s.text.size ≤ 1000000 ∧ s.purp.size ≤ 1000000 ∧ s.region.size ≤ 1000000
set_option maxHeartbeats 4000000 in
set_option maxRecDepth 100000 in
theorem check_any (H : Frz) (hM : MLen H) (A : Option Addr) (cap : Nat) (ps : List PurD) (A2 : Option Addr) (cap2 : Nat) (ss : List StD) (w : World) (hH : H.In w) (hP : PolIn H A ps) (hl : ps.length ≤ 1000000) (hR : Rw H A2 8 fSt ss) (hl2 : ss.length ≤ 1000000) (hsz : SzSt ss) :
    Calls Tryz.prog 30 #[.slice A ps.length cap, .slice A2 ss.length cap2] w fun e w' => e = .returned (.int .i64 (sayErr idErr ps ss)) ∧ Below w.heap.size w w' := by
  have HCP := Lib.hid (checkPolicy_any H A cap ps w hH hP hl)
  have HV : Hid (sayErr idErr ps ss = if polErr ps ≠ 0 then polErr ps else if 3000 < ss.length then 2 else fstErr (stErr idErr ps ss) ss.length) := rfl
  have HPO := Lib.hid (fun (h0 : polErr ps = 0) name W (hW : H.In W) => purposeOf_any H A cap ps name W hW hP (pol_right h0).1 hl)
  have HCI := Lib.hid (fun kind s W (hW : H.In W) hs => checkId_any H hM kind s W hW hs)
  have HR := Lib.hid hR
  have HH := Lib.hid hH
  have HS := Lib.hid hsz
  clear hP hR hH hsz
  generalize polErr ps = pe at HCP HV HPO
  go_enter Tryz.func30, Tryz.ntmps30
  go_wp2_with fail
  refine HCP.out.mono ?_
  rintro e w1 ⟨rfl, hb1⟩
  have HB1 := Lib.hid hb1
  have HIN1 := Lib.hid (HH.out.below hb1)
  clear hb1 HCP
  by_cases hpe : pe = 0
  · have k0 : (pe != 0) = false := by simpa using hpe
    have HV1 := Lib.hid (HV.out.trans (if_neg (by simpa using hpe)))
    have HPO1 := Lib.hid (HPO.out hpe)
    clear hpe HV HPO
    by_cases hlong : 3000 < ss.length
    · have h2 : decide ((3000 : Int) < ss.length) = true := by simp; omega
      have hv := Lib.hid (HV1.out.trans (if_pos hlong))
      clear hlong
      go_wp2_with fail
      go_ret
      exact ⟨ret_int hv.out.symm, HB1.out⟩
    · have h2 : decide ((3000 : Int) < ss.length) = false := by simp; omega
      have HV2 := Lib.hid (HV1.out.trans (if_neg hlong))
      clear hlong HV1
      have HB0 : Hid (Below w1.heap.size w1 w1) := Below.refl _ _
      go_wp2_with fail
      go_loopw [6, 21] (fun _ t wr => ∃ i : Nat, i ≤ ss.length ∧ t = .int .i64 i ∧ Hid (fstErr (stErr idErr ps ss) i = 0) ∧ Hid (Below w1.heap.size w1 wr)) (fun _ t _ => ss.length - (intOf t).toNat)
      case atStart => exact ⟨0, by omega, rfl, rfl, HB0⟩
      case round =>
        obtain ⟨i, hi, rfl, h0, hb⟩ := hrel
        clear HB0
        have hbw := Lib.hid (HB1.out.trans (hb.out.mono HB1.out.size))
        by_cases hlt : i < ss.length
        · have hin := HIN1.out.below hb.out
          obtain ⟨b, off, hA, hbl, hc⟩ := HR.out.at_ hin hlt (by omega)
          have hprev : Hid (∀ p, i = p + 1 → ∀ W', Below wr.heap.size wr W' → W'.cell? ⟨b, off + p * 8, none⟩ = some (.int .i64 (ss.getD (i - 1) ss[i]).no)) := by
            rintro p rfl W' hW'
            have hp : p < ss.length := by omega
            obtain ⟨b', off', hA', hbl', hc'⟩ := HR.out.at_ hin hp (by omega)
            rw [hA] at hA'
            simp only [Option.some.injEq, Addr.mk.injEq] at hA'
            obtain ⟨rfl, rfl, _⟩ := hA'
            rw [Nat.add_sub_cancel, List.getD_eq_getElem?_getD, List.getElem?_eq_getElem hp, Option.getD_some]
            exact lift_below (hc' 0 (by omega)) hW'
          subst hA
          have c0 : wr.cell? ⟨b, off + i * 8, none⟩ = some (.int .i64 ss[i].no) := hc 0 (by omega)
          have c1 : wr.cell? ⟨b, off + i * 8 + 1, none⟩ = some (.int .i64 ss[i].at_) := hc 1 (by omega)
          have c2 : wr.cell? ⟨b, off + i * 8 + 2, none⟩ = some (.int .i64 ss[i].kind) := hc 2 (by omega)
          have c3 : wr.cell? ⟨b, off + i * 8 + 3, none⟩ = some (.string ss[i].text) := hc 3 (by omega)
          have c4 : wr.cell? ⟨b, off + i * 8 + 4, none⟩ = some (.string ss[i].purp) := hc 4 (by omega)
          have c5 : wr.cell? ⟨b, off + i * 8 + 5, none⟩ = some (.string ss[i].region) := hc 5 (by omega)
          have c6 : wr.cell? ⟨b, off + i * 8 + 6, none⟩ = some (.int .i64 ss[i].ch) := hc 6 (by omega)
          have c7 : wr.cell? ⟨b, off + i * 8 + 7, none⟩ = some (.int .i64 ss[i].what) := hc 7 (by omega)
          have HAT := Lib.hid (stErr_at idErr (ps := ps) hlt)
          have HBAD : Hid (∀ n, stErr idErr ps ss i = n → n ≠ 0 → sayErr idErr ps ss = n) := fun n h1 h2 => HV2.out.trans ((fstErr_bad hlt h0.out (by rw [h1]; exact h2)).trans h1)
          have HNX : Hid (stErr idErr ps ss i = 0 → fstErr (stErr idErr ps ss) (i + 1) = 0) := fun h1 => fstErr_next h0.out h1
          have hks := HS.out _ (List.getElem_mem hlt)
          clear hc
          generalize (ss.getD (i - 1) ss[i]).no = pn at *
          generalize ss[i] = d at *
          have z0 : (wr.alloc (.cells #[.int .i64 d.no, .int .i64 d.at_, .int .i64 d.kind, .string d.text, .string d.purp, .string d.region, .int .i64 d.ch, .int .i64 d.what] 38)).cell? ⟨wr.heap.size, 0, none⟩ = some (.int .i64 d.no) := newc 0 rfl
          have z1 : (wr.alloc (.cells #[.int .i64 d.no, .int .i64 d.at_, .int .i64 d.kind, .string d.text, .string d.purp, .string d.region, .int .i64 d.ch, .int .i64 d.what] 38)).cell? ⟨wr.heap.size, 1, none⟩ = some (.int .i64 d.at_) := newc 1 rfl
          have z2 : (wr.alloc (.cells #[.int .i64 d.no, .int .i64 d.at_, .int .i64 d.kind, .string d.text, .string d.purp, .string d.region, .int .i64 d.ch, .int .i64 d.what] 38)).cell? ⟨wr.heap.size, 2, none⟩ = some (.int .i64 d.kind) := newc 2 rfl
          have z3 : (wr.alloc (.cells #[.int .i64 d.no, .int .i64 d.at_, .int .i64 d.kind, .string d.text, .string d.purp, .string d.region, .int .i64 d.ch, .int .i64 d.what] 38)).cell? ⟨wr.heap.size, 3, none⟩ = some (.string d.text) := newc 3 rfl
          have z4 : (wr.alloc (.cells #[.int .i64 d.no, .int .i64 d.at_, .int .i64 d.kind, .string d.text, .string d.purp, .string d.region, .int .i64 d.ch, .int .i64 d.what] 38)).cell? ⟨wr.heap.size, 4, none⟩ = some (.string d.purp) := newc 4 rfl
          have z5 : (wr.alloc (.cells #[.int .i64 d.no, .int .i64 d.at_, .int .i64 d.kind, .string d.text, .string d.purp, .string d.region, .int .i64 d.ch, .int .i64 d.what] 38)).cell? ⟨wr.heap.size, 5, none⟩ = some (.string d.region) := newc 5 rfl
          have z6 : (wr.alloc (.cells #[.int .i64 d.no, .int .i64 d.at_, .int .i64 d.kind, .string d.text, .string d.purp, .string d.region, .int .i64 d.ch, .int .i64 d.what] 38)).cell? ⟨wr.heap.size, 6, none⟩ = some (.int .i64 d.ch) := newc 6 rfl
          have z7 : (wr.alloc (.cells #[.int .i64 d.no, .int .i64 d.at_, .int .i64 d.kind, .string d.text, .string d.purp, .string d.region, .int .i64 d.ch, .int .i64 d.what] 38)).cell? ⟨wr.heap.size, 7, none⟩ = some (.int .i64 d.what) := newc 7 rfl
          have HBN := Lib.hid (new1 (w := wr) (.cells #[.int .i64 d.no, .int .i64 d.at_, .int .i64 d.kind, .string d.text, .string d.purp, .string d.region, .int .i64 d.ch, .int .i64 d.what] 38))
          have hkd := heap_alloc_new wr (.cells #[.int .i64 d.no, .int .i64 d.at_, .int .i64 d.kind, .string d.text, .string d.purp, .string d.region, .int .i64 d.ch, .int .i64 d.what] 38)
          go_upto_region 9 with (fail)
          clear c0 c1 c2 c3 c4 c5 c6 c7
          generalize wr.alloc (.cells #[.int .i64 d.no, .int .i64 d.at_, .int .i64 d.kind, .string d.text, .string d.purp, .string d.region, .int .i64 d.ch, .int .i64 d.what] 38) = W1 at *
          have HKD := Lib.hid hkd
          have HB2 := Lib.hid (hb.out.trans (HBN.out.mono hb.out.size))
          have HBW2 := Lib.hid (hbw.out.trans (HBN.out.mono hbw.out.size))
          have HBN2 := Lib.hid HBN.out
          have HIN2 := Lib.hid (hin.below HBN.out)
          clear hb hbw h0 HBN hin hkd
          go_wp2_with fail
          refine (cwithin_any _ _ _ _).mono ?_
          rintro e w' ⟨rfl, rfl⟩
          by_cases g1 : 1 ≤ d.no ∧ d.no ≤ 1000000
          · rw [show (decide ((1 : Int) ≤ d.no) && decide (d.no ≤ 1000000)) = true by simp; omega]
            have HA1 := Lib.hid (HAT.out.trans (if_neg (by simpa using g1)))
            clear g1 HAT
            have hcase : i = 0 ∨ ∃ p, i = p + 1 := by cases i with
              | zero => exact Or.inl rfl
              | succ p => exact Or.inr ⟨p, rfl⟩
            rcases hcase with h0 | ⟨p, hp⟩
            · have d2 : decide ((0 : Int) < (i : Int)) = false := by simp; omega
              have d1 : decide (0 < i) = false := by simp; omega
              have HA2 := Lib.hid (HA1.out.trans (if_neg (by omega)))
              clear h0 HA1
              go_upto_region 11 with (fail)
              go_quiet (fail)
              have HKD3 : Hid ((W1.drewN nq).heap[wr.heap.size]? = some (.cells #[.int .i64 d.no, .int .i64 d.at_, .int .i64 d.kind, .string d.text, .string d.purp, .string d.region, .int .i64 d.ch, .int .i64 d.what] 38)) := HKD.out
              have HIN3 : Hid (H.In (W1.drewN nq)) := HIN2.out.drewN nq
              have HB3 := Lib.hid (below_drewN HB2.out nq)
              have HBW3 := Lib.hid (below_drewN HBW2.out nq)
              clear z0 z1 z2 z3 z4 z5 z6 z7 HKD HIN2 HB2 HBW2 HBN2
              generalize W1.drewN nq = W3 at *
              have hk3 := HKD3.out
              have z0 : W3.cell? ⟨wr.heap.size, 0, none⟩ = some (.int .i64 d.no) := cell_h hk3 0 rfl
              have zf0 := froz_h hk3 0
              have z1 : W3.cell? ⟨wr.heap.size, 1, none⟩ = some (.int .i64 d.at_) := cell_h hk3 1 rfl
              have zf1 := froz_h hk3 1
              have z2 : W3.cell? ⟨wr.heap.size, 2, none⟩ = some (.int .i64 d.kind) := cell_h hk3 2 rfl
              have zf2 := froz_h hk3 2
              have z3 : W3.cell? ⟨wr.heap.size, 3, none⟩ = some (.string d.text) := cell_h hk3 3 rfl
              have zf3 := froz_h hk3 3
              have z4 : W3.cell? ⟨wr.heap.size, 4, none⟩ = some (.string d.purp) := cell_h hk3 4 rfl
              have zf4 := froz_h hk3 4
              have z5 : W3.cell? ⟨wr.heap.size, 5, none⟩ = some (.string d.region) := cell_h hk3 5 rfl
              have zf5 := froz_h hk3 5
              have z6 : W3.cell? ⟨wr.heap.size, 6, none⟩ = some (.int .i64 d.ch) := cell_h hk3 6 rfl
              have zf6 := froz_h hk3 6
              have z7 : W3.cell? ⟨wr.heap.size, 7, none⟩ = some (.int .i64 d.what) := cell_h hk3 7 rfl
              have zf7 := froz_h hk3 7
              clear hk3
              go_wp2_with fail
              refine (cwithin_any _ _ _ _).mono ?_
              rintro e w' ⟨rfl, rfl⟩
              by_cases g2 : 0 ≤ d.at_ ∧ d.at_ ≤ 4321439
              · rw [show (decide ((0 : Int) ≤ d.at_) && decide (d.at_ ≤ 4321439)) = true by simp; omega]
                have HA3 := Lib.hid (HA2.out.trans (if_neg (by simpa using g2)))
                clear g2 HA2
                go_wp2_with fail
                refine (HCI.out d.kind d.text _ HIN3.out hks.1).mono ?_
                rintro e W4 ⟨rfl, hb4⟩
                have HKD4 := Lib.hid ((hb4.block _ (lt_of_heap HKD3.out)).trans HKD3.out)
                have HIN4 := Lib.hid (HIN3.out.below hb4)
                have HB4 := Lib.hid (HB3.out.trans (hb4.mono HB3.out.size))
                have HBW4 := Lib.hid (HBW3.out.trans (hb4.mono HBW3.out.size))
                clear z0 z1 z2 z3 z4 z5 z6 z7 zf0 zf1 zf2 zf3 zf4 zf5 zf6 zf7 HKD3 HIN3 HB3 HBW3 hb4
                have hk4 := HKD4.out
                have z0 : W4.cell? ⟨wr.heap.size, 0, none⟩ = some (.int .i64 d.no) := cell_h hk4 0 rfl
                have zf0 := froz_h hk4 0
                have z1 : W4.cell? ⟨wr.heap.size, 1, none⟩ = some (.int .i64 d.at_) := cell_h hk4 1 rfl
                have zf1 := froz_h hk4 1
                have z2 : W4.cell? ⟨wr.heap.size, 2, none⟩ = some (.int .i64 d.kind) := cell_h hk4 2 rfl
                have zf2 := froz_h hk4 2
                have z3 : W4.cell? ⟨wr.heap.size, 3, none⟩ = some (.string d.text) := cell_h hk4 3 rfl
                have zf3 := froz_h hk4 3
                have z4 : W4.cell? ⟨wr.heap.size, 4, none⟩ = some (.string d.purp) := cell_h hk4 4 rfl
                have zf4 := froz_h hk4 4
                have z5 : W4.cell? ⟨wr.heap.size, 5, none⟩ = some (.string d.region) := cell_h hk4 5 rfl
                have zf5 := froz_h hk4 5
                have z6 : W4.cell? ⟨wr.heap.size, 6, none⟩ = some (.int .i64 d.ch) := cell_h hk4 6 rfl
                have zf6 := froz_h hk4 6
                have z7 : W4.cell? ⟨wr.heap.size, 7, none⟩ = some (.int .i64 d.what) := cell_h hk4 7 rfl
                have zf7 := froz_h hk4 7
                clear hk4
                generalize idErr d.kind d.text = ie at HA3 ⊢
                by_cases g3 : ie = 0
                · have k3 : (ie != 0) = false := by simpa using g3
                  have HA4 := Lib.hid (HA3.out.trans (if_neg (by simpa using g3)))
                  clear g3 HA3
                  go_wp2_with fail
                  refine (HPO1.out d.purp _ HIN4.out).mono ?_
                  rintro e W5 ⟨rfl, hb5⟩
                  have HPV : Hid (∃ nm sl, purV (purF ps d.purp) = .agg #[.string nm, sl] ∧ sl.oneCell' = true) := by
                    show ∃ _, _
                    cases purF ps d.purp with
                    | none => exact ⟨_, _, rfl, rfl⟩
                    | some p => exact ⟨_, _, rfl, rfl⟩
                  obtain ⟨nm, sl, hpv, hpo⟩ := HPV.out
                  rw [hpv]
                  have HSN : Hid ((purF ps d.purp).isSome = !(purF ps d.purp).isNone) := by show _ = _; cases purF ps d.purp <;> rfl
                  generalize (purF ps d.purp).isNone = nn at HA4 HSN
                  generalize (purF ps d.purp).isSome = hs at HSN ⊢
                  have HKD5 := Lib.hid ((hb5.block _ (lt_of_heap HKD4.out)).trans HKD4.out)
                  have HB5 := Lib.hid (HB4.out.trans (hb5.mono HB4.out.size))
                  have HBW5 := Lib.hid (HBW4.out.trans (hb5.mono HBW4.out.size))
                  have HKD6 := Lib.hid ((heap_lt (o := .cells #[.string nm, sl] 58) (lt_of_heap HKD5.out)).trans HKD5.out)
                  have HB6 := Lib.hid (HB5.out.alloc HB5.out.size (.cells #[.string nm, sl] 58))
                  have HBW6 := Lib.hid (HBW5.out.alloc HBW5.out.size (.cells #[.string nm, sl] 58))
                  have hst : ∀ (ad : Addr) (mo : Mode) (W : World), Sem.run Tryz.prog (store ad sl mo) W = stored Tryz.prog W ad sl mo := fun ad mo W => run_store _ W ad _ mo hpo
                  clear z0 z1 z2 z3 z4 z5 z6 z7 zf0 zf1 zf2 zf3 zf4 zf5 zf6 zf7 HKD4 HIN4 HB4 HBW4 hb5 HPV hpv hpo HKD5 HB5 HBW5
                  go_upto_region 19 with (fail)
                  generalize W5.alloc (.cells #[.string nm, sl] 58) = W6 at *
                  have hk6 := HKD6.out
                  have z0 : W6.cell? ⟨wr.heap.size, 0, none⟩ = some (.int .i64 d.no) := cell_h hk6 0 rfl
                  have zf0 := froz_h hk6 0
                  have z1 : W6.cell? ⟨wr.heap.size, 1, none⟩ = some (.int .i64 d.at_) := cell_h hk6 1 rfl
                  have zf1 := froz_h hk6 1
                  have z2 : W6.cell? ⟨wr.heap.size, 2, none⟩ = some (.int .i64 d.kind) := cell_h hk6 2 rfl
                  have zf2 := froz_h hk6 2
                  have z3 : W6.cell? ⟨wr.heap.size, 3, none⟩ = some (.string d.text) := cell_h hk6 3 rfl
                  have zf3 := froz_h hk6 3
                  have z4 : W6.cell? ⟨wr.heap.size, 4, none⟩ = some (.string d.purp) := cell_h hk6 4 rfl
                  have zf4 := froz_h hk6 4
                  have z5 : W6.cell? ⟨wr.heap.size, 5, none⟩ = some (.string d.region) := cell_h hk6 5 rfl
                  have zf5 := froz_h hk6 5
                  have z6 : W6.cell? ⟨wr.heap.size, 6, none⟩ = some (.int .i64 d.ch) := cell_h hk6 6 rfl
                  have zf6 := froz_h hk6 6
                  have z7 : W6.cell? ⟨wr.heap.size, 7, none⟩ = some (.int .i64 d.what) := cell_h hk6 7 rfl
                  have zf7 := froz_h hk6 7
                  clear hk6 hst
                  go_wp2_with fail
                  refine (isChannel_any d.ch _).mono ?_
                  rintro e w' ⟨rfl, rfl⟩
                  generalize chB d.ch = c1 at HA4 ⊢
                  cases c1 with
                  | false =>
                    have hv := Lib.hid (HBAD.out 4 (HA4.out.trans (if_pos (by simp))) (by omega))
                    go_wp2_with fail
                    go_ret
                    exact ⟨ret_int hv.out.symm, HBW6.out⟩
                  | true =>
                    go_wp2_with fail
                    refine (cwithin_any _ _ _ _).mono ?_
                    rintro e w' ⟨rfl, rfl⟩
                    by_cases g5 : 1 ≤ d.what ∧ d.what ≤ 5
                    · rw [show (decide ((1 : Int) ≤ d.what) && decide (d.what ≤ 5)) = true by simp; omega]
                      have HA5 := Lib.hid (HA4.out.trans (if_neg (by simpa using g5)))
                      clear g5 HA4
                      go_wp2_with fail
                      refine (ofChannel_any d.what _).mono ?_
                      rintro e w' ⟨rfl, rfl⟩
                      have HOF := Lib.hid (fun W => ofChannel_any d.what W)
                      generalize ofCh d.what = oc at HA5 HOF ⊢
                      cases oc with
                      | true =>
                        by_cases hp0 : d.purp.size = 0
                        · have HA6 := Lib.hid (HA5.out.trans (if_neg (fun c => c.2 hp0)))
                          have HA8 := Lib.hid (HA6.out.trans (if_neg (fun c => by cases c.1)))
                          have k5 : d.purp.toList.isEmpty = true := by rw [(size0_iff _).1 hp0]; rfl
                          have k6 : (d.purp.toList == []) = true := by simpa using k5
                          have k7 : d.purp.toList = [] := by simpa using k5
                          clear hp0 HA5 HA6
                          go_wp2_with fail
                          refine (HOF.out _).mono ?_
                          rintro e w' ⟨rfl, rfl⟩
                          clear k5 k6 k7
                          go_wp2_with fail
                          refine (isKey_any d.region _ (by omega)).mono ?_
                          rintro e w' ⟨rfl, rfl⟩
                          generalize isKey d.region = kr at HA8 ⊢
                          cases kr with
                          | false =>
                            have hv := Lib.hid (HBAD.out 5 (HA8.out.trans (if_pos rfl)) (by omega))
                            go_wp2_with fail
                            go_ret
                            exact ⟨ret_int hv.out.symm, HBW6.out⟩
                          | true =>
                            have hok := Lib.hid (HNX.out (HA8.out.trans (if_neg (by simp))))
                            go_wp2_with fail
                            go_roundw
                            case rel => exact ⟨i + 1, by omega, by go_num, hok, HB6⟩
                            case measure => simp [intOf]; omega
                        · have hv := Lib.hid (HBAD.out 3 (HA5.out.trans (if_pos ⟨rfl, hp0⟩)) (by omega))
                          have k5 : d.purp.toList.isEmpty = false := by rw [← Bool.not_eq_true]; intro c; exact hp0 ((size0_iff _).2 (List.isEmpty_iff.1 c))
                          have k6 : (d.purp.toList == []) = false := by
                            cases h9 : d.purp.toList with
                            | nil => rw [h9] at k5; cases k5
                            | cons a l => rfl
                          clear hp0
                          go_wp2_with fail
                          go_ret
                          exact ⟨ret_int hv.out.symm, HBW6.out⟩
                      | false =>
                        have HA6 := Lib.hid (HA5.out.trans (if_neg (fun c => by cases c.1)))
                        clear HA5
                        go_wp2_with fail
                        refine (HOF.out _).mono ?_
                        rintro e w' ⟨rfl, rfl⟩
                        cases nn with
                        | true =>
                          have hv := Lib.hid (HBAD.out 8 (HA6.out.trans (if_pos (by simp))) (by omega))
                          obtain rfl := HSN.out
                          go_wp2_with fail
                          go_ret
                          exact ⟨ret_int hv.out.symm, HBW6.out⟩
                        | false =>
                          have HA8 := Lib.hid (HA6.out.trans (if_neg (fun c => by cases c.2)))
                          obtain rfl := HSN.out
                          go_wp2_with fail
                          refine (isKey_any d.region _ (by omega)).mono ?_
                          rintro e w' ⟨rfl, rfl⟩
                          generalize isKey d.region = kr at HA8 ⊢
                          cases kr with
                          | false =>
                            have hv := Lib.hid (HBAD.out 5 (HA8.out.trans (if_pos rfl)) (by omega))
                            go_wp2_with fail
                            go_ret
                            exact ⟨ret_int hv.out.symm, HBW6.out⟩
                          | true =>
                            have hok := Lib.hid (HNX.out (HA8.out.trans (if_neg (by simp))))
                            go_wp2_with fail
                            go_roundw
                            case rel => exact ⟨i + 1, by omega, by go_num, hok, HB6⟩
                            case measure => simp [intOf]; omega
                    · rw [show (decide ((1 : Int) ≤ d.what) && decide (d.what ≤ 5)) = false by simp; omega]
                      have hv := Lib.hid (HBAD.out 4 (HA4.out.trans (if_pos (fun c => g5 c.2))) (by omega))
                      clear g5
                      go_wp2_with fail
                      go_ret
                      exact ⟨ret_int hv.out.symm, HBW6.out⟩
                · have k3 : (ie != 0) = true := by simpa using g3
                  have hv := Lib.hid (HBAD.out ie (HA3.out.trans (if_pos g3)) g3)
                  clear g3
                  go_wp2_with fail
                  go_ret
                  exact ⟨ret_int hv.out.symm, HBW4.out⟩
              · rw [show (decide ((0 : Int) ≤ d.at_) && decide (d.at_ ≤ 4321439)) = false by simp; omega]
                have hv := Lib.hid (HBAD.out 1 (HA2.out.trans (if_pos g2)) (by omega))
                clear g2
                go_wp2_with fail
                go_ret
                exact ⟨ret_int hv.out.symm, HBW3.out⟩
            · have q3 := hprev.out p hp W1 HBN2.out
              have d2 : decide ((0 : Int) < (i : Int)) = true := by simp; omega
              have d1 : decide (0 < i) = true := by simp; omega
              have a1 : IntKind.i64.wrap ((i : Int) - 1) = (p : Int) := by rw [show (i : Int) - 1 = p from by omega]; exact IntWalk.i64_in _ (by omega)
              have a2 : (i : Int) - 1 = (p : Int) := by omega
              have a3 : (p : Int) < ss.length := by omega
              have a4 : (0 : Int) ≤ (p : Int) := by omega
              have a5 : p < ss.length := by omega
              have HPOS : Hid (0 < i) := by show 0 < i; omega
              clear hp
              by_cases hle : d.no ≤ pn
              · have e1 : decide (d.no ≤ pn) = true := by simpa using hle
                have hv := Lib.hid (HBAD.out 7 (HA1.out.trans (if_pos ⟨HPOS.out, hle⟩)) (by omega))
                clear hle
                go_upto_region 11 with (fail)
                go_quiet (fail)
                have HBW3 := Lib.hid (below_drewN HBW2.out nq)
                go_wp2_with fail
                go_ret
                exact ⟨ret_int hv.out.symm, HBW3.out⟩
              · have e1 : decide (d.no ≤ pn) = false := by simpa using hle
                have HA2 := Lib.hid (HA1.out.trans (if_neg (fun c => hle c.2)))
                clear hle HA1
                go_upto_region 11 with (fail)
                go_quiet (fail)
                have HKD3 : Hid ((W1.drewN nq).heap[wr.heap.size]? = some (.cells #[.int .i64 d.no, .int .i64 d.at_, .int .i64 d.kind, .string d.text, .string d.purp, .string d.region, .int .i64 d.ch, .int .i64 d.what] 38)) := HKD.out
                have HIN3 : Hid (H.In (W1.drewN nq)) := HIN2.out.drewN nq
                have HB3 := Lib.hid (below_drewN HB2.out nq)
                have HBW3 := Lib.hid (below_drewN HBW2.out nq)
                clear q3 a1 a2 a3 a4 a5 z0 z1 z2 z3 z4 z5 z6 z7 HKD HIN2 HB2 HBW2 HBN2
                generalize W1.drewN nq = W3 at *
                have hk3 := HKD3.out
                have z0 : W3.cell? ⟨wr.heap.size, 0, none⟩ = some (.int .i64 d.no) := cell_h hk3 0 rfl
                have zf0 := froz_h hk3 0
                have z1 : W3.cell? ⟨wr.heap.size, 1, none⟩ = some (.int .i64 d.at_) := cell_h hk3 1 rfl
                have zf1 := froz_h hk3 1
                have z2 : W3.cell? ⟨wr.heap.size, 2, none⟩ = some (.int .i64 d.kind) := cell_h hk3 2 rfl
                have zf2 := froz_h hk3 2
                have z3 : W3.cell? ⟨wr.heap.size, 3, none⟩ = some (.string d.text) := cell_h hk3 3 rfl
                have zf3 := froz_h hk3 3
                have z4 : W3.cell? ⟨wr.heap.size, 4, none⟩ = some (.string d.purp) := cell_h hk3 4 rfl
                have zf4 := froz_h hk3 4
                have z5 : W3.cell? ⟨wr.heap.size, 5, none⟩ = some (.string d.region) := cell_h hk3 5 rfl
                have zf5 := froz_h hk3 5
                have z6 : W3.cell? ⟨wr.heap.size, 6, none⟩ = some (.int .i64 d.ch) := cell_h hk3 6 rfl
                have zf6 := froz_h hk3 6
                have z7 : W3.cell? ⟨wr.heap.size, 7, none⟩ = some (.int .i64 d.what) := cell_h hk3 7 rfl
                have zf7 := froz_h hk3 7
                clear hk3
                go_wp2_with fail
                refine (cwithin_any _ _ _ _).mono ?_
                rintro e w' ⟨rfl, rfl⟩
                by_cases g2 : 0 ≤ d.at_ ∧ d.at_ ≤ 4321439
                · rw [show (decide ((0 : Int) ≤ d.at_) && decide (d.at_ ≤ 4321439)) = true by simp; omega]
                  have HA3 := Lib.hid (HA2.out.trans (if_neg (by simpa using g2)))
                  clear g2 HA2
                  go_wp2_with fail
                  refine (HCI.out d.kind d.text _ HIN3.out hks.1).mono ?_
                  rintro e W4 ⟨rfl, hb4⟩
                  have HKD4 := Lib.hid ((hb4.block _ (lt_of_heap HKD3.out)).trans HKD3.out)
                  have HIN4 := Lib.hid (HIN3.out.below hb4)
                  have HB4 := Lib.hid (HB3.out.trans (hb4.mono HB3.out.size))
                  have HBW4 := Lib.hid (HBW3.out.trans (hb4.mono HBW3.out.size))
                  clear z0 z1 z2 z3 z4 z5 z6 z7 zf0 zf1 zf2 zf3 zf4 zf5 zf6 zf7 HKD3 HIN3 HB3 HBW3 hb4
                  have hk4 := HKD4.out
                  have z0 : W4.cell? ⟨wr.heap.size, 0, none⟩ = some (.int .i64 d.no) := cell_h hk4 0 rfl
                  have zf0 := froz_h hk4 0
                  have z1 : W4.cell? ⟨wr.heap.size, 1, none⟩ = some (.int .i64 d.at_) := cell_h hk4 1 rfl
                  have zf1 := froz_h hk4 1
                  have z2 : W4.cell? ⟨wr.heap.size, 2, none⟩ = some (.int .i64 d.kind) := cell_h hk4 2 rfl
                  have zf2 := froz_h hk4 2
                  have z3 : W4.cell? ⟨wr.heap.size, 3, none⟩ = some (.string d.text) := cell_h hk4 3 rfl
                  have zf3 := froz_h hk4 3
                  have z4 : W4.cell? ⟨wr.heap.size, 4, none⟩ = some (.string d.purp) := cell_h hk4 4 rfl
                  have zf4 := froz_h hk4 4
                  have z5 : W4.cell? ⟨wr.heap.size, 5, none⟩ = some (.string d.region) := cell_h hk4 5 rfl
                  have zf5 := froz_h hk4 5
                  have z6 : W4.cell? ⟨wr.heap.size, 6, none⟩ = some (.int .i64 d.ch) := cell_h hk4 6 rfl
                  have zf6 := froz_h hk4 6
                  have z7 : W4.cell? ⟨wr.heap.size, 7, none⟩ = some (.int .i64 d.what) := cell_h hk4 7 rfl
                  have zf7 := froz_h hk4 7
                  clear hk4
                  generalize idErr d.kind d.text = ie at HA3 ⊢
                  by_cases g3 : ie = 0
                  · have k3 : (ie != 0) = false := by simpa using g3
                    have HA4 := Lib.hid (HA3.out.trans (if_neg (by simpa using g3)))
                    clear g3 HA3
                    go_wp2_with fail
                    refine (HPO1.out d.purp _ HIN4.out).mono ?_
                    rintro e W5 ⟨rfl, hb5⟩
                    have HPV : Hid (∃ nm sl, purV (purF ps d.purp) = .agg #[.string nm, sl] ∧ sl.oneCell' = true) := by
                      show ∃ _, _
                      cases purF ps d.purp with
                      | none => exact ⟨_, _, rfl, rfl⟩
                      | some p => exact ⟨_, _, rfl, rfl⟩
                    obtain ⟨nm, sl, hpv, hpo⟩ := HPV.out
                    rw [hpv]
                    have HSN : Hid ((purF ps d.purp).isSome = !(purF ps d.purp).isNone) := by show _ = _; cases purF ps d.purp <;> rfl
                    generalize (purF ps d.purp).isNone = nn at HA4 HSN
                    generalize (purF ps d.purp).isSome = hs at HSN ⊢
                    have HKD5 := Lib.hid ((hb5.block _ (lt_of_heap HKD4.out)).trans HKD4.out)
                    have HB5 := Lib.hid (HB4.out.trans (hb5.mono HB4.out.size))
                    have HBW5 := Lib.hid (HBW4.out.trans (hb5.mono HBW4.out.size))
                    have HKD6 := Lib.hid ((heap_lt (o := .cells #[.string nm, sl] 58) (lt_of_heap HKD5.out)).trans HKD5.out)
                    have HB6 := Lib.hid (HB5.out.alloc HB5.out.size (.cells #[.string nm, sl] 58))
                    have HBW6 := Lib.hid (HBW5.out.alloc HBW5.out.size (.cells #[.string nm, sl] 58))
                    have hst : ∀ (ad : Addr) (mo : Mode) (W : World), Sem.run Tryz.prog (store ad sl mo) W = stored Tryz.prog W ad sl mo := fun ad mo W => run_store _ W ad _ mo hpo
                    clear z0 z1 z2 z3 z4 z5 z6 z7 zf0 zf1 zf2 zf3 zf4 zf5 zf6 zf7 HKD4 HIN4 HB4 HBW4 hb5 HPV hpv hpo HKD5 HB5 HBW5
                    go_upto_region 19 with (fail)
                    generalize W5.alloc (.cells #[.string nm, sl] 58) = W6 at *
                    have hk6 := HKD6.out
                    have z0 : W6.cell? ⟨wr.heap.size, 0, none⟩ = some (.int .i64 d.no) := cell_h hk6 0 rfl
                    have zf0 := froz_h hk6 0
                    have z1 : W6.cell? ⟨wr.heap.size, 1, none⟩ = some (.int .i64 d.at_) := cell_h hk6 1 rfl
                    have zf1 := froz_h hk6 1
                    have z2 : W6.cell? ⟨wr.heap.size, 2, none⟩ = some (.int .i64 d.kind) := cell_h hk6 2 rfl
                    have zf2 := froz_h hk6 2
                    have z3 : W6.cell? ⟨wr.heap.size, 3, none⟩ = some (.string d.text) := cell_h hk6 3 rfl
                    have zf3 := froz_h hk6 3
                    have z4 : W6.cell? ⟨wr.heap.size, 4, none⟩ = some (.string d.purp) := cell_h hk6 4 rfl
                    have zf4 := froz_h hk6 4
                    have z5 : W6.cell? ⟨wr.heap.size, 5, none⟩ = some (.string d.region) := cell_h hk6 5 rfl
                    have zf5 := froz_h hk6 5
                    have z6 : W6.cell? ⟨wr.heap.size, 6, none⟩ = some (.int .i64 d.ch) := cell_h hk6 6 rfl
                    have zf6 := froz_h hk6 6
                    have z7 : W6.cell? ⟨wr.heap.size, 7, none⟩ = some (.int .i64 d.what) := cell_h hk6 7 rfl
                    have zf7 := froz_h hk6 7
                    clear hk6 hst
                    go_wp2_with fail
                    refine (isChannel_any d.ch _).mono ?_
                    rintro e w' ⟨rfl, rfl⟩
                    generalize chB d.ch = c1 at HA4 ⊢
                    cases c1 with
                    | false =>
                      have hv := Lib.hid (HBAD.out 4 (HA4.out.trans (if_pos (by simp))) (by omega))
                      go_wp2_with fail
                      go_ret
                      exact ⟨ret_int hv.out.symm, HBW6.out⟩
                    | true =>
                      go_wp2_with fail
                      refine (cwithin_any _ _ _ _).mono ?_
                      rintro e w' ⟨rfl, rfl⟩
                      by_cases g5 : 1 ≤ d.what ∧ d.what ≤ 5
                      · rw [show (decide ((1 : Int) ≤ d.what) && decide (d.what ≤ 5)) = true by simp; omega]
                        have HA5 := Lib.hid (HA4.out.trans (if_neg (by simpa using g5)))
                        clear g5 HA4
                        go_wp2_with fail
                        refine (ofChannel_any d.what _).mono ?_
                        rintro e w' ⟨rfl, rfl⟩
                        have HOF := Lib.hid (fun W => ofChannel_any d.what W)
                        generalize ofCh d.what = oc at HA5 HOF ⊢
                        cases oc with
                        | true =>
                          by_cases hp0 : d.purp.size = 0
                          · have HA6 := Lib.hid (HA5.out.trans (if_neg (fun c => c.2 hp0)))
                            have HA8 := Lib.hid (HA6.out.trans (if_neg (fun c => by cases c.1)))
                            have k5 : d.purp.toList.isEmpty = true := by rw [(size0_iff _).1 hp0]; rfl
                            have k6 : (d.purp.toList == []) = true := by simpa using k5
                            have k7 : d.purp.toList = [] := by simpa using k5
                            clear hp0 HA5 HA6
                            go_wp2_with fail
                            refine (HOF.out _).mono ?_
                            rintro e w' ⟨rfl, rfl⟩
                            clear k5 k6 k7
                            go_wp2_with fail
                            refine (isKey_any d.region _ (by omega)).mono ?_
                            rintro e w' ⟨rfl, rfl⟩
                            generalize isKey d.region = kr at HA8 ⊢
                            cases kr with
                            | false =>
                              have hv := Lib.hid (HBAD.out 5 (HA8.out.trans (if_pos rfl)) (by omega))
                              go_wp2_with fail
                              go_ret
                              exact ⟨ret_int hv.out.symm, HBW6.out⟩
                            | true =>
                              have hok := Lib.hid (HNX.out (HA8.out.trans (if_neg (by simp))))
                              go_wp2_with fail
                              go_roundw
                              case rel => exact ⟨i + 1, by omega, by go_num, hok, HB6⟩
                              case measure => simp [intOf]; omega
                          · have hv := Lib.hid (HBAD.out 3 (HA5.out.trans (if_pos ⟨rfl, hp0⟩)) (by omega))
                            have k5 : d.purp.toList.isEmpty = false := by rw [← Bool.not_eq_true]; intro c; exact hp0 ((size0_iff _).2 (List.isEmpty_iff.1 c))
                            have k6 : (d.purp.toList == []) = false := by
                              cases h9 : d.purp.toList with
                              | nil => rw [h9] at k5; cases k5
                              | cons a l => rfl
                            clear hp0
                            go_wp2_with fail
                            go_ret
                            exact ⟨ret_int hv.out.symm, HBW6.out⟩
                        | false =>
                          have HA6 := Lib.hid (HA5.out.trans (if_neg (fun c => by cases c.1)))
                          clear HA5
                          go_wp2_with fail
                          refine (HOF.out _).mono ?_
                          rintro e w' ⟨rfl, rfl⟩
                          cases nn with
                          | true =>
                            have hv := Lib.hid (HBAD.out 8 (HA6.out.trans (if_pos (by simp))) (by omega))
                            obtain rfl := HSN.out
                            go_wp2_with fail
                            go_ret
                            exact ⟨ret_int hv.out.symm, HBW6.out⟩
                          | false =>
                            have HA8 := Lib.hid (HA6.out.trans (if_neg (fun c => by cases c.2)))
                            obtain rfl := HSN.out
                            go_wp2_with fail
                            refine (isKey_any d.region _ (by omega)).mono ?_
                            rintro e w' ⟨rfl, rfl⟩
                            generalize isKey d.region = kr at HA8 ⊢
                            cases kr with
                            | false =>
                              have hv := Lib.hid (HBAD.out 5 (HA8.out.trans (if_pos rfl)) (by omega))
                              go_wp2_with fail
                              go_ret
                              exact ⟨ret_int hv.out.symm, HBW6.out⟩
                            | true =>
                              have hok := Lib.hid (HNX.out (HA8.out.trans (if_neg (by simp))))
                              go_wp2_with fail
                              go_roundw
                              case rel => exact ⟨i + 1, by omega, by go_num, hok, HB6⟩
                              case measure => simp [intOf]; omega
                      · rw [show (decide ((1 : Int) ≤ d.what) && decide (d.what ≤ 5)) = false by simp; omega]
                        have hv := Lib.hid (HBAD.out 4 (HA4.out.trans (if_pos (fun c => g5 c.2))) (by omega))
                        clear g5
                        go_wp2_with fail
                        go_ret
                        exact ⟨ret_int hv.out.symm, HBW6.out⟩
                  · have k3 : (ie != 0) = true := by simpa using g3
                    have hv := Lib.hid (HBAD.out ie (HA3.out.trans (if_pos g3)) g3)
                    clear g3
                    go_wp2_with fail
                    go_ret
                    exact ⟨ret_int hv.out.symm, HBW4.out⟩
                · rw [show (decide ((0 : Int) ≤ d.at_) && decide (d.at_ ≤ 4321439)) = false by simp; omega]
                  have hv := Lib.hid (HBAD.out 1 (HA2.out.trans (if_pos g2)) (by omega))
                  clear g2
                  go_wp2_with fail
                  go_ret
                  exact ⟨ret_int hv.out.symm, HBW3.out⟩
          · rw [show (decide ((1 : Int) ≤ d.no) && decide (d.no ≤ 1000000)) = false by simp; omega]
            have hv := Lib.hid (HBAD.out 1 (HAT.out.trans (if_pos g1)) (by omega))
            clear g1
            go_wp2_with fail
            go_ret
            exact ⟨ret_int hv.out.symm, HBW2.out⟩
        · have hie : i = ss.length := by omega
          subst hie
          have hv := Lib.hid (HV2.out.trans h0.out)
          go_wp2_with fail
          go_ret
          exact ⟨ret_int hv.out.symm, hbw.out⟩
  · have k0 : (pe != 0) = true := by simpa using hpe
    have hv := Lib.hid (HV.out.trans (if_pos hpe))
    clear hpe
    go_wp2_with fail
    go_ret
    exact ⟨ret_int hv.out.symm, HB1.out⟩
end Go.Proofs.YtmlpfbffecdepaaGreatDoor

/- Consents: what is wrong with ids, a question, all of them. -/
namespace Go.Proofs.YtmlpfbffecdepaaGreatDoor
set_option linter.unusedVariables false
open Go.RowKit
structure IdD where
  kind : Int
  text : ByteArray
def fId (d : IdD) : Nat → Value
  | 0 => .int .i64 d.kind
  | _ => .string d.text
def idAt (ids : List IdD) (i : Nat) : Int := match ids[i]? with | none => 0 | some x => idErr x.kind x.text
theorem idAt_at {ids : List IdD} {i : Nat} (h : i < ids.length) : idAt ids i = idErr ids[i].kind ids[i].text := by
  unfold idAt; rw [List.getElem?_eq_getElem h]
def idsErr (ids : List IdD) (most : Int) : Int := if most < ids.length then 2 else fstErr (idAt ids) ids.length
set_option maxHeartbeats 2000000 in
set_option maxRecDepth 100000 in
theorem checkIds_any (H : Frz) (hM : MLen H) (A : Option Addr) (cap : Nat) (ids : List IdD) (most : Int) (w : World) (hH : H.In w) (hR : Rw H A 2 fId ids) (hl : ids.length ≤ 1000000) (hsz : ∀ x ∈ ids, x.text.size ≤ 1000000) :
    Calls Tryz.prog 66 #[.slice A ids.length cap, .int .i64 most] w fun e w' => e = .returned (.int .i64 (idsErr ids most)) ∧ Below w.heap.size w w' := by
  have HCI := Lib.hid (fun kind s W (hW : H.In W) hs => checkId_any H hM kind s W hW hs)
  have HR := Lib.hid hR
  have HH := Lib.hid hH
  have HS := Lib.hid hsz
  clear hR hH hsz
  by_cases hlong : most < ids.length
  · have h1 : decide (most < (ids.length : Int)) = true := by simpa using hlong
    have hv : Hid (idsErr ids most = 2) := by show _ = _; unfold idsErr; rw [if_pos hlong]
    clear hlong
    go_enter Tryz.func66, Tryz.ntmps66
    go_wp2_with fail
    go_ret
    exact ⟨ret_int hv.out.symm, Below.refl _ _⟩
  · have h1 : decide (most < (ids.length : Int)) = false := by simpa using hlong
    have HV : Hid (idsErr ids most = fstErr (idAt ids) ids.length) := by show _ = _; unfold idsErr; rw [if_neg hlong]
    clear hlong
    go_enter Tryz.func66, Tryz.ntmps66
    go_wp2_with fail
    go_loopw [14] (fun t wr => ∃ i : Nat, i ≤ ids.length ∧ t = .int .i64 i ∧ Hid (fstErr (idAt ids) i = 0) ∧ Hid (Below w.heap.size w wr)) (fun t _ => ids.length - (intOf t).toNat)
    case atStart => exact ⟨0, by omega, rfl, rfl, Below.refl _ _⟩
    case round =>
      obtain ⟨i, hi, rfl, h0, hb⟩ := hrel
      by_cases hlt : i < ids.length
      · have hin := HH.out.below hb.out
        obtain ⟨b, off, rfl, hbl, hc⟩ := HR.out.at_ hin hlt (by omega)
        have c0 : wr.cell? ⟨b, off + i * 2, none⟩ = some (.int .i64 ids[i].kind) := hc 0 (by omega)
        have c1 : wr.cell? ⟨b, off + i * 2 + 1, none⟩ = some (.string ids[i].text) := hc 1 (by omega)
        have HAT := Lib.hid (idAt_at hlt)
        have HBAD : Hid (∀ n, idAt ids i = n → n ≠ 0 → idsErr ids most = n) := fun n h1 h2 => HV.out.trans ((fstErr_bad hlt h0.out (by rw [h1]; exact h2)).trans h1)
        have HNX : Hid (idAt ids i = 0 → fstErr (idAt ids) (i + 1) = 0) := fun h1 => fstErr_next h0.out h1
        have hks := HS.out _ (List.getElem_mem hlt)
        clear hc
        generalize ids[i] = d at *
        have z0 : (wr.alloc (.cells #[.int .i64 d.kind, .string d.text] 32)).cell? ⟨wr.heap.size, 0, none⟩ = some (.int .i64 d.kind) := newc 0 rfl
        have z1 : (wr.alloc (.cells #[.int .i64 d.kind, .string d.text] 32)).cell? ⟨wr.heap.size, 1, none⟩ = some (.string d.text) := newc 1 rfl
        have HBN := Lib.hid (new1 (w := wr) (.cells #[.int .i64 d.kind, .string d.text] 32))
        go_upto_region 6 with (fail)
        clear c0 c1
        generalize wr.alloc (.cells #[.int .i64 d.kind, .string d.text] 32) = W1 at *
        have HB1 := Lib.hid (hb.out.trans (HBN.out.mono hb.out.size))
        have HIN1 := Lib.hid (hin.below HBN.out)
        clear hb h0 HBN hin
        go_wp2_with fail
        refine (HCI.out d.kind d.text _ HIN1.out hks).mono ?_
        rintro e W2 ⟨rfl, hb2⟩
        have HB2 := Lib.hid (HB1.out.trans (hb2.mono HB1.out.size))
        clear hb2 z0 z1
        generalize idErr d.kind d.text = ie at HAT ⊢
        by_cases g3 : ie = 0
        · have k3 : (ie != 0) = false := by simpa using g3
          have hok := Lib.hid (HNX.out (HAT.out.trans g3))
          clear g3
          go_wp2_with fail
          go_roundw
          case rel => exact ⟨i + 1, by omega, by go_num, hok, HB2⟩
          case measure => simp [intOf]; omega
        · have k3 : (ie != 0) = true := by simpa using g3
          have hv := Lib.hid (HBAD.out ie HAT.out g3)
          clear g3
          go_wp2_with fail
          go_ret
          exact ⟨ret_int hv.out.symm, HB2.out⟩
      · have hie : i = ids.length := by omega
        subst hie
        have hv := Lib.hid (HV.out.trans h0.out)
        go_wp2_with fail
        go_ret
        exact ⟨ret_int hv.out.symm, hb.out⟩
set_option maxHeartbeats 2000000 in
set_option maxRecDepth 100000 in
theorem qCheck_any (H : Frz) (A : Option Addr) (cap : Nat) (ps : List PurD) (purp region : ByteArray) (ch at_ : Int) (w : World) (hH : H.In w) (hP : PolIn H A ps) (hs : PurSorted ps) (hl : ps.length ≤ 1000000) (hsz : region.size ≤ 1000000) :
    Calls Tryz.prog 67 #[.agg #[.slice A ps.length cap, .string purp, .string region, .int .i64 ch, .int .i64 at_]] w fun e w' => e = .returned (.int .i64 (queErr ps purp region ch at_)) ∧ Below w.heap.size w w' := by
  have HV : Hid (queErr ps purp region ch at_ = if (purF ps purp).isNone = true then 8 else if isKey region = false then 5 else if chB ch = false then 4 else if ¬ (0 ≤ at_ ∧ at_ ≤ 4321439) then 1 else 0) := rfl
  have HB := Lib.hid (new1 (w := w) (.cells #[.slice A ps.length cap, .string purp, .string region, .int .i64 ch, .int .i64 at_] 85))
  have HPO := Lib.hid (purposeOf_any H A cap ps purp _ (hH.alloc (.cells #[.slice A ps.length cap, .string purp, .string region, .int .i64 ch, .int .i64 at_] 85)) hP hs hl)
  have HK := Lib.hid (heap_alloc_new w (.cells #[.slice A ps.length cap, .string purp, .string region, .int .i64 ch, .int .i64 at_] 85))
  clear hH hP hs
  go_enter Tryz.func67, Tryz.ntmps67
  go_wp2_with fail
  refine HPO.out.mono ?_
  rintro e w1 ⟨rfl, hb⟩
  have HPV : Hid (∃ nm sl, purV (purF ps purp) = .agg #[.string nm, sl] ∧ sl.oneCell' = true) := by
    show ∃ _, _
    cases purF ps purp with
    | none => exact ⟨_, _, rfl, rfl⟩
    | some p => exact ⟨_, _, rfl, rfl⟩
  obtain ⟨nm, sl, hpv, hpo⟩ := HPV.out
  rw [hpv]
  have HSN : Hid ((purF ps purp).isSome = !(purF ps purp).isNone) := by show _ = _; cases purF ps purp <;> rfl
  generalize (purF ps purp).isNone = nn at HV HSN
  generalize (purF ps purp).isSome = hs at HSN ⊢
  have hk1 := (hb.block _ (lt_of_heap HK.out)).trans HK.out
  have hk2 := (heap_lt (o := .cells #[.string nm, sl] 58) (lt_of_heap hk1)).trans hk1
  have HB1 := Lib.hid (HB.out.trans (hb.mono HB.out.size))
  have HB2 := Lib.hid (HB1.out.alloc HB1.out.size (.cells #[.string nm, sl] 58))
  have hst : ∀ (ad : Addr) (mo : Mode) (W : World), Sem.run Tryz.prog (store ad sl mo) W = stored Tryz.prog W ad sl mo := fun ad mo W => run_store _ W ad _ mo hpo
  have q2 : (w1.alloc (.cells #[.string nm, sl] 58)).cell? ⟨w.heap.size, 2, none⟩ = some (.string region) := cell_h hk2 2 rfl
  have q3 : (w1.alloc (.cells #[.string nm, sl] 58)).cell? ⟨w.heap.size, 3, none⟩ = some (.int .i64 ch) := cell_h hk2 3 rfl
  have q4 : (w1.alloc (.cells #[.string nm, sl] 58)).cell? ⟨w.heap.size, 4, none⟩ = some (.int .i64 at_) := cell_h hk2 4 rfl
  clear hk1 hk2 hb HPO HK HPV hpv hpo
  go_upto_region 2 with (fail)
  generalize w1.alloc (.cells #[.string nm, sl] 58) = W2 at *
  clear hst
  cases nn with
  | true =>
    have hv := Lib.hid (HV.out.trans (if_pos rfl))
    obtain rfl := HSN.out
    go_wp2_with fail
    go_ret
    exact ⟨ret_int hv.out.symm, HB2.out⟩
  | false =>
    have HV1 := Lib.hid (HV.out.trans (if_neg (by simp)))
    obtain rfl := HSN.out
    go_wp2_with fail
    refine (isKey_any region _ (by omega)).mono ?_
    rintro e w' ⟨rfl, rfl⟩
    generalize isKey region = kr at HV1 ⊢
    cases kr with
    | false =>
      have hv := Lib.hid (HV1.out.trans (if_pos rfl))
      go_wp2_with fail
      go_ret
      exact ⟨ret_int hv.out.symm, HB2.out⟩
    | true =>
      have HV2 := Lib.hid (HV1.out.trans (if_neg (by simp)))
      go_wp2_with fail
      refine (isChannel_any ch _).mono ?_
      rintro e w' ⟨rfl, rfl⟩
      generalize chB ch = kc at HV2 ⊢
      cases kc with
      | false =>
        have hv := Lib.hid (HV2.out.trans (if_pos rfl))
        go_wp2_with fail
        go_ret
        exact ⟨ret_int hv.out.symm, HB2.out⟩
      | true =>
        have HV3 := Lib.hid (HV2.out.trans (if_neg (by simp)))
        go_wp2_with fail
        refine (cwithin_any _ _ _ _).mono ?_
        rintro e w' ⟨rfl, rfl⟩
        by_cases g5 : 0 ≤ at_ ∧ at_ ≤ 4321439
        · rw [show (decide ((0 : Int) ≤ at_) && decide (at_ ≤ 4321439)) = true by simp; omega]
          have hv := Lib.hid (HV3.out.trans (if_neg (by simpa using g5)))
          clear g5
          go_wp2_with fail
          go_ret
          exact ⟨ret_int hv.out.symm, HB2.out⟩
        · rw [show (decide ((0 : Int) ≤ at_) && decide (at_ ≤ 4321439)) = false by simp; omega]
          have hv := Lib.hid (HV3.out.trans (if_pos g5))
          clear g5
          go_wp2_with fail
          go_ret
          exact ⟨ret_int hv.out.symm, HB2.out⟩
def allErr (ps : List PurD) (ss : List StD) (ids : List IdD) (most : Int) (purp region : ByteArray) (ch at_ : Int) : Int :=
  if sayErr idErr ps ss ≠ 0 then sayErr idErr ps ss else if idsErr ids most ≠ 0 then idsErr ids most else queErr ps purp region ch at_
theorem say_pol {idE : Int → ByteArray → Int} {ps : List PurD} {ss : List StD} (h : sayErr idE ps ss = 0) : polErr ps = 0 := by
  unfold sayErr at h
  split at h
  · rename_i c; exact absurd h c
  · rename_i c; exact Classical.not_not.1 c
set_option maxHeartbeats 2000000 in
set_option maxRecDepth 100000 in
theorem checkAll_any (H : Frz) (hM : MLen H) (A : Option Addr) (cap : Nat) (ps : List PurD) (A2 : Option Addr) (cap2 : Nat) (ss : List StD) (A3 : Option Addr) (cap3 : Nat) (ids : List IdD) (most : Int) (purp region : ByteArray) (ch at_ : Int) (w : World) (hH : H.In w)
    (hP : PolIn H A ps) (hl : ps.length ≤ 1000000) (hR : Rw H A2 8 fSt ss) (hl2 : ss.length ≤ 1000000) (hsz : SzSt ss) (hR3 : Rw H A3 2 fId ids) (hl3 : ids.length ≤ 1000000) (hsz3 : ∀ x ∈ ids, x.text.size ≤ 1000000) (hrz : region.size ≤ 1000000) :
    Calls Tryz.prog 36 #[.agg #[.slice A ps.length cap, .string purp, .string region, .int .i64 ch, .int .i64 at_], .slice A2 ss.length cap2, .int .i64 most, .slice A3 ids.length cap3] w fun e w' => e = .returned (.int .i64 (allErr ps ss ids most purp region ch at_)) ∧ Below w.heap.size w w' := by
  have HV : Hid (allErr ps ss ids most purp region ch at_ = if sayErr idErr ps ss ≠ 0 then sayErr idErr ps ss else if idsErr ids most ≠ 0 then idsErr ids most else queErr ps purp region ch at_) := rfl
  have HB := Lib.hid (new1 (w := w) (.cells #[.slice A ps.length cap, .string purp, .string region, .int .i64 ch, .int .i64 at_] 85))
  have HK := Lib.hid (heap_alloc_new w (.cells #[.slice A ps.length cap, .string purp, .string region, .int .i64 ch, .int .i64 at_] 85))
  have HIN := Lib.hid (hH.alloc (.cells #[.slice A ps.length cap, .string purp, .string region, .int .i64 ch, .int .i64 at_] 85))
  have HCK := Lib.hid (fun W (hW : H.In W) => check_any H hM A cap ps A2 cap2 ss W hW hP hl hR hl2 hsz)
  have HCI := Lib.hid (fun W (hW : H.In W) => checkIds_any H hM A3 cap3 ids most W hW hR3 hl3 hsz3)
  have HCQ := Lib.hid (fun (h0 : sayErr idErr ps ss = 0) W (hW : H.In W) => qCheck_any H A cap ps purp region ch at_ W hW hP (pol_right (say_pol h0)).1 hl hrz)
  clear hH hP hR hsz hR3 hsz3
  generalize sayErr idErr ps ss = se at HV HCK HCQ
  generalize idsErr ids most = ie at HV HCI
  generalize queErr ps purp region ch at_ = qe at HV HCQ
  go_enter Tryz.func36, Tryz.ntmps36
  go_wp2_with fail
  refine (HCK.out _ HIN.out).mono ?_
  rintro e w1 ⟨rfl, hb⟩
  have HK1 := Lib.hid ((hb.block _ (lt_of_heap HK.out)).trans HK.out)
  have HIN1 := Lib.hid (HIN.out.below hb)
  have HB1 := Lib.hid (HB.out.trans (hb.mono HB.out.size))
  clear hb HK HIN HB HCK
  by_cases g1 : se = 0
  · have k1 : (se != 0) = false := by simpa using g1
    have HV1 := Lib.hid (HV.out.trans (if_neg (by simpa using g1)))
    have HCQ1 := Lib.hid (HCQ.out g1)
    clear g1 HV HCQ
    go_wp2_with fail
    refine (HCI.out _ HIN1.out).mono ?_
    rintro e w2 ⟨rfl, hb⟩
    have hk2 := (hb.block _ (lt_of_heap HK1.out)).trans HK1.out
    have HIN2 := Lib.hid (HIN1.out.below hb)
    have HB2 := Lib.hid (HB1.out.trans (hb.mono HB1.out.size))
    have q0 : w2.cell? ⟨w.heap.size, 0, none⟩ = some (.slice A ps.length cap) := cell_h hk2 0 rfl
    have q1 : w2.cell? ⟨w.heap.size, 1, none⟩ = some (.string purp) := cell_h hk2 1 rfl
    have q2 : w2.cell? ⟨w.heap.size, 2, none⟩ = some (.string region) := cell_h hk2 2 rfl
    have q3 : w2.cell? ⟨w.heap.size, 3, none⟩ = some (.int .i64 ch) := cell_h hk2 3 rfl
    have q4 : w2.cell? ⟨w.heap.size, 4, none⟩ = some (.int .i64 at_) := cell_h hk2 4 rfl
    clear hb HK1 HIN1 HB1 HCI hk2
    by_cases g2 : ie = 0
    · have k2 : (ie != 0) = false := by simpa using g2
      have HV2 := Lib.hid (HV1.out.trans (if_neg (by simpa using g2)))
      clear g2 HV1
      go_wp2_with fail
      refine (HCQ1.out _ HIN2.out).mono ?_
      rintro e w3 ⟨rfl, hb⟩
      have HB3 := Lib.hid (HB2.out.trans (hb.mono HB2.out.size))
      clear hb q0 q1 q2 q3 q4
      go_wp2_with fail
      go_ret
      exact ⟨ret_int HV2.out.symm, HB3.out⟩
    · have k2 : (ie != 0) = true := by simpa using g2
      have hv := Lib.hid (HV1.out.trans (if_pos g2))
      clear g2
      go_wp2_with fail
      go_ret
      exact ⟨ret_int hv.out.symm, HB2.out⟩
  · have k1 : (se != 0) = true := by simpa using g1
    have hv := Lib.hid (HV.out.trans (if_pos g1))
    clear g1
    go_wp2_with fail
    go_ret
    exact ⟨ret_int hv.out.symm, HB1.out⟩
end Go.Proofs.YtmlpfbffecdepaaGreatDoor

/- Ids are equal. -/
namespace Go.Proofs.YtmlpfbffecdepaaGreatDoor
set_option linter.unusedVariables false
open Go.RowKit
def eqId (a b : IdD) : Bool := decide (a.kind = b.kind) && eqS a.text b.text
theorem eqId_iff {a b : IdD} : eqId a b = true ↔ a = b := by
  unfold eqId
  rw [Bool.and_eq_true, eqS_iff]
  constructor
  · rintro ⟨h1, h2⟩
    have h1 := of_decide_eq_true h1
    cases a; cases b; simp_all
  · rintro rfl; simp
theorem eqId_self (a : IdD) : eqId a a = true := eqId_iff.2 rfl
end Go.Proofs.YtmlpfbffecdepaaGreatDoor

/- Consents: a question of one id; May. -/
namespace Go.Proofs.YtmlpfbffecdepaaGreatDoor
set_option linter.unusedVariables false
open Go.RowKit
def AskPost (w : World) (o : Option TermD) (purp : ByteArray) (ss : List StD) (e : Ending) (w' : World) : Prop :=
  ∃ v, e = .returned (.agg #[.string (o.getD zeroTe).region, .int .i64 (o.getD zeroTe).ch, .bool (o.getD zeroTe).free, .int .i64 (o.getD zeroTe).days, .int .i64 (o.getD zeroTe).wait, .bool o.isSome, .string purp, v]) ∧ Orow w' w.heap.size 38 8 fSt v ss ∧ Below w.heap.size w w'
theorem terV_eq (o : Option TermD) : ∃ t : TermD, t = o.getD zeroTe ∧ terV o = .agg #[.string t.region, .int .i64 t.ch, .bool t.free, .int .i64 t.days, .int .i64 t.wait] := ⟨_, rfl, by cases o <;> rfl⟩
set_option maxHeartbeats 4000000 in
set_option maxRecDepth 100000 in
theorem ask_any (H : Frz) (A : Option Addr) (cap : Nat) (ps : List PurD) (purp region : ByteArray) (ch at_ : Int) (A2 : Option Addr) (cap2 : Nat) (ss : List StD) (kind : Int) (text : ByteArray) (w : World) (hH : H.In w) (hP : PolIn H A ps) (hs : PurSorted ps) (hts : ∀ p ∈ ps, TerSorted p.terms) (hl : ps.length ≤ 1000000)
    (hR : Rw H A2 8 fSt ss) (hl2 : ss.length < 20) :
    Calls Tryz.prog 37 #[.agg #[.slice A ps.length cap, .string purp, .string region, .int .i64 ch, .int .i64 at_], .slice A2 ss.length cap2, .agg #[.int .i64 kind, .string text]] w (AskPost w (termF ps purp region ch) purp (saidF ss kind text ch)) := by
  have hsz : (((w.alloc (.cells #[.slice A ps.length cap, .string purp, .string region, .int .i64 ch, .int .i64 at_] 85)).alloc (.cells #[.int .i64 kind, .string text] 32)).alloc (.cells #[.string zeroTe.region, .int .i64 zeroTe.ch, .bool zeroTe.free, .int .i64 zeroTe.days, .int .i64 zeroTe.wait, .bool false, .string ⟨#[]⟩, .slice none 0 0] 89)).heap.size = w.heap.size + 3 := by simp
  have hk1 : (((w.alloc (.cells #[.slice A ps.length cap, .string purp, .string region, .int .i64 ch, .int .i64 at_] 85)).alloc (.cells #[.int .i64 kind, .string text] 32)).alloc (.cells #[.string zeroTe.region, .int .i64 zeroTe.ch, .bool zeroTe.free, .int .i64 zeroTe.days, .int .i64 zeroTe.wait, .bool false, .string ⟨#[]⟩, .slice none 0 0] 89)).heap[w.heap.size]? = some (.cells #[.slice A ps.length cap, .string purp, .string region, .int .i64 ch, .int .i64 at_] 85) := (heap_lt (by simp; omega)).trans ((heap_lt (by simp)).trans (heap_alloc_new _ _))
  have hk2 : (((w.alloc (.cells #[.slice A ps.length cap, .string purp, .string region, .int .i64 ch, .int .i64 at_] 85)).alloc (.cells #[.int .i64 kind, .string text] 32)).alloc (.cells #[.string zeroTe.region, .int .i64 zeroTe.ch, .bool zeroTe.free, .int .i64 zeroTe.days, .int .i64 zeroTe.wait, .bool false, .string ⟨#[]⟩, .slice none 0 0] 89)).heap[w.heap.size + 1]? = some (.cells #[.int .i64 kind, .string text] 32) := (heap_lt (by simp)).trans (heap_at (by simp))
  have hk3 : (((w.alloc (.cells #[.slice A ps.length cap, .string purp, .string region, .int .i64 ch, .int .i64 at_] 85)).alloc (.cells #[.int .i64 kind, .string text] 32)).alloc (.cells #[.string zeroTe.region, .int .i64 zeroTe.ch, .bool zeroTe.free, .int .i64 zeroTe.days, .int .i64 zeroTe.wait, .bool false, .string ⟨#[]⟩, .slice none 0 0] 89)).heap[w.heap.size + 2]? = some (.cells #[.string zeroTe.region, .int .i64 zeroTe.ch, .bool zeroTe.free, .int .i64 zeroTe.days, .int .i64 zeroTe.wait, .bool false, .string ⟨#[]⟩, .slice none 0 0] 89) := heap_at (by simp)
  have HB := Lib.hid ((new2 (w := w) (.cells #[.slice A ps.length cap, .string purp, .string region, .int .i64 ch, .int .i64 at_] 85) (.cells #[.int .i64 kind, .string text] 32)).alloc (by simp; omega) (.cells #[.string zeroTe.region, .int .i64 zeroTe.ch, .bool zeroTe.free, .int .i64 zeroTe.days, .int .i64 zeroTe.wait, .bool false, .string ⟨#[]⟩, .slice none 0 0] 89))
  have HIN := Lib.hid (((hH.alloc (.cells #[.slice A ps.length cap, .string purp, .string region, .int .i64 ch, .int .i64 at_] 85)).alloc (.cells #[.int .i64 kind, .string text] 32)).alloc (.cells #[.string zeroTe.region, .int .i64 zeroTe.ch, .bool zeroTe.free, .int .i64 zeroTe.days, .int .i64 zeroTe.wait, .bool false, .string ⟨#[]⟩, .slice none 0 0] 89))
  have HTE := Lib.hid (fun W (hW : H.In W) => termOf_any H A cap ps purp region ch W hW hP hs hts hl)
  have HSD := Lib.hid (fun W (hW : H.In W) => saidBy_any H A2 cap2 ss kind text ch W hW hR hl2)
  have HK1 := Lib.hid hk1
  have HK2 := Lib.hid hk2
  have HK3 := Lib.hid hk3
  clear hsz hk1 hk2 hk3 hH hP hs hts hR
  generalize termF ps purp region ch = o at HTE ⊢
  generalize saidF ss kind text ch = sd at HSD ⊢
  unfold zeroTe at HK1 HK2 HK3 HB HIN
  simp only at HK1 HK2 HK3 HB HIN
  go_enter Tryz.func37, Tryz.ntmps37
  go_wp2_with fail
  refine (HTE.out _ HIN.out).mono ?_
  rintro e w1 ⟨rfl, hb⟩
  obtain ⟨t, ht, htv⟩ := terV_eq o
  rw [htv]
  have hk1 := (hb.block _ (lt_of_heap HK1.out)).trans HK1.out
  have hk2 := (hb.block _ (lt_of_heap HK2.out)).trans HK2.out
  have hk3 := (hb.block _ (lt_of_heap HK3.out)).trans HK3.out
  have HB1 := Lib.hid (HB.out.trans (hb.mono HB.out.size))
  have HIN1 := Lib.hid (HIN.out.below hb)
  have HB2 := Lib.hid (HB1.out.alloc HB1.out.size (.cells #[.string t.region, .int .i64 t.ch, .bool t.free, .int .i64 t.days, .int .i64 t.wait] 60))
  have HIN2 := Lib.hid (HIN1.out.alloc (.cells #[.string t.region, .int .i64 t.ch, .bool t.free, .int .i64 t.days, .int .i64 t.wait] 60))
  have z0 : (w1.alloc (.cells #[.string t.region, .int .i64 t.ch, .bool t.free, .int .i64 t.days, .int .i64 t.wait] 60)).cell? ⟨w1.heap.size, 0, none⟩ = some (.string t.region) := newc 0 rfl
  have z1 : (w1.alloc (.cells #[.string t.region, .int .i64 t.ch, .bool t.free, .int .i64 t.days, .int .i64 t.wait] 60)).cell? ⟨w1.heap.size, 1, none⟩ = some (.int .i64 t.ch) := newc 1 rfl
  have z2 : (w1.alloc (.cells #[.string t.region, .int .i64 t.ch, .bool t.free, .int .i64 t.days, .int .i64 t.wait] 60)).cell? ⟨w1.heap.size, 2, none⟩ = some (.bool t.free) := newc 2 rfl
  have z3 : (w1.alloc (.cells #[.string t.region, .int .i64 t.ch, .bool t.free, .int .i64 t.days, .int .i64 t.wait] 60)).cell? ⟨w1.heap.size, 3, none⟩ = some (.int .i64 t.days) := newc 3 rfl
  have z4 : (w1.alloc (.cells #[.string t.region, .int .i64 t.ch, .bool t.free, .int .i64 t.days, .int .i64 t.wait] 60)).cell? ⟨w1.heap.size, 4, none⟩ = some (.int .i64 t.wait) := newc 4 rfl
  have hk1a := (heap_lt (o := (.cells #[.string t.region, .int .i64 t.ch, .bool t.free, .int .i64 t.days, .int .i64 t.wait] 60)) (lt_of_heap hk1)).trans hk1
  have hk2a := (heap_lt (o := (.cells #[.string t.region, .int .i64 t.ch, .bool t.free, .int .i64 t.days, .int .i64 t.wait] 60)) (lt_of_heap hk2)).trans hk2
  have hk3a := (heap_lt (o := (.cells #[.string t.region, .int .i64 t.ch, .bool t.free, .int .i64 t.days, .int .i64 t.wait] 60)) (lt_of_heap hk3)).trans hk3
  have q1 : (w1.alloc (.cells #[.string t.region, .int .i64 t.ch, .bool t.free, .int .i64 t.days, .int .i64 t.wait] 60)).cell? ⟨w.heap.size, 1, none⟩ = some (.string purp) := cell_h hk1a 1 rfl
  have q3 : (w1.alloc (.cells #[.string t.region, .int .i64 t.ch, .bool t.free, .int .i64 t.days, .int .i64 t.wait] 60)).cell? ⟨w.heap.size, 3, none⟩ = some (.int .i64 ch) := cell_h hk1a 3 rfl
  have i0 : (w1.alloc (.cells #[.string t.region, .int .i64 t.ch, .bool t.free, .int .i64 t.days, .int .i64 t.wait] 60)).cell? ⟨w.heap.size + 1, 0, none⟩ = some (.int .i64 kind) := cell_h hk2a 0 rfl
  have i1 : (w1.alloc (.cells #[.string t.region, .int .i64 t.ch, .bool t.free, .int .i64 t.days, .int .i64 t.wait] 60)).cell? ⟨w.heap.size + 1, 1, none⟩ = some (.string text) := cell_h hk2a 1 rfl
  have HK3A := Lib.hid hk3a
  have HTT := Lib.hid ht
  generalize hhas : o.isSome = has
  have HHAS := Lib.hid hhas
  clear hhas
  clear hb hk1 hk2 hk3 hk1a hk2a hk3a HK1 HK2 HK3 HB HIN HB1 HIN1 htv ht HTE
  go_upto_region 2 with (fail)
  generalize w1.alloc (.cells #[.string t.region, .int .i64 t.ch, .bool t.free, .int .i64 t.days, .int .i64 t.wait] 60) = W2 at *
  have K0 := lift_cell z0
  have K1 := lift_cell z1
  have K2 := lift_cell z2
  have K3 := lift_cell z3
  have K4 := lift_cell z4
  have L1 := lift_cell q1
  have L3 := lift_cell q3
  have M0 := lift_cell i0
  have M1 := lift_cell i1
  clear z0 z1 z2 z3 z4 q1 q3 i0 i1
  have hwq : w.heap.size ≤ W2.heap.size := HB2.out.size
  (refine wp_region_detE 8 31 (fun W => Below (W2).heap.size (W2) W) (fun v W => Orow W W2.heap.size 38 8 fSt v sd) (by kernel_rfl) (by kernel_rfl) (by rfl) (fun _ _ _ hb h => Orow.below h hb) (Below.refl _ _).drew _ rfl rfl ?_; simp only [List.take_succ_cons, List.take_zero, List.drop_succ_cons, List.drop_zero])
  iterate 8 (refine detSeqE_op rfl ?_ (fun W hW => ?_) ?_; rotate_left; (focus simp only [OpV]; go_simp; first | exact rfl | (refine ⟨?_, Below.refl _ _⟩; exact rfl) | (refine ⟨?_, hW, Below.refl _ _⟩; exact rfl)))
  refine detSeqE_nil ⟨fun W hW => ?_, fun v W3 hW3 hO => ?_⟩
  · simp only [OpV]
    go_simp
    refine (HSD.out W (HIN2.out.below hW)).mono ?_
    rintro e w' ⟨v, rfl, hO, hb⟩
    exact ⟨v, rfl, hO.mono hW.size, det_back hW hb⟩
  · obtain ⟨Av, cv, rfl, hcv⟩ := hO.slice
    have hk3 := (hW3.block _ (lt_of_heap HK3A.out)).trans HK3A.out
    have HB3 := Lib.hid (HB2.out.trans (hW3.mono HB2.out.size))
    have HO3 := Lib.hid hO
    have x0 : W3.cell? ⟨w.heap.size + 2, 0, none⟩ = some (.string ⟨#[]⟩) := cell_h hk3 0 rfl
    have x1 : W3.cell? ⟨w.heap.size + 2, 1, none⟩ = some (.int .i64 0) := cell_h hk3 1 rfl
    have x2 : W3.cell? ⟨w.heap.size + 2, 2, none⟩ = some (.bool false) := cell_h hk3 2 rfl
    have x3 : W3.cell? ⟨w.heap.size + 2, 3, none⟩ = some (.int .i64 0) := cell_h hk3 3 rfl
    have x4 : W3.cell? ⟨w.heap.size + 2, 4, none⟩ = some (.int .i64 0) := cell_h hk3 4 rfl
    have x5 : W3.cell? ⟨w.heap.size + 2, 5, none⟩ = some (.bool false) := cell_h hk3 5 rfl
    have x6 : W3.cell? ⟨w.heap.size + 2, 6, none⟩ = some (.string ⟨#[]⟩) := cell_h hk3 6 rfl
    have x7 : W3.cell? ⟨w.heap.size + 2, 7, none⟩ = some (.slice none 0 0) := cell_h hk3 7 rfl
    have y0 := froz_h hk3 0
    have y1 := froz_h hk3 1
    have y2 := froz_h hk3 2
    have y3 := froz_h hk3 3
    have y4 := froz_h hk3 4
    have y5 := froz_h hk3 5
    have y6 := froz_h hk3 6
    have y7 := froz_h hk3 7
    have hq2 : w.heap.size + 2 < W2.heap.size := lt_of_heap HK3A.out
    have HK9 := Lib.hid (set8 hk3 (.string t.region) (.int .i64 t.ch) (.bool t.free) (.int .i64 t.days) (.int .i64 t.wait) (.bool has) (.string purp) (.slice Av sd.length cv))
    have HB9 := Lib.hid (below_set8 HB3.out (show w.heap.size ≤ w.heap.size + 2 by omega) (.string t.region) (.int .i64 t.ch) (.bool t.free) (.int .i64 t.days) (.int .i64 t.wait) (.bool has) (.string purp) (.slice Av sd.length cv))
    have HO9 := Lib.hid ((HO3.out.far (grown_set8 W3 (w.heap.size + 2) (.string t.region) (.int .i64 t.ch) (.bool t.free) (.int .i64 t.days) (.int .i64 t.wait) (.bool has) (.string purp) (.slice Av sd.length cv)) hq2).mono hwq)
    clear K0 K1 K2 K3 K4 L1 L3 M0 M1 hk3 hO hW3 HSD
    go_wp2_with fail
    have u0 := cell_h HK9.out 0 (v := .string t.region) rfl
    have u1 := cell_h HK9.out 1 (v := .int .i64 t.ch) rfl
    have u2 := cell_h HK9.out 2 (v := .bool t.free) rfl
    have u3 := cell_h HK9.out 3 (v := .int .i64 t.days) rfl
    have u4 := cell_h HK9.out 4 (v := .int .i64 t.wait) rfl
    have u5 := cell_h HK9.out 5 (v := .bool has) rfl
    have u6 := cell_h HK9.out 6 (v := .string purp) rfl
    have u7 := cell_h HK9.out 7 (v := .slice Av sd.length cv) rfl
    refine bodyPost_ret (v := .agg #[.string t.region, .int .i64 t.ch, .bool t.free, .int .i64 t.days, .int .i64 t.wait, .bool has, .string purp, .slice Av sd.length cv]) (by simp [results, Tryz.results37, go_sem, u0, u1, u2, u3, u4, u5, u6, u7]) rfl ⟨.slice Av sd.length cv, ?_, HO9.out, HB9.out⟩
    rw [← HTT.out, HHAS.out]
end Go.Proofs.YtmlpfbffecdepaaGreatDoor

/- Consents: May. -/
namespace Go.Proofs.YtmlpfbffecdepaaGreatDoor
set_option linter.unusedVariables false
open Go.RowKit
def mayA (ps : List PurD) (ss : List StD) (kind : Int) (text purp region : ByteArray) (ch at_ : Int) : AnsD :=
  if allErr ps ss [⟨kind, text⟩] 1 purp region ch at_ ≠ 0 then ⟨false, 0, 0⟩ else askF ps ss kind text purp region ch at_
theorem idsErr_one (kind : Int) (text : ByteArray) : idsErr [⟨kind, text⟩] 1 = idErr kind text := by
  unfold idsErr
  rw [if_neg (by simp)]
  rfl
theorem Frz.In.put {H : Frz} {w : World} (h : H.In w) (o : Obj) : ∃ H', H.Le H' ∧ H' w.heap.size = some o ∧ H'.In (w.alloc o) :=
  ⟨H.add w.heap.size o, Frz.le_add (h.none_ (Nat.le_refl _)), Frz.add_at _ _ _, (h.alloc o).add (heap_at rfl)⟩
theorem Rw_blk {D : Type} {H : Frz} {g T k : Nat} {f : D → Nat → Value} {ds : List D} (h : H g = some (.cells (cellsOf k f ds).toArray T (0, 0))) : Rw H (some ⟨g, 0, none⟩) k f ds := by
  intro i hi
  refine ⟨g, 0, rfl, fun j hj => ?_⟩
  unfold Frz.cell?
  rw [show (⟨g, 0 + i * k + j, none⟩ : Addr).block = g from rfl, h]
  have := cellsOf_get k f ds i j hi hj
  simpa using this
/-- What follows of there being no error. -/
theorem all_right {ps : List PurD} {ss : List StD} {ids : List IdD} {most : Int} {purp region : ByteArray} {ch at_ : Int} (h : allErr ps ss ids most purp region ch at_ = 0) :
    sayErr idErr ps ss = 0 ∧ idsErr ids most = 0 ∧ queErr ps purp region ch at_ = 0 := by
  unfold allErr at h
  split at h
  · rename_i c; exact absurd h c
  · rename_i c
    split at h
    · rename_i c2; exact absurd h c2
    · rename_i c2; exact ⟨Classical.not_not.1 c, Classical.not_not.1 c2, h⟩
theorem say_bd {ps : List PurD} {ss : List StD} (h : sayErr idErr ps ss = 0) : Bd ss := by
  intro s hs
  obtain ⟨i, hi, rfl⟩ := List.mem_iff_getElem.1 hs
  unfold sayErr at h
  split at h
  · rename_i c; exact absurd h c
  · split at h
    · omega
    · rw [fstErr_zero] at h
      have h2 := h i hi
      rw [stErr_at idErr hi] at h2
      split at h2
      · omega
      · split at h2
        · omega
        · split at h2
          · omega
          · rename_i c
            have := Classical.not_not.1 c
            omega
theorem que_at {ps : List PurD} {purp region : ByteArray} {ch at_ : Int} (h : queErr ps purp region ch at_ = 0) : 0 ≤ at_ ∧ at_ ≤ 4321439 := by
  unfold queErr at h
  split at h
  · omega
  · split at h
    · omega
    · split at h
      · omega
      · split at h
        · omega
        · rename_i c; exact Classical.not_not.1 c
theorem term_tb {ps : List PurD} (h : polErr ps = 0) {purp region : ByteArray} {ch : Int} : ∀ t, termF ps purp region ch = some t → TB t := by
  intro t ht
  unfold termF at ht
  cases e : purF ps purp with
  | none => rw [e] at ht; cases ht
  | some p =>
    rw [e] at ht
    simp only at ht
    have hp := List.mem_of_find?_eq_some e
    have htm := List.mem_of_find?_eq_some ht
    exact (tes_right ((pol_right h).2 p hp)).2 t htm
theorem said_bd {ss : List StD} (h : Bd ss) (kind : Int) (text : ByteArray) (ch : Int) : Bd (saidF ss kind text ch) := fun s hs => h s (List.mem_filter.1 ((isort_perm _ _).mem_iff.1 hs)).1
theorem said_len (ss : List StD) (kind : Int) (text : ByteArray) (ch : Int) : (saidF ss kind text ch).length ≤ ss.length := by
  unfold saidF
  rw [isort_length]
  exact List.length_filter_le _ _
set_option maxHeartbeats 4000000 in
set_option maxRecDepth 100000 in
theorem may_any (H : Frz) (hM : MLen H) (A : Option Addr) (cap : Nat) (ps : List PurD) (A2 : Option Addr) (cap2 : Nat) (ss : List StD) (kind : Int) (text purp region : ByteArray) (ch at_ : Int) (w : World) (hH : H.In w)
    (hP : PolIn H A ps) (hl : ps.length ≤ 1000000) (hR : Rw H A2 8 fSt ss) (hl2 : ss.length < 20) (hsz : SzSt ss) (htz : text.size ≤ 1000000) (hrz : region.size ≤ 1000000) :
    Calls Tryz.prog 47 #[.slice A ps.length cap, .slice A2 ss.length cap2, .agg #[.int .i64 kind, .string text], .string purp, .string region, .int .i64 ch, .int .i64 at_] w fun e w' => e = .returned (.tuple #[ansV (mayA ps ss kind text purp region ch at_), .int .i64 (allErr ps ss [⟨kind, text⟩] 1 purp region ch at_)]) ∧ Below w.heap.size w w' := by
  have hk1 : (((w.alloc (.cells #[.int .i64 kind, .string text] 32)).alloc (.cells #[.bool false, .int .i64 0, .int .i64 0] 92)).alloc (.cells #[.slice A ps.length cap, .string purp, .string region, .int .i64 ch, .int .i64 at_] 85)).heap[w.heap.size]? = some (.cells #[.int .i64 kind, .string text] 32) := (heap_lt (by simp; omega)).trans ((heap_lt (by simp)).trans (heap_alloc_new _ _))
  have hk2 : (((w.alloc (.cells #[.int .i64 kind, .string text] 32)).alloc (.cells #[.bool false, .int .i64 0, .int .i64 0] 92)).alloc (.cells #[.slice A ps.length cap, .string purp, .string region, .int .i64 ch, .int .i64 at_] 85)).heap[w.heap.size + 1]? = some (.cells #[.bool false, .int .i64 0, .int .i64 0] 92) := (heap_lt (by simp)).trans (heap_at (by simp))
  have hk3 : (((w.alloc (.cells #[.int .i64 kind, .string text] 32)).alloc (.cells #[.bool false, .int .i64 0, .int .i64 0] 92)).alloc (.cells #[.slice A ps.length cap, .string purp, .string region, .int .i64 ch, .int .i64 at_] 85)).heap[w.heap.size + 2]? = some (.cells #[.slice A ps.length cap, .string purp, .string region, .int .i64 ch, .int .i64 at_] 85) := heap_at (by simp)
  have HB := Lib.hid ((new2 (w := w) (.cells #[.int .i64 kind, .string text] 32) (.cells #[.bool false, .int .i64 0, .int .i64 0] 92)).alloc (by simp; omega) (.cells #[.slice A ps.length cap, .string purp, .string region, .int .i64 ch, .int .i64 at_] 85))
  have HIN := Lib.hid (((hH.alloc (.cells #[.int .i64 kind, .string text] 32)).alloc (.cells #[.bool false, .int .i64 0, .int .i64 0] 92)).alloc (.cells #[.slice A ps.length cap, .string purp, .string region, .int .i64 ch, .int .i64 at_] 85))
  have HK1 := Lib.hid hk1
  have HK2 := Lib.hid hk2
  have HK3 := Lib.hid hk3
  have HM := Lib.hid hM
  have HP := Lib.hid hP
  have HR := Lib.hid hR
  have HSZ := Lib.hid hsz
  have HMA : Hid (mayA ps ss kind text purp region ch at_ = if allErr ps ss [⟨kind, text⟩] 1 purp region ch at_ ≠ 0 then ⟨false, 0, 0⟩ else askF ps ss kind text purp region ch at_) := rfl
  have HER := Lib.hid (fun h0 : allErr ps ss [⟨kind, text⟩] 1 purp region ch at_ = 0 => all_right h0)
  clear hH hk1 hk2 hk3 hM hP hR hsz
  go_enter Tryz.func47, Tryz.ntmps47
  go_upto_region 2 with (fail)
  generalize ((w.alloc (.cells #[.int .i64 kind, .string text] 32)).alloc (.cells #[.bool false, .int .i64 0, .int .i64 0] 92)).alloc (.cells #[.slice A ps.length cap, .string purp, .string region, .int .i64 ch, .int .i64 at_] 85) = W0 at *
  have hk1 := HK1.out
  have hk3 := HK3.out
  have i0 : W0.cell? ⟨w.heap.size, 0, none⟩ = some (.int .i64 kind) := cell_h hk1 0 rfl
  have i1 : W0.cell? ⟨w.heap.size, 1, none⟩ = some (.string text) := cell_h hk1 1 rfl
  have q0 : W0.cell? ⟨w.heap.size + 2, 0, none⟩ = some (.slice A ps.length cap) := cell_h hk3 0 rfl
  have q1 : W0.cell? ⟨w.heap.size + 2, 1, none⟩ = some (.string purp) := cell_h hk3 1 rfl
  have q2 : W0.cell? ⟨w.heap.size + 2, 2, none⟩ = some (.string region) := cell_h hk3 2 rfl
  have q3 : W0.cell? ⟨w.heap.size + 2, 3, none⟩ = some (.int .i64 ch) := cell_h hk3 3 rfl
  have q4 : W0.cell? ⟨w.heap.size + 2, 4, none⟩ = some (.int .i64 at_) := cell_h hk3 4 rfl
  obtain ⟨H1, hle, hblk, hin1⟩ := HIN.out.put (.cells #[.int .i64 kind, .string text] 32)
  have hR1 : Rw H1 (some ⟨W0.heap.size, 0, none⟩) 2 fId [⟨kind, text⟩] := Rw_blk hblk
  have HCA := Lib.hid (checkAll_any H1 (HM.out.le hle) A cap ps A2 cap2 ss (some ⟨W0.heap.size, 0, none⟩) 1 [⟨kind, text⟩] 1 purp region ch at_ _ hin1 (HP.out.le hle) hl (HR.out.le hle) (by omega) HSZ.out hR1 (by simp) (fun x hx => by simp at hx; rw [hx]; exact htz) hrz)
  have HBN := Lib.hid (new1 (w := W0) (.cells #[.int .i64 kind, .string text] 32))
  have HIN1 := Lib.hid (HIN.out.alloc (.cells #[.int .i64 kind, .string text] 32))
  clear hk1 hk3 hle hblk hin1 hR1
  go_wp2_with fail
  refine HCA.out.mono ?_
  rintro e w1 ⟨rfl, hb⟩
  have hb2 := HBN.out.trans (hb.mono HBN.out.size)
  have HB1 := Lib.hid (HB.out.trans (hb2.mono HB.out.size))
  have HIN2 := Lib.hid (HIN1.out.below hb)
  have hk1 := (hb2.block _ (lt_of_heap HK1.out)).trans HK1.out
  have hk2 := (hb2.block _ (lt_of_heap HK2.out)).trans HK2.out
  have hk3 := (hb2.block _ (lt_of_heap HK3.out)).trans HK3.out
  clear i0 i1 q0 q1 q2 q3 q4 HCA HBN HIN HIN1 hb hb2 HK1 HK3 HB
  have a0 : w1.cell? ⟨w.heap.size + 1, 0, none⟩ = some (.bool false) := cell_h hk2 0 rfl
  have a1 : w1.cell? ⟨w.heap.size + 1, 1, none⟩ = some (.int .i64 0) := cell_h hk2 1 rfl
  have a2 : w1.cell? ⟨w.heap.size + 1, 2, none⟩ = some (.int .i64 0) := cell_h hk2 2 rfl
  have b0 := froz_h hk2 0
  have b1 := froz_h hk2 1
  have b2 := froz_h hk2 2
  generalize hal : allErr ps ss [⟨kind, text⟩] 1 purp region ch at_ = ae at HMA HER
  have HAL := Lib.hid hal
  clear hal
  by_cases g1 : ae = 0
  · have HV := Lib.hid (HMA.out.trans (if_neg (by simpa using g1)))
    obtain ⟨r1, r2, r3⟩ := HER.out g1
    have hpol := say_pol r1
    have hps := pol_right hpol
    have hat := que_at r3
    have hbd := said_bd (say_bd r1) kind text ch
    have hsl := said_len ss kind text ch
    have k1 : (ae != 0) = false := by simpa using g1
    have i0 : w1.cell? ⟨w.heap.size, 0, none⟩ = some (.int .i64 kind) := cell_h hk1 0 rfl
    have i1 : w1.cell? ⟨w.heap.size, 1, none⟩ = some (.string text) := cell_h hk1 1 rfl
    have q0 : w1.cell? ⟨w.heap.size + 2, 0, none⟩ = some (.slice A ps.length cap) := cell_h hk3 0 rfl
    have q1 : w1.cell? ⟨w.heap.size + 2, 1, none⟩ = some (.string purp) := cell_h hk3 1 rfl
    have q2 : w1.cell? ⟨w.heap.size + 2, 2, none⟩ = some (.string region) := cell_h hk3 2 rfl
    have q3 : w1.cell? ⟨w.heap.size + 2, 3, none⟩ = some (.int .i64 ch) := cell_h hk3 3 rfl
    have q4 : w1.cell? ⟨w.heap.size + 2, 4, none⟩ = some (.int .i64 at_) := cell_h hk3 4 rfl
    have HASK := Lib.hid (ask_any H A cap ps purp region ch at_ A2 cap2 ss kind text w1 HIN2.out HP.out hps.1 (fun p hp => (tes_right (hps.2 p hp)).1) hl HR.out hl2)
    have HTB := Lib.hid (term_tb hpol (purp := purp) (region := region) (ch := ch))
    have HBD := Lib.hid hbd
    have HSA := Lib.hid (saidF_at ss kind text ch)
    have HAF : Hid (askF ps ss kind text purp region ch at_ = answerF (termF ps purp region ch) purp (saidF ss kind text ch) at_) := rfl
    have HK2B := Lib.hid hk2
    have HG := Lib.hid g1
    clear g1 r1 r2 r3 hpol hps hbd hk1 hk2 hk3 HMA HER HK2
    generalize saidF ss kind text ch = sd at *
    generalize termF ps purp region ch = o at *
    go_wp2_with fail
    refine HASK.out.mono ?_
    rintro e w2 ⟨v, rfl, hO, hb⟩
    obtain ⟨A4, cap4, H2, hv, hle4, p1, p2, hR4, -⟩ := hO.freeze H
    subst hv
    have hin2 := p1 (HIN2.out.below hb)
    have HK2C := Lib.hid ((hb.block _ (lt_of_heap HK2B.out)).trans HK2B.out)
    have HB2 := Lib.hid (HB1.out.trans (hb.mono HB1.out.size))
    have HAN := Lib.hid (answer_any H2 A4 cap4 sd o purp at_ w2 hin2 hR4 HSA.out (by omega) hle4 HBD.out HTB.out (by omega) (by omega))
    clear hO p1 p2 hR4 hin2 hb i0 i1 q0 q1 q2 q3 q4 a0 a1 a2 b0 b1 b2 HASK HK2B HB1
    go_wp2_with fail
    refine HAN.out.mono ?_
    rintro e w3 ⟨rfl, hb⟩
    have hk2 := (hb.block _ (lt_of_heap HK2C.out)).trans HK2C.out
    have HB3 := Lib.hid (HB2.out.trans (hb.mono HB2.out.size))
    have a0 : w3.cell? ⟨w.heap.size + 1, 0, none⟩ = some (.bool false) := cell_h hk2 0 rfl
    have a1 : w3.cell? ⟨w.heap.size + 1, 1, none⟩ = some (.int .i64 0) := cell_h hk2 1 rfl
    have a2 : w3.cell? ⟨w.heap.size + 1, 2, none⟩ = some (.int .i64 0) := cell_h hk2 2 rfl
    have b0 := froz_h hk2 0
    have b1 := froz_h hk2 1
    have b2 := froz_h hk2 2
    rw [← HAF.out, ← HV.out]
    generalize hma : mayA ps ss kind text purp region ch at_ = ans
    have HMA := Lib.hid hma
    clear hma
    obtain ⟨am, ay, an⟩ := ans
    rw [show ansV ⟨am, ay, an⟩ = .agg #[.bool am, .int .i64 ay, .int .i64 an] from rfl]
    have HK9 := Lib.hid (set3 hk2 (.bool am) (.int .i64 ay) (.int .i64 an))
    have HB9 := Lib.hid (below_set3 HB3.out (show w.heap.size ≤ w.heap.size + 1 by omega) (.bool am) (.int .i64 ay) (.int .i64 an))
    clear hk2 hb
    go_wp2_with fail
    have u0 := cell_h HK9.out 0 (v := .bool am) rfl
    have u1 := cell_h HK9.out 1 (v := .int .i64 ay) rfl
    have u2 := cell_h HK9.out 2 (v := .int .i64 an) rfl
    refine bodyPost_ret (v := .tuple #[.agg #[.bool am, .int .i64 ay, .int .i64 an], .int .i64 0]) (by simp [results, Tryz.results47, go_sem, u0, u1, u2]) rfl ⟨?_, HB9.out⟩
    rw [HMA.out, HAL.out, HG.out]; rfl
  · have HV := Lib.hid (HMA.out.trans (if_pos g1))
    have k1 : (ae != 0) = true := by simpa using g1
    have HK9 := Lib.hid (set3 hk2 (.bool false) (.int .i64 0) (.int .i64 0))
    have HB9 := Lib.hid (below_set3 HB1.out (show w.heap.size ≤ w.heap.size + 1 by omega) (.bool false) (.int .i64 0) (.int .i64 0))
    clear g1 hk1 hk2 hk3
    go_wp2_with fail
    have u0 := cell_h HK9.out 0 (v := .bool false) rfl
    have u1 := cell_h HK9.out 1 (v := .int .i64 0) rfl
    have u2 := cell_h HK9.out 2 (v := .int .i64 0) rfl
    refine bodyPost_ret (v := .tuple #[.agg #[.bool false, .int .i64 0, .int .i64 0], .int .i64 ae]) (by simp [results, Tryz.results47, go_sem, u0, u1, u2]) rfl ⟨?_, HB9.out⟩
    rw [HV.out, HAL.out]; rfl
end Go.Proofs.YtmlpfbffecdepaaGreatDoor

/- Statements that are right, plain: a part of them is right. -/
namespace Go.Proofs.YtmlpfbffecdepaaGreatDoor
set_option linter.unusedVariables false
open Go.RowKit
/-- What is wrong with one statement, its number's order aside. -/
def stOne (ps : List PurD) (s : StD) : Int :=
  if ¬ (1 ≤ s.no ∧ s.no ≤ 1000000) then 1 else if ¬ (0 ≤ s.at_ ∧ s.at_ ≤ 4321439) then 1
  else if idErr s.kind s.text ≠ 0 then idErr s.kind s.text
  else if ¬ (chB s.ch = true ∧ 1 ≤ s.what ∧ s.what ≤ 5) then 4
  else if ofCh s.what = true ∧ ¬ s.purp.size = 0 then 3 else if ofCh s.what = false ∧ (purF ps s.purp).isNone = true then 8
  else if isKey s.region = false then 5 else 0
theorem stErr_zero {ps : List PurD} {ss : List StD} {i : Nat} (h : i < ss.length) : stErr idErr ps ss i = 0 ↔ (0 < i → (ss.getD (i - 1) ss[i]).no < ss[i].no) ∧ stOne ps ss[i] = 0 := by
  rw [stErr_at idErr h]
  unfold stOne
  generalize ss[i] = s
  generalize ss.getD (i - 1) s = t
  by_cases h1 : 1 ≤ s.no ∧ s.no ≤ 1000000
  · rw [if_neg (by omega), if_neg (show ¬ ¬ (1 ≤ s.no ∧ s.no ≤ 1000000) by omega)]
    by_cases h2 : 0 < i ∧ s.no ≤ t.no
    · rw [if_pos h2]
      constructor
      · intro c; cases c
      · rintro ⟨c, -⟩
        have := c h2.1
        omega
    · rw [if_neg h2]
      constructor
      · intro c
        exact ⟨fun h => by omega, c⟩
      · rintro ⟨-, c⟩
        exact c
  · rw [if_pos (by omega), if_pos (by omega)]
    constructor
    · intro c; cases c
    · rintro ⟨-, c⟩; cases c
theorem say_iff (ps : List PurD) (ss : List StD) : sayErr idErr ps ss = 0 ↔ polErr ps = 0 ∧ ss.length ≤ 3000 ∧ (ss.Pairwise fun a b => a.no < b.no) ∧ ∀ s ∈ ss, stOne ps s = 0 := by
  unfold sayErr
  by_cases hp : polErr ps = 0
  · rw [if_neg (by simpa using hp)]
    by_cases hl : 3000 < ss.length
    · rw [if_pos hl]
      constructor
      · intro c; cases c
      · rintro ⟨_, c, _⟩; omega
    · rw [if_neg hl, fstErr_zero]
      constructor
      · intro h
        refine ⟨hp, by omega, ?_, ?_⟩
        · rw [List.pairwise_iff_getElem]
          have : ∀ j (hj : j < ss.length) i (hi : i < j), (ss[i]'(by omega)).no < ss[j].no := by
            intro j
            induction j with
            | zero => intro _ i hi; omega
            | succ j ih =>
              intro hj i hi
              have h1 := ((stErr_zero hj).1 (h _ hj)).1 (by omega)
              have e : (ss.getD (j + 1 - 1) ss[j + 1]) = ss[j] := by rw [List.getD_eq_getElem?_getD, List.getElem?_eq_getElem (by omega)]; rfl
              rw [e] at h1
              by_cases c : i = j
              · subst c; exact h1
              · have := ih (by omega) i (by omega)
                omega
          intro i j hi hj hij
          exact this j hj i hij
        · intro s hs
          obtain ⟨i, hi, rfl⟩ := List.mem_iff_getElem.1 hs
          exact ((stErr_zero hi).1 (h i hi)).2
      · rintro ⟨_, _, h1, h2⟩ i hi
        rw [stErr_zero hi]
        refine ⟨fun h0 => ?_, h2 _ (List.getElem_mem hi)⟩
        have e : (ss.getD (i - 1) ss[i]) = ss[i - 1] := by rw [List.getD_eq_getElem?_getD, List.getElem?_eq_getElem (by omega)]; rfl
        rw [e]
        exact List.pairwise_iff_getElem.1 h1 (i - 1) i (by omega) hi (by omega)
  · rw [if_pos hp]
    constructor
    · intro c; exact absurd c hp
    · rintro ⟨c, _⟩; exact absurd c hp
theorem say_sub {ps : List PurD} {ss ss' : List StD} (h : sayErr idErr ps ss = 0) (hs : ss'.Sublist ss) : sayErr idErr ps ss' = 0 := by
  rw [say_iff] at h ⊢
  obtain ⟨a, b, c, d⟩ := h
  exact ⟨a, by have := hs.length_le; omega, c.sublist hs, fun s hm => d s (hs.subset hm)⟩
end Go.Proofs.YtmlpfbffecdepaaGreatDoor
