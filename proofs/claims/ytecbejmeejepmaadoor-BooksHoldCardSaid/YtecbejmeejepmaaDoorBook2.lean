/- Books of coupons: what is wrong with a code, a person and a moment. -/
import Derived.Test.YtecbejmeejepmaaDoorBook
namespace Go.Proofs.YtecbejmeejepmaaDoor
set_option linter.unusedVariables false
open Go.RowKit

def CkPost (ds : List CouponD) (code who : ByteArray) (at_ : Int) (w : World) (e : Ending) (w' : World) : Prop :=
  ((∃ n : Int, n ≠ 0 ∧ e = .returned (.tuple #[.agg #[.string ⟨#[]⟩, .string ⟨#[]⟩, .int .i64 0, .int .i64 0, .int .i64 0, .int .i64 0], .int .i64 n]) ∧ ∀ d, ¬ CkOK ds code who at_ d) ∨
   (∃ d, CkOK ds code who at_ d ∧ e = .returned (.tuple #[.agg #[.string d.code, .string d.offer, .int .i64 d.most, .int .i64 d.each, .int .i64 d.first, .int .i64 d.last], .int .i64 0]))) ∧ Below w.heap.size w w'
set_option maxHeartbeats 1000000 in
set_option maxRecDepth 20000 in
theorem check_any (H : Frz) (g : Nat) (ds : List CouponD) (us : List UseD) (hP : BF H g ds us) (code who : ByteArray) (at_ : Int) (hc : code.size ≤ 1000) (hw : who.size ≤ 1000) (w : World) (hH : H.In w) :
    Calls Tryd.prog 41 #[.pointer (some ⟨g, 0, none⟩), .string code, .string who, .int .i64 at_] w (CkPost ds code who at_ w) := by
  obtain ⟨bm, n, A, cap, hg, hM, hAh, l2, l4⟩ := hP
  obtain ⟨H2, hl2, hbx, hin2⟩ := hH.put (.cells #[.string ⟨#[]⟩, .string ⟨#[]⟩, .int .i64 0, .int .i64 0, .int .i64 0, .int .i64 0] 44)
  have HB := Lib.hid ((Below.refl w.heap.size w).alloc (Nat.le_refl _) (.cells #[.string ⟨#[]⟩, .string ⟨#[]⟩, .int .i64 0, .int .i64 0, .int .i64 0, .int .i64 0] 44))
  have HG := Lib.hid (hl2 _ _ hg)
  have HM := Lib.hid (hM.le hl2)
  have HIN := Lib.hid hin2
  have HBX := Lib.hid hbx
  have hgw : g < w.heap.size := hH.lt hg
  clear hg hM hAh hH hl2 hbx hin2
  go_enter Tryd.func41, Tryd.ntmps41
  go_wp2_with fail
  generalize hgz : w.heap.size = q0 at HBX
  generalize w.alloc _ = W1 at HB HIN
  refine (checkCode_any code W1 hc).mono ?_
  rintro e w' ⟨rfl, rfl⟩
  have hq : w.heap.size ≤ q0 := by omega
  clear hgz
  by_cases hce : codeErr code = 0
  · have HCE := Lib.hid hce
    rw [hce]
    clear hce
    obtain ⟨x0, x1⟩ := frz2 HIN.out HG.out
    have HMP := Lib.hid (HM.out.in_ HIN.out)
    have HK1 := Lib.hid (strKey (s := code) (by omega))
    cases hco : coOf ds code with
    | none =>
      have HCM : Hid (coMap ds (codeLit code) = none) := by show _ = _; rw [coMap_at, hco]; rfl
      have HCO := Lib.hid hco
      have HN : Hid (∀ d, ¬ CkOK ds code who at_ d) := fun d h => by have := h.2.1; rw [HCO.out] at this; cases this
      clear hco
      obtain ⟨H3, hl3, hbx3, hin3⟩ := HIN.out.put (.cells #[.string ⟨#[]⟩, .string ⟨#[]⟩, .int .i64 0, .int .i64 0, .int .i64 0, .int .i64 0] 44)
      have HIN3 := Lib.hid hin3
      have HBX3 := Lib.hid (hl3 _ _ HBX.out)
      have HBY3 := Lib.hid hbx3
      have HB3 := Lib.hid (HB.out.alloc HB.out.size (.cells #[.string ⟨#[]⟩, .string ⟨#[]⟩, .int .i64 0, .int .i64 0, .int .i64 0, .int .i64 0] 44))
      clear hl3 hbx3 hin3
      go_upto_region 5 with (at_lookup; refine wpList_mp_no _ rfl _ _ 69 rfl 9 44 strKeyed Tryd.underlying69 _ (zeroCoupon _) bm n (coMap ds) rfl HMP.out _ _ rfl HK1.out HCM.out ?_)
      clear x0 x1
      generalize hg3 : W1.heap.size = q3 at HBY3
      generalize W1.alloc _ = W3 at HIN3 HB3
      have hq3 : q0 < W3.heap.size := HIN3.out.lt HBX3.out
      have hq4 : q3 < W3.heap.size := HIN3.out.lt HBY3.out
      have HBS : Hid (∀ (v0 v1 v2 v3 v4 v5 : Value), Below w.heap.size w ((((((W3.setCell ⟨q0, 0, none⟩ v0).setCell ⟨q0, 1, none⟩ v1).setCell ⟨q0, 2, none⟩ v2).setCell ⟨q0, 3, none⟩ v3).setCell ⟨q0, 4, none⟩ v4).setCell ⟨q0, 5, none⟩ v5)) := fun v0 v1 v2 v3 v4 v5 => ((((((HB3.out.setCell hq _).setCell hq _).setCell hq _).setCell hq _).setCell hq _).setCell hq _)
      obtain ⟨z0, z1, z2, z3, z4, z5⟩ := frz6 HIN3.out HBX3.out
      have f0 := frzF HIN3.out HBX3.out 0
      have f1 := frzF HIN3.out HBX3.out 1
      have f2 := frzF HIN3.out HBX3.out 2
      have f3 := frzF HIN3.out HBX3.out 3
      have f4 := frzF HIN3.out HBX3.out 4
      have f5 := frzF HIN3.out HBX3.out 5
      go_wp2_with fail
      try simp only [Exit.inBlock, Exit.then]
      refine bodyPost_ret (by simp [results, Tryd.results41, go_sem, z0, z1, z2, z3, z4, z5]; try rfl) rfl ?_
      exact ⟨Or.inl ⟨8, by omega, rfl, HN.out⟩, HBS.out _ _ _ _ _ _⟩
    | some d =>
      have HCM : Hid (coMap ds (codeLit code) = some (.agg #[.string d.code, .string d.offer, .int .i64 d.most, .int .i64 d.each, .int .i64 d.first, .int .i64 d.last])) := by show _ = _; rw [coMap_at, hco]; rfl
      have HCO := Lib.hid hco
      clear hco
      obtain ⟨H3, hl3, hbx3, hin3⟩ := HIN.out.put (.cells #[.string d.code, .string d.offer, .int .i64 d.most, .int .i64 d.each, .int .i64 d.first, .int .i64 d.last] 44)
      have HIN3 := Lib.hid hin3
      have HBX3 := Lib.hid (hl3 _ _ HBX.out)
      have HBY3 := Lib.hid hbx3
      have HB3 := Lib.hid (HB.out.alloc HB.out.size (.cells #[.string d.code, .string d.offer, .int .i64 d.most, .int .i64 d.each, .int .i64 d.first, .int .i64 d.last] 44))
      clear hl3 hbx3 hin3
      go_upto_region 5 with (at_lookup; refine wpList_mp_yes _ rfl _ _ 69 rfl 9 44 strKeyed Tryd.underlying69 _ (zeroCoupon _) bm n (coMap ds) rfl HMP.out _ _ rfl HK1.out _ HCM.out ?_)
      clear x0 x1
      generalize hg3 : W1.heap.size = q3 at HBY3
      generalize W1.alloc _ = W3 at HIN3 HB3
      have hq3 : q0 < W3.heap.size := HIN3.out.lt HBX3.out
      have hq4 : q3 < W3.heap.size := HIN3.out.lt HBY3.out
      have HBS : Hid (∀ (v0 v1 v2 v3 v4 v5 : Value), Below w.heap.size w ((((((W3.setCell ⟨q0, 0, none⟩ v0).setCell ⟨q0, 1, none⟩ v1).setCell ⟨q0, 2, none⟩ v2).setCell ⟨q0, 3, none⟩ v3).setCell ⟨q0, 4, none⟩ v4).setCell ⟨q0, 5, none⟩ v5)) := fun v0 v1 v2 v3 v4 v5 => ((((((HB3.out.setCell hq _).setCell hq _).setCell hq _).setCell hq _).setCell hq _).setCell hq _)
      obtain ⟨z0, z1, z2, z3, z4, z5⟩ := frz6 HIN3.out HBX3.out
      have f0 := frzF HIN3.out HBX3.out 0
      have f1 := frzF HIN3.out HBX3.out 1
      have f2 := frzF HIN3.out HBX3.out 2
      have f3 := frzF HIN3.out HBX3.out 3
      have f4 := frzF HIN3.out HBX3.out 4
      have f5 := frzF HIN3.out HBX3.out 5
      obtain ⟨y0, y1, y2, y3, y4, y5⟩ := frz6 HIN3.out HBY3.out
      go_wp2_with fail
      refine (isKey_any who _ (by omega)).mono ?_
      rintro e w' ⟨rfl, rfl⟩
      generalize hik : isKey who = ik
      have HIK := Lib.hid hik
      clear hik
      cases ik with
      | false =>
        have HN : Hid (∀ d, ¬ CkOK ds code who at_ d) := fun d h => by have := h.2.2.1; rw [HIK.out] at this; cases this
        go_wp2_with fail
        try simp only [Exit.inBlock, Exit.then]
        refine bodyPost_ret (by simp [results, Tryd.results41, go_sem, z0, z1, z2, z3, z4, z5]; try rfl) rfl ?_
        exact ⟨Or.inl ⟨5, by omega, rfl, HN.out⟩, HBS.out _ _ _ _ _ _⟩
      | true =>
        go_wp2_with fail
        refine (isMoment_any _ _).mono ?_
        rintro e w' ⟨rfl, rfl⟩
        by_cases hm : 0 ≤ at_ ∧ at_ ≤ 4321439
        · have hmm : (decide (0 ≤ at_) && decide (at_ ≤ 4321439)) = true := by simp; omega
          rw [hmm]
          have HY : Hid (CkOK ds code who at_ d) := ⟨HCE.out, HCO.out, HIK.out, hm⟩
          clear hm hmm
          go_wp2_with fail
          try simp only [Exit.inBlock, Exit.then]
          refine bodyPost_ret (by simp [results, Tryd.results41, go_sem, z0, z1, z2, z3, z4, z5]; try rfl) rfl ?_
          exact ⟨Or.inr ⟨d, HY.out, rfl⟩, HBS.out _ _ _ _ _ _⟩
        · have hmm : (decide (0 ≤ at_) && decide (at_ ≤ 4321439)) = false := by simp; omega
          rw [hmm]
          have HN : Hid (∀ d, ¬ CkOK ds code who at_ d) := fun d h => hm h.2.2.2
          clear hm hmm
          go_wp2_with fail
          try simp only [Exit.inBlock, Exit.then]
          refine bodyPost_ret (by simp [results, Tryd.results41, go_sem, z0, z1, z2, z3, z4, z5]; try rfl) rfl ?_
          exact ⟨Or.inl ⟨1, by omega, rfl, HN.out⟩, HBS.out _ _ _ _ _ _⟩
  · have hne : (codeErr code != 0) = true := by simpa using hce
    have HN : Hid (∀ d, ¬ CkOK ds code who at_ d) := fun d h => hce h.1
    have HCE := Lib.hid hce
    generalize codeErr code = r at hne HCE
    clear hce
    have HBS : Hid (∀ (v0 v1 v2 v3 v4 v5 : Value), Below w.heap.size w ((((((W1.setCell ⟨q0, 0, none⟩ v0).setCell ⟨q0, 1, none⟩ v1).setCell ⟨q0, 2, none⟩ v2).setCell ⟨q0, 3, none⟩ v3).setCell ⟨q0, 4, none⟩ v4).setCell ⟨q0, 5, none⟩ v5)) := fun v0 v1 v2 v3 v4 v5 => ((((((HB.out.setCell hq _).setCell hq _).setCell hq _).setCell hq _).setCell hq _).setCell hq _)
    have hq0 : q0 < W1.heap.size := HIN.out.lt HBX.out
    obtain ⟨z0, z1, z2, z3, z4, z5⟩ := frz6 HIN.out HBX.out
    have f0 := frzF HIN.out HBX.out 0
    have f1 := frzF HIN.out HBX.out 1
    have f2 := frzF HIN.out HBX.out 2
    have f3 := frzF HIN.out HBX.out 3
    have f4 := frzF HIN.out HBX.out 4
    have f5 := frzF HIN.out HBX.out 5
    go_wp2_with fail
    try simp only [Exit.inBlock, Exit.then]
    refine bodyPost_ret (by simp [results, Tryd.results41, go_sem, z0, z1, z2, z3, z4, z5]; try rfl) rfl ?_
    exact ⟨Or.inl ⟨r, HCE.out, rfl, HN.out⟩, HBS.out _ _ _ _ _ _⟩
end Go.Proofs.YtecbejmeejepmaaDoor
