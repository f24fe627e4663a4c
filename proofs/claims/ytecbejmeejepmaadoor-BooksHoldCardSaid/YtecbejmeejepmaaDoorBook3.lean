/- Books of coupons: what is free, all redemptions; a book that is written. -/
import Derived.Test.YtecbejmeejepmaaDoorBook2
namespace Go.Proofs.YtecbejmeejepmaaDoor
set_option linter.unusedVariables false
open Go.RowKit

def FreePost (ds : List CouponD) (us : List UseD) (code who : ByteArray) (at_ : Int) (w : World) (e : Ending) (w' : World) : Prop :=
  ((∃ n : Int, n ≠ 0 ∧ ∃ m : Int, e = .returned (.tuple #[.int .i64 m, .int .i64 n]) ∧ ∀ d, ¬ CkOK ds code who at_ d) ∨
   (∃ d m, CkOK ds code who at_ d ∧ e = .returned (.tuple #[.int .i64 m, .int .i64 0]) ∧ (0 < m ↔ canR us d code who at_))) ∧ Below w.heap.size w w'
theorem FreePost.bad {ds : List CouponD} {us : List UseD} {code who : ByteArray} {at_ : Int} {w w' : World} {n m : Int} (hn : n ≠ 0) (h : ∀ d, ¬ CkOK ds code who at_ d) (hb : Below w.heap.size w w') : FreePost ds us code who at_ w (.returned (.tuple #[.int .i64 m, .int .i64 n])) w' := ⟨Or.inl ⟨n, hn, m, rfl, h⟩, hb⟩
theorem FreePost.ok {ds : List CouponD} {us : List UseD} {code who : ByteArray} {at_ : Int} {w w' : World} {m : Int} {d : CouponD} (hd : CkOK ds code who at_ d) (h : 0 < m ↔ canR us d code who at_) (hb : Below w.heap.size w w') : FreePost ds us code who at_ w (.returned (.tuple #[.int .i64 m, .int .i64 0])) w' := ⟨Or.inr ⟨d, m, hd, rfl, h⟩, hb⟩
theorem ck_lim {ds : List CouponD} {code who : ByteArray} {at_ : Int} {d : CouponD} (hOK : CouponsOK ds) (h : CkOK ds code who at_ d) : 1 ≤ d.most ∧ d.most ≤ 1000000 ∧ 1 ≤ d.each ∧ d.each ≤ 1000000 := by
  obtain ⟨i, hi, rfl⟩ := List.getElem_of_mem (coOf_mem h.2.1).1
  have := (hOK.2 i hi).2.2.2
  simp [limC] at this
  omega
set_option maxHeartbeats 1000000 in
set_option maxRecDepth 20000 in
theorem free_any (H : Frz) (g : Nat) (ds : List CouponD) (us : List UseD) (hP : BF H g ds us) (hOK : CouponsOK ds) (code who : ByteArray) (at_ : Int) (hc : code.size ≤ 1000) (hw : who.size ≤ 1000) (w : World) (hH : H.In w) :
    Calls Tryd.prog 16 #[.pointer (some ⟨g, 0, none⟩), .string code, .string who, .int .i64 at_] w (FreePost ds us code who at_ w) := by
  have HP := Lib.hid hP
  have HH := Lib.hid hH
  have HOK := Lib.hid hOK
  have hul : us.length ≤ 1000000 := by obtain ⟨_, _, _, _, _, _, _, _, h⟩ := hP; exact h
  clear hP hH hOK
  go_enter Tryd.func16, Tryd.ntmps16
  go_wp2_with fail
  refine (check_any H g ds us HP.out code who at_ hc hw w HH.out).mono ?_
  rintro e W1 ⟨⟨n, hn, rfl, hno⟩ | ⟨d, hck, rfl⟩, hb1⟩
  · have hne : (n != 0) = true := by simpa using hn
    have HF := Lib.hid (FreePost.bad (us := us) (m := 0) hn hno (hb1.alloc hb1.size (.cells #[.string ⟨#[]⟩, .string ⟨#[]⟩, .int .i64 0, .int .i64 0, .int .i64 0, .int .i64 0] 44)))
    clear hn hno hb1
    go_wp2_with fail
    go_ret2
    exact HF.out
  · obtain ⟨H2, hl2, hbx, hin2⟩ := (HH.out.below hb1).put (.cells #[.string d.code, .string d.offer, .int .i64 d.most, .int .i64 d.each, .int .i64 d.first, .int .i64 d.last] 44)
    have HB2 := Lib.hid (hb1.alloc hb1.size (.cells #[.string d.code, .string d.offer, .int .i64 d.most, .int .i64 d.each, .int .i64 d.first, .int .i64 d.last] 44))
    have HP2 := Lib.hid (HP.out.le hl2)
    have HBX := Lib.hid hbx
    have HIN2 := Lib.hid hin2
    have HCK := Lib.hid hck
    have hlim := ck_lim HOK.out hck
    clear hl2 hbx hin2 hck hb1
    go_upto_region 4 with (fail)
    generalize hgq : W1.heap.size = q at HBX
    generalize W1.alloc _ = W2 at HB2 HIN2
    obtain ⟨z0, z1, z2, z3, z4, z5⟩ := frz6 HIN2.out HBX.out
    clear hgq
    by_cases a1 : at_ < d.first
    · have HF : Hid (FreePost ds us code who at_ w (.returned (.tuple #[.int .i64 0, .int .i64 0])) W2) := FreePost.ok HCK.out ⟨fun h => by omega, fun h => by have := h.1; omega⟩ HB2.out
      have a1' : decide (at_ < d.first) = true := by simpa using a1
      go_wp2_with fail
      go_ret2
      exact HF.out
    · have a1' : decide (at_ < d.first) = false := by simpa using a1
      by_cases a2 : d.last ≤ at_
      · have HF : Hid (FreePost ds us code who at_ w (.returned (.tuple #[.int .i64 0, .int .i64 0])) W2) := FreePost.ok HCK.out ⟨fun h => by omega, fun h => by have := h.2.1; omega⟩ HB2.out
        have a2' : decide (d.last ≤ at_) = true := by simpa using a2
        go_wp2_with fail
        go_ret2
        exact HF.out
      · have a2' : decide (d.last ≤ at_) = false := by simpa using a2
        go_wp2_with fail
        refine (used_any H2 g ds us HP2.out code who W2 HIN2.out).mono ?_
        rintro e W3 ⟨rfl, hb3⟩
        have HB3 := Lib.hid (HB2.out.trans (hb3.mono HB2.out.size))
        have HIN3 := Lib.hid (HIN2.out.below hb3)
        clear z0 z1 z2 z3 z4 z5 hb3
        obtain ⟨z0, z1, z2, z3, z4, z5⟩ := frz6 HIN3.out HBX.out
        have h1 := allN_le us code
        have h2 := ownN_le us code who
        have HCAN : Hid (canR us d code who at_ ↔ (allN us code : Int) < d.most ∧ (ownN us code who : Int) < d.each) := ⟨fun h => h.2.2, fun h => ⟨by omega, by omega, h⟩⟩
        generalize allN us code = t1 at *
        generalize ownN us code who = t2 at *
        have HF : Hid (∀ m : Int, m = max (min (d.most - t1) (d.each - t2)) 0 → FreePost ds us code who at_ w (.returned (.tuple #[.int .i64 m, .int .i64 0])) W3) := fun m hm => FreePost.ok HCK.out (by rw [HCAN.out, hm]; omega) HB3.out
        go_wp2_with fail
        go_ret2
        exact HF.out _ rfl
def UsesPost (w : World) (us : List UseD) (e : Ending) (w' : World) : Prop := (∃ v, e = .returned v ∧ Orow w' w.heap.size 49 5 fU v us) ∧ Below w.heap.size w w'
set_option maxHeartbeats 1000000 in
theorem uses_any (H : Frz) (g : Nat) (ds : List CouponD) (us : List UseD) (hP : BF H g ds us) (w : World) (hH : H.In w) :
    Calls Tryd.prog 18 #[.pointer (some ⟨g, 0, none⟩)] w (UsesPost w us) := by
  obtain ⟨bm, n, A, cap, hg, hM, hAh, l2, l4⟩ := hP
  obtain ⟨x0, x1⟩ := frz2 hH hg
  have HR := Lib.hid hAh
  have HH := Lib.hid hH
  clear hg hM hAh hH
  go_enter Tryd.func18, Tryd.ntmps18
  go_wp2_with fail
  refine (clone_Redemption H fU us (fun d _ m => fU_one d m) A cap w HH.out HR.out l4).mono ?_
  rintro e W1 ⟨⟨v, rfl, hO⟩, hb1⟩
  have HF : Hid (UsesPost w us (.returned v) W1) := ⟨⟨v, rfl, hO⟩, hb1⟩
  clear hO hb1 x0 x1
  go_wp2_with fail
  go_ret
  exact HF.out
/-- A book that may be written. -/
structure BS (H : Frz) (W : World) (g : Nat) (ds : List CouponD) (us : List UseD) : Prop where
  ex : ∃ bm n v, W.heap[g]? = some (.cells #[.map (some bm), v] 71 (0, 0)) ∧ MpF H bm n (coMap ds) ∧ Orow W (g + 1) 49 5 fU v us
  l2 : us.length ≤ 5000
  under : ∀ b o, H b = some o → b < g
  fin : H.In W
section
variable {H : Frz} {W W' : World} {g : Nat} {ds : List CouponD} {us : List UseD}
theorem BS.lt (h : BS H W g ds us) : g < W.heap.size := by
  obtain ⟨bm, n, v, hg, _⟩ := h.ex
  exact lt_of_heap hg
theorem BS.freeze (h : BS H W g ds us) : ∃ H', H.Le H' ∧ H'.In W ∧ BF H' g ds us := by
  obtain ⟨bm, n, v, hg, hM, hO⟩ := h.ex
  have hn : H g = none := by
    cases e : H g with
    | none => rfl
    | some o => exact absurd (h.under g o e) (by omega)
  obtain ⟨Ah, caph, H', hv, hch, hIn, hLe, hR', _, _⟩ := hO.freeze (H.add g (.cells #[.map (some bm), v] 71 (0, 0)))
  have hle := hLe (fun q hq => by
    have := (hO.lt hq).1
    rw [Frz.add_other (by omega)]
    cases e : H q with
    | none => rfl
    | some o => exact absurd (h.under q o e) (by omega))
  have hle2 : H.Le H' := (Frz.le_add hn).trans hle
  refine ⟨H', hle2, hIn (h.fin.add hg), bm, n, Ah, caph, ?_, hM.le hle2, hR', hch, by have := h.l2; omega⟩
  rw [← hv]
  exact hle _ _ (Frz.add_at _ _ _)
theorem BS.below (h : BS H W g ds us) (hb : Below W.heap.size W W') : BS H W' g ds us := by
  obtain ⟨bm, n, v, hg, hM, hO⟩ := h.ex
  exact ⟨⟨bm, n, v, (hb.block g (lt_of_heap hg)).trans hg, hM, hO.below hb⟩, h.l2, h.under, h.fin.below hb⟩
theorem BS.grown (h : BS H W g ds us) {bs : Nat} (hg : W.grownBy W' (some bs)) (hbs : bs < g) (hn : H bs = none) : BS H W' g ds us := by
  obtain ⟨bm, n, v, hgb, hM, hO⟩ := h.ex
  exact ⟨⟨bm, n, v, (hg.block g (lt_of_heap hgb) (fun e => by injection e; omega)).trans hgb, hM, hO.far hg (by omega)⟩, h.l2, h.under, h.fin.grown hg hn⟩
end
/-- The book behind a store into a redemption. -/
theorem BS.undone {H : Frz} {W : World} {g : Nat} {ds : List CouponD} {us : List UseD} (h : BS H W g ds us) {q cap bm : Nat} (hg : W.heap[g]? = some (.cells #[.map (some bm), .slice (some ⟨q, 0, none⟩) us.length cap] 71 (0, 0))) {i : Nat} (hi : i < us.length) (at_ : Int) :
    BS H (W.setCell ⟨q, i * 5 + 4, none⟩ (.int .i64 at_)) g ds (us.set i { us[i] with undone := at_ }) ∧ Below g W (W.setCell ⟨q, i * 5 + 4, none⟩ (.int .i64 at_)) := by
  obtain ⟨bm', n', v', hg', hM, hO⟩ := h.ex
  rw [hg] at hg'
  simp at hg'
  obtain ⟨rfl, rfl⟩ := hg'
  have hne : us ≠ [] := fun e => by rw [e] at hi; simp at hi
  obtain ⟨q', cap2, rest, hv, hle, hB, hlt, hm, hK, hr⟩ := hO.form hne
  simp only [Value.slice.injEq, Option.some.injEq, Addr.mk.injEq] at hv
  obtain ⟨⟨rfl, _⟩, _, rfl⟩ := hv
  have hqg : q ≠ g := by omega
  have hK2 := hK.upd i 4 hi (by omega) (d' := { us[i] with undone := at_ }) (x := .int .i64 at_) rfl (fun m hm hne => by
    have hm5 : m = 0 ∨ m = 1 ∨ m = 2 ∨ m = 3 := by omega
    rcases hm5 with rfl | rfl | rfl | rfl <;> rfl)
  have hB1 : Below g W (W.setCell ⟨q, i * 5 + 4, none⟩ (.int .i64 at_)) := (Below.refl g W).setCell (by show g ≤ q; omega) _
  refine ⟨⟨⟨_, n', _, ?_, hM, Orow.of_blk hK2 hB hm (by simpa using hle) (by simpa using hr)⟩, by simpa using h.l2, h.under, h.fin.under h.under hB1⟩, hB1⟩
  refine (Below.heap_setCell _ _ _ g (fun e => hqg e.symm)).trans ?_
  rw [hg]; simp
end Go.Proofs.YtecbejmeejepmaaDoor
