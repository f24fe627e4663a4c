/- Texts of this claim, put together: PartP, OnlyJoinW. -/
import Derived.Test.YtbidhpgjmcedaaaGreatDoorGBL
import Derived.Test.YtbidhpgjmcedaaaGreatDoorGBH
import Derived.Test.YtbidhpgjmcedaaaGreatDoorGBJ
namespace Go.Proofs.YtbidhpgjmcedaaaGreatDoor
set_option linter.unusedVariables false
open Go.RowKit
theorem equal_I (H : Frz) (A1 : Option Addr) (c1 : Nat) (xs : List Int) (A2 : Option Addr) (c2 : Nat) (ys : List Int) (w : World) (hH : H.In w) (h1 : Rw H A1 1 fI xs) (h2 : Rw H A2 1 fI ys) (l1 : xs.length ≤ 1000000) (l2 : ys.length ≤ 1000000) :
  Calls Tryz.prog 39 #[.slice A1 xs.length c1, .slice A2 ys.length c2] w fun e w' => e = .returned (.bool (decide (xs = ys))) ∧ Below w.heap.size w w' := by
 by_cases hl : xs.length = ys.length
 ·by_cases h0 : xs.length = 0
  ·have ex : xs = [] := List.eq_nil_of_length_eq_zero h0
   have ey : ys = [] := List.eq_nil_of_length_eq_zero (hl ▸ h0)
   subst ex ey
   refine (Tryz.slices_Equal_int_empty A1 A2 c1 0 c2 w (by omega)).mono ?_
   rintro e w' ⟨rfl, rfl⟩
   exact ⟨by simp, Below.refl _ _⟩
  ·obtain ⟨b1, o1, rfl, _, _⟩ := h1.at_ hH (show 0 < xs.length by omega) (by omega)
   obtain ⟨b2, o2, rfl, _, _⟩ := h2.at_ hH (show 0 < ys.length by omega) (by omega)
   have hc1 : ∀ j, j < xs.length → w.cell? ⟨b1, o1 + j, none⟩ = some (.int .i64 (xs.getD j 0)) := fun j hj => by
    obtain ⟨b, o, e, _, hc⟩ := h1.at_ hH hj (by omega)
    simp only [Option.some.injEq, Addr.mk.injEq, and_true] at e
    obtain ⟨rfl, rfl⟩ := e
    have := hc 0 (by omega)
    simpa [fI, List.getD_eq_getElem?_getD, List.getElem?_eq_getElem hj] using this
   have hc2 : ∀ j, j < ys.length → w.cell? ⟨b2, o2 + j, none⟩ = some (.int .i64 (ys.getD j 0)) := fun j hj => by
    obtain ⟨b, o, e, _, hc⟩ := h2.at_ hH hj (by omega)
    simp only [Option.some.injEq, Addr.mk.injEq, and_true] at e
    obtain ⟨rfl, rfl⟩ := e
    have := hc 0 (by omega)
    simpa [fI, List.getD_eq_getElem?_getD, List.getElem?_eq_getElem hj] using this
   refine (Tryz.slices_Equal_int b1 o1 xs.length c1 b2 o2 ys.length c2 xs ys w (Nat.le_refl _) (Nat.le_refl _) (by omega) (by omega) hc1 hc2).mono ?_
   rintro e w' ⟨rfl, q, rfl⟩
   rw [List.take_length, List.take_length]
   refine ⟨?_, (Below.refl w.heap.size w).trans ⟨rfl, rfl, rfl, Nat.le_refl _, fun _ _ => rfl⟩⟩
   have : (xs == ys) = decide (xs = ys) := by
    by_cases c : xs = ys
    ·simp [c]
    ·simp [c]
   rw [this]
 ·refine (Tryz.slices_Equal_int_lens A1 A2 xs.length c1 ys.length c2 w hl).mono ?_
  rintro e w' ⟨rfl, rfl⟩
  refine ⟨?_, Below.refl _ _⟩
  have : decide (xs = ys) = false := by simp; intro c; exact hl (by rw [c])
  rw [this]
section
variable {J : IdD → Bool} {ts : List TchD} {rr : List Nat} {ps : List PerD}
theorem pers_ids_len (hq : PersQ J ts (repN rr) ps) (hil : ∀ t ∈ ts, t.ids.length ≤ 1000) (hl : ts.length ≤ 100) {p : PerD} (hp : p ∈ ps) : p.ids.length ≤ 1000000 := by
 obtain ⟨k, hk, rfl⟩ := List.getElem_of_mem hp
 have hkr : k < (rts (repN rr) ts.length).length := by rw [← hq.len]; exact hk
 have h1 := idsOk_len (hq.ids k hkr hk)
 have h2 := flatMap_le (m := 1000) (fun q => (tAt ts q).ids) (cls (repN rr) ts.length (rts (repN rr) ts.length)[k]) (fun q hq2 => hil _ (tAt_mem (cls_lt hq2)))
 have h3 := cls_le (repN rr) ts.length (rts (repN rr) ts.length)[k]
 have h4 : (cls (repN rr) ts.length (rts (repN rr) ts.length)[k]).length * 1000 ≤ 100 * 1000 := Nat.mul_le_mul_right _ (by omega)
 omega
end
open Go.RowKit
theorem joinsMake : JoinsMake := fun _ _ _ _ _ h hK hP hN => h.joinRules hK hP hN
end Go.Proofs.YtbidhpgjmcedaaaGreatDoor
