/- The first place at which a predicate holds; plain. -/
import Derived.Test.YtecbejmeejepmaaKey
namespace Go.Proofs.Ytecbejmeejepmaa
set_option linter.unusedVariables false
open Go.RowKit
section
variable {D : Type}
def idxF (p : D → Bool) (ds : List D) : Int := match ds.findIdx? p with | some i => (i : Int) | none => -1
def anyF (p : D → Bool) (ds : List D) : Bool := ds.any p
theorem idxF_none {p : D → Bool} {ds : List D} (h : ds.any p = false) : idxF p ds = -1 := by
  have : ds.findIdx? p = none := by
    rw [List.findIdx?_eq_none_iff]
    intro x hx
    have := List.any_eq_false.1 h x hx
    simpa using this
  simp [idxF, this]
theorem idxF_found {p : D → Bool} {ds : List D} {i : Nat} (hi : i < ds.length) (h : (ds.take i).any p = false) : p ds[i] = true → idxF p ds = i := by
  intro hp
  have : ds.findIdx? p = some i := by
    rw [List.findIdx?_eq_some_iff_getElem]
    refine ⟨hi, hp, fun j hj => ?_⟩
    have hm : ds[j] ∈ ds.take i := List.mem_take_iff_getElem.2 ⟨j, by omega, rfl⟩
    have := List.any_eq_false.1 h _ hm
    simpa using this
  simp [idxF, this]
theorem any_take_succ {p : D → Bool} {ds : List D} {i : Nat} (hi : i < ds.length) (h : (ds.take i).any p = false) : p ds[i] = false → (ds.take (i + 1)).any p = false := by
  intro hp
  rw [List.take_succ_eq_append_getElem hi, List.any_append, h]
  simp [hp]
theorem idxF_any (p : D → Bool) (ds : List D) : decide (0 ≤ idxF p ds) = anyF p ds := by
  unfold anyF
  cases h : ds.any p with
  | false => rw [idxF_none h]; rfl
  | true =>
    unfold idxF
    cases e : ds.findIdx? p with
    | none =>
      have := List.findIdx?_eq_none_iff.1 e
      obtain ⟨x, hx, hp⟩ := List.any_eq_true.1 h
      have h2 := this x hx
      rw [hp] at h2
      cases h2
    | some i => simp
def allEq (p : D → D → Bool) : List D → List D → Bool
  | [], [] => true
  | a :: ds, b :: es => p a b && allEq p ds es
  | _, _ => false
theorem allEq_drop {p : D → D → Bool} {ds es : List D} {i : Nat} (h1 : i < ds.length) (h2 : i < es.length) : allEq p (ds.drop i) (es.drop i) = (p ds[i] es[i] && allEq p (ds.drop (i + 1)) (es.drop (i + 1))) := by
  rw [List.drop_eq_getElem_cons h1, List.drop_eq_getElem_cons h2, allEq]
theorem allEq_len {p : D → D → Bool} {ds es : List D} (h : ds.length ≠ es.length) : allEq p ds es = false := by
  induction ds generalizing es with
  | nil => cases es <;> simp_all [allEq]
  | cons a ds ih =>
    cases es with
    | nil => rfl
    | cons b es => rw [allEq, ih (by simpa using h), Bool.and_false]
theorem idxF_cases (p : D → Bool) (ds : List D) : (idxF p ds = -1 ∧ ∀ d ∈ ds, p d = false) ∨ ∃ (i : Nat) (h : i < ds.length), idxF p ds = i ∧ p ds[i] = true := by
  cases e : ds.findIdx? p with
  | none => exact Or.inl ⟨by simp [idxF, e], fun d hd => by simpa using List.findIdx?_eq_none_iff.1 e d hd⟩
  | some i =>
    obtain ⟨h1, h2, _⟩ := List.findIdx?_eq_some_iff_getElem.1 e
    exact Or.inr ⟨i, h1, by simp [idxF, e], h2⟩
end
end Go.Proofs.Ytecbejmeejepmaa
