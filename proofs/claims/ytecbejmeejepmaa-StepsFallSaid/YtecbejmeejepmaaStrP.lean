/- Strings and slices of strings: their order; plain. -/
import Derived.Test.YtecbejmeejepmaaIdx
namespace Go.Proofs.Ytecbejmeejepmaa
set_option linter.unusedVariables false
open Go.RowKit

theorem bl_irrefl (a : List UInt8) : Op.bytesLess a a = false := by
  induction a with
  | nil => rfl
  | cons x a ih => simp [Op.bytesLess, ih]
theorem bl_asymm {a b : List UInt8} (h : Op.bytesLess a b = true) : Op.bytesLess b a = false := by
  induction a generalizing b with
  | nil => cases b <;> simp_all [Op.bytesLess]
  | cons x a ih =>
    cases b with
    | nil => simp [Op.bytesLess] at h
    | cons y b =>
      simp only [Op.bytesLess, Bool.or_eq_true, Bool.and_eq_true, decide_eq_true_eq, beq_iff_eq] at h
      rcases h with h | ⟨rfl, h⟩
      · have h1 : ¬ y < x := UInt8.not_lt.2 (UInt8.le_of_lt h)
        have h2 : (y == x) = false := by simp; rintro rfl; exact UInt8.lt_irrefl _ h
        simp [Op.bytesLess, h1, h2]
      · simp [Op.bytesLess, ih h]
theorem bl_total {a b : List UInt8} (h1 : Op.bytesLess a b = false) (h2 : Op.bytesLess b a = false) : a = b := by
  induction a generalizing b with
  | nil => cases b <;> simp_all [Op.bytesLess]
  | cons x a ih =>
    cases b with
    | nil => simp [Op.bytesLess] at h2
    | cons y b =>
      simp only [Op.bytesLess, Bool.or_eq_false_iff, Bool.and_eq_false_iff, decide_eq_false_iff_not, beq_eq_false_iff_ne] at h1 h2
      have hxy : x = y := UInt8.le_antisymm (UInt8.not_lt.1 h2.1) (UInt8.not_lt.1 h1.1)
      subst hxy
      simp at h1 h2
      rw [ih h1 h2]
theorem bl_trans {a b c : List UInt8} (h1 : Op.bytesLess a b = true) (h2 : Op.bytesLess b c = true) : Op.bytesLess a c = true := by
  induction a generalizing b c with
  | nil =>
    cases b with
    | nil => simp [Op.bytesLess] at h1
    | cons y b => cases c <;> simp_all [Op.bytesLess]
  | cons x a ih =>
    cases b with
    | nil => simp [Op.bytesLess] at h1
    | cons y b =>
      cases c with
      | nil => simp [Op.bytesLess] at h2
      | cons z c =>
        simp only [Op.bytesLess, Bool.or_eq_true, Bool.and_eq_true, decide_eq_true_eq, beq_iff_eq] at h1 h2 ⊢
        rcases h1 with h1 | ⟨rfl, h1⟩
        · rcases h2 with h2 | ⟨rfl, h2⟩
          · exact Or.inl (UInt8.lt_trans h1 h2)
          · exact Or.inl h1
        · rcases h2 with h2 | ⟨rfl, h2⟩
          · exact Or.inl h2
          · exact Or.inr ⟨rfl, ih h1 h2⟩

/-- cmp.Compare of strings. -/
def cmpS (a b : ByteArray) : Int := if Op.bytesLess a.toList b.toList then -1 else if a.toList == b.toList then 0 else 1
theorem toList_inj {a b : ByteArray} (h : a.toList = b.toList) : a = b := by
  rw [ByteArray.toList_eq, ByteArray.toList_eq] at h
  exact ByteArray.ext (Array.toList_inj.1 h)
theorem cmpS_self (a : ByteArray) : cmpS a a = 0 := by simp [cmpS, bl_irrefl]
theorem cmpS_zero {a b : ByteArray} (h : cmpS a b = 0) : a = b := by
  unfold cmpS at h
  split at h
  · omega
  · split at h
    · rename_i h2
      exact toList_inj (by simpa using h2)
    · omega
theorem cmpS_vals (a b : ByteArray) : cmpS a b = -1 ∨ cmpS a b = 0 ∨ cmpS a b = 1 := by
  unfold cmpS
  split
  · exact Or.inl rfl
  · split
    · exact Or.inr (Or.inl rfl)
    · exact Or.inr (Or.inr rfl)
theorem cmpS_lt {a b : ByteArray} : cmpS a b < 0 ↔ Op.bytesLess a.toList b.toList = true := by
  unfold cmpS
  split
  · simp [*]
  · rename_i h
    split <;> simp [h]
theorem cmpS_swap (a b : ByteArray) : cmpS b a = - cmpS a b := by
  rcases cmpS_vals a b with h | h | h
  · have h1 := bl_asymm (cmpS_lt.1 (show cmpS a b < 0 by omega))
    have h2 : ¬ (b.toList == a.toList) = true := by
      intro e
      have : b = a := toList_inj (by simpa using e)
      subst this
      rw [cmpS_self] at h
      omega
    unfold cmpS at h ⊢
    rw [if_neg (by simp [h1]), if_neg h2, h]
    rfl
  · rw [cmpS_zero h, cmpS_self]; rfl
  · have h1 : ¬ Op.bytesLess a.toList b.toList = true := by intro e; have := cmpS_lt.2 e; omega
    have h2 : Op.bytesLess b.toList a.toList = true := by
      cases e : Op.bytesLess b.toList a.toList with
      | true => rfl
      | false =>
        have := toList_inj (bl_total (by simpa using h1) e)
        subst this
        rw [cmpS_self] at h
        omega
    have := cmpS_lt.2 h2
    rcases cmpS_vals b a with g | g | g <;> omega
theorem cmpS_trans {a b c : ByteArray} (h1 : cmpS a b < 0) (h2 : cmpS b c < 0) : cmpS a c < 0 := cmpS_lt.2 (bl_trans (cmpS_lt.1 h1) (cmpS_lt.1 h2))

/-- slices.Compare of lists of strings. -/
def cmpL : List ByteArray → List ByteArray → Int
  | [], [] => 0
  | [], _ :: _ => -1
  | _ :: _, [] => 1
  | a :: xs, b :: ys => if cmpS a b = 0 then cmpL xs ys else cmpS a b
theorem cmpL_self (xs : List ByteArray) : cmpL xs xs = 0 := by
  induction xs with
  | nil => rfl
  | cons a xs ih => simp [cmpL, cmpS_self, ih]
theorem cmpL_zero {xs ys : List ByteArray} (h : cmpL xs ys = 0) : xs = ys := by
  induction xs generalizing ys with
  | nil => cases ys <;> simp_all [cmpL]
  | cons a xs ih =>
    cases ys with
    | nil => simp [cmpL] at h
    | cons b ys =>
      unfold cmpL at h
      split at h
      · rename_i h2
        rw [cmpS_zero h2, ih h]
      · contradiction
theorem cmpL_swap (xs ys : List ByteArray) : cmpL ys xs = - cmpL xs ys := by
  induction xs generalizing ys with
  | nil => cases ys <;> simp [cmpL]
  | cons a xs ih =>
    cases ys with
    | nil => simp [cmpL]
    | cons b ys =>
      unfold cmpL
      rw [cmpS_swap a b, ih ys]
      by_cases h : cmpS a b = 0
      · simp [h]
      · rw [if_neg h, if_neg (by omega)]
theorem cmpL_trans {xs ys cs : List ByteArray} (h1 : cmpL xs ys < 0) (h2 : cmpL ys cs < 0) : cmpL xs cs < 0 := by
  induction xs generalizing ys cs with
  | nil =>
    cases ys with
    | nil => simp [cmpL] at h1
    | cons b ys => cases cs <;> simp_all [cmpL]
  | cons a xs ih =>
    cases ys with
    | nil => simp [cmpL] at h1
    | cons b ys =>
      cases cs with
      | nil => simp [cmpL] at h2
      | cons c cs =>
        unfold cmpL at h1 h2 ⊢
        by_cases e1 : cmpS a b = 0
        · obtain rfl := cmpS_zero e1
          rw [if_pos e1] at h1
          by_cases e2 : cmpS a c = 0
          · rw [if_pos e2] at h2 ⊢; exact ih h1 h2
          · rw [if_neg e2] at h2 ⊢; exact h2
        · rw [if_neg e1] at h1
          by_cases e2 : cmpS b c = 0
          · obtain rfl := cmpS_zero e2
            rw [if_neg e1]; exact h1
          · rw [if_neg e2] at h2
            have := cmpS_trans h1 h2
            rw [if_neg (by omega)]; exact this

/-- The cells of a slice of strings. -/
def fS (s : ByteArray) (_ : Nat) : Value := .string s
/-- A slice of strings. -/
def Ss (H : Frz) (v : Value) (ss : List ByteArray) : Prop := ∃ A cap, v = .slice A ss.length cap ∧ ss.length ≤ cap ∧ Rw H A 1 fS ss ∧ (∀ s ∈ ss, s.size ≤ 1000000) ∧ ss.length ≤ 1000000
theorem Ss.le {H H' : Frz} {v : Value} {ss : List ByteArray} (h : Ss H v ss) (hl : H.Le H') : Ss H' v ss := by
  obtain ⟨A, cap, h1, h0, h2, h3⟩ := h
  exact ⟨A, cap, h1, h0, h2.le hl, h3⟩
theorem Ss.nil (H : Frz) : Ss H (.slice none 0 0) [] := ⟨none, 0, rfl, Nat.le_refl _, Rw.nil, by simp, by simp⟩
theorem Ss.at_ {H : Frz} {A : Option Addr} {ss : List ByteArray} (h : Rw H A 1 fS ss) {W : World} (hH : H.In W) {i : Nat} (hi : i < ss.length) :
    ∃ b off, A = some ⟨b, off, none⟩ ∧ b < W.heap.size ∧ W.cell? ⟨b, off + i, none⟩ = some (.string ss[i]) := by
  obtain ⟨b, off, e, hb, hc⟩ := h.at_ hH hi (by omega)
  exact ⟨b, off, e, hb, by simpa [fS] using hc 0 (by omega)⟩

end Go.Proofs.Ytecbejmeejepmaa
