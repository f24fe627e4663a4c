/- Plain facts on codes: signs, their sums modulo 31, sealing, what a change does: no program in sight. -/
import Derived.Lib.Bytealg
namespace Hb
open Go

def signs : List UInt8 := [48, 49, 50, 51, 52, 53, 54, 55, 56, 57, 65, 66, 67, 68, 69, 70, 71, 72, 74, 75, 77, 78, 80, 81, 82, 84, 85, 86, 87, 88, 89]

/-- The k-th sign. -/
def sg (k : Nat) : UInt8 := signs[k]!

def val (c : UInt8) : Int := Lib.indexByte signs c

theorem index_get (l : List UInt8) (c : UInt8) (k : Nat) (h : Lib.indexByte l c = (k : Int)) : l[k]? = some c := by
  induction l generalizing k with
  | nil => simp [Lib.indexByte] at h
  | cons b l ih =>
    unfold Lib.indexByte at h
    split at h
    · rename_i hb
      obtain rfl : k = 0 := by omega
      simp at hb
      simp [hb]
    · split at h
      · omega
      · obtain ⟨m, rfl⟩ : ∃ m, k = m + 1 := ⟨k - 1, by
          have := Lib.indexByte_ge l c
          rename_i h1 h2
          simp at h2
          omega⟩
        have := ih m (by omega)
        simpa using this

theorem val_lt (c : UInt8) : val c < 31 := by
  have h1 := Lib.indexByte_ge signs c
  by_cases h : val c < 0
  · omega
  · obtain ⟨k, hk⟩ := Int.eq_ofNat_of_zero_le (show 0 ≤ val c by omega)
    have := index_get signs c k hk
    have hl := (List.getElem?_eq_some_iff.1 this).1
    have : signs.length = 31 := rfl
    omega
theorem val_inj {c d : UInt8} (h : val c = val d) (h0 : 0 ≤ val c) : c = d := by
  obtain ⟨k, hk⟩ := Int.eq_ofNat_of_zero_le h0
  have e1 := index_get signs c k hk
  have e2 := index_get signs d k (show val d = k from h ▸ hk)
  rw [e1] at e2
  injection e2
theorem val_get : ∀ k : Fin 31, val (sg k.val) = k.val := by decide +kernel

def areSigns (l : List UInt8) : Bool := l.all fun c => decide (0 ≤ val c)
theorem areSigns_mem {l : List UInt8} (h : areSigns l = true) {c : UInt8} (hc : c ∈ l) : 0 ≤ val c := by
  unfold areSigns at h
  rw [List.all_eq_true] at h
  simpa using h c hc
theorem areSigns_append (a b : List UInt8) : areSigns (a ++ b) = (areSigns a && areSigns b) := by unfold areSigns; exact List.all_append

/-- The sum of signs, the first at place n + 1. -/
def csum : List UInt8 → Nat → Int
  | [], _ => 0
  | c :: l, n => ((n : Int) + 1) * val c + csum l (n + 1)

theorem csum_append (a b : List UInt8) (n : Nat) : csum (a ++ b) n = csum a n + csum b (n + a.length) := by
  induction a generalizing n with
  | nil => simp [csum]
  | cons c a ih =>
    rw [List.cons_append, csum, csum, ih, List.length_cons, show n + 1 + a.length = n + (a.length + 1) from by omega]
    omega

theorem csum_snoc (l : List UInt8) (c : UInt8) : csum (l ++ [c]) 0 = csum l 0 + ((l.length : Int) + 1) * val c := by
  rw [csum_append]; simp [csum]

theorem csum_bounds {l : List UInt8} (h : areSigns l = true) (n : Nat) (hn : n + l.length ≤ 1000) : 0 ≤ csum l n ∧ csum l n ≤ l.length * 31000 := by
  induction l generalizing n with
  | nil => simp [csum]
  | cons c l ih =>
    have hc := areSigns_mem h (c := c) List.mem_cons_self
    have hl := val_lt c
    have h' : areSigns l = true := by unfold areSigns at h ⊢; simp at h ⊢; exact h.2
    simp only [List.length_cons] at hn ⊢
    have := ih h' (n + 1) (by omega)
    rw [csum]
    have h1 : 0 ≤ ((n : Int) + 1) * val c := Int.mul_nonneg (by omega) hc
    have h2 : ((n : Int) + 1) * val c ≤ 1000 * 31 := Int.mul_le_mul (by omega) (by omega) hc (by omega)
    omega

theorem csum_set (l : List UInt8) (n i : Nat) (x : UInt8) (h : i < l.length) : csum (l.set i x) n = csum l n + ((n : Int) + i + 1) * (val x - val l[i]) := by
  induction l generalizing n i with
  | nil => simp at h
  | cons c l ih =>
    cases i with
    | zero =>
      simp only [List.set_cons_zero, csum, List.getElem_cons_zero, Int.mul_sub]
      simp
      omega
    | succ i =>
      simp only [List.set_cons_succ, csum, List.getElem_cons_succ]
      rw [ih (n + 1) i (by simpa using h)]
      have : ((n + 1 : Nat) : Int) + (i : Int) + 1 = (n : Int) + ((i + 1 : Nat) : Int) + 1 := by omega
      rw [this]
      omega

theorem prime31 : ∀ a : Fin 31, ∀ b : Fin 31, a.val ≠ 0 → b.val ≠ 0 → (a.val * b.val) % 31 ≠ 0 := by decide +kernel

/-- 31 is prime: a product of two numbers that are not 0 and smaller than 31 in size is no multiple of it. -/
theorem no_multiple {a b : Int} (ha : a ≠ 0) (ha1 : -31 < a) (ha2 : a < 31) (hb : b ≠ 0) (hb1 : -31 < b) (hb2 : b < 31) : (a * b) % 31 ≠ 0 := by
  have key := prime31 ⟨a.natAbs, by omega⟩ ⟨b.natAbs, by omega⟩ (by simpa using ha) (by simpa using hb)
  simp only at key
  rw [← Int.natAbs_mul] at key
  intro h
  apply key
  have hd : (31 : Int) ∣ a * b := Int.dvd_of_emod_eq_zero h
  have : (31 : Nat) ∣ (a * b).natAbs := by
    have := Int.natAbs_dvd_natAbs.2 hd
    simpa using this
  exact Nat.mod_eq_zero_of_dvd this

theorem shift_mod {s d : Int} (hs : s % 31 = 0) (hd : d % 31 ≠ 0) : (s + d) % 31 ≠ 0 := by omega

/-- Another sign at one place: the sum is no more 0. -/
theorem csum_changed {l : List UInt8} {i : Nat} {x : UInt8} (hl : l.length ≤ 24) (hi : i < l.length) (hs : areSigns l = true) (hx : 0 ≤ val x) (h0 : csum l 0 % 31 = 0) (hne : l.set i x ≠ l) :
    csum (l.set i x) 0 % 31 ≠ 0 := by
  rw [csum_set _ _ _ _ hi]
  apply shift_mod h0
  have hv := val_lt x
  have hv1 := val_lt l[i]
  have hv2 := areSigns_mem hs (List.getElem_mem hi)
  have hd : val x ≠ val l[i] := fun e => hne (by rw [val_inj e hx]; exact List.set_getElem_self hi)
  exact no_multiple (by omega) (by omega) (by omega) (by omega) (by omega) (by omega)

/-- Two different signs exchanged: the sum is no more 0. -/
theorem csum_swapped {l : List UInt8} {i j : Nat} (hl : l.length ≤ 24) (hi : i < l.length) (hj : j < l.length) (hs : areSigns l = true) (h0 : csum l 0 % 31 = 0)
    (hne : (l.set i l[j]).set j l[i] ≠ l) : csum ((l.set i l[j]).set j l[i]) 0 % 31 ≠ 0 := by
  have hij : i ≠ j := by
    rintro rfl
    apply hne
    rw [List.set_getElem_self, List.set_getElem_self]
  have hv1 := val_lt l[i]
  have hv2 := areSigns_mem hs (List.getElem_mem hi)
  have hv3 := val_lt l[j]
  have hv4 := areSigns_mem hs (List.getElem_mem hj)
  have hd : val l[i] ≠ val l[j] := by
    intro e
    apply hne
    have := val_inj e hv2
    rw [this]
    have e1 : l.set i l[j] = l := by rw [← this]; exact List.set_getElem_self hi
    rw [e1]
    exact List.set_getElem_self hj
  rw [csum_set _ _ _ _ (by simpa using hj), csum_set _ _ _ _ hi, List.getElem_set_ne hij]
  rw [Int.add_assoc]
  apply shift_mod h0
  have e : (((0 : Nat) : Int) + (i : Int) + 1) * (val l[j] - val l[i]) + (((0 : Nat) : Int) + (j : Int) + 1) * (val l[i] - val l[j]) = ((i : Int) - j) * (val l[j] - val l[i]) := by
    rw [show val l[i] - val l[j] = -(val l[j] - val l[i]) from by omega, Int.mul_neg, ← Int.sub_eq_add_neg, ← Int.sub_mul]
    congr 1
    omega
  rw [e]
  exact no_multiple (by omega) (by omega) (by omega) (by omega) (by omega) (by omega)

theorem areSigns_set {l : List UInt8} {i : Nat} {x : UInt8} (hs : areSigns l = true) (hx : 0 ≤ val x) : areSigns (l.set i x) = true := by
  unfold areSigns at hs ⊢
  rw [List.all_eq_true] at hs ⊢
  intro c hc
  rcases List.mem_or_eq_of_mem_set hc with h | h
  · exact hs c h
  · subst h; simpa using hx

theorem solve31 : ∀ m : Fin 25, ∀ r : Fin 31, m.val ≠ 0 → ∃ k : Fin 31, (r.val + m.val * k.val) % 31 = 0 := by decide +kernel

/-- Some sign seals a body. -/
theorem sealed {l : List UInt8} (hl : l.length ≤ 23) : ∃ k : Nat, k < 31 ∧ csum (l ++ [sg k]) 0 % 31 = 0 := by
  have hr := Int.emod_nonneg (csum l 0) (show (31 : Int) ≠ 0 by omega)
  have hr2 := Int.emod_lt_of_pos (csum l 0) (show (0 : Int) < 31 by omega)
  obtain ⟨k, hk⟩ := solve31 ⟨l.length + 1, by omega⟩ ⟨(csum l 0 % 31).toNat, by omega⟩ (by simp)
  refine ⟨k.val, k.isLt, ?_⟩
  rw [csum_snoc, val_get k]
  simp only at hk
  have h2 : (((csum l 0 % 31).toNat + (l.length + 1) * k.val : Nat) : Int) % 31 = 0 := by omega
  rw [Int.natCast_add, Int.natCast_mul, Int.toNat_of_nonneg hr] at h2
  have e : ((l.length + 1 : Nat) : Int) = (l.length : Int) + 1 := by omega
  rw [e] at h2
  generalize ((l.length : Int) + 1) * (k.val : Int) = t at h2 ⊢
  omega

end Hb
