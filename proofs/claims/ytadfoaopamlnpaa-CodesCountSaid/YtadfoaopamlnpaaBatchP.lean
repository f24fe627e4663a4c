/- Plain facts on batches of codes: digits of base 31, the inverse of the factor: no program in sight. -/
import Derived.Test.YtadfoaopamlnpaaCode
namespace Hb

/-- A power of 31. -/
def p31 (c : Nat) : Nat := 31 ^ c

/-- The last k digits of v, the first of them first. -/
def low : Nat → Nat → List UInt8
  | 0, _ => []
  | k + 1, v => sg ((v / 31 ^ k) % 31) :: low k v

theorem low_length (k v : Nat) : (low k v).length = k := by
  induction k with
  | zero => rfl
  | succ k ih => simp [low, ih]
theorem low_get (k v i : Nat) (h : i < k) : (low k v)[i]? = some (sg ((v / 31 ^ (k - 1 - i)) % 31)) := by
  induction k generalizing i with
  | zero => omega
  | succ k ih =>
    cases i with
    | zero => simp [low]
    | succ i =>
      simp only [low, List.getElem?_cons_succ]
      rw [ih i (by omega)]
      rw [show k + 1 - 1 - (i + 1) = k - 1 - i from by omega]
theorem val_sg (n : Nat) : val (sg (n % 31)) = ((n % 31 : Nat) : Int) := val_get ⟨n % 31, Nat.mod_lt _ (by omega)⟩
theorem low_signs (k v : Nat) : areSigns (low k v) = true := by
  induction k with
  | zero => rfl
  | succ k ih =>
    unfold areSigns at ih ⊢
    simp only [low, List.all_cons, ih, Bool.and_true, decide_eq_true_eq]
    rw [val_sg]
    omega
theorem low_inj (k v v' : Nat) (hv : v < 31 ^ k) (hv' : v' < 31 ^ k) (h : low k v = low k v') : v = v' := by
  have key : ∀ j, j ≤ k → v / 31 ^ j = v' / 31 ^ j := by
    intro j hj
    obtain ⟨d, rfl⟩ : ∃ d, j = k - d := ⟨k - j, by omega⟩
    have hd : d ≤ k ∨ k < d := by omega
    induction d with
    | zero => rw [Nat.sub_zero, Nat.div_eq_of_lt hv, Nat.div_eq_of_lt hv']
    | succ d ih =>
      rcases Nat.lt_or_ge d k with hdk | hdk
      · have h0 := ih (by omega) (by omega)
        have e : k - d = (k - (d + 1)) + 1 := by omega
        rw [e, Nat.pow_succ, ← Nat.div_div_eq_div_mul, ← Nat.div_div_eq_div_mul] at h0
        have h1 := low_get k v d hdk
        have h2 := low_get k v' d hdk
        rw [h, h2] at h1
        rw [show k - 1 - d = k - (d + 1) from by omega] at h1
        injection h1 with h1
        have h3 := congrArg val h1
        rw [val_sg, val_sg] at h3
        generalize v / 31 ^ (k - (d + 1)) = x at *
        generalize v' / 31 ^ (k - (d + 1)) = y at *
        omega
      · have e : k - (d + 1) = k - d := by omega
        rw [e]
        exact ih (by omega) (by omega)
  have := key 0 (by omega)
  simpa using this

/-- What stands for the number n in a batch. -/
def bv (all key n : Nat) : Nat := ((n * 7919) % all + key) % all
theorem bv_lt {all key n : Nat} (h : 0 < all) : bv all key n < all := Nat.mod_lt _ h
theorem bv_back {all key n : Nat} (h : 0 < all) (hk : key < all) : (bv all key n + (all - key)) % all = (n * 7919) % all := by
  unfold bv
  have ht := Nat.mod_lt (n * 7919) h
  generalize (n * 7919) % all = t at *
  rcases Nat.lt_or_ge (t + key) all with hl | hg
  · rw [Nat.mod_eq_of_lt hl, show t + key + (all - key) = t + all from by omega, Nat.add_mod_right, Nat.mod_eq_of_lt ht]
  · have e : (t + key) % all = t + key - all := by
      rw [Nat.mod_eq_sub_mod hg, Nat.mod_eq_of_lt (by omega)]
    rw [e, show t + key - all + (all - key) = t from by omega, Nat.mod_eq_of_lt ht]
theorem back {all inv n : Nat} (hinv : (7919 * inv) % all = 1) (hn : n < all) : (n * 7919 % all * inv) % all = n := by
  rw [Nat.mod_mul_mod, Nat.mul_assoc, Nat.mul_mod, hinv, Nat.mul_one, Nat.mod_mod, Nat.mod_eq_of_lt hn]
theorem bv_inj {all key inv n n' : Nat} (h : 0 < all) (hk : key < all) (hinv : (7919 * inv) % all = 1) (hn : n < all) (hn' : n' < all) (e : bv all key n = bv all key n') : n = n' := by
  have h1 := bv_back (n := n) h hk
  have h2 := bv_back (n := n') h hk
  rw [e, h2] at h1
  rw [← back hinv hn, ← back hinv hn', h1]

/-- One step of the way to the inverse: a, b, x, y. -/
def stp (s : Int × Int × Int × Int) : Int × Int × Int × Int :=
  (s.2.1 - s.2.1 / s.1 * s.1, s.1, s.2.2.2 - s.2.1 / s.1 * s.2.2.1, s.2.2.1)
def stn (m : Int) : Nat → Int × Int × Int × Int
  | 0 => (7919 % m, m, 1, 0)
  | k + 1 => stp (stn m k)

/-- The steps for m stay small, and end behind N of them. -/
def small (n : Int) : Bool := decide (-4611686018427387904 ≤ n) && decide (n ≤ 4611686018427387904)
def okAt (s : Int × Int × Int × Int) : Bool :=
  decide (0 < s.1) && decide (0 ≤ s.2.1) && decide (0 ≤ (stp s).1) && decide ((stp s).1 < s.1) && small s.1 && small s.2.1 && small s.2.2.1 && small s.2.2.2 && small (s.2.1 / s.1) && small (s.2.1 / s.1 * s.1) && small (s.2.1 / s.1 * s.2.2.1) && small (stp s).1 && small (stp s).2.2.1
def okAll (m : Int) (N : Nat) : Bool := (List.range N).all fun k => okAt (stn m k)
/-- The inverse itself. -/
def inv (m : Int) (N : Nat) : Int := ((stn m N).2.2.2.tmod m + m) % m

/-- A count of signs that the law draws: the steps to the inverse are known. -/
structure Cnt (c : Nat) (all N : Nat) : Prop where
  pow : p31 c = all
  lo : 3 ≤ c
  hi : c ≤ 11
  big : 29791 ≤ all
  sm : all ≤ 25408476896404831
  ok : okAll all N = true
  fin : (stn all N).1 = 0
  ysm : small (stn all N).2.2.2 = true
  pos : 0 ≤ inv all N
  lt : inv all N < all
  one : (7919 * (inv all N).toNat) % all = 1
theorem cnt3 : Cnt 3 29791 8 := ⟨by decide, by decide, by decide, by decide, by decide, by decide +kernel, by decide +kernel, by decide +kernel, by decide +kernel, by decide +kernel, by decide +kernel⟩
theorem cnt4 : Cnt 4 923521 11 := ⟨by decide, by decide, by decide, by decide, by decide, by decide +kernel, by decide +kernel, by decide +kernel, by decide +kernel, by decide +kernel, by decide +kernel⟩
theorem cnt11 : Cnt 11 25408476896404831 10 := ⟨by decide +kernel, by decide, by decide, by decide, by decide, by decide +kernel, by decide +kernel, by decide +kernel, by decide +kernel, by decide +kernel, by decide +kernel⟩

theorem okAt_of {m : Int} {N k : Nat} (h : okAll m N = true) (hk : k < N) : okAt (stn m k) = true := by
  unfold okAll at h
  rw [List.all_eq_true] at h
  exact h k (List.mem_range.2 hk)
theorem small_iff {n : Int} (h : small n = true) : -4611686018427387904 ≤ n ∧ n ≤ 4611686018427387904 := by
  unfold small at h
  simpa using h
end Hb
