/- Plain facts on binomial numbers and greatest common divisors: no program in sight. -/
namespace Hb

def C : Nat → Nat → Nat
  | _, 0 => 1
  | 0, _ + 1 => 0
  | n + 1, k + 1 => C n k + C n (k + 1)

theorem C_zero (n : Nat) : C n 0 = 1 := by cases n <;> rfl
theorem C_succ (n k : Nat) : C (n + 1) (k + 1) = C n k + C n (k + 1) := rfl

theorem C_gt {n k : Nat} (h : n < k) : C n k = 0 := by
  induction n generalizing k with
  | zero => cases k with
    | zero => omega
    | succ k => rfl
  | succ n ih => cases k with
    | zero => omega
    | succ k => rw [C_succ, ih (by omega), ih (by omega)]

theorem C_self (n : Nat) : C n n = 1 := by
  induction n with
  | zero => rfl
  | succ n ih => rw [C_succ, ih, C_gt (by omega)]

theorem C_le (n k : Nat) : C n k ≤ 2 ^ n := by
  induction n generalizing k with
  | zero => cases k <;> simp [C]
  | succ n ih => cases k with
    | zero => rw [C_zero]; exact Nat.one_le_two_pow
    | succ k => rw [C_succ]; have h1 := ih k; have h2 := ih (k + 1); rw [Nat.pow_succ]; omega

theorem C_pos {n k : Nat} (h : k ≤ n) : 0 < C n k := by
  induction n generalizing k with
  | zero => obtain rfl : k = 0 := by omega
            simp [C]
  | succ n ih => cases k with
    | zero => rw [C_zero]; omega
    | succ k => rw [C_succ]; have := ih (k := k) (by omega); omega

theorem C_symm {n k : Nat} (h : k ≤ n) : C n (n - k) = C n k := by
  induction n generalizing k with
  | zero => obtain rfl : k = 0 := by omega
            rfl
  | succ n ih => cases k with
    | zero => rw [C_zero]; exact C_self _
    | succ k =>
      by_cases hk : k = n
      · subst hk; rw [Nat.sub_self, C_zero, C_self]
      · have e : n + 1 - (k + 1) = (n - (k + 1)) + 1 := by omega
        rw [e, C_succ, C_succ, ih (by omega), show n - (k + 1) + 1 = n - k from by omega, ih (by omega)]
        omega

theorem C_absorb (n k : Nat) : (k + 1) * C (n + 1) (k + 1) = (n + 1) * C n k := by
  induction n generalizing k with
  | zero => cases k with
    | zero => rfl
    | succ k => simp [C]
  | succ n ih => cases k with
    | zero =>
      have h := ih 0
      rw [C_zero] at h
      rw [C_succ, C_zero]
      simp at *
      omega
    | succ k =>
      have h1 := ih k
      have h2 := ih (k + 1)
      rw [C_succ (n + 1) (k + 1)]
      have e : C (n + 1) (k + 1) = C n k + C n (k + 1) := rfl
      have : (k + 1 + 1) * (C (n + 1) (k + 1) + C (n + 1) (k + 1 + 1)) = (k + 1) * C (n + 1) (k + 1) + C (n + 1) (k + 1) + (k + 1 + 1) * C (n + 1) (k + 1 + 1) := by
        rw [Nat.mul_add, Nat.succ_mul (k + 1)]
      rw [this, h1, h2, e, Nat.mul_add]
      have : (n + 1 + 1) * (C n k + C n (k + 1)) = (n + 1) * (C n k + C n (k + 1)) + (C n k + C n (k + 1)) := Nat.succ_mul _ _
      rw [Nat.mul_add] at this
      rw [Nat.mul_add] at this
      omega

/-- C n (k+1) times k+1 is C n k times n-k. -/
theorem C_step {n k : Nat} (h : k ≤ n) : (k + 1) * C n (k + 1) = C n k * (n - k) := by
  have h1 := C_absorb n k
  rw [C_succ, Nat.mul_add] at h1
  have h2 : (n + 1) * C n k = (k + 1) * C n k + (n - k) * C n k := by
    rw [← Nat.add_mul]; congr 1; omega
  rw [Nat.mul_comm (C n k)]
  omega

/-- One round of 'choose': with d the common divisor of what is there and i+1, nothing is lost by the divisions. -/
theorem round {m n i : Nat} (hm : 0 < m) (c : Nat) (h : (i + 1) * c = m * (n - i)) :
    m / Nat.gcd m (i + 1) * ((n - i) / ((i + 1) / Nat.gcd m (i + 1))) = c := by
  have hd : 0 < Nat.gcd m (i + 1) := Nat.gcd_pos_of_pos_left _ hm
  generalize hg : Nat.gcd m (i + 1) = d at *
  have d1 : d ∣ m := hg ▸ Nat.gcd_dvd_left _ _
  have d2 : d ∣ (i + 1) := hg ▸ Nat.gcd_dvd_right _ _
  obtain ⟨a, ha⟩ := d1
  obtain ⟨b, hb⟩ := d2
  have ea : m / d = a := by rw [ha]; exact Nat.mul_div_cancel_left _ hd
  have eb : (i + 1) / d = b := by rw [hb]; exact Nat.mul_div_cancel_left _ hd
  have bp : 0 < b := by
    rcases Nat.eq_zero_or_pos b with e | e
    · rw [e, Nat.mul_zero] at hb; omega
    · exact e
  have cop : Nat.Coprime b a := by
    have : Nat.gcd m (i + 1) = d * Nat.gcd a b := by rw [ha, hb]; exact Nat.gcd_mul_left _ _ _
    rw [hg] at this
    have h1 : d * Nat.gcd a b = d * 1 := by omega
    have := Nat.eq_of_mul_eq_mul_left hd h1
    rw [Nat.coprime_comm]
    exact this
  have h2 : b * c = a * (n - i) := by
    apply Nat.eq_of_mul_eq_mul_left hd
    rw [← Nat.mul_assoc, ← hb, h, ha, Nat.mul_assoc]
  have dv : b ∣ (n - i) := cop.dvd_of_dvd_mul_left ⟨c, h2.symm⟩
  obtain ⟨e, he⟩ := dv
  rw [ea, eb, he, Nat.mul_div_cancel_left _ bp]
  apply Nat.eq_of_mul_eq_mul_left bp
  rw [h2, he, Nat.mul_left_comm]

theorem choose_round {n i : Nat} (h : i < n) :
    C n i / Nat.gcd (C n i) (i + 1) * ((n - i) / ((i + 1) / Nat.gcd (C n i) (i + 1))) = C n (i + 1) :=
  round (C_pos (by omega)) _ (C_step (by omega))

/-- Moving two places towards each other makes the product no smaller. -/
theorem C_inward {m p q : Nat} (h : p < q) : C m p * C m q ≤ C m (p + 1) * C m (q - 1) := by
  by_cases hq : q ≤ m
  · obtain ⟨r, rfl⟩ : ∃ r, q = r + 1 := ⟨q - 1, by omega⟩
    rw [Nat.add_sub_cancel]
    have h1 := C_step (n := m) (k := p) (by omega)
    have h2 := C_step (n := m) (k := r) (by omega)
    have pos : 0 < (p + 1) * (r + 1) := Nat.mul_pos (by omega) (by omega)
    refine Nat.le_of_mul_le_mul_left (c := (p + 1) * (r + 1)) ?_ pos
    have e1 : (p + 1) * (r + 1) * (C m p * C m (r + 1)) = (C m p * C m r) * ((p + 1) * (m - r)) := by
      calc (p + 1) * (r + 1) * (C m p * C m (r + 1)) = (p + 1) * C m p * ((r + 1) * C m (r + 1)) := by ac_rfl
        _ = (p + 1) * C m p * (C m r * (m - r)) := by rw [h2]
        _ = (C m p * C m r) * ((p + 1) * (m - r)) := by ac_rfl
    have e2 : (p + 1) * (r + 1) * (C m (p + 1) * C m r) = (C m p * C m r) * ((r + 1) * (m - p)) := by
      calc (p + 1) * (r + 1) * (C m (p + 1) * C m r) = ((p + 1) * C m (p + 1)) * ((r + 1) * C m r) := by ac_rfl
        _ = (C m p * (m - p)) * ((r + 1) * C m r) := by rw [h1]
        _ = (C m p * C m r) * ((r + 1) * (m - p)) := by ac_rfl
    rw [e1, e2]
    apply Nat.mul_le_mul_left
    exact Nat.mul_le_mul (by omega) (by omega)
  · rw [C_gt (n := m) (k := q) (by omega)]; simp

/-- The middle is the greatest of the products with a fixed sum of places. -/
theorem C_middle (m a j : Nat) (h : j ≤ a) : C m (a - j) * C m (a + j) ≤ C m a * C m a := by
  induction j with
  | zero => simp
  | succ j ih =>
    have h1 := C_inward (m := m) (p := a - (j + 1)) (q := a + (j + 1)) (by omega)
    rw [show a - (j + 1) + 1 = a - j from by omega, show a + (j + 1) - 1 = a + j from by omega] at h1
    exact Nat.le_trans h1 (ih (by omega))

theorem C_mid (m a x : Nat) (h : x ≤ a + a) : C m x * C m (a + a - x) ≤ C m a * C m a := by
  by_cases hx : x ≤ a
  · have := C_middle m a (a - x) (by omega)
    rw [show a - (a - x) = x from by omega, show a + (a - x) = a + a - x from by omega] at this
    exact this
  · have := C_middle m a (x - a) (by omega)
    rw [show a - (x - a) = a + a - x from by omega, show a + (x - a) = x from by omega, Nat.mul_comm] at this
    exact this

end Hb
