/- Plain facts on the division of two words by one, digit by digit: no program in sight. -/
namespace Hb

/-- A digit that is no greater than the true one. -/
theorem digit_le {a b c u q r B : Nat} (h : q * a + r = u) (hq : q * b ≤ B * r + c) : q * (a * B + b) ≤ u * B + c := by
  have e1 : q * (a * B + b) = q * a * B + q * b := by rw [Nat.mul_add, Nat.mul_assoc]
  have e2 : u * B = q * a * B + r * B := by rw [← h, Nat.add_mul]
  rw [e1, e2, Nat.mul_comm B r] at *
  omega

theorem digit_small {a b c u B : Nat} (hc : c < B) (hu : u < a * B + b) : (u * B + c) / (a * B + b) < B := by
  rw [Nat.div_lt_iff_lt_mul (by omega)]
  have h1 : (u + 1) * B ≤ (a * B + b) * B := Nat.mul_le_mul_right _ hu
  rw [Nat.succ_mul] at h1
  rw [Nat.mul_comm B]
  omega

/-- Where the loop goes on, the digit is too great. -/
theorem digit_gt {a b c u q r B : Nat} (hc : c < B) (hu : u < a * B + b) (h : q * a + r = u) (hQ : (u * B + c) / (a * B + b) ≤ q) (hno : ¬ (q < B ∧ q * b ≤ B * r + c)) :
    (u * B + c) / (a * B + b) < q := by
  rcases Nat.lt_or_ge ((u * B + c) / (a * B + b)) q with hl | hg
  · exact hl
  · exfalso
    apply hno
    have e : q = (u * B + c) / (a * B + b) := by omega
    have hs := digit_small hc hu
    refine ⟨by omega, ?_⟩
    have h1 : q * (a * B + b) ≤ u * B + c := by
      have := Nat.div_mul_le_self (u * B + c) (a * B + b)
      rw [← e] at this
      exact this
    have e1 : q * (a * B + b) = q * a * B + q * b := by rw [Nat.mul_add, Nat.mul_assoc]
    have e2 : u * B = q * a * B + r * B := by rw [← h, Nat.add_mul]
    rw [e1, e2] at h1
    rw [Nat.mul_comm B r]
    omega

theorem digit_eq {a b c u q B : Nat} (hpos : 0 < a * B + b) (hQ : (u * B + c) / (a * B + b) ≤ q) (hle : q * (a * B + b) ≤ u * B + c) : q = (u * B + c) / (a * B + b) := by
  have := (Nat.le_div_iff_mul_le hpos).2 hle
  omega

theorem digit_done {a b c u q r B : Nat} (hpos : 0 < a * B + b) (h : q * a + r = u) (hQ : (u * B + c) / (a * B + b) ≤ q) (hyes : q * b ≤ B * r + c) : q = (u * B + c) / (a * B + b) :=
  digit_eq hpos hQ (digit_le h hyes)

theorem digit_break {a b c u q r B : Nat} (hb : b < B) (hpos : 0 < a * B + b) (h : q * a + r = u) (hQ : (u * B + c) / (a * B + b) ≤ q) (hq : q ≤ B) (hr : B ≤ r) : q = (u * B + c) / (a * B + b) := by
  refine digit_done hpos h hQ ?_
  have h1 : q * b ≤ B * b := Nat.mul_le_mul_right _ hq
  have h2 : B * b ≤ B * r := Nat.mul_le_mul_left _ (by omega)
  omega

theorem digit_start {a b c u B : Nat} (ha : B ≤ 2 * a) (hb : b < B) (ha0 : 0 < a) (hc : c < B) (hu : u < a * B + b) :
    u / a * a + u % a = u ∧ (u * B + c) / (a * B + b) ≤ u / a ∧ u / a ≤ B + 1 := by
  refine ⟨Nat.div_add_mod' u a, ?_, ?_⟩
  · rw [Nat.le_div_iff_mul_le ha0]
    have hs := Nat.div_mul_le_self (u * B + c) (a * B + b)
    generalize (u * B + c) / (a * B + b) = Q at hs
    rcases Nat.lt_or_ge u (Q * a) with hl | hg
    · exfalso
      have h1 : (u + 1) * B ≤ Q * a * B := Nat.mul_le_mul_right _ hl
      rw [Nat.mul_add, ← Nat.mul_assoc] at hs
      rw [Nat.succ_mul] at h1
      omega
    · exact hg
  · have h1 : u / a < B + 2 := by
      rw [Nat.div_lt_iff_lt_mul ha0]
      have : (B + 2) * a = B * a + 2 * a := Nat.add_mul _ _ _
      rw [Nat.mul_comm a B] at hu
      omega
    omega

/-- Two digits make the quotient. -/
theorem two_digits {y u c d B : Nat} (hy : 0 < y) :
    let v := (u * B + c) % y
    (u * B + c) / y * B + (v * B + d) / y = (u * B * B + c * B + d) / y ∧ (v * B + d) % y = (u * B * B + c * B + d) % y := by
  intro v
  have e : u * B * B + c * B + d = (u * B + c) / y * B * y + (v * B + d) := by
    have h1 := Nat.div_add_mod' (u * B + c) y
    have h2 : (u * B + c) * B = ((u * B + c) / y * y + v) * B := by rw [h1]
    rw [Nat.add_mul, Nat.add_mul] at h2
    rw [Nat.mul_right_comm ((u * B + c) / y) B y]
    omega
  rw [e]
  constructor
  · rw [Nat.add_comm (_ * y), Nat.add_mul_div_right _ _ hy, Nat.add_comm]
  · rw [Nat.add_comm (_ * y), Nat.add_mul_mod_self_right]

end Hb
