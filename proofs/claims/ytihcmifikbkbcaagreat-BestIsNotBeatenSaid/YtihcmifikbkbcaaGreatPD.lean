/- Texts of this claim, put together: Div, Div64, OfShare0, SortInt, OfShare. -/
import Derived.Test.YtihcmifikbkbcaaGreatShelf
import Derived.Test.YtihcmifikbkbcaaGreatPA
import Derived.Deep.Cut
import Derived.Deep.CutBlock
import Derived.Deep.DeepCutAuto
import Derived.LoopTactic
import Derived.Test.YtihcmifikbkbcaaGreatPB
import Derived.StillTailTactics
/- Plain facts on the division of two words by one, digit by digit: no program in sight. -/
namespace Hb

/-- A digit that is no greater than the true one. -/
theorem digit_le {a b c u q r B : Nat} (h : q * a + r = u) (hq : q * b ≤ B * r + c) : q * (a * B + b) ≤ u * B + c := by
  have e1 : q * (a * B + b) = q * a * B + q * b := by rw [Nat.mul_add, Nat.mul_assoc]
  have e2 : u * B = q * a * B + r * B := by rw [← h, Nat.add_mul]
  rw [e1, e2, Nat.mul_comm B r] at *
  omega

theorem digit_small {a b c u B : Nat} (hc : c < B) (hu : u < a * B + b) : (u * B + c) / (a * B + b) < B := by
  rw [Nat.div_lt_iff_lt_mul (by omega)]
  have h1 : (u + 1) * B ≤ (a * B + b) * B := Nat.mul_le_mul_right _ hu
  rw [Nat.succ_mul] at h1
  rw [Nat.mul_comm B]
  omega

/-- Where the loop goes on, the digit is too great. -/
theorem digit_gt {a b c u q r B : Nat} (hc : c < B) (hu : u < a * B + b) (h : q * a + r = u) (hQ : (u * B + c) / (a * B + b) ≤ q) (hno : ¬ (q < B ∧ q * b ≤ B * r + c)) :
    (u * B + c) / (a * B + b) < q := by
  rcases Nat.lt_or_ge ((u * B + c) / (a * B + b)) q with hl | hg
  · exact hl
  · exfalso
    apply hno
    have e : q = (u * B + c) / (a * B + b) := by omega
    have hs := digit_small hc hu
    refine ⟨by omega, ?_⟩
    have h1 : q * (a * B + b) ≤ u * B + c := by
      have := Nat.div_mul_le_self (u * B + c) (a * B + b)
      rw [← e] at this
      exact this
    have e1 : q * (a * B + b) = q * a * B + q * b := by rw [Nat.mul_add, Nat.mul_assoc]
    have e2 : u * B = q * a * B + r * B := by rw [← h, Nat.add_mul]
    rw [e1, e2] at h1
    rw [Nat.mul_comm B r]
    omega

theorem digit_eq {a b c u q B : Nat} (hpos : 0 < a * B + b) (hQ : (u * B + c) / (a * B + b) ≤ q) (hle : q * (a * B + b) ≤ u * B + c) : q = (u * B + c) / (a * B + b) := by
  have := (Nat.le_div_iff_mul_le hpos).2 hle
  omega

theorem digit_done {a b c u q r B : Nat} (hpos : 0 < a * B + b) (h : q * a + r = u) (hQ : (u * B + c) / (a * B + b) ≤ q) (hyes : q * b ≤ B * r + c) : q = (u * B + c) / (a * B + b) :=
  digit_eq hpos hQ (digit_le h hyes)

theorem digit_break {a b c u q r B : Nat} (hb : b < B) (hpos : 0 < a * B + b) (h : q * a + r = u) (hQ : (u * B + c) / (a * B + b) ≤ q) (hq : q ≤ B) (hr : B ≤ r) : q = (u * B + c) / (a * B + b) := by
  refine digit_done hpos h hQ ?_
  have h1 : q * b ≤ B * b := Nat.mul_le_mul_right _ hq
  have h2 : B * b ≤ B * r := Nat.mul_le_mul_left _ (by omega)
  omega

theorem digit_start {a b c u B : Nat} (ha : B ≤ 2 * a) (hb : b < B) (ha0 : 0 < a) (hc : c < B) (hu : u < a * B + b) :
    u / a * a + u % a = u ∧ (u * B + c) / (a * B + b) ≤ u / a ∧ u / a ≤ B + 1 := by
  refine ⟨Nat.div_add_mod' u a, ?_, ?_⟩
  · rw [Nat.le_div_iff_mul_le ha0]
    have hs := Nat.div_mul_le_self (u * B + c) (a * B + b)
    generalize (u * B + c) / (a * B + b) = Q at hs
    rcases Nat.lt_or_ge u (Q * a) with hl | hg
    · exfalso
      have h1 : (u + 1) * B ≤ Q * a * B := Nat.mul_le_mul_right _ hl
      rw [Nat.mul_add, ← Nat.mul_assoc] at hs
      rw [Nat.succ_mul] at h1
      omega
    · exact hg
  · have h1 : u / a < B + 2 := by
      rw [Nat.div_lt_iff_lt_mul ha0]
      have : (B + 2) * a = B * a + 2 * a := Nat.add_mul _ _ _
      rw [Nat.mul_comm a B] at hu
      omega
    omega

/-- Two digits make the quotient. -/
theorem two_digits {y u c d B : Nat} (hy : 0 < y) :
    let v := (u * B + c) % y
    (u * B + c) / y * B + (v * B + d) / y = (u * B * B + c * B + d) / y ∧ (v * B + d) % y = (u * B * B + c * B + d) % y := by
  intro v
  have e : u * B * B + c * B + d = (u * B + c) / y * B * y + (v * B + d) := by
    have h1 := Nat.div_add_mod' (u * B + c) y
    have h2 : (u * B + c) * B = ((u * B + c) / y * y + v) * B := by rw [h1]
    rw [Nat.add_mul, Nat.add_mul] at h2
    rw [Nat.mul_right_comm ((u * B + c) / y) B y]
    omega
  rw [e]
  constructor
  · rw [Nat.add_comm (_ * y), Nat.add_mul_div_right _ _ hy, Nat.add_comm]
  · rw [Nat.add_comm (_ * y), Nat.add_mul_mod_self_right]

end Hb

/- What Div64 of package math/bits returns: the quotient and the remainder of two words by one. -/
namespace Go.Proofs.YtihcmifikbkbcaaGreat
set_option linter.unusedVariables false
open Go.RowKit

set_option maxHeartbeats 1000000 in
theorem div64_low (lo y : Nat) (w : World) (h1 : lo < 18446744073709551616) (h2 : y < 18446744073709551616) (h0 : 0 < y) :
    Calls Tryz.prog 128 #[.int .u64 0, .int .u64 lo, .int .u64 y] w fun e w' =>
      e = .returned (.tuple #[.int .u64 (lo / y : Nat), .int .u64 (lo % y : Nat)]) ∧ ∃ n, w' = w.drewN n := by
  have hy : ((y : Int) == 0) = false := beq_eq_false_iff_ne.2 (by omega)
  go_enter Tryz.func128, Tryz.ntmps128
  go_wp2_with fail
  go_quiet (fail)
  go_wp2_with fail
  go_ret2
  refine ⟨?_, _, rfl⟩
  have hq : lo / y ≤ lo := Nat.div_le_self _ _
  have e : ((lo : Int) / y) = ((lo / y : Nat) : Int) := by simp
  have e1 : IntKind.u64.wrap ((lo : Int) / y) = ((lo / y : Nat) : Int) := by
    rw [e]
    generalize lo / y = q at hq
    exact IntWalk.u64_in _ (by omega)
  have e2 : ((lo : Int) % y) = ((lo % y : Nat) : Int) := by simp
  rw [← e1, ← e2]
  rfl

theorem and_mask (Y : Nat) (h : Y < 18446744073709551616) : bits .and .u64 (Y : Int) 4294967295 = ((Y % 4294967296 : Nat) : Int) := by
  have := u64_and_nat Y 4294967295 h (by omega)
  rw [show ((4294967295 : Nat) : Int) = 4294967295 from rfl] at this
  rw [this]
  congr 1
  exact Nat.and_two_pow_sub_one_eq_mod Y 32

/-- The upper word of what is shifted. -/
theorem or_join (hi lo s : Nat) (hs : s ≤ 63) (h1 : lo < 18446744073709551616) (h2 : hi * 2 ^ s < 18446744073709551616) :
    bits .or .u64 (IntKind.u64.wrap ((hi : Int) * 2 ^ s)) ((lo : Int) / 2 ^ (64 - s)) = ((hi * 2 ^ s + lo / 2 ^ (64 - s) : Nat) : Int) := by
  have e1 : IntKind.u64.wrap ((hi : Int) * 2 ^ s) = ((hi * 2 ^ s : Nat) : Int) := by
    have : ((hi : Int) * 2 ^ s) = ((hi * 2 ^ s : Nat) : Int) := by simp
    rw [this]
    generalize hi * 2 ^ s = t at h2
    exact IntWalk.u64_in _ (by omega)
  have e2 : ((lo : Int) / 2 ^ (64 - s)) = ((lo / 2 ^ (64 - s) : Nat) : Int) := by simp
  have hlt : lo / 2 ^ (64 - s) < 2 ^ s := by
    rw [Nat.div_lt_iff_lt_mul (Nat.pow_pos (by omega)), ← Nat.pow_add, show s + (64 - s) = 64 from by omega]
    exact h1
  have hle : lo / 2 ^ (64 - s) ≤ lo := Nat.div_le_self _ _
  rw [e1, e2, u64_or_nat _ _ h2 (by omega)]
  congr 1
  exact nat_join s _ _ (Nat.mul_mod_left _ _) hlt

/-- The two words of what is shifted. -/
theorem shifted (hi lo s : Nat) (hs : s ≤ 63) : (hi * 18446744073709551616 + lo) * 2 ^ s = (hi * 2 ^ s + lo / 2 ^ (64 - s)) * 18446744073709551616 + (lo * 2 ^ s) % 18446744073709551616 := by
  have e : 18446744073709551616 = 2 ^ (64 - s) * 2 ^ s := by rw [← Nat.pow_add, show 64 - s + s = 64 from by omega]
  have h1 := Nat.div_add_mod' lo (2 ^ (64 - s))
  have h2 : (lo * 2 ^ s) % 18446744073709551616 = (lo % 2 ^ (64 - s)) * 2 ^ s := by
    rw [e, Nat.mul_mod_mul_right]
  rw [h2]
  have h3 : lo * 2 ^ s = lo / 2 ^ (64 - s) * 2 ^ (64 - s) * 2 ^ s + lo % 2 ^ (64 - s) * 2 ^ s := by
    rw [← Nat.add_mul, h1]
  have h4 : lo / 2 ^ (64 - s) * 2 ^ (64 - s) * 2 ^ s = lo / 2 ^ (64 - s) * 18446744073709551616 := by
    rw [Nat.mul_assoc, ← e]
  rw [Nat.add_mul, Nat.add_mul, h3, h4, Nat.mul_right_comm]
  omega

theorem wrapL (lo s : Nat) : IntKind.u64.wrap ((lo : Int) * 2 ^ s) = (((lo * 2 ^ s) % 18446744073709551616 : Nat) : Int) := by
  rw [IntKind.wrap_u64]
  simp

theorem lead (y : Nat) (h0 : 0 < y) (h : y < 18446744073709551616) :
    ∃ s : Nat, Hid (64 - (Lib.bitLen y : Int) = (s : Int)) ∧ s ≤ 63 ∧ Hid (y * 2 ^ s < 18446744073709551616 ∧ 9223372036854775808 ≤ y * 2 ^ s) := by
  have key : ∀ (f y : Nat), 0 < y → y < 2 ^ f → 1 ≤ Lib.bitLenAux f y ∧ Lib.bitLenAux f y ≤ f ∧ 2 ^ (Lib.bitLenAux f y - 1) ≤ y ∧ y < 2 ^ Lib.bitLenAux f y := by
    intro f
    induction f with
    | zero => intro y h0 h; omega
    | succ f ih =>
      intro y h0 h
      unfold Lib.bitLenAux
      rw [if_neg (by omega)]
      by_cases h1 : y / 2 = 0
      · have : y = 1 := by omega
        subst this
        have e : Lib.bitLenAux f (1 / 2) = 0 := by cases f <;> rfl
        rw [e]
        exact ⟨by omega, by omega, by decide, by decide⟩
      · obtain ⟨k1, k2, k3, k4⟩ := ih (y / 2) (by omega) (by rw [Nat.pow_succ] at h; omega)
        refine ⟨by omega, by omega, ?_, ?_⟩
        · have e : 1 + Lib.bitLenAux f (y / 2) - 1 = (Lib.bitLenAux f (y / 2) - 1) + 1 := by omega
          rw [e, Nat.pow_succ]
          omega
        · rw [Nat.add_comm 1, Nat.pow_succ]
          omega
  obtain ⟨k1, k2, k3, k4⟩ := key 64 y h0 h
  change 1 ≤ Lib.bitLen y at k1
  change Lib.bitLen y ≤ 64 at k2
  change 2 ^ (Lib.bitLen y - 1) ≤ y at k3
  change y < 2 ^ Lib.bitLen y at k4
  generalize Lib.bitLen y = n at *
  refine ⟨64 - n, by show _ = _; omega, by omega, ?_, ?_⟩
  · have : y * 2 ^ (64 - n) < 2 ^ n * 2 ^ (64 - n) := Nat.mul_lt_mul_of_pos_right k4 (Nat.pow_pos (by omega))
    rw [← Nat.pow_add, show n + (64 - n) = 64 from by omega] at this
    exact this
  · have : 2 ^ (n - 1) * 2 ^ (64 - n) ≤ y * 2 ^ (64 - n) := Nat.mul_le_mul_right _ k3
    rw [← Nat.pow_add, show n - 1 + (64 - n) = 63 from by omega] at this
    exact this

theorem start_q (u a : Nat) (ha : 2147483648 ≤ a) (hu : u < 18446744073709551616) : IntKind.u64.wrap ((u : Int) / a) = ((u / a : Nat) : Int) := by
  have e : ((u : Int) / a) = ((u / a : Nat) : Int) := by simp
  have h : u / a ≤ u := Nat.div_le_self _ _
  rw [e]
  generalize u / a = q at h
  exact IntWalk.u64_in _ (by omega)
theorem start_r (u a : Nat) (ha : 2147483648 ≤ a) (hu : u < 18446744073709551616) :
    IntKind.u64.wrap ((u : Int) - IntKind.u64.wrap (IntKind.u64.wrap ((u : Int) / a) * a)) = ((u % a : Nat) : Int) := by
  rw [start_q u a ha hu, ← Int.natCast_mul]
  have h := Nat.div_add_mod' u a
  have h2 : u / a * a ≤ u := Nat.div_mul_le_self _ _
  generalize u / a * a = t at h h2
  rw [IntWalk.u64_in (t : Int) (by omega)]
  have e : ((u : Int) - t) = ((u % a : Nat) : Int) := by omega
  rw [e]
  have := Nat.mod_lt u (show a > 0 by omega)
  generalize u % a = r at *
  exact IntWalk.u64_in _ (by omega)

theorem next_digit {q a r u : Nat} (h : q * a + r = u) (h1 : 1 ≤ q) : (q - 1) * a + (r + a) = u := by
  obtain ⟨m, rfl⟩ : ∃ m, q = m + 1 := ⟨q - 1, by omega⟩
  rw [Nat.succ_mul] at h
  simp only [Nat.add_sub_cancel]
  omega
theorem prod_le {q b : Nat} (hq : (q : Int) < 4294967296) (hb : b < 4294967296) : (q : Int) * (b : Int) ≤ 18446744073709551615 := by
  have : (q : Int) * (b : Int) ≤ 4294967295 * 4294967295 := Int.mul_le_mul (by omega) (by omega) (by omega) (by omega)
  omega
theorem no_digit {q b r c : Nat} (h : (4294967296 : Int) ≤ (q : Int) ∨ 4294967296 * (r : Int) + c < (q : Int) * b) : ¬ (q < 4294967296 ∧ q * b ≤ 4294967296 * r + c) := by
  rintro ⟨h1, h2⟩
  rcases h with h | h
  · omega
  · have : ((q * b : Nat) : Int) ≤ ((4294967296 * r + c : Nat) : Int) := by omega
    rw [Int.natCast_mul] at this
    omega
theorem le_digit {q b r c : Nat} (h : (q : Int) * b ≤ 4294967296 * (r : Int) + c) : q * b ≤ 4294967296 * r + c := by
  rw [← Int.natCast_mul] at h
  omega

theorem ret_two {k l : IntKind} {a b a' b' : Int} (h : a = a') (h' : b = b') : Ending.returned (.tuple #[.int k a, .int l b]) = .returned (.tuple #[.int k a', .int l b']) := by rw [h, h']
theorem rest_digit (u c Y Q : Nat) (hY : Y < 18446744073709551616) (hY0 : 0 < Y) (hQ : Q = (u * 4294967296 + c) / Y) :
    IntKind.u64.wrap (IntKind.u64.wrap (IntKind.u64.wrap ((u : Int) * 4294967296) + c) - IntKind.u64.wrap ((Q : Int) * Y)) = (((u * 4294967296 + c) % Y : Nat) : Int) := by
  rw [IntKind.wrap_u64, IntKind.wrap_u64, IntKind.wrap_u64, IntKind.wrap_u64]
  have h := Nat.div_add_mod' (u * 4294967296 + c) Y
  have hm := Nat.mod_lt (u * 4294967296 + c) hY0
  rw [← hQ] at h
  have h' : (Q : Int) * Y + (((u * 4294967296 + c) % Y : Nat) : Int) = (u : Int) * 4294967296 + c := by
    rw [← Int.natCast_mul]
    omega
  generalize (u * 4294967296 + c) % Y = m at hm h'
  generalize (Q : Int) * Y = t at h'
  omega

set_option maxHeartbeats 2000000 in
set_option maxRecDepth 100000 in
theorem div64_high (hi lo y : Nat) (w : World) (h1 : lo < 18446744073709551616) (h2 : y < 18446744073709551616) (h3 : hi < y) (h0 : 0 < hi) :
    Calls Tryz.prog 128 #[.int .u64 hi, .int .u64 lo, .int .u64 y] w fun e w' =>
      e = .returned (.tuple #[.int .u64 ((hi * 18446744073709551616 + lo) / y : Nat), .int .u64 ((hi * 18446744073709551616 + lo) % y : Nat)]) ∧ ∃ n, w' = w.drewN n := by
  have hy : ((y : Int) == 0) = false := beq_eq_false_iff_ne.2 (by omega)
  have hh : ((hi : Int) == 0) = false := beq_eq_false_iff_ne.2 (by omega)
  go_enter Tryz.func128, Tryz.ntmps128
  go_wp2_with fail
  refine (Tryz.bits_LeadingZeros64 _ _ (by omega) (by omega)).mono ?_
  rintro e w' ⟨rfl, rfl⟩
  rw [Int.toNat_natCast]
  obtain ⟨s, hs, hs1, hs2⟩ : ∃ s : Nat, Hid (64 - (Lib.bitLen y : Int) = (s : Int)) ∧ s ≤ 63 ∧ Hid (y * 2 ^ s < 18446744073709551616 ∧ 9223372036854775808 ≤ y * 2 ^ s) := lead y (by omega) h2
  rw [hs.out]
  go_upto_region 9 with (fail)
  obtain ⟨Y, hY⟩ : ∃ Y : Nat, Hid (Y = y * 2 ^ s) := ⟨_, rfl⟩
  have hY1 : Y < 18446744073709551616 := by rw [hY.out]; exact hs2.out.1
  have hY2 : 9223372036854775808 ≤ Y := by rw [hY.out]; exact hs2.out.2
  rw [show IntKind.u64.wrap ((y : Int) * 2 ^ s) = (Y : Int) from by
    have : ((y : Int) * 2 ^ s) = ((y * 2 ^ s : Nat) : Int) := by simp
    rw [this, ← hY.out]
    exact IntWalk.u64_in _ (by omega)]
  go_upto_region 15 with (fail)
  have hu0 : hi * 2 ^ s < 18446744073709551616 := Nat.lt_of_le_of_lt (Nat.mul_le_mul_right _ (Nat.le_of_lt h3)) hs2.out.1
  have hsh := shifted hi lo s hs1
  have huY : hi * 2 ^ s + lo / 2 ^ (64 - s) < Y := by
    have hlt : lo / 2 ^ (64 - s) < 2 ^ s := by
      rw [Nat.div_lt_iff_lt_mul (Nat.pow_pos (by omega)), ← Nat.pow_add, show s + (64 - s) = 64 from by omega]
      exact h1
    have : (hi + 1) * 2 ^ s ≤ y * 2 ^ s := Nat.mul_le_mul_right _ h3
    rw [Nat.succ_mul, ← hY.out] at this
    omega
  rw [or_join hi lo s hs1 h1 hu0, wrapL, and_mask Y hY1]
  have hL : (lo * 2 ^ s) % 18446744073709551616 < 18446744073709551616 := Nat.mod_lt _ (by omega)
  generalize (lo * 2 ^ s) % 18446744073709551616 = L at hsh hL ⊢
  generalize hi * 2 ^ s + lo / 2 ^ (64 - s) = u at hsh huY ⊢
  rw [and_mask L hL]
  have eY : ((Y : Int) / 4294967296) = ((Y / 4294967296 : Nat) : Int) := by simp
  have eL : ((L : Int) / 4294967296) = ((L / 4294967296 : Nat) : Int) := by simp
  rw [eY, eL]
  obtain ⟨a, ha⟩ : ∃ a, a = Y / 4294967296 := ⟨_, rfl⟩
  obtain ⟨b, hb⟩ : ∃ b, b = Y % 4294967296 := ⟨_, rfl⟩
  obtain ⟨c, hc⟩ : ∃ c, c = L / 4294967296 := ⟨_, rfl⟩
  obtain ⟨d, hd⟩ : ∃ d, d = L % 4294967296 := ⟨_, rfl⟩
  rw [← ha, ← hb, ← hc, ← hd]
  have a1 : 2147483648 ≤ a := by omega
  have a2 : a < 4294967296 := by omega
  have b1 : b < 4294967296 := by omega
  have c1 : c < 4294967296 := by omega
  have d1 : d < 4294967296 := by omega
  have HYab := Lib.hid (show Y = a * 4294967296 + b by omega)
  have HLcd := Lib.hid (show L = c * 4294967296 + d by omega)
  have HSH := Lib.hid hsh
  clear ha hb hc hd eY eL hsh hu0
  have hu1 : u < a * 4294967296 + b := by rw [← HYab.out]; exact huY
  obtain ⟨st1, st2, st3⟩ := Hb.digit_start (B := 4294967296) (c := c) (by omega) b1 (by omega) c1 hu1
  go_upto_block 0 with (fail)
  obtain ⟨Q1, hQ1⟩ : ∃ Q1, Hid (Q1 = (u * 4294967296 + c) / (a * 4294967296 + b)) := ⟨_, rfl⟩
  have HST2 : Hid (Q1 ≤ u / a) := by rw [hQ1.out]; exact st2
  have HST1 := Lib.hid st1
  have qs := start_q u a (by omega) (by omega)
  have rs := start_r u a (by omega) (by omega)
  have QS := Lib.hid qs
  have RS := Lib.hid rs
  have rlt := Nat.mod_lt u (show a > 0 by omega)
  clear st1 st2 qs rs
  go_cut [15, 16] (fun s15 s16 wx => ∃ r : Nat, s15 = .int .u64 Q1 ∧ s16 = .int .u64 r ∧ w' = wx)
  case first =>
    go_wp2_with fail
    go_loop [15, 16] (fun s15 s16 => ∃ q r : Nat, s15 = .int .u64 q ∧ s16 = .int .u64 r ∧ Hid (q * a + r = u) ∧ Hid (Q1 ≤ q) ∧ q ≤ 4294967297 ∧ r < 4294967296) (fun s _ => (intOf s).toNat)
    case atStart => exact ⟨u / a, u % a, by rw [QS.out], by rw [RS.out], HST1, HST2, by omega, by omega⟩
    case round =>
      obtain ⟨q, r, rfl, rfl, hqr, hQq, hq, hr⟩ := hrel
      have hqb0 : 0 ≤ (q : Int) * (b : Int) := Int.mul_nonneg (by omega) (by omega)
      by_cases tt : (4294967296 : Int) ≤ (q : Int) ∨ 4294967296 * (r : Int) + c < (q : Int) * b
      · have hgt : Hid (Q1 < q) := by
          show Q1 < q
          have h1 := hQq.out
          rw [hQ1.out] at h1 ⊢
          exact Hb.digit_gt c1 hu1 hqr.out h1 (no_digit tt)
        have hgt' : 1 ≤ q := by have := hgt.out; omega
        have nx := Lib.hid (next_digit hqr.out hgt')
        have e1 : Hid (((q : Int) - 1) = ((q - 1 : Nat) : Int)) := by show _ = _; omega
        have e2 : Hid (((r : Int) + a) = ((r + a : Nat) : Int)) := by show _ = _; omega
        by_cases t2 : (4294967296 : Int) ≤ (r : Int) + (a : Int)
        · have hfin : Hid (q - 1 = Q1) := by
            show q - 1 = Q1
            have h1 : Q1 ≤ q - 1 := by have := hgt.out; omega
            rw [hQ1.out] at h1 ⊢
            exact Hb.digit_break b1 (by omega) nx.out h1 (by omega) (by omega)
          rcases tt with t1 | t1
          · go_wp2_with fail
            go_meet
            exact ⟨r + a, by rw [e1.out, hfin.out], by rw [e2.out], rfl⟩
          · by_cases t0 : (4294967296 : Int) ≤ (q : Int)
            · clear t1
              go_wp2_with fail
              go_meet
              exact ⟨r + a, by rw [e1.out, hfin.out], by rw [e2.out], rfl⟩
            · have hqb1 : (q : Int) * (b : Int) ≤ 18446744073709551615 := prod_le (by omega) (by omega)
              go_wp2_with fail
              go_meet
              exact ⟨r + a, by rw [e1.out, hfin.out], by rw [e2.out], rfl⟩
        · have hrel' : Hid (Q1 ≤ q - 1) := by show Q1 ≤ q - 1; have := hgt.out; omega
          rcases tt with t1 | t1
          · go_wp2_with fail
            go_round
            case rel => exact ⟨q - 1, r + a, by rw [e1.out], by rw [e2.out], nx, hrel', by omega, by omega⟩
            case measure => simp only [intOf]; omega
          · by_cases t0 : (4294967296 : Int) ≤ (q : Int)
            · clear t1
              go_wp2_with fail
              go_round
              case rel => exact ⟨q - 1, r + a, by rw [e1.out], by rw [e2.out], nx, hrel', by omega, by omega⟩
              case measure => simp only [intOf]; omega
            · have hqb1 : (q : Int) * (b : Int) ≤ 18446744073709551615 := prod_le (by omega) (by omega)
              go_wp2_with fail
              go_round
              case rel => exact ⟨q - 1, r + a, by rw [e1.out], by rw [e2.out], nx, hrel', by omega, by omega⟩
              case measure => simp only [intOf]; omega
      · have t0 : (q : Int) < 4294967296 := by omega
        have t1 : (q : Int) * b ≤ 4294967296 * (r : Int) + c := by omega
        have hqb1 : (q : Int) * (b : Int) ≤ 18446744073709551615 := prod_le (by omega) (by omega)
        have hfin : Hid (q = Q1) := by
          show q = Q1
          have h1 := hQq.out
          rw [hQ1.out] at h1 ⊢
          exact Hb.digit_done (by omega) hqr.out h1 (le_digit t1)
        have dt0 : decide ((4294967296 : Int) ≤ (q : Int)) = false := by simp; omega
        have dt1 : decide (4294967296 * (r : Int) + c < (q : Int) * b) = false := decide_eq_false (by omega)
        clear tt t0 t1
        go_wp2_with fail
        go_meet
        exact ⟨r, by rw [hfin.out], rfl, rfl⟩
  case rest =>
    obtain ⟨r1, rfl, rfl, rfl⟩ := hcut
    have q1lt : Q1 < 4294967296 := by rw [hQ1.out]; exact Hb.digit_small c1 hu1
    go_upto_region 22 with (fail)
    obtain ⟨v, hv⟩ : ∃ v, Hid (v = (u * 4294967296 + c) % Y) := ⟨_, rfl⟩
    have hvY : v < Y := by rw [hv.out]; exact Nat.mod_lt _ (by omega)
    have hQY : Hid (Q1 = (u * 4294967296 + c) / Y) := by show _ = _; rw [hQ1.out, HYab.out]
    rw [rest_digit u c Y Q1 hY1 (by omega) hQY.out, ← hv.out]
    have hv1 : v < a * 4294967296 + b := by rw [← HYab.out]; exact hvY
    obtain ⟨st1', st2', st3'⟩ := Hb.digit_start (B := 4294967296) (c := d) (by omega) b1 (by omega) d1 hv1
    go_upto_block 2 with (fail)
    obtain ⟨Q0, hQ0⟩ : ∃ Q0, Hid (Q0 = (v * 4294967296 + d) / (a * 4294967296 + b)) := ⟨_, rfl⟩
    have HST2' : Hid (Q0 ≤ v / a) := by rw [hQ0.out]; exact st2'
    have HST1' := Lib.hid st1'
    have QS' := Lib.hid (start_q v a (by omega) (by omega))
    have RS' := Lib.hid (start_r v a (by omega) (by omega))
    have rlt' := Nat.mod_lt v (show a > 0 by omega)
    clear st1' st2'
    go_cut [16, 18] (fun s16 s18 wx => ∃ r : Nat, s18 = .int .u64 Q0 ∧ s16 = .int .u64 r ∧ w' = wx)
    case first =>
      go_wp2_with fail
      go_loop [18, 16] (fun s15 s16 => ∃ q r : Nat, s15 = .int .u64 q ∧ s16 = .int .u64 r ∧ Hid (q * a + r = v) ∧ Hid (Q0 ≤ q) ∧ q ≤ 4294967297 ∧ r < 4294967296) (fun s _ => (intOf s).toNat)
      case atStart => exact ⟨v / a, v % a, by rw [QS'.out], by rw [RS'.out], HST1', HST2', by omega, by omega⟩
      case round =>
        obtain ⟨q, r, rfl, rfl, hqr, hQq, hq, hr⟩ := hrel
        have hqb0 : 0 ≤ (q : Int) * (b : Int) := Int.mul_nonneg (by omega) (by omega)
        by_cases tt : (4294967296 : Int) ≤ (q : Int) ∨ 4294967296 * (r : Int) + d < (q : Int) * b
        · have hgt : Hid (Q0 < q) := by
            show Q0 < q
            have h1 := hQq.out
            rw [hQ0.out] at h1 ⊢
            exact Hb.digit_gt d1 hv1 hqr.out h1 (no_digit tt)
          have hgt' : 1 ≤ q := by have := hgt.out; omega
          have nx := Lib.hid (next_digit hqr.out hgt')
          have e1 : Hid (((q : Int) - 1) = ((q - 1 : Nat) : Int)) := by show _ = _; omega
          have e2 : Hid (((r : Int) + a) = ((r + a : Nat) : Int)) := by show _ = _; omega
          by_cases t2 : (4294967296 : Int) ≤ (r : Int) + (a : Int)
          · have hfin : Hid (q - 1 = Q0) := by
              show q - 1 = Q0
              have h1 : Q0 ≤ q - 1 := by have := hgt.out; omega
              rw [hQ0.out] at h1 ⊢
              exact Hb.digit_break b1 (by omega) nx.out h1 (by omega) (by omega)
            rcases tt with t1 | t1
            · go_wp2_with fail
              go_meet
              exact ⟨r + a, by rw [e1.out, hfin.out], by rw [e2.out], rfl⟩
            · by_cases t0 : (4294967296 : Int) ≤ (q : Int)
              · clear t1
                go_wp2_with fail
                go_meet
                exact ⟨r + a, by rw [e1.out, hfin.out], by rw [e2.out], rfl⟩
              · have hqb1 : (q : Int) * (b : Int) ≤ 18446744073709551615 := prod_le (by omega) (by omega)
                go_wp2_with fail
                go_meet
                exact ⟨r + a, by rw [e1.out, hfin.out], by rw [e2.out], rfl⟩
          · have hrel' : Hid (Q0 ≤ q - 1) := by show Q0 ≤ q - 1; have := hgt.out; omega
            rcases tt with t1 | t1
            · go_wp2_with fail
              go_round
              case rel => exact ⟨q - 1, r + a, by rw [e1.out], by rw [e2.out], nx, hrel', by omega, by omega⟩
              case measure => simp only [intOf]; omega
            · by_cases t0 : (4294967296 : Int) ≤ (q : Int)
              · clear t1
                go_wp2_with fail
                go_round
                case rel => exact ⟨q - 1, r + a, by rw [e1.out], by rw [e2.out], nx, hrel', by omega, by omega⟩
                case measure => simp only [intOf]; omega
              · have hqb1 : (q : Int) * (b : Int) ≤ 18446744073709551615 := prod_le (by omega) (by omega)
                go_wp2_with fail
                go_round
                case rel => exact ⟨q - 1, r + a, by rw [e1.out], by rw [e2.out], nx, hrel', by omega, by omega⟩
                case measure => simp only [intOf]; omega
        · have t0 : (q : Int) < 4294967296 := by omega
          have t1 : (q : Int) * b ≤ 4294967296 * (r : Int) + d := by omega
          have hqb1 : (q : Int) * (b : Int) ≤ 18446744073709551615 := prod_le (by omega) (by omega)
          have hfin : Hid (q = Q0) := by
            show q = Q0
            have h1 := hQq.out
            rw [hQ0.out] at h1 ⊢
            exact Hb.digit_done (by omega) hqr.out h1 (le_digit t1)
          have dt0 : decide ((4294967296 : Int) ≤ (q : Int)) = false := by simp; omega
          have dt1 : decide (4294967296 * (r : Int) + d < (q : Int) * b) = false := decide_eq_false (by omega)
          clear tt t0 t1
          go_wp2_with fail
          go_meet
          exact ⟨r, by rw [hfin.out], rfl, rfl⟩
    case rest =>
      obtain ⟨r0, rfl, rfl, rfl⟩ := hcut
      have q0lt : Q0 < 4294967296 := by rw [hQ0.out]; exact Hb.digit_small d1 hv1
      go_wp2_with fail
      go_ret2
      have hQY0 : Q0 = (v * 4294967296 + d) / Y := by rw [hQ0.out, HYab.out]
      have hres := rest_digit v d Y Q0 hY1 (by omega) hQY0
      have key := Hb.two_digits (y := Y) (u := u) (c := c) (d := d) (B := 4294967296) (by omega)
      simp only at key
      rw [← hv.out, ← hQY.out, ← hQY0] at key
      have eU : u * 4294967296 * 4294967296 + c * 4294967296 + d = (hi * 18446744073709551616 + lo) * 2 ^ s := by
        rw [HSH.out, HLcd.out]
        omega
      have e0 : 0 < 2 ^ s := Nat.pow_pos (by omega)
      rw [eU] at key
      have k1 := key.1
      have k2 := key.2
      rw [hY.out, Nat.mul_div_mul_right _ _ e0] at k1
      rw [hY.out, Nat.mul_mod_mul_right, ← hY.out] at k2
      refine ⟨ret_two ?_ ?_, 0, rfl⟩
      · rw [← k1]
        omega
      · rw [hres, k2, Int.natCast_mul, Int.natCast_pow]
        exact Int.mul_ediv_cancel _ (by
          have : (0 : Int) < ((2 ^ s : Nat) : Int) := by omega
          rw [Int.natCast_pow] at this
          exact Int.ne_of_gt this)

theorem div64_any (hi lo y : Nat) (w : World) (h1 : lo < 18446744073709551616) (h2 : y < 18446744073709551616) (h3 : hi < y) :
    Calls Tryz.prog 128 #[.int .u64 hi, .int .u64 lo, .int .u64 y] w fun e w' =>
      e = .returned (.tuple #[.int .u64 ((hi * 18446744073709551616 + lo) / y : Nat), .int .u64 ((hi * 18446744073709551616 + lo) % y : Nat)]) ∧ ∃ n, w' = w.drewN n := by
  rcases Nat.eq_zero_or_pos hi with h0 | h0
  · subst h0
    rw [Nat.zero_mul, Nat.zero_add]
    exact div64_low lo y w h1 h2 h3
  · exact div64_high hi lo y w h1 h2 h3 h0
end Go.Proofs.YtihcmifikbkbcaaGreat

/- Shares of an amount: the comparison of what is left over. -/
namespace Go.Proofs.YtihcmifikbkbcaaGreat
set_option linter.unusedVariables false
open Go.RowKit
def fN (z : Nat) (_ : Nat) : Value := .int .i64 (z : Int)
def fQ (z : Nat) (_ : Nat) : Value := .int .u64 (z : Int)
def cmpN (a b : Nat) : Int := if a < b then -1 else if a = b then 0 else 1
theorem cmpN_lt {a b : Nat} : cmpN a b < 0 ↔ a < b := by unfold cmpN; split <;> (try split) <;> omega
set_option maxHeartbeats 400000 in
theorem cmpQ_any (a b : Nat) (w : World) : Calls Tryz.prog 131 #[.int .u64 a, .int .u64 b] w fun e w' => e = .returned (.int .i64 (cmpN a b)) ∧ w = w' := by
  rcases Nat.lt_trichotomy a b with h | h | h
  · have hv : Hid (cmpN a b = -1) := by show _ = _; unfold cmpN; rw [if_pos h]
    go_enter Tryz.func131, Tryz.ntmps131
    go_wp2
    go_ret
    exact ⟨ret_int hv.out.symm, rfl⟩
  · subst h
    have hv : Hid (cmpN a a = 0) := by show _ = _; unfold cmpN; rw [if_neg (by omega), if_pos rfl]
    go_enter Tryz.func131, Tryz.ntmps131
    go_wp2
    go_ret
    exact ⟨ret_int hv.out.symm, rfl⟩
  · have hv : Hid (cmpN a b = 1) := by show _ = _; unfold cmpN; rw [if_neg (by omega), if_neg (by omega)]
    go_enter Tryz.func131, Tryz.ntmps131
    go_wp2
    go_ret
    exact ⟨ret_int hv.out.symm, rfl⟩
/-- Places by what is left over there. -/
def cmpR (rs : List Nat) (a b : Nat) : Int := cmpN (rs.getD b 0) (rs.getD a 0)
theorem ltR_cmp (rs : List Nat) : (fun a b => decide (cmpR rs a b < 0)) = ltR rs := by
  funext a b
  unfold cmpR ltR
  congr 1
  exact propext cmpN_lt
set_option maxHeartbeats 1000000 in
set_option maxRecDepth 100000 in
theorem share1_any (H : Frz) (g : Nat) (rs : List Nat) (A : Option Addr) (cap : Nat) (hb : H g = some (.cells #[.slice A rs.length cap] 177 (0, 0))) (hR : Rw H A 1 fQ rs) (x y : Nat) (hx : x < rs.length) (hy : y < rs.length) (hl : rs.length ≤ 1000000) (w : World) (hH : H.In w) :
    Calls Tryz.prog 130 #[.int .i64 (x : Int), .int .i64 (y : Int), .pointer (some ⟨g, 0, none⟩)] w fun e w' => e = .returned (.int .i64 (cmpR rs x y)) ∧ Below w.heap.size w w' := by
  have c0 : w.cell? ⟨g, 0, none⟩ = some (.slice A rs.length cap) := cell_h (hH _ _ hb) 0 rfl
  obtain ⟨b, off, hA, _, hc⟩ := hR.at_ hH hx (by omega)
  obtain ⟨b', off', hA', _, hc'⟩ := hR.at_ hH hy (by omega)
  have hx2 : w.cell? ⟨b, off + x, none⟩ = some (.int .u64 (rs[x] : Nat)) := by simpa [fQ] using hc 0 (by omega)
  have hy2 : w.cell? ⟨b', off' + y, none⟩ = some (.int .u64 (rs[y] : Nat)) := by simpa [fQ] using hc' 0 (by omega)
  rw [hA] at hA'
  simp only [Option.some.injEq, Addr.mk.injEq] at hA'
  obtain ⟨rfl, rfl, _⟩ := hA'
  subst hA
  have HV : Hid (cmpR rs x y = cmpN rs[y] rs[x]) := by show _ = _; unfold cmpR; simp [hx, hy]
  generalize cmpR rs x y = r at *
  generalize rs[x] = u at *
  generalize rs[y] = v at *
  clear hc hc' hR hb hH
  have HC := Lib.hid (fun W => cmpQ_any v u W)
  have hx3 : (x : Int) < rs.length := by omega
  have hy3 : (y : Int) < rs.length := by omega
  go_enter Tryz.func130, Tryz.ntmps130
  go_wp2_with fail
  go_still_tail 8, (by kernel_rfl)
  go_wp2_with fail
  refine (HC.out _).mono ?_
  rintro e w' ⟨rfl, rfl⟩
  go_wp2_with fail
  go_ret
  exact ⟨ret_int HV.out.symm, (Below.refl _ _).drew⟩
end Go.Proofs.YtihcmifikbkbcaaGreat

/- Sorting elements of 1 cells. -/
namespace Go.Proofs.YtihcmifikbkbcaaGreat
set_option linter.unusedVariables false
open Go.RowKit

section
variable {D : Type}
/-- What a comparison does. -/
def CmpK_Int (H : Frz) (f : D → Nat → Value) (kf : Nat) (caps : List Value) (c : D → D → Int) (ds : List D) : Prop :=
  ∀ (W : World) (a b : D), H.In W → a ∈ ds → b ∈ ds → Calls Tryz.prog kf ((f a 0 : Value) :: (f b 0 : Value) :: caps).toArray W fun e W' => e = .returned (.int .i64 (c a b)) ∧ Below W.heap.size W W'
/-- The sort's state. -/
def SW_Int (H : Frz) (g T k : Nat) (f : D → Nat → Value) (rest : List Value) (w : World) (ys : List D) (wr : World) : Prop := KBlk wr g T k f ys rest ∧ w.grownBy wr (some g) ∧ H.In wr
theorem SW_mk_Int {H : Frz} {g T k : Nat} {f : D → Nat → Value} {rest : List Value} {w : World} {ys : List D} {W : World} (h1 : KBlk W g T k f ys rest) (h2 : w.grownBy W (some g)) (h3 : H.In W) : Hid (SW_Int H g T k f rest w ys W.drew) := ⟨h1, grown_drew h2, h3⟩

set_option maxHeartbeats 4000000 in
set_option maxRecDepth 100000 in
theorem insort_Int (H : Frz) (f : D → Nat → Value) (kf : Nat) (caps : List Value) (c : D → D → Int) (ds : List D) (hf1 : ∀ d ∈ ds, ∃ z : Int, f d 0 = .int .i64 z) (hcmp : CmpK_Int H f kf caps c ds) (hcall : ∀ (a b : Value) (W : World), (callFunc kf (a :: b :: caps).toArray).run Tryz.prog W = .ok (.enter kf (a :: b :: caps).toArray) W) (g n cap : Nat) (rest : List Value) (w : World)
    (hn : ds.length = n) (hcap : n ≤ cap) (hn12 : n ≤ 1000) (hH : H.In w) (hg : H g = none) (hB : KBlk w g 3 1 f ds rest) :
    Calls Tryz.prog 148 #[.slice (some ⟨g, 0, none⟩) n cap, .int .i64 0, .int .i64 n, .func (.func kf) #[] caps.toArray] w fun e w' =>
      e = .returned (.tuple #[]) ∧ SW_Int H g 3 1 f rest w (isort (fun a b => decide (c a b < 0)) ds) w' := by
  have HC := Lib.hid hcmp
  have HN := Lib.hid hn
  have J0 : Hid (SW_Int H g 3 1 f rest w ds w) := ⟨hB, World.grownBy.refl _ _, hH⟩
  have HF1 := Lib.hid hf1
  clear hcmp hH hB hn hf1
  go_enter Tryz.func148, Tryz.ntmps148
  go_wp2_with fail
  go_loopw [8] (fun t wr => ∃ (i : Nat) (ys : List D), 1 ≤ i ∧ (i ≤ n ∨ n = 0 ∧ i = 1) ∧ t = .int .i64 i ∧ Hid (ys = isort (fun a b => decide (c a b < 0)) (ds.take i) ++ ds.drop i) ∧ Hid (SW_Int H g 3 1 f rest w ys wr)) (fun t _ => n + 1 - (intOf t).toNat)
  case atStart =>
    refine ⟨1, ds, by omega, by omega, rfl, ?_, J0⟩
    show ds = _
    cases ds with
    | nil => rfl
    | cons d ds => simp [isort, insLast]
  case round =>
    obtain ⟨i, ys, hi1, hi2, rfl, hys, J⟩ := hrel
    by_cases hlt : i < n
    · have hil : i < ds.length := by rw [HN.out]; exact hlt
      have hdr := List.drop_eq_getElem_cons hil
      have hx : Hid (∀ d, d ∈ isort (fun a b => decide (c a b < 0)) (ds.take i) → d ∈ ds) := fun d hd => List.mem_of_mem_take ((isort_perm _ _).mem_iff.1 hd)
      have hxm := Lib.hid (List.getElem_mem hil)
      have hR : Hid (∀ d, d ∈ ds.drop (i + 1) → d ∈ ds) := fun d hd => List.mem_of_mem_drop hd
      have hacl : (isort (fun a b => decide (c a b < 0)) (ds.take i)).length = i := by rw [isort_length, List.length_take]; omega
      have hRl : (ds.drop (i + 1)).length = n - (i + 1) := by rw [List.length_drop, HN.out]
      have hstep : Hid (isort (fun a b => decide (c a b < 0)) (ds.take (i + 1)) = insLast (fun a b => decide (c a b < 0)) ds[i] (isort (fun a b => decide (c a b < 0)) (ds.take i))) := by
        show _ = _
        rw [List.take_succ_eq_append_getElem hil, isort_snoc]
      have hys2 := hys.out
      rw [hdr] at hys2
      generalize isort (fun a b => decide (c a b < 0)) (ds.take i) = acc at hx hacl hstep hys2
      generalize hR' : ds.drop (i + 1) = R at hR hRl hys2
      have HRR := Lib.hid hR'
      generalize ds[i] = x at hxm hstep hys2
      have S0 : Hid (SIn (fun a b => decide (c a b < 0)) acc x R i ys) := by
        have := SIn.start (lt := fun a b => decide (c a b < 0)) acc R x
        rw [hacl, ← hys2] at this
        exact this
      have HACL := Lib.hid hacl
      have HRL := Lib.hid hRl
      clear hdr hys hys2 hR' hacl hRl J0
      obtain ⟨wo, rfl⟩ : ∃ wo : World, wo = wr := ⟨_, rfl⟩
      go_wp2_with fail
      go_loopw [9] (fun t wi => ∃ (j : Nat) (zs : List D), j ≤ i ∧ t = .int .i64 j ∧ Hid (SIn (fun a b => decide (c a b < 0)) acc x R j zs) ∧ Hid (SW_Int H g 3 1 f rest w zs wi)) (fun t _ => (intOf t).toNat)
      case atStart => exact ⟨i, ys, by omega, rfl, S0, J⟩
      case round =>
        obtain ⟨j, zs, hj, rfl, SI, Ji⟩ := hrel
        clear S0 J
        have hzl : zs.length = n := by have := SI.out.length.1; rw [HACL.out, HRL.out] at this; omega
        by_cases hj0 : 0 < j
        · have hjn : j < zs.length := by omega
          have hj1n : j - 1 < zs.length := by omega
          have hzj : zs[j] = x := SI.out.at_ hjn
          have cj0 : wr.cell? ⟨g, j, none⟩ = some (f zs[j] 0) := by simpa using Ji.out.1.cell (j) 0 (hjn) (by omega)
          have dj0 : wr.cell? ⟨g, j - 1, none⟩ = some (f zs[j - 1] 0) := by simpa using Ji.out.1.cell (j - 1) 0 (hj1n) (by omega)
          rw [hzj] at cj0
          have hmy : Hid (zs[j - 1] ∈ ds) := by
            rcases SI.out.mem (List.getElem_mem hj1n) with h | h | h
            · exact hx.out _ h
            · show _ ∈ _; rw [h]; exact hxm.out
            · exact hR.out _ h
          have hsw := Lib.hid (fun h => SI.out.swap hj0 hjn h)
          have hdn := Lib.hid (fun (h : (fun a b => decide (c a b < 0)) x zs[j - 1] = false) => SI.out.done SI.out.length.1 (fun _ => h))
          generalize hyy : zs[j - 1] = y at dj0 hmy hsw hdn
          have HYY : Hid (∀ h : j - 1 < zs.length, zs[j - 1]'h = y) := fun _ => hyy
          have e1 : ((j : Int) - 1).toNat = j - 1 := by omega
          have e2 : IntKind.i64.wrap ((j : Int) - 1) = (j : Int) - 1 := IntWalk.i64_in _ (by omega)
          have e3 : (0 : Int) ≤ (j : Int) - 1 := by omega
          have e4 : (j : Int) - 1 < n := by omega
          have e5 : (j : Int) < n := by omega
          have e6 : 1 ≤ j := by omega
          have e7 : (1 : Int) ≤ (j : Int) := by omega
          have e8 : (j : Int) ≤ n := by omega
          have e9 : j ≤ n := by omega
          have e10 : (0 : Int) < (j : Int) := by omega
          have HZL := Lib.hid hzl
          clear hyy hzj hzl hjn hj1n
          go_wp2_with fail
          go_still_tail 14, (by kernel_rfl)
          change wpList _ _ _ _ _ wr.drew
          clear e1 e2
          go_wp2_with fail
          refine (HC.out wr.drew x y Ji.out.2.2 hxm.out hmy.out).mono ?_
          rintro e w1 ⟨rfl, hb1⟩
          have hb : Below wr.heap.size wr w1 := (Below.refl _ wr).drew.trans hb1
          have Z3 := Ji.out.1.keep hb
          have Z4 := Lib.hid (grown_below Ji.out.2.1 hb)
          have Z5 := Lib.hid (Ji.out.2.2.below hb)
          have hjn : j < zs.length := by rw [HZL.out]; omega
          clear cj0 dj0
          have hj1n : j - 1 < zs.length := by rw [HZL.out]; omega
          have hzj : zs[j] = x := SI.out.at_ hjn
          have cj0 : w1.cell? ⟨g, j, none⟩ = some (f zs[j] 0) := by simpa using Z3.cell (j) 0 (hjn) (by omega)
          have dj0 : w1.cell? ⟨g, j - 1, none⟩ = some (f zs[j - 1] 0) := by simpa using Z3.cell (j - 1) 0 (hj1n) (by omega)
          have fj0 := Z3.frozen (j)
          have gj0 := Z3.frozen (j - 1)
          rw [hzj] at cj0
          rw [HYY.out hj1n] at dj0
          have ZP := Lib.hid ((Z3.put j hjn y).put (j - 1) (by simp; omega) x)
          have Z3h := Lib.hid Z3
          clear Z3 hb hb1 Ji hjn hj1n hzj HYY
          by_cases hr : c x y < 0
          · have JS := Lib.hid (hsw.out (by simpa using hr))
            have na0 : ¬ j = j - 1 := by omega
            have nb0 : ¬ j - 1 = j := by omega
            have e1 : ((j : Int) - 1).toNat = j - 1 := by omega
            obtain ⟨vx, hvx⟩ := HF1.out x hxm.out
            obtain ⟨vy, hvy⟩ := HF1.out y hmy.out
            rw [hvx] at cj0
            rw [hvy] at dj0
            have hmx : (List.range 1).map (f x) = [.int .i64 vx] := by rw [← hvx]; rfl
            have hmy : (List.range 1).map (f y) = [.int .i64 vy] := by rw [← hvy]; rfl
            have JN0 := SW_mk_Int ZP.out (setK_grown _ _ (setK_grown _ _ Z4.out)) (setK_in _ _ (setK_in _ _ Z5.out hg) hg)
            simp only [Nat.mul_one, hmx, hmy, setK] at JN0
            have JN : Hid (SW_Int H g 3 1 f rest w ((zs.set j y).set (j - 1) x) (World.drew ((w1.setCell ⟨g, j, none⟩ (.int .i64 vy)).setCell ⟨g, j - 1, none⟩ (.int .i64 vx)))) := JN0
            have e7 : IntKind.i64.wrap ((j : Int) - 1) = (j : Int) - 1 := IntWalk.i64_in _ (by omega)
            clear JN0 hmx hmy hvx hvy
            go_upto_region 6 with (fail)
            go_region
            clear e7 cj0 dj0 fj0 gj0 ZP Z4 Z5 hsw hdn na0 nb0
            go_wp2_with fail
            refine ⟨⟨j - 1, _, by omega, by rw [show ((j : Int) - 1) = ((j - 1 : Nat) : Int) from by omega], JS, JN⟩, ?_⟩
            simp only [intOf]
            omega
          · have hzz := Lib.hid (hdn.out (by simpa using hr))
            have JN : Hid (SW_Int H g 3 1 f rest w zs w1) := ⟨Z3h.out, Z4.out, Z5.out⟩
            clear cj0 dj0 fj0 gj0 ZP Z4 Z5 hsw hdn
            go_wp2_with fail
            refine ⟨⟨i + 1, zs, by omega, by omega, by go_num, ?_, JN⟩, ?_⟩
            · show _ = _
              rw [hstep.out, HRR.out]
              exact hzz.out
            · simp only [intOf]
              omega
        · have hj1 : j = 0 := by omega
          subst hj1
          have hzz := Lib.hid (SI.out.done SI.out.length.1 (fun h => absurd h (by omega)))
          have HZL := Lib.hid hzl
          clear hzl
          go_wp2_with fail
          go_quiet (fail)
          go_wp2_with fail
          refine ⟨⟨i + 1, zs, by omega, by omega, by go_num, ?_, Ji.out.1, grown_drewN' Ji.out.2.1 _, Ji.out.2.2⟩, ?_⟩
          · show _ = _
            rw [hstep.out, HRR.out]
            exact hzz.out
          · simp only [intOf]
            omega
    · have hys2 := Lib.hid (show ys = isort (fun a b => decide (c a b < 0)) ds by have := hys.out; rw [List.take_of_length_le (by rw [HN.out]; omega), List.drop_of_length_le (by rw [HN.out]; omega), List.append_nil] at this; exact this)
      go_wp2_with fail
      go_end0
      refine ⟨rfl, ?_⟩
      rw [← hys2.out]
      exact J.out

set_option maxHeartbeats 1000000 in
theorem stable_Int (H : Frz) (f : D → Nat → Value) (kf : Nat) (caps : List Value) (c : D → D → Int) (ds : List D) (hf1 : ∀ d ∈ ds, ∃ z : Int, f d 0 = .int .i64 z) (hcmp : CmpK_Int H f kf caps c ds) (hcall : ∀ (a b : Value) (W : World), (callFunc kf (a :: b :: caps).toArray).run Tryz.prog W = .ok (.enter kf (a :: b :: caps).toArray) W) (g n cap : Nat) (rest : List Value) (w : World)
    (hn : ds.length = n) (hcap : n ≤ cap) (hn20 : n < 20) (hH : H.In w) (hg : H g = none) (hB : KBlk w g 3 1 f ds rest) :
    Calls Tryz.prog 142 #[.slice (some ⟨g, 0, none⟩) n cap, .int .i64 n, .func (.func kf) #[] caps.toArray] w fun e w' =>
      e = .returned (.tuple #[]) ∧ SW_Int H g 3 1 f rest w (isort (fun a b => decide (c a b < 0)) ds) w' := by
  have HI := Lib.hid (insort_Int H f kf caps c ds hf1 hcmp hcall g n cap rest w hn hcap (by omega) hH hg hB)
  clear hcmp hcall hH hB hn hg hf1
  go_enter Tryz.func142, Tryz.ntmps142
  go_wp2_with fail
  refine wp_loop_rounds 1 ?_
  rw [rounds_succ]
  go_wp2_with fail
  refine HI.out.mono ?_
  rintro e w1 ⟨rfl, J⟩
  have J := Lib.hid J
  clear HI
  go_wp2_with fail
  refine wp_loop_rounds 1 ?_
  rw [rounds_succ]
  go_wp2_with fail
  go_end0
  exact ⟨rfl, J.out⟩
set_option maxHeartbeats 1000000 in
theorem stable_nil_Int (A : Option Addr) (cap : Nat) (fv : Value) (w : World) :
    Calls Tryz.prog 129 #[.slice A 0 cap, fv] w fun e w' => e = .returned (.tuple #[]) ∧ w = w' := by
  go_enter Tryz.func129, Tryz.ntmps129
  go_wp2
  refine wp_loop_rounds 1 ?_
  rw [rounds_succ]
  go_wp2
  refine wp_loop_rounds 1 ?_
  rw [rounds_succ]
  go_wp2
  go_end0
  go_wp2
  refine wp_loop_rounds 1 ?_
  rw [rounds_succ]
  go_wp2
  go_end0
  go_wp2
  go_end0
  exact ⟨rfl, rfl⟩
set_option maxHeartbeats 1000000 in
theorem sortStable_Int (H : Frz) (f : D → Nat → Value) (kf : Nat) (caps : List Value) (c : D → D → Int) (ds : List D) (hf1 : ∀ d ∈ ds, ∃ z : Int, f d 0 = .int .i64 z) (hcmp : CmpK_Int H f kf caps c ds) (hcall : ∀ (a b : Value) (W : World), (callFunc kf (a :: b :: caps).toArray).run Tryz.prog W = .ok (.enter kf (a :: b :: caps).toArray) W) (v : Value) (B : Nat) (w : World)
    (hn20 : ds.length < 20) (hH : H.In w) (hHB : ∀ g, v.ownBlock = some g → H g = none) (hO : Orow w B 3 1 f v ds) :
    Calls Tryz.prog 129 #[v, .func (.func kf) #[] caps.toArray] w fun e w' =>
      e = .returned (.tuple #[]) ∧ Orow w' B 3 1 f v (isort (fun a b => decide (c a b < 0)) ds) ∧ w.grownBy w' v.ownBlock ∧ H.In w' := by
  rcases hO.2 with ⟨rfl, h0⟩ | ⟨g, cap, cur, rfl, hBg, hh, hle, hm, hs, ht⟩
  · have : ds = [] := List.eq_nil_of_length_eq_zero h0
    subst this
    refine (stable_nil_Int none 0 _ w).mono ?_
    rintro e w' ⟨rfl, rfl⟩
    exact ⟨rfl, hO, World.grownBy.refl _ _, hH⟩
  · have hK : KBlk w g 3 1 f ds (cur.toList.drop (ds.length * 1)) := by
      unfold KBlk
      rw [← ht, List.take_append_drop]
      exact hh
    have HI := Lib.hid (stable_Int H f kf caps c ds hf1 hcmp hcall g ds.length cap _ w rfl hle hn20 hH (hHB g rfl) hK)
    clear hcmp hcall hH hO hK hHB hf1
    go_enter Tryz.func129, Tryz.ntmps129
    go_wp2_with fail
    refine HI.out.mono ?_
    rintro e w1 ⟨rfl, J⟩
    have J := Lib.hid J
    clear HI
    go_wp2_with fail
    go_end0
    refine ⟨rfl, ?_, J.out.2.1, J.out.2.2⟩
    have h1 := J.out.1
    refine ⟨by rw [cellsOf_len], Or.inr ⟨g, cap, _, by rw [isort_length], hBg, h1, by rw [isort_length]; exact hle, hm, ?_, ?_⟩⟩
    · simp [cellsOf_len, isort_length, hs]
      omega
    · rw [isort_length]
      simp
      rw [List.take_left' (by rw [cellsOf_len, isort_length, Nat.mul_one])]
end
end Go.Proofs.YtihcmifikbkbcaaGreat

/- Shares of an amount. -/
namespace Go.Proofs.YtihcmifikbkbcaaGreat
set_option linter.unusedVariables false
open Go.RowKit
theorem infoInt : (Tryz.prog.info? 3).map (fun i => (i.zero, i.size, i.bytes)) = some (some (.int .i64 0), 1, 8) := by kernel_rfl
theorem infoQ : (Tryz.prog.info? 150).map (fun i => (i.zero, i.size, i.bytes)) = some (some (.int .u64 0), 1, 8) := by kernel_rfl
theorem cellsOf_one {D : Type} (f : D → Nat → Value) (ds : List D) : cellsOf 1 f ds = ds.map fun d => f d 0 := by
  unfold cellsOf
  induction ds with
  | nil => rfl
  | cons d ds ih => rw [List.flatMap_cons, ih]; rfl
/-- What is so at the head of the second loop. -/
structure SHs (H : Frz) (w : World) (c s i : Nat) (ws : List Nat) (v9 v10 v11 : Value) (wr : World) : Prop where
  inn : H.In wr
  bel : Below w.heap.size w wr
  cap : wr.heap[w.heap.size]? = some (.cells #[v11] 177 (0, 0))
  r9 : Orow wr (w.heap.size + 1) 3 1 fN v9 ((Hb.parts c s ws).take i)
  r10 : Orow wr (w.heap.size + 1) 3 1 fN v10 (List.range i)
  r11 : Orow wr (w.heap.size + 1) 150 1 fQ v11 ((rests c s ws).take i)
  a1 : apart v9 v10
  a2 : apart v9 v11
  a3 : apart v10 v11
theorem SHs.call {H : Frz} {w wr W' : World} {c s i : Nat} {ws : List Nat} {v9 v10 v11 : Value} (h : SHs H w c s i ws v9 v10 v11 wr) (hb : Below wr.heap.size wr W') : SHs H w c s i ws v9 v10 v11 W' :=
  ⟨h.inn.below hb, h.bel.trans (hb.mono h.bel.size), (hb.block _ (lt_of_heap h.cap)).trans h.cap, h.r9.below hb, h.r10.below hb, h.r11.below hb, h.a1, h.a2, h.a3⟩
/-- The three rows of the region. -/
def tsSh (v9 v10 v11 : Value) (B n : Nat) (x9 x10 x11 y9 y10 y11 : List Value) : List RowT := [⟨4, 58, v9, B, 3, 1, n, x9, n + 1, y9⟩, ⟨8, 62, v10, B, 3, 1, n, x10, n + 1, y10⟩, ⟨12, 66, v11, B, 150, 1, n, x11, n + 1, y11⟩]
theorem tsSh_own {v9 v10 v11 : Value} {B n : Nat} {x9 x10 x11 y9 y10 y11 : List Value} {W0 W : World} {L : Array Bool} {a : Act} (h : RowsJ W0 (tsSh v9 v10 v11 B n x9 x10 x11 y9 y10 y11) L a W) (h4 : L.getD 4 false = true) (h8 : L.getD 8 false = true) (h12 : L.getD 12 false = true) {z4 z8 z12 : Value} (e4 : a.tmps.getD 58 undef = z4) (e8 : a.tmps.getD 62 undef = z8) (e12 : a.tmps.getD 66 undef = z12) :
    W.ownsRow B 3 1 z4 (n + 1) y9 ∧ W.ownsRow B 3 1 z8 (n + 1) y10 ∧ W.ownsRow B 150 1 z12 (n + 1) y11 ∧ apart z4 z8 ∧ apart z4 z12 ∧ apart z8 z12 := by
  have o1 := h.own ⟨4, 58, v9, B, 3, 1, n, x9, n + 1, y9⟩ (by simp [tsSh])
  have o2 := h.own ⟨8, 62, v10, B, 3, 1, n, x10, n + 1, y10⟩ (by simp [tsSh])
  have o3 := h.own ⟨12, 66, v11, B, 150, 1, n, x11, n + 1, y11⟩ (by simp [tsSh])
  unfold RowT.own at o1 o2 o3
  simp only [h4, h8, h12, e4, e8, e12, if_true] at o1 o2 o3
  have ap := h.apart
  simp only [tsSh, List.pairwise_cons, List.mem_cons, List.not_mem_nil, or_false] at ap
  have a1 := ap.1 _ (Or.inl rfl)
  have a2 := ap.1 _ (Or.inr rfl)
  have a3 := ap.2.1 _ rfl
  simp only [RowT.val, h4, h8, h12, e4, e8, e12, if_true] at a1 a2 a3
  exact ⟨o1, o2, o3, a1, a2, a3⟩
theorem SHs.next {H : Frz} {w W0 W9 : World} {c s i : Nat} {ws : List Nat} {v9 v10 v11 : Value} (h : SHs H w c s i ws v9 v10 v11 W0) (hi : i < ws.length) (hH : H.In w) {q r : Nat}
    (hq : (Hb.parts c s ws).take (i + 1) = (Hb.parts c s ws).take i ++ [q]) (hr : (rests c s ws).take (i + 1) = (rests c s ws).take i ++ [r]) {L : Array Bool} {a : Act}
    (hW : RowsJ W0 (tsSh v9 v10 v11 (w.heap.size + 1) i (cellsOf 1 fN ((Hb.parts c s ws).take i)) (cellsOf 1 fN (List.range i)) (cellsOf 1 fQ ((rests c s ws).take i)) (cellsOf 1 fN ((Hb.parts c s ws).take i) ++ [.int .i64 q]) (cellsOf 1 fN (List.range i) ++ [.int .i64 i]) (cellsOf 1 fQ ((rests c s ws).take i) ++ [.int .u64 r])) L a W9)
    (h4 : L.getD 4 false = true) (h8 : L.getD 8 false = true) (h12 : L.getD 12 false = true) {z4 z8 z12 : Value} (e4 : a.tmps.getD 58 undef = z4) (e8 : a.tmps.getD 62 undef = z8) (e12 : a.tmps.getD 66 undef = z12) :
    W9.cell? ⟨w.heap.size, 0, none⟩ = some v11 ∧ W9.frozen? ⟨w.heap.size, 0, none⟩ = false ∧ SHs H w c s (i + 1) ws z4 z8 z12 (W9.setCell ⟨w.heap.size, 0, none⟩ z12) := by
  obtain ⟨o1, o2, o3, a1, a2, a3⟩ := tsSh_own hW h4 h8 h12 e4 e8 e12
  have hge : ∀ t ∈ tsSh v9 v10 v11 (w.heap.size + 1) i (cellsOf 1 fN ((Hb.parts c s ws).take i)) (cellsOf 1 fN (List.range i)) (cellsOf 1 fQ ((rests c s ws).take i)) (cellsOf 1 fN ((Hb.parts c s ws).take i) ++ [.int .i64 q]) (cellsOf 1 fN (List.range i) ++ [.int .i64 i]) (cellsOf 1 fQ ((rests c s ws).take i) ++ [.int .u64 r]), ∀ g, t.v.ownBlock = some g → w.heap.size + 1 ≤ g := by
    intro t ht g hg
    simp only [tsSh, List.mem_cons, List.not_mem_nil, or_false] at ht
    rcases ht with rfl | rfl | rfl
    · exact (Orow.lt h.r9 hg).1
    · exact (Orow.lt h.r10 hg).1
    · exact (Orow.lt h.r11 hg).1
  have hsz : w.heap.size + 1 ≤ W0.heap.size := lt_of_heap h.cap
  have hcap : W9.heap[w.heap.size]? = some (.cells #[v11] 177 (0, 0)) := (hW.keep w.heap.size hsz (fun t ht c => by have := hge t ht _ c; omega)).trans h.cap
  have hbel : Below (w.heap.size + 1) W0 W9 := hW.below hsz hge
  have hHn : H w.heap.size = none := hH.none_ (Nat.le_refl _)
  have hg : W9.grownBy (W9.setCell ⟨w.heap.size, 0, none⟩ z12) (some w.heap.size) := ⟨rfl, rfl, rfl, by simp [World.setCell], fun k hk hne => Below.heap_setCell W9 _ _ k (fun e => hne (by rw [e]))⟩
  have hne : ∀ {T : TypeId} {v : Value} {n : Nat} {xs : List Value}, W9.ownsRow (w.heap.size + 1) T 1 v n xs → v.ownBlock = none ∨ v.ownBlock ≠ some w.heap.size := by
    intro T v n xs hv
    cases e : v.ownBlock with
    | none => exact Or.inl rfl
    | some g =>
      right
      intro c
      injection c with c
      have := (World.ownsRow.lt hv g e).1
      omega
  refine ⟨cell_h hcap 0 rfl, froz_h hcap 0, ⟨?_, ?_, ?_, ?_, ?_, ?_, a1, a2, a3⟩⟩
  · refine Frz.In.setCell ?_ hHn _
    exact hW.inn h.inn (fun t ht g hg => hH.none_ (by have := hge t ht g hg; omega))
  · exact (h.bel.trans (hbel.mono (by omega))).setCell (Nat.le_refl _) _
  · simp [World.setCell, Array.getElem?_modify, hcap]
  · have := World.ownsRow.kept o1 hg (hne o1)
    show World.ownsRow _ _ _ _ _ _ _
    rw [hq, cellsOf_snoc, show ((Hb.parts c s ws).take i ++ [q]).length = i + 1 from by rw [List.length_append, List.length_take, Hb.parts_length]; simp; omega]
    exact this
  · have := World.ownsRow.kept o2 hg (hne o2)
    show World.ownsRow _ _ _ _ _ _ _
    rw [List.range_succ, cellsOf_snoc, show (List.range i ++ [i]).length = i + 1 from by simp]
    exact this
  · have := World.ownsRow.kept o3 hg (hne o3)
    show World.ownsRow _ _ _ _ _ _ _
    rw [hr, cellsOf_snoc, show ((rests c s ws).take i ++ [r]).length = i + 1 from by rw [List.length_append, List.length_take, rests_len]; simp; omega]
    exact this
def φSh (S : Nat) (v9 v10 v11 : Value) (q k r : Nat) (i : Nat) (v : Value) (w : World) : Prop :=
  match i with
  | 0 => v = v9
  | 1 => v = .int .u64 q
  | 2 => v = .int .i64 q
  | 3 => TmpS S v #[.int .i64 q] 3 w
  | 4 => True
  | 5 => v = v10
  | 6 => v = .int .i64 k
  | 7 => TmpS S v #[.int .i64 k] 3 w
  | 8 => True
  | 9 => v = v11
  | 10 => v = .int .u64 r
  | 11 => TmpS S v #[.int .u64 r] 150 w
  | 12 => True
  | _ => True
theorem φSh_mono {W0 : World} {v9 v10 v11 : Value} {q k r : Nat} (i : Nat) (x : Value) (w w' : World) (e : RowsE W0 w w') (h : φSh W0.heap.size v9 v10 v11 q k r i x w) : φSh W0.heap.size v9 v10 v11 q k r i x w' := by
  match i, h with
  | 0, h => exact h
  | 1, h => exact h
  | 2, h => exact h
  | 3, h => exact TmpS.mono e h
  | 4, h => exact h
  | 5, h => exact h
  | 6, h => exact h
  | 7, h => exact TmpS.mono e h
  | 8, h => exact h
  | 9, h => exact h
  | 10, h => exact h
  | 11, h => exact TmpS.mono e h
  | 12, h => exact h
  | i + 13, h => exact trivial
set_option maxHeartbeats 4000000 in
set_option maxRecDepth 100000 in
theorem share_any (H : Frz) (c : Nat) (ws : List Nat) (A : Option Addr) (cap : Nat) (w : World) (hH : H.In w) (hR : Rw H A 1 fN ws) (hl : ws.length ≤ 19) (hw : ∀ z ∈ ws, z ≤ 1000000000) (hc : c ≤ 1000000000000) (h0 : 0 < ws.sum) :
    Calls Tryz.prog 111 #[.int .i64 (c : Int), .slice A ws.length cap] w fun e w' => (∃ v, e = .returned v ∧ Orow w' w.heap.size 3 1 fN v (shareF c ws)) ∧ Below w.heap.size w w' := by
  obtain ⟨i0, hi0, hz0, hz1, hz2⟩ := info_parts infoInt
  obtain ⟨iq, hiq, hq0, hq1, hq2⟩ := info_parts infoQ
  have HR := Lib.hid hR
  have HH := Lib.hid hH
  have HHW := Lib.hid hH
  have HW := Lib.hid hw
  have hsum := Hb.sum_le (ws := ws) hw
  have hsb : ws.sum ≤ 19000000000 := by have : ws.length * 1000000000 ≤ 19 * 1000000000 := Nat.mul_le_mul_right _ hl; omega
  clear hR hH hw hsum
  go_enter Tryz.func111, Tryz.ntmps111
  go_wp2_with fail
  go_loop [5, 23] (fun s t => ∃ i : Nat, i ≤ ws.length ∧ t = .int .i64 i ∧ s = .int .i64 ((ws.take i).sum : Nat)) (fun _ t => ws.length - (intOf t).toNat)
  case atStart => exact ⟨0, by omega, rfl, rfl⟩
  case round =>
    obtain ⟨i, hi, rfl, rfl⟩ := hrel
    by_cases hlt : i < ws.length
    · obtain ⟨b, off, hA, hbl, hc0⟩ := HR.out.at_ HH.out hlt (by omega)
      subst hA
      have c0 : w.cell? ⟨b, off + i, none⟩ = some (.int .i64 (ws[i] : Nat)) := by simpa [fN] using hc0 0 (by omega)
      have hs := Hb.sum_take_succ hlt
      have hs2 := Hb.sum_take_le ws (i + 1)
      have hlt2 : (i : Int) < ws.length := by omega
      have HS : Hid (((ws.take (i + 1)).sum : Int) = ((ws.take i).sum : Int) + (ws[i] : Int)) := by show _ = _; omega
      clear hc0
      generalize ws[i] = z at *
      generalize (ws.take i).sum = s0 at *
      go_wp2_with fail
      go_round
      case rel => exact ⟨i + 1, by omega, by go_num, by rw [HS.out]⟩
      case measure => simp [intOf]; omega
    · have hie : i = ws.length := by omega
      subst hie
      rw [List.take_length]
      have HS0 : Hid (SHs H w c ws.sum 0 ws (.slice none 0 0) (.slice none 0 0) (.slice none 0 0) (w.alloc (.cells #[.slice none 0 0] 177))) :=
        ⟨HH.out.alloc _, new1 _, heap_alloc_new _ _, Orow.nil _ _ _ _ _, Orow.nil _ _ _ _ _, Orow.nil _ _ _ _ _, Or.inl rfl, Or.inl rfl, Or.inl rfl⟩
      have HP := Lib.hid (Hb.parts_sum c ws h0)
      generalize hS : ws.sum = S at *
      have HSS := Lib.hid hS
      clear hS
      go_wp2_with fail
      generalize w.alloc (.cells #[.slice none 0 0] 177) = W0 at HS0
      go_loopw [6, 9, 10, 33] (fun l v9 v10 t wr => ∃ (i : Nat) (v11 : Value), i ≤ ws.length ∧ t = .int .i64 i ∧ l = .int .i64 ((c : Int) - (((Hb.parts c S ws).take i).sum : Nat)) ∧ Hid (SHs H w c S i ws v9 v10 v11 wr)) (fun _ _ _ t _ => ws.length - (intOf t).toNat)
      case atStart => exact ⟨0, _, by omega, rfl, by simp, HS0⟩
      case round =>
        obtain ⟨i, v11, hi, rfl, rfl, J⟩ := hrel
        clear HS0
        by_cases hlt : i < ws.length
        · obtain ⟨b, off, hA, hbl, hc0⟩ := HR.out.at_ J.out.inn hlt (by omega)
          have c0 : wr.cell? ⟨b, off + i, none⟩ = some (.int .i64 (ws[i] : Nat)) := by simpa [fN] using hc0 0 (by omega)
          have hz := HW.out _ (List.getElem_mem hlt)
          have hPl : i < (Hb.parts c S ws).length := by rw [Hb.parts_length]; exact hlt
          have hRl : i < (rests c S ws).length := by rw [rests_len]; exact hlt
          have HT9 : Hid ((Hb.parts c S ws).take (i + 1) = (Hb.parts c S ws).take i ++ [c * ws[i] / S]) := by show _ = _; rw [List.take_succ_eq_append_getElem hPl]; simp [Hb.parts]
          have HT11 : Hid ((rests c S ws).take (i + 1) = (rests c S ws).take i ++ [c * ws[i] % S]) := by show _ = _; rw [List.take_succ_eq_append_getElem hRl]; simp [rests]
          have HT10 : Hid (List.range (i + 1) = List.range i ++ [i]) := List.range_succ
          have HSUM : Hid (((Hb.parts c S ws).take (i + 1)).sum = ((Hb.parts c S ws).take i).sum + c * ws[i] / S) := by
            show _ = _
            rw [HT9.out, List.sum_append_nat]
            simp
          have hsle := Hb.sum_take_le (Hb.parts c S ws) (i + 1)
          rw [HSUM.out] at hsle
          have hzS : ws[i] ≤ S := by rw [← HSS.out]; exact Hb.mem_le_sum (List.getElem_mem hlt)
          have hPc := HP.out.1
          subst hA
          clear hc0 hPl hRl
          generalize ws[i] = z at *
          have hcz : c * z ≤ 1000000000000 * 1000000000 := Nat.mul_le_mul hc hz
          have hq := Hb.parts_each (c := c) hzS
          have hhi : c * z / 18446744073709551616 < S := by
            rw [Nat.div_lt_iff_lt_mul (by omega)]
            have h1 : c * z ≤ c * S := Nat.mul_le_mul_left _ hzS
            have h2 : c * S ≤ 1000000000000 * S := Nat.mul_le_mul_right _ hc
            omega
          have HMD : Hid ((c * z / 18446744073709551616) * 18446744073709551616 + c * z % 18446744073709551616 = c * z) := Nat.div_add_mod' _ _
          have hlo : c * z % 18446744073709551616 < 18446744073709551616 := Nat.mod_lt _ (by omega)
          have HMU := Lib.hid (fun W => Tryz.bits_Mul64 c z (by omega) (by omega) W)
          have HDV := Lib.hid (fun W => div64_any (c * z / 18446744073709551616) (c * z % 18446744073709551616) S W hlo (by omega) hhi)
          rw [HMD.out] at HDV
          have hr0 : c * z % S < S := Nat.mod_lt _ (by omega)
          generalize c * z / S = q at *
          generalize c * z % S = r at *
          generalize c * z / 18446744073709551616 = hi6 at *
          generalize c * z % 18446744073709551616 = lo6 at *
          generalize ((Hb.parts c S ws).take i).sum = s0 at *
          clear hcz hhi hlo HMD hzS
          have hlt2 : (i : Int) < ws.length := by omega
          go_upto_region 12 with (fail)
          go_wp2_with fail
          refine (HMU.out _).mono ?_
          rintro e w' ⟨rfl, hw'⟩
          obtain rfl := hw'.symm
          go_wp2_with fail
          refine (HDV.out _).mono ?_
          rintro e W2 ⟨rfl, nq, rfl⟩
          have J2 := Lib.hid (J.out.call (below_drewN (Below.refl _ _) nq))
          clear J c0 HMU HDV
          go_upto_region 14 with (fail)
          generalize wr.drewN nq = W0 at J2 ⊢
          have HSZ : Hid (w.heap.size + 1 ≤ W0.heap.size) := lt_of_heap J2.out.cap
          generalize u9 = v9 at *
          generalize u10 = v10 at *
          have R9 := J2.out.r9.own
          have R10 := J2.out.r10.own
          have R11 := J2.out.r11.own
          rw [show ((Hb.parts c S ws).take i).length = i from by rw [List.length_take, Hb.parts_length]; omega] at R9
          rw [List.length_range] at R10
          rw [show ((rests c S ws).take i).length = i from by rw [List.length_take, rests_len]; omega] at R11
          obtain ⟨x9, hx9⟩ : ∃ x, x = cellsOf 1 fN ((Hb.parts c S ws).take i) := ⟨_, rfl⟩
          obtain ⟨x10, hx10⟩ : ∃ x, x = cellsOf 1 fN (List.range i) := ⟨_, rfl⟩
          obtain ⟨x11, hx11⟩ : ∃ x, x = cellsOf 1 fQ ((rests c S ws).take i) := ⟨_, rfl⟩
          rw [← hx9] at R9
          rw [← hx10] at R10
          rw [← hx11] at R11
          have HROWS : Hid (∀ t ∈ tsSh v9 v10 v11 (w.heap.size + 1) i x9 x10 x11 (x9 ++ [.int .i64 q]) (x10 ++ [.int .i64 i]) (x11 ++ [.int .u64 r]), W0.ownsRow t.B t.T t.k t.v t.n t.xs) := by
            intro t ht
            simp only [tsSh, List.mem_cons, List.not_mem_nil, or_false] at ht
            rcases ht with rfl | rfl | rfl
            · exact R9
            · exact R10
            · exact R11
          have HAPT : Hid ((tsSh v9 v10 v11 (w.heap.size + 1) i x9 x10 x11 (x9 ++ [.int .i64 q]) (x10 ++ [.int .i64 i]) (x11 ++ [.int .u64 r])).Pairwise fun t u => apart t.v u.v) := by
            show List.Pairwise _ _
            simp only [tsSh, List.pairwise_cons, List.mem_cons, List.not_mem_nil, or_false]
            refine ⟨?_, ?_, ?_, List.Pairwise.nil⟩
            · rintro t (rfl | rfl)
              · exact J2.out.a1
              · exact J2.out.a2
            · rintro t rfl
              exact J2.out.a3
            · rintro t h; cases h
          have HLT0 : Hid (∀ g, v9.ownBlock = some g → g < W0.heap.size) := fun g hg => (World.ownsRow.lt R9 g hg).2
          have HLT1 : Hid (∀ g, v10.ownBlock = some g → g < W0.heap.size) := fun g hg => (World.ownsRow.lt R10 g hg).2
          have HLT2 : Hid (∀ g, v11.ownBlock = some g → g < W0.heap.size) := fun g hg => (World.ownsRow.lt R11 g hg).2
          have HGE : Hid (∀ t ∈ tsSh v9 v10 v11 (w.heap.size + 1) i x9 x10 x11 (x9 ++ [.int .i64 q]) (x10 ++ [.int .i64 i]) (x11 ++ [.int .u64 r]), ∀ g, t.v.ownBlock = some g → w.heap.size + 1 ≤ g) := by
            intro t ht g hg
            simp only [tsSh, List.mem_cons, List.not_mem_nil, or_false] at ht
            rcases ht with rfl | rfl | rfl
            · exact (World.ownsRow.lt R9 g hg).1
            · exact (World.ownsRow.lt R10 g hg).1
            · exact (World.ownsRow.lt R11 g hg).1
          have HCAP : Hid (∀ W L a, RowsJ W0 (tsSh v9 v10 v11 (w.heap.size + 1) i x9 x10 x11 (x9 ++ [.int .i64 q]) (x10 ++ [.int .i64 i]) (x11 ++ [.int .u64 r])) L a W → W.cell? ⟨w.heap.size, 0, none⟩ = some v11) := fun W L a h => by
            have h1 := h.keep w.heap.size HSZ.out (fun t ht c => by have := HGE.out t ht _ c; omega)
            exact cell_h (h1.trans J2.out.cap) 0 rfl
          clear R9 R10 R11
          refine wp_region_concV 13 91 (φSh W0.heap.size v9 v10 v11 q i r) (RowsJ W0 (tsSh v9 v10 v11 (w.heap.size + 1) i x9 x10 x11 (x9 ++ [.int .i64 q]) (x10 ++ [.int .i64 i]) (x11 ++ [.int .u64 r]))) (RowsE W0) (by kernel_rfl) (by kernel_rfl) (by rfl) (RowsJ.start HROWS.out HAPT.out _ _) (fun i x w w' _ e h => φSh_mono i x w w' e h) (fun i x w hi e _ => absurd e (by have hcs : i = 0 ∨ i = 1 ∨ i = 2 ∨ i = 3 ∨ i = 4 ∨ i = 5 ∨ i = 6 ∨ i = 7 ∨ i = 8 ∨ i = 9 ∨ i = 10 ∨ i = 11 ∨ i = 12 := (by omega); rcases hcs with rfl | rfl | rfl | rfl | rfl | rfl | rfl | rfl | rfl | rfl | rfl | rfl | rfl <;> decide)) ?_ ?_
          · intro n o hn ho a W2 L hr hsN hLs hJ hkn
            replace hsN : a.tmps.size = 91 := hsN
            have hcs : n = 0 ∨ n = 1 ∨ n = 2 ∨ n = 3 ∨ n = 4 ∨ n = 5 ∨ n = 6 ∨ n = 7 ∨ n = 8 ∨ n = 9 ∨ n = 10 ∨ n = 11 ∨ n = 12 := by omega
            rcases hcs with rfl | rfl | rfl | rfl | rfl | rfl | rfl | rfl | rfl | rfl | rfl | rfl | rfl
            · obtain rfl := Option.some.inj ho
              refine OpV.mono (R := fun v w' => φSh W0.heap.size v9 v10 v11 q i r 0 v w' ∧ Below W2.heap.size W2 w') ?_ (fun v w' h => ⟨h.1, hJ.step h.2 (rows_ne (li := [4, 8, 12]) (ls := [58, 62, 66]) rfl rfl (by decide) (by decide)) v, RowsE.of h.2⟩)
              exact ⟨hkn 9 (by decide), Below.refl _ _⟩
            · obtain rfl := Option.some.inj ho
              refine OpV.mono (R := fun v w' => φSh W0.heap.size v9 v10 v11 q i r 1 v w' ∧ Below W2.heap.size W2 w') ?_ (fun v w' h => ⟨h.1, hJ.step h.2 (rows_ne (li := [4, 8, 12]) (ls := [58, 62, 66]) rfl rfl (by decide) (by decide)) v, RowsE.of h.2⟩)
              exact ⟨hkn 16 (by decide), Below.refl _ _⟩
            · obtain rfl := Option.some.inj ho
              refine OpV.mono (R := fun v w' => φSh W0.heap.size v9 v10 v11 q i r 2 v w' ∧ Below W2.heap.size W2 w') ?_ (fun v w' h => ⟨h.1, hJ.step h.2 (rows_ne (li := [4, 8, 12]) (ls := [58, 62, 66]) rfl rfl (by decide) (by decide)) v, RowsE.of h.2⟩)
              have h0 := slotv (hkn 55 (by decide) : a.tmps.getD 55 undef = .int .u64 (q : Nat))
              have hqw : IntKind.i64.wrap ((q : Nat) : Int) = (q : Int) := IntWalk.i64_in _ (by omega)
              clear hkn ho
              simp only [OpV, execOp]
              simp [go_sem, h0, hqw]
              exact ⟨rfl, Below.refl _ _⟩
            · obtain rfl := Option.some.inj ho
              refine OpV.mono (R := fun v w' => φSh W0.heap.size v9 v10 v11 q i r 3 v w' ∧ Below W2.heap.size W2 w') ?_ (fun v w' h => ⟨h.1, hJ.step h.2 (rows_ne (li := [4, 8, 12]) (ls := [58, 62, 66]) rfl rfl (by decide) (by decide)) v, RowsE.of h.2⟩)
              have h0 := slotv (hkn 56 (by decide) : a.tmps.getD 56 undef = .int .i64 (q : Nat))
              clear hkn ho
              simp only [OpV, execOp]
              simp [go_sem, h0]
              exact ⟨⟨W2.heap.size, rfl, hJ.size, heap_alloc_new _ _⟩, new1 _⟩
            · obtain rfl := Option.some.inj ho
              have h1 := slotv (hkn 54 (by decide) : a.tmps.getD 54 undef = v9)
              obtain ⟨b, h2, hb0, hh⟩ : TmpS W0.heap.size (a.tmps.getD 57 undef) #[.int .i64 q] 3 W2 := hkn 57 (by decide)
              replace h2 := slotv h2
              refine OpV.mono (hJ.app (t := ⟨4, 58, v9, w.heap.size + 1, 3, 1, i, x9, i + 1, x9 ++ [.int .i64 q]⟩) (by simp [tsSh]) rfl (ready_not hr (by show (4 : Nat) < L.size; rw [hLs]; decide)) (by show (4 : Nat) < L.size; rw [hLs]; decide) (by show (58 : Nat) < a.tmps.size; rw [hsN]; decide) (rows_other (li := [4, 8, 12]) (ls := [58, 62, 66]) rfl rfl (by decide) (by decide) (by simp [tsSh])) (nodup_of_map (f := RowT.i) (show ([4, 8, 12] : List Nat).Nodup by decide)) (HLT0.out) (.tmp 54) (.tmp 57) 22 rfl i0 (.int .i64 0) 8 Tryz.underlying22 hi0 hz0 hz1 hz2 rfl (show (0 : Nat) < 1 by decide) (by simpa [Act.eval, tsSh] using h1) b #[.int .i64 q] 3 (by simpa [Act.eval] using h2) hh rfl (by simp [Value.oneCell']) rfl rfl (by show i ≤ _; omega) (by decide) (by have := HSZ.out; show w.heap.size + 1 ≤ _; omega)) (fun v w' h => ⟨trivial, h.1, h.2⟩)
            · obtain rfl := Option.some.inj ho
              refine OpV.mono (R := fun v w' => φSh W0.heap.size v9 v10 v11 q i r 5 v w' ∧ Below W2.heap.size W2 w') ?_ (fun v w' h => ⟨h.1, hJ.step h.2 (rows_ne (li := [4, 8, 12]) (ls := [58, 62, 66]) rfl rfl (by decide) (by decide)) v, RowsE.of h.2⟩)
              exact ⟨hkn 10 (by decide), Below.refl _ _⟩
            · obtain rfl := Option.some.inj ho
              refine OpV.mono (R := fun v w' => φSh W0.heap.size v9 v10 v11 q i r 6 v w' ∧ Below W2.heap.size W2 w') ?_ (fun v w' h => ⟨h.1, hJ.step h.2 (rows_ne (li := [4, 8, 12]) (ls := [58, 62, 66]) rfl rfl (by decide) (by decide)) v, RowsE.of h.2⟩)
              exact ⟨hkn 12 (by decide), Below.refl _ _⟩
            · obtain rfl := Option.some.inj ho
              refine OpV.mono (R := fun v w' => φSh W0.heap.size v9 v10 v11 q i r 7 v w' ∧ Below W2.heap.size W2 w') ?_ (fun v w' h => ⟨h.1, hJ.step h.2 (rows_ne (li := [4, 8, 12]) (ls := [58, 62, 66]) rfl rfl (by decide) (by decide)) v, RowsE.of h.2⟩)
              have h0 := slotv (hkn 60 (by decide) : a.tmps.getD 60 undef = .int .i64 (i : Nat))
              clear hkn ho
              simp only [OpV, execOp]
              simp [go_sem, h0]
              exact ⟨⟨W2.heap.size, rfl, hJ.size, heap_alloc_new _ _⟩, new1 _⟩
            · obtain rfl := Option.some.inj ho
              have h1 := slotv (hkn 59 (by decide) : a.tmps.getD 59 undef = v10)
              obtain ⟨b, h2, hb0, hh⟩ : TmpS W0.heap.size (a.tmps.getD 61 undef) #[.int .i64 i] 3 W2 := hkn 61 (by decide)
              replace h2 := slotv h2
              refine OpV.mono (hJ.app (t := ⟨8, 62, v10, w.heap.size + 1, 3, 1, i, x10, i + 1, x10 ++ [.int .i64 i]⟩) (by simp [tsSh]) rfl (ready_not hr (by show (8 : Nat) < L.size; rw [hLs]; decide)) (by show (8 : Nat) < L.size; rw [hLs]; decide) (by show (62 : Nat) < a.tmps.size; rw [hsN]; decide) (rows_other (li := [4, 8, 12]) (ls := [58, 62, 66]) rfl rfl (by decide) (by decide) (by simp [tsSh])) (nodup_of_map (f := RowT.i) (show ([4, 8, 12] : List Nat).Nodup by decide)) (HLT1.out) (.tmp 59) (.tmp 61) 22 rfl i0 (.int .i64 0) 8 Tryz.underlying22 hi0 hz0 hz1 hz2 rfl (show (0 : Nat) < 1 by decide) (by simpa [Act.eval, tsSh] using h1) b #[.int .i64 i] 3 (by simpa [Act.eval] using h2) hh rfl (by simp [Value.oneCell']) rfl rfl (by show i ≤ _; omega) (by decide) (by have := HSZ.out; show w.heap.size + 1 ≤ _; omega)) (fun v w' h => ⟨trivial, h.1, h.2⟩)
            · obtain rfl := Option.some.inj ho
              refine OpV.mono (R := fun v w' => φSh W0.heap.size v9 v10 v11 q i r 9 v w' ∧ Below W2.heap.size W2 w') ?_ (fun v w' h => ⟨h.1, hJ.step h.2 (rows_ne (li := [4, 8, 12]) (ls := [58, 62, 66]) rfl rfl (by decide) (by decide)) v, RowsE.of h.2⟩)
              have h0 := slotv (hkn 11 (by decide) : a.tmps.getD 11 undef = .pointer (some ⟨w.heap.size, 0, none⟩))
              have hcc : W2.cell? ⟨w.heap.size, 0, none⟩ = some v11 := HCAP.out W2 _ _ hJ
              clear hkn ho
              simp only [OpV, execOp]
              simp [go_sem, h0, hcc]
              exact ⟨rfl, Below.refl _ _⟩
            · obtain rfl := Option.some.inj ho
              refine OpV.mono (R := fun v w' => φSh W0.heap.size v9 v10 v11 q i r 10 v w' ∧ Below W2.heap.size W2 w') ?_ (fun v w' h => ⟨h.1, hJ.step h.2 (rows_ne (li := [4, 8, 12]) (ls := [58, 62, 66]) rfl rfl (by decide) (by decide)) v, RowsE.of h.2⟩)
              exact ⟨hkn 17 (by decide), Below.refl _ _⟩
            · obtain rfl := Option.some.inj ho
              refine OpV.mono (R := fun v w' => φSh W0.heap.size v9 v10 v11 q i r 11 v w' ∧ Below W2.heap.size W2 w') ?_ (fun v w' h => ⟨h.1, hJ.step h.2 (rows_ne (li := [4, 8, 12]) (ls := [58, 62, 66]) rfl rfl (by decide) (by decide)) v, RowsE.of h.2⟩)
              have h0 := slotv (hkn 64 (by decide) : a.tmps.getD 64 undef = .int .u64 (r : Nat))
              clear hkn ho
              simp only [OpV, execOp]
              simp [go_sem, h0]
              exact ⟨⟨W2.heap.size, rfl, hJ.size, heap_alloc_new _ _⟩, new1 _⟩
            · obtain rfl := Option.some.inj ho
              have h1 := slotv (hkn 63 (by decide) : a.tmps.getD 63 undef = v11)
              obtain ⟨b, h2, hb0, hh⟩ : TmpS W0.heap.size (a.tmps.getD 65 undef) #[.int .u64 r] 150 W2 := hkn 65 (by decide)
              replace h2 := slotv h2
              refine OpV.mono (hJ.app (t := ⟨12, 66, v11, w.heap.size + 1, 150, 1, i, x11, i + 1, x11 ++ [.int .u64 r]⟩) (by simp [tsSh]) rfl (ready_not hr (by show (12 : Nat) < L.size; rw [hLs]; decide)) (by show (12 : Nat) < L.size; rw [hLs]; decide) (by show (66 : Nat) < a.tmps.size; rw [hsN]; decide) (rows_other (li := [4, 8, 12]) (ls := [58, 62, 66]) rfl rfl (by decide) (by decide) (by simp [tsSh])) (nodup_of_map (f := RowT.i) (show ([4, 8, 12] : List Nat).Nodup by decide)) (HLT2.out) (.tmp 63) (.tmp 65) 177 rfl iq (.int .u64 0) 8 Tryz.underlying177 hiq hq0 hq1 hq2 rfl (show (0 : Nat) < 1 by decide) (by simpa [Act.eval, tsSh] using h1) b #[.int .u64 r] 150 (by simpa [Act.eval] using h2) hh rfl (by simp [Value.oneCell']) rfl rfl (by show i ≤ _; omega) (by decide) (by have := HSZ.out; show w.heap.size + 1 ≤ _; omega)) (fun v w' h => ⟨trivial, h.1, h.2⟩)
          · intro yv W9 L9 hL9 hW9 hgt hφ
            rw [hx9, hx10, hx11] at hW9
            obtain ⟨k1, k2, J3⟩ := J2.out.next hlt HHW.out HT9.out HT11.out hW9 (hL9 4 (by decide)) (hL9 8 (by decide)) (hL9 12 (by decide)) (hgt 4 58 rfl) (hgt 8 62 rfl) (hgt 12 66 rfl)
            have J3 := Lib.hid J3
            have hl2 : IntKind.i64.wrap ((c : Int) - (s0 : Int) - (q : Int)) = ((c : Int) - ((s0 + q : Nat) : Int)) := by rw [show (c : Int) - (s0 : Int) - (q : Int) = (c : Int) - ((s0 + q : Nat) : Int) from by omega]; exact IntWalk.i64_in _ (by omega)
            have hl3 : Hid ((c : Int) - (s0 : Int) - (q : Int) = (c : Int) - (((Hb.parts c S ws).take (i + 1)).sum : Nat)) := by show _ = _; rw [HSUM.out]; omega
            have hl4 : Hid ((c : Int) - ((s0 : Int) + (q : Int)) = (c : Int) - (((Hb.parts c S ws).take (i + 1)).sum : Nat)) := by show _ = _; rw [HSUM.out]; omega
            clear hW9 hgt hφ hL9 HROWS HAPT HLT0 HLT1 HLT2 HGE HCAP J2 hx9 hx10 hx11
            simp only [List.drop_succ_cons, List.drop_zero, List.take_succ_cons, List.take_zero, putAll, Nat.reduceAdd]
            generalize yv 12 = z12 at J3 ⊢
            generalize yv 8 = z8 at J3 ⊢
            generalize yv 4 = z4 at J3 ⊢
            obtain ⟨A12, c12, hv, -⟩ := J3.out.r11.slice
            rw [show ((rests c S ws).take (i + 1)).length = i + 1 from by rw [List.length_take, rests_len]; omega] at hv
            subst hv
            go_wp2_with fail
            go_roundw
            case rel => exact ⟨i + 1, _, by omega, by go_num, by first | rw [hl3.out] | rw [hl4.out], J3⟩
            case measure => simp [intOf]; omega
        · have hie : i = ws.length := by omega
          subst hie
          generalize u9 = v9 at *
          generalize u10 = v10 at *
          have hPl : (Hb.parts c S ws).length = ws.length := Hb.parts_length _ _ _
          have hRl : (rests c S ws).length = ws.length := rests_len _ _ _
          rw [List.take_of_length_le (by omega)]
          have J9 := J.out.r9
          have J10 := J.out.r10
          have J11 := J.out.r11
          rw [List.take_of_length_le (by omega)] at J9 J11
          have hne : ws ≠ [] := fun e => by rw [e] at HSS; have := HSS.out; simp at this; omega
          have hpos := List.length_pos_iff.2 hne
          obtain ⟨A11, c11, H2, hv11, hle11, q1, q2, hR11, q3⟩ := Orow.freezeN J11 H
          have hcb := J.out.cap
          have hbel := J.out.bel
          have hsz0 := lt_of_heap hcb
          have hn11 : ∀ g, v11.ownBlock = some g → H g = none := fun g hg => HHW.out.none_ (by have := (Orow.lt J11 hg).1; omega)
          have hin2 := q1 J.out.inn
          have hHn : H2 w.heap.size = none := by rw [q3 _ (fun e => by have := (Orow.lt J11 e).1; omega)]; exact HHW.out.none_ (Nat.le_refl _)
          have hn10 : ∀ g, v10.ownBlock = some g → (H2.add w.heap.size (.cells #[v11] 177 (0, 0))) g = none := by
            intro g hg
            have h1 := (Orow.lt J10 hg).1
            rw [Frz.add_other (by omega), q3 _ (fun e => ?_)]
            · exact HHW.out.none_ (by omega)
            · rcases J.out.a3 with h | h | h
              · rw [h] at hg; cases hg
              · rw [h] at e; cases e
              · exact h (hg.trans e.symm)
          subst hv11
          have hR3 := hR11.le (Frz.le_add (o := .cells #[.slice A11 (rests c S ws).length c11] 177 (0, 0)) hHn)
          have hin3 := hin2.add hcb
          have hcmp : CmpK_Int (H2.add w.heap.size (.cells #[.slice A11 (rests c S ws).length c11] 177 (0, 0))) fN 130 [.pointer (some ⟨w.heap.size, 0, none⟩)] (cmpR (rests c S ws)) (List.range ws.length) := by
            intro W a b hW ha hb
            exact share1_any _ w.heap.size (rests c S ws) A11 c11 (Frz.add_at _ _ _) hR3 a b (by rw [hRl]; simpa using ha) (by rw [hRl]; simpa using hb) (by omega) W hW
          have hsort := sortStable_Int _ fN 130 [.pointer (some ⟨w.heap.size, 0, none⟩)] (cmpR (rests c S ws)) (List.range ws.length) (fun d _ => ⟨(d : Int), rfl⟩) hcmp (fun _ _ _ => by kernel_rfl) v10 (w.heap.size + 1) wr (by simp; omega) hin3 hn10 J10
          rw [ltR_cmp] at hsort
          have hord : isort (ltR (rests c S ws)) (List.range ws.length) = ordR (rests c S ws) := by unfold ordR; rw [hRl]
          rw [hord] at hsort
          have HSORT := Lib.hid hsort
          have J9h := Lib.hid J9
          have HA1 := Lib.hid J.out.a1
          have HBEL := Lib.hid hbel
          have HJ10 := Lib.hid J10
          have hlf : (c : Int) - ((Hb.parts c S ws).sum : Nat) = (leftF c ws : Nat) := by
            have := HP.out.1
            unfold leftF
            rw [HSS.out]
            omega
          have hlf2 : leftF c ws ≤ ws.length := leftF_le (by rw [HSS.out]; exact h0)
          rw [hlf]
          have HSH : Hid (shareF c ws = incs ((ordR (rests c S ws)).take (leftF c ws)) (Hb.parts c S ws)) := by show _ = _; unfold shareF; rw [HSS.out]
          have hol : (ordR (rests c S ws)).length = ws.length := by rw [ordR_len, hRl]
          have HOLT : Hid (∀ x ∈ ordR (rests c S ws), x < ws.length) := fun x hx => by have := ordR_lt hx; rwa [hRl] at this
          have HND := Lib.hid (ordR_nodup (rests c S ws))
          have hPc := HP.out.1
          have HPB : Hid (∀ x ∈ Hb.parts c S ws, x ≤ 1000000000000) := fun x hx => by
            obtain ⟨z, hz, rfl⟩ := List.mem_map.1 hx
            exact Nat.le_trans (Hb.parts_each (by rw [← HSS.out]; exact Hb.mem_le_sum hz)) hc
          clear hsort hcmp hR3 hin3 hn10 hin2 hHn hn11 q1 q2 hR11 q3 J9 J10 J11 hcb hbel hlf hord J hle11
          generalize ordR (rests c S ws) = od at *
          generalize Hb.parts c S ws = P at *
          generalize rests c S ws = rs at *
          generalize leftF c ws = lf at *
          go_wp2_with fail
          refine HSORT.out.mono ?_
          rintro e W2 ⟨rfl, hO10, hg2, -⟩
          have hO9 := Orow.kept J9h.out hg2 HA1.out.symm.ne
          have hbel2 : Below w.heap.size w W2 := HBEL.out.grown hg2 (by have := HBEL.out.size; omega) (fun g hg => by have := (Orow.lt HJ10.out hg).1; omega)
          obtain ⟨g10, cap10, rest10, hv10, hle10, hB10, hlt10, hm10, hk10, hr10⟩ := Orow.form hO10 (fun e => by rw [e] at hol; simp at hol; omega)
          obtain ⟨g9, cap9, rest9, hv9, hle9, hB9, hlt9, hm9, hk9, hr9⟩ := Orow.form hO9 (fun e => by rw [e] at hPl; simp at hPl; omega)
          have hgg : g9 ≠ g10 := by
            intro e
            rcases HA1.out with h | h | h
            · rw [hv9] at h; cases h
            · rw [hv10] at h; cases h
            · apply h; rw [hv9, hv10, e]; rfl
          rw [hol] at hv10 hle10
          rw [hPl] at hv9 hle9 hr9
          subst hv9 hv10
          have HK9 := Lib.hid hk9
          have HK10 := Lib.hid hk10
          have HB2 := Lib.hid hbel2
          have HR9 := Lib.hid hr9
          clear hO9 hO10 hg2 hk9 hk10 hbel2 hr9 hr10 HSORT J9h HA1 HJ10 HBEL hlt9 hlt10
          go_wp2_with fail
          go_loopw [79] (fun t wr => ∃ j : Nat, j ≤ lf ∧ t = .int .i64 j ∧ Hid (KBlk wr g9 3 1 fN (incs (od.take j) P) rest9) ∧ Hid (KBlk wr g10 3 1 fN od rest10) ∧ Hid (Below w.heap.size w wr)) (fun t _ => lf - (intOf t).toNat)
          case atStart => exact ⟨0, by omega, rfl, HK9, HK10, HB2⟩
          case round =>
            obtain ⟨j, hj, rfl, hk9, hk10, hb⟩ := hrel
            clear HK9 HK10 HB2
            by_cases hltj : j < lf
            · have hjo : j < od.length := by omega
              have c0 : wr.cell? ⟨g10, j, none⟩ = some (.int .i64 (od[j] : Nat)) := hk10.out.cell1 j hjo
              have hm := HOLT.out _ (List.getElem_mem hjo)
              have hil : (incs (od.take j) P).length = ws.length := by rw [incs_len, hPl]
              have c1 := hk9.out.cell1 od[j] (by rw [hil]; exact hm)
              have f1 := hk9.out.frozen od[j]
              have HTK : Hid (od.take (j + 1) = od.take j ++ [od[j]]) := List.take_succ_eq_append_getElem hjo
              have HIN := Lib.hid (incs_snoc (od.take j) od[j] P)
              have HST := Lib.hid (hk9.out.set1 od[j] (by rw [hil]; exact hm) ((incs (od.take j) P).getD od[j] 0 + 1))
              have HK10 := Lib.hid (fun u => hk10.out.other (a := ⟨g9, od[j], none⟩) (by show g9 ≠ g10; exact hgg) u)
              have hge : (incs (od.take j) P)[od[j]]'(by rw [hil]; exact hm) = (incs (od.take j) P).getD od[j] 0 := by simp [hil, hm]
              rw [hge] at c1
              change _ = some (Value.int .i64 (((incs (od.take j) P).getD od[j] 0 : Nat) : Int)) at c1
              have hvb : (incs (od.take j) P).getD od[j] 0 ≤ 1000000000001 := by
                rw [incs_at _ _ ((List.take_sublist _ _).nodup HND.out)]
                have : P.getD od[j] 0 ≤ 1000000000000 := by
                  have := HPB.out _ (List.getElem_mem (show od[j] < P.length by rw [hPl]; exact hm))
                  simpa [hPl, hm] using this
                split <;> omega
              have HNX : Hid (KBlk (wr.setCell ⟨g9, od[j], none⟩ (.int .i64 (((incs (od.take j) P).getD od[j] 0 : Nat) + 1 : Int))) g9 3 1 fN (incs (od.take (j + 1)) P) rest9) := by
                show KBlk _ _ _ _ _ _ _
                rw [HTK.out, HIN.out]
                exact HST.out
              have HBN : Hid (∀ u, Below w.heap.size w (wr.setCell ⟨g9, od[j], none⟩ u)) := fun u => hb.out.setCell (by show w.heap.size ≤ g9; omega) u
              have hlt2 : (j : Int) < (lf : Int) := by omega
              clear HTK HIN HST hge
              generalize od[j] = x at *
              generalize (incs (od.take j) P).getD x 0 = y at *
              have hm2 : (x : Int) < ws.length := by omega
              go_wp2_with fail
              go_roundw
              case rel => exact ⟨j + 1, by omega, by go_num, HNX, HK10.out _, HBN.out _⟩
              case measure => simp [intOf]; omega
            · have hje : j = lf := by omega
              subst hje
              have hF : Hid (Orow wr w.heap.size 3 1 fN (.slice (some ⟨g9, 0, none⟩) ws.length cap9) (shareF c ws)) := by
                have h1 := Orow.of_blk (B := w.heap.size) hk9.out (by omega) hm9 (by rw [incs_len, hPl]; exact hle9) (by rw [incs_len, hPl]; exact HR9.out)
                rw [incs_len, hPl] at h1
                show Orow _ _ _ _ _ _ _
                rw [HSH.out]
                exact h1
              go_wp2_with fail
              go_ret
              exact ⟨⟨_, rfl, hF.out⟩, hb.out⟩
end Go.Proofs.YtihcmifikbkbcaaGreat
