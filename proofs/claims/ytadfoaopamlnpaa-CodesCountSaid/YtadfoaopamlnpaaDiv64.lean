/- What Div64 of package math/bits returns: the quotient and the remainder of two words by one. -/
import Derived.Test.YtadfoaopamlnpaaShelf
import Derived.Test.YtadfoaopamlnpaaDiv
import Derived.Test.YtadfoaopamlnpaaPick
import Derived.Deep.Cut
import Derived.Deep.CutBlock
import Derived.Deep.DeepCutAuto
import Derived.LoopTactic
namespace Go.Proofs.Ytadfoaopamlnpaa
set_option linter.unusedVariables false
open Go.RowKit

set_option maxHeartbeats 1000000 in
theorem div64_low (lo y : Nat) (w : World) (h1 : lo < 18446744073709551616) (h2 : y < 18446744073709551616) (h0 : 0 < y) :
    Calls Try.prog 84 #[.int .u64 0, .int .u64 lo, .int .u64 y] w fun e w' =>
      e = .returned (.tuple #[.int .u64 (lo / y : Nat), .int .u64 (lo % y : Nat)]) ∧ ∃ n, w' = w.drewN n := by
  have hy : ((y : Int) == 0) = false := beq_eq_false_iff_ne.2 (by omega)
  go_enter Try.func84, Try.ntmps84
  go_wp2_with fail
  go_quiet (fail)
  go_wp2_with fail
  go_ret2
  refine ⟨?_, _, rfl⟩
  have hq : lo / y ≤ lo := Nat.div_le_self _ _
  have e : ((lo : Int) / y) = ((lo / y : Nat) : Int) := by simp
  have e1 : IntKind.u64.wrap ((lo : Int) / y) = ((lo / y : Nat) : Int) := by
    rw [e]
    generalize lo / y = q at hq
    exact IntWalk.u64_in _ (by omega)
  have e2 : ((lo : Int) % y) = ((lo % y : Nat) : Int) := by simp
  rw [← e1, ← e2]
  rfl

theorem and_mask (Y : Nat) (h : Y < 18446744073709551616) : bits .and .u64 (Y : Int) 4294967295 = ((Y % 4294967296 : Nat) : Int) := by
  have := u64_and_nat Y 4294967295 h (by omega)
  rw [show ((4294967295 : Nat) : Int) = 4294967295 from rfl] at this
  rw [this]
  congr 1
  exact Nat.and_two_pow_sub_one_eq_mod Y 32

/-- The upper word of what is shifted. -/
theorem or_join (hi lo s : Nat) (hs : s ≤ 63) (h1 : lo < 18446744073709551616) (h2 : hi * 2 ^ s < 18446744073709551616) :
    bits .or .u64 (IntKind.u64.wrap ((hi : Int) * 2 ^ s)) ((lo : Int) / 2 ^ (64 - s)) = ((hi * 2 ^ s + lo / 2 ^ (64 - s) : Nat) : Int) := by
  have e1 : IntKind.u64.wrap ((hi : Int) * 2 ^ s) = ((hi * 2 ^ s : Nat) : Int) := by
    have : ((hi : Int) * 2 ^ s) = ((hi * 2 ^ s : Nat) : Int) := by simp
    rw [this]
    generalize hi * 2 ^ s = t at h2
    exact IntWalk.u64_in _ (by omega)
  have e2 : ((lo : Int) / 2 ^ (64 - s)) = ((lo / 2 ^ (64 - s) : Nat) : Int) := by simp
  have hlt : lo / 2 ^ (64 - s) < 2 ^ s := by
    rw [Nat.div_lt_iff_lt_mul (Nat.pow_pos (by omega)), ← Nat.pow_add, show s + (64 - s) = 64 from by omega]
    exact h1
  have hle : lo / 2 ^ (64 - s) ≤ lo := Nat.div_le_self _ _
  rw [e1, e2, u64_or_nat _ _ h2 (by omega)]
  congr 1
  exact nat_join s _ _ (Nat.mul_mod_left _ _) hlt

/-- The two words of what is shifted. -/
theorem shifted (hi lo s : Nat) (hs : s ≤ 63) : (hi * 18446744073709551616 + lo) * 2 ^ s = (hi * 2 ^ s + lo / 2 ^ (64 - s)) * 18446744073709551616 + (lo * 2 ^ s) % 18446744073709551616 := by
  have e : 18446744073709551616 = 2 ^ (64 - s) * 2 ^ s := by rw [← Nat.pow_add, show 64 - s + s = 64 from by omega]
  have h1 := Nat.div_add_mod' lo (2 ^ (64 - s))
  have h2 : (lo * 2 ^ s) % 18446744073709551616 = (lo % 2 ^ (64 - s)) * 2 ^ s := by
    rw [e, Nat.mul_mod_mul_right]
  rw [h2]
  have h3 : lo * 2 ^ s = lo / 2 ^ (64 - s) * 2 ^ (64 - s) * 2 ^ s + lo % 2 ^ (64 - s) * 2 ^ s := by
    rw [← Nat.add_mul, h1]
  have h4 : lo / 2 ^ (64 - s) * 2 ^ (64 - s) * 2 ^ s = lo / 2 ^ (64 - s) * 18446744073709551616 := by
    rw [Nat.mul_assoc, ← e]
  rw [Nat.add_mul, Nat.add_mul, h3, h4, Nat.mul_right_comm]
  omega

theorem wrapL (lo s : Nat) : IntKind.u64.wrap ((lo : Int) * 2 ^ s) = (((lo * 2 ^ s) % 18446744073709551616 : Nat) : Int) := by
  rw [IntKind.wrap_u64]
  simp

theorem lead (y : Nat) (h0 : 0 < y) (h : y < 18446744073709551616) :
    ∃ s : Nat, Hid (64 - (Lib.bitLen y : Int) = (s : Int)) ∧ s ≤ 63 ∧ Hid (y * 2 ^ s < 18446744073709551616 ∧ 9223372036854775808 ≤ y * 2 ^ s) := by
  have key : ∀ (f y : Nat), 0 < y → y < 2 ^ f → 1 ≤ Lib.bitLenAux f y ∧ Lib.bitLenAux f y ≤ f ∧ 2 ^ (Lib.bitLenAux f y - 1) ≤ y ∧ y < 2 ^ Lib.bitLenAux f y := by
    intro f
    induction f with
    | zero => intro y h0 h; omega
    | succ f ih =>
      intro y h0 h
      unfold Lib.bitLenAux
      rw [if_neg (by omega)]
      by_cases h1 : y / 2 = 0
      · have : y = 1 := by omega
        subst this
        have e : Lib.bitLenAux f (1 / 2) = 0 := by cases f <;> rfl
        rw [e]
        exact ⟨by omega, by omega, by decide, by decide⟩
      · obtain ⟨k1, k2, k3, k4⟩ := ih (y / 2) (by omega) (by rw [Nat.pow_succ] at h; omega)
        refine ⟨by omega, by omega, ?_, ?_⟩
        · have e : 1 + Lib.bitLenAux f (y / 2) - 1 = (Lib.bitLenAux f (y / 2) - 1) + 1 := by omega
          rw [e, Nat.pow_succ]
          omega
        · rw [Nat.add_comm 1, Nat.pow_succ]
          omega
  obtain ⟨k1, k2, k3, k4⟩ := key 64 y h0 h
  change 1 ≤ Lib.bitLen y at k1
  change Lib.bitLen y ≤ 64 at k2
  change 2 ^ (Lib.bitLen y - 1) ≤ y at k3
  change y < 2 ^ Lib.bitLen y at k4
  generalize Lib.bitLen y = n at *
  refine ⟨64 - n, by show _ = _; omega, by omega, ?_, ?_⟩
  · have : y * 2 ^ (64 - n) < 2 ^ n * 2 ^ (64 - n) := Nat.mul_lt_mul_of_pos_right k4 (Nat.pow_pos (by omega))
    rw [← Nat.pow_add, show n + (64 - n) = 64 from by omega] at this
    exact this
  · have : 2 ^ (n - 1) * 2 ^ (64 - n) ≤ y * 2 ^ (64 - n) := Nat.mul_le_mul_right _ k3
    rw [← Nat.pow_add, show n - 1 + (64 - n) = 63 from by omega] at this
    exact this

theorem start_q (u a : Nat) (ha : 2147483648 ≤ a) (hu : u < 18446744073709551616) : IntKind.u64.wrap ((u : Int) / a) = ((u / a : Nat) : Int) := by
  have e : ((u : Int) / a) = ((u / a : Nat) : Int) := by simp
  have h : u / a ≤ u := Nat.div_le_self _ _
  rw [e]
  generalize u / a = q at h
  exact IntWalk.u64_in _ (by omega)
theorem start_r (u a : Nat) (ha : 2147483648 ≤ a) (hu : u < 18446744073709551616) :
    IntKind.u64.wrap ((u : Int) - IntKind.u64.wrap (IntKind.u64.wrap ((u : Int) / a) * a)) = ((u % a : Nat) : Int) := by
  rw [start_q u a ha hu, ← Int.natCast_mul]
  have h := Nat.div_add_mod' u a
  have h2 : u / a * a ≤ u := Nat.div_mul_le_self _ _
  generalize u / a * a = t at h h2
  rw [IntWalk.u64_in (t : Int) (by omega)]
  have e : ((u : Int) - t) = ((u % a : Nat) : Int) := by omega
  rw [e]
  have := Nat.mod_lt u (show a > 0 by omega)
  generalize u % a = r at *
  exact IntWalk.u64_in _ (by omega)

theorem next_digit {q a r u : Nat} (h : q * a + r = u) (h1 : 1 ≤ q) : (q - 1) * a + (r + a) = u := by
  obtain ⟨m, rfl⟩ : ∃ m, q = m + 1 := ⟨q - 1, by omega⟩
  rw [Nat.succ_mul] at h
  simp only [Nat.add_sub_cancel]
  omega
theorem prod_le {q b : Nat} (hq : (q : Int) < 4294967296) (hb : b < 4294967296) : (q : Int) * (b : Int) ≤ 18446744073709551615 := by
  have : (q : Int) * (b : Int) ≤ 4294967295 * 4294967295 := Int.mul_le_mul (by omega) (by omega) (by omega) (by omega)
  omega
theorem no_digit {q b r c : Nat} (h : (4294967296 : Int) ≤ (q : Int) ∨ 4294967296 * (r : Int) + c < (q : Int) * b) : ¬ (q < 4294967296 ∧ q * b ≤ 4294967296 * r + c) := by
  rintro ⟨h1, h2⟩
  rcases h with h | h
  · omega
  · have : ((q * b : Nat) : Int) ≤ ((4294967296 * r + c : Nat) : Int) := by omega
    rw [Int.natCast_mul] at this
    omega
theorem le_digit {q b r c : Nat} (h : (q : Int) * b ≤ 4294967296 * (r : Int) + c) : q * b ≤ 4294967296 * r + c := by
  rw [← Int.natCast_mul] at h
  omega

theorem ret_two {k l : IntKind} {a b a' b' : Int} (h : a = a') (h' : b = b') : Ending.returned (.tuple #[.int k a, .int l b]) = .returned (.tuple #[.int k a', .int l b']) := by rw [h, h']
theorem rest_digit (u c Y Q : Nat) (hY : Y < 18446744073709551616) (hY0 : 0 < Y) (hQ : Q = (u * 4294967296 + c) / Y) :
    IntKind.u64.wrap (IntKind.u64.wrap (IntKind.u64.wrap ((u : Int) * 4294967296) + c) - IntKind.u64.wrap ((Q : Int) * Y)) = (((u * 4294967296 + c) % Y : Nat) : Int) := by
  rw [IntKind.wrap_u64, IntKind.wrap_u64, IntKind.wrap_u64, IntKind.wrap_u64]
  have h := Nat.div_add_mod' (u * 4294967296 + c) Y
  have hm := Nat.mod_lt (u * 4294967296 + c) hY0
  rw [← hQ] at h
  have h' : (Q : Int) * Y + (((u * 4294967296 + c) % Y : Nat) : Int) = (u : Int) * 4294967296 + c := by
    rw [← Int.natCast_mul]
    omega
  generalize (u * 4294967296 + c) % Y = m at hm h'
  generalize (Q : Int) * Y = t at h'
  omega

set_option maxHeartbeats 2000000 in
set_option maxRecDepth 100000 in
theorem div64_high (hi lo y : Nat) (w : World) (h1 : lo < 18446744073709551616) (h2 : y < 18446744073709551616) (h3 : hi < y) (h0 : 0 < hi) :
    Calls Try.prog 84 #[.int .u64 hi, .int .u64 lo, .int .u64 y] w fun e w' =>
      e = .returned (.tuple #[.int .u64 ((hi * 18446744073709551616 + lo) / y : Nat), .int .u64 ((hi * 18446744073709551616 + lo) % y : Nat)]) ∧ ∃ n, w' = w.drewN n := by
  have hy : ((y : Int) == 0) = false := beq_eq_false_iff_ne.2 (by omega)
  have hh : ((hi : Int) == 0) = false := beq_eq_false_iff_ne.2 (by omega)
  go_enter Try.func84, Try.ntmps84
  go_wp2_with fail
  refine (Try.bits_LeadingZeros64 _ _ (by omega) (by omega)).mono ?_
  rintro e w' ⟨rfl, rfl⟩
  rw [Int.toNat_natCast]
  obtain ⟨s, hs, hs1, hs2⟩ : ∃ s : Nat, Hid (64 - (Lib.bitLen y : Int) = (s : Int)) ∧ s ≤ 63 ∧ Hid (y * 2 ^ s < 18446744073709551616 ∧ 9223372036854775808 ≤ y * 2 ^ s) := lead y (by omega) h2
  rw [hs.out]
  go_upto_region 9 with (fail)
  obtain ⟨Y, hY⟩ : ∃ Y : Nat, Hid (Y = y * 2 ^ s) := ⟨_, rfl⟩
  have hY1 : Y < 18446744073709551616 := by rw [hY.out]; exact hs2.out.1
  have hY2 : 9223372036854775808 ≤ Y := by rw [hY.out]; exact hs2.out.2
  rw [show IntKind.u64.wrap ((y : Int) * 2 ^ s) = (Y : Int) from by
    have : ((y : Int) * 2 ^ s) = ((y * 2 ^ s : Nat) : Int) := by simp
    rw [this, ← hY.out]
    exact IntWalk.u64_in _ (by omega)]
  go_upto_region 15 with (fail)
  have hu0 : hi * 2 ^ s < 18446744073709551616 := Nat.lt_of_le_of_lt (Nat.mul_le_mul_right _ (Nat.le_of_lt h3)) hs2.out.1
  have hsh := shifted hi lo s hs1
  have huY : hi * 2 ^ s + lo / 2 ^ (64 - s) < Y := by
    have hlt : lo / 2 ^ (64 - s) < 2 ^ s := by
      rw [Nat.div_lt_iff_lt_mul (Nat.pow_pos (by omega)), ← Nat.pow_add, show s + (64 - s) = 64 from by omega]
      exact h1
    have : (hi + 1) * 2 ^ s ≤ y * 2 ^ s := Nat.mul_le_mul_right _ h3
    rw [Nat.succ_mul, ← hY.out] at this
    omega
  rw [or_join hi lo s hs1 h1 hu0, wrapL, and_mask Y hY1]
  have hL : (lo * 2 ^ s) % 18446744073709551616 < 18446744073709551616 := Nat.mod_lt _ (by omega)
  generalize (lo * 2 ^ s) % 18446744073709551616 = L at hsh hL ⊢
  generalize hi * 2 ^ s + lo / 2 ^ (64 - s) = u at hsh huY ⊢
  rw [and_mask L hL]
  have eY : ((Y : Int) / 4294967296) = ((Y / 4294967296 : Nat) : Int) := by simp
  have eL : ((L : Int) / 4294967296) = ((L / 4294967296 : Nat) : Int) := by simp
  rw [eY, eL]
  obtain ⟨a, ha⟩ : ∃ a, a = Y / 4294967296 := ⟨_, rfl⟩
  obtain ⟨b, hb⟩ : ∃ b, b = Y % 4294967296 := ⟨_, rfl⟩
  obtain ⟨c, hc⟩ : ∃ c, c = L / 4294967296 := ⟨_, rfl⟩
  obtain ⟨d, hd⟩ : ∃ d, d = L % 4294967296 := ⟨_, rfl⟩
  rw [← ha, ← hb, ← hc, ← hd]
  have a1 : 2147483648 ≤ a := by omega
  have a2 : a < 4294967296 := by omega
  have b1 : b < 4294967296 := by omega
  have c1 : c < 4294967296 := by omega
  have d1 : d < 4294967296 := by omega
  have HYab := Lib.hid (show Y = a * 4294967296 + b by omega)
  have HLcd := Lib.hid (show L = c * 4294967296 + d by omega)
  have HSH := Lib.hid hsh
  clear ha hb hc hd eY eL hsh hu0
  have hu1 : u < a * 4294967296 + b := by rw [← HYab.out]; exact huY
  obtain ⟨st1, st2, st3⟩ := Hb.digit_start (B := 4294967296) (c := c) (by omega) b1 (by omega) c1 hu1
  go_upto_block 0 with (fail)
  obtain ⟨Q1, hQ1⟩ : ∃ Q1, Hid (Q1 = (u * 4294967296 + c) / (a * 4294967296 + b)) := ⟨_, rfl⟩
  have HST2 : Hid (Q1 ≤ u / a) := by rw [hQ1.out]; exact st2
  have HST1 := Lib.hid st1
  have qs := start_q u a (by omega) (by omega)
  have rs := start_r u a (by omega) (by omega)
  have QS := Lib.hid qs
  have RS := Lib.hid rs
  have rlt := Nat.mod_lt u (show a > 0 by omega)
  clear st1 st2 qs rs
  go_cut [15, 16] (fun s15 s16 wx => ∃ r : Nat, s15 = .int .u64 Q1 ∧ s16 = .int .u64 r ∧ w' = wx)
  case first =>
    go_wp2_with fail
    go_loop [15, 16] (fun s15 s16 => ∃ q r : Nat, s15 = .int .u64 q ∧ s16 = .int .u64 r ∧ Hid (q * a + r = u) ∧ Hid (Q1 ≤ q) ∧ q ≤ 4294967297 ∧ r < 4294967296) (fun s _ => (intOf s).toNat)
    case atStart => exact ⟨u / a, u % a, by rw [QS.out], by rw [RS.out], HST1, HST2, by omega, by omega⟩
    case round =>
      obtain ⟨q, r, rfl, rfl, hqr, hQq, hq, hr⟩ := hrel
      have hqb0 : 0 ≤ (q : Int) * (b : Int) := Int.mul_nonneg (by omega) (by omega)
      by_cases tt : (4294967296 : Int) ≤ (q : Int) ∨ 4294967296 * (r : Int) + c < (q : Int) * b
      · have hgt : Hid (Q1 < q) := by
          show Q1 < q
          have h1 := hQq.out
          rw [hQ1.out] at h1 ⊢
          exact Hb.digit_gt c1 hu1 hqr.out h1 (no_digit tt)
        have hgt' : 1 ≤ q := by have := hgt.out; omega
        have nx := Lib.hid (next_digit hqr.out hgt')
        have e1 : Hid (((q : Int) - 1) = ((q - 1 : Nat) : Int)) := by show _ = _; omega
        have e2 : Hid (((r : Int) + a) = ((r + a : Nat) : Int)) := by show _ = _; omega
        by_cases t2 : (4294967296 : Int) ≤ (r : Int) + (a : Int)
        · have hfin : Hid (q - 1 = Q1) := by
            show q - 1 = Q1
            have h1 : Q1 ≤ q - 1 := by have := hgt.out; omega
            rw [hQ1.out] at h1 ⊢
            exact Hb.digit_break b1 (by omega) nx.out h1 (by omega) (by omega)
          rcases tt with t1 | t1
          · go_wp2_with fail
            go_meet
            exact ⟨r + a, by rw [e1.out, hfin.out], by rw [e2.out], rfl⟩
          · by_cases t0 : (4294967296 : Int) ≤ (q : Int)
            · clear t1
              go_wp2_with fail
              go_meet
              exact ⟨r + a, by rw [e1.out, hfin.out], by rw [e2.out], rfl⟩
            · have hqb1 : (q : Int) * (b : Int) ≤ 18446744073709551615 := prod_le (by omega) (by omega)
              go_wp2_with fail
              go_meet
              exact ⟨r + a, by rw [e1.out, hfin.out], by rw [e2.out], rfl⟩
        · have hrel' : Hid (Q1 ≤ q - 1) := by show Q1 ≤ q - 1; have := hgt.out; omega
          rcases tt with t1 | t1
          · go_wp2_with fail
            go_round
            case rel => exact ⟨q - 1, r + a, by rw [e1.out], by rw [e2.out], nx, hrel', by omega, by omega⟩
            case measure => simp only [intOf]; omega
          · by_cases t0 : (4294967296 : Int) ≤ (q : Int)
            · clear t1
              go_wp2_with fail
              go_round
              case rel => exact ⟨q - 1, r + a, by rw [e1.out], by rw [e2.out], nx, hrel', by omega, by omega⟩
              case measure => simp only [intOf]; omega
            · have hqb1 : (q : Int) * (b : Int) ≤ 18446744073709551615 := prod_le (by omega) (by omega)
              go_wp2_with fail
              go_round
              case rel => exact ⟨q - 1, r + a, by rw [e1.out], by rw [e2.out], nx, hrel', by omega, by omega⟩
              case measure => simp only [intOf]; omega
      · have t0 : (q : Int) < 4294967296 := by omega
        have t1 : (q : Int) * b ≤ 4294967296 * (r : Int) + c := by omega
        have hqb1 : (q : Int) * (b : Int) ≤ 18446744073709551615 := prod_le (by omega) (by omega)
        have hfin : Hid (q = Q1) := by
          show q = Q1
          have h1 := hQq.out
          rw [hQ1.out] at h1 ⊢
          exact Hb.digit_done (by omega) hqr.out h1 (le_digit t1)
        have dt0 : decide ((4294967296 : Int) ≤ (q : Int)) = false := by simp; omega
        have dt1 : decide (4294967296 * (r : Int) + c < (q : Int) * b) = false := decide_eq_false (by omega)
        clear tt t0 t1
        go_wp2_with fail
        go_meet
        exact ⟨r, by rw [hfin.out], rfl, rfl⟩
  case rest =>
    obtain ⟨r1, rfl, rfl, rfl⟩ := hcut
    have q1lt : Q1 < 4294967296 := by rw [hQ1.out]; exact Hb.digit_small c1 hu1
    go_upto_region 22 with (fail)
    obtain ⟨v, hv⟩ : ∃ v, Hid (v = (u * 4294967296 + c) % Y) := ⟨_, rfl⟩
    have hvY : v < Y := by rw [hv.out]; exact Nat.mod_lt _ (by omega)
    have hQY : Hid (Q1 = (u * 4294967296 + c) / Y) := by show _ = _; rw [hQ1.out, HYab.out]
    rw [rest_digit u c Y Q1 hY1 (by omega) hQY.out, ← hv.out]
    have hv1 : v < a * 4294967296 + b := by rw [← HYab.out]; exact hvY
    obtain ⟨st1', st2', st3'⟩ := Hb.digit_start (B := 4294967296) (c := d) (by omega) b1 (by omega) d1 hv1
    go_upto_block 2 with (fail)
    obtain ⟨Q0, hQ0⟩ : ∃ Q0, Hid (Q0 = (v * 4294967296 + d) / (a * 4294967296 + b)) := ⟨_, rfl⟩
    have HST2' : Hid (Q0 ≤ v / a) := by rw [hQ0.out]; exact st2'
    have HST1' := Lib.hid st1'
    have QS' := Lib.hid (start_q v a (by omega) (by omega))
    have RS' := Lib.hid (start_r v a (by omega) (by omega))
    have rlt' := Nat.mod_lt v (show a > 0 by omega)
    clear st1' st2'
    go_cut [16, 18] (fun s16 s18 wx => ∃ r : Nat, s18 = .int .u64 Q0 ∧ s16 = .int .u64 r ∧ w' = wx)
    case first =>
      go_wp2_with fail
      go_loop [18, 16] (fun s15 s16 => ∃ q r : Nat, s15 = .int .u64 q ∧ s16 = .int .u64 r ∧ Hid (q * a + r = v) ∧ Hid (Q0 ≤ q) ∧ q ≤ 4294967297 ∧ r < 4294967296) (fun s _ => (intOf s).toNat)
      case atStart => exact ⟨v / a, v % a, by rw [QS'.out], by rw [RS'.out], HST1', HST2', by omega, by omega⟩
      case round =>
        obtain ⟨q, r, rfl, rfl, hqr, hQq, hq, hr⟩ := hrel
        have hqb0 : 0 ≤ (q : Int) * (b : Int) := Int.mul_nonneg (by omega) (by omega)
        by_cases tt : (4294967296 : Int) ≤ (q : Int) ∨ 4294967296 * (r : Int) + d < (q : Int) * b
        · have hgt : Hid (Q0 < q) := by
            show Q0 < q
            have h1 := hQq.out
            rw [hQ0.out] at h1 ⊢
            exact Hb.digit_gt d1 hv1 hqr.out h1 (no_digit tt)
          have hgt' : 1 ≤ q := by have := hgt.out; omega
          have nx := Lib.hid (next_digit hqr.out hgt')
          have e1 : Hid (((q : Int) - 1) = ((q - 1 : Nat) : Int)) := by show _ = _; omega
          have e2 : Hid (((r : Int) + a) = ((r + a : Nat) : Int)) := by show _ = _; omega
          by_cases t2 : (4294967296 : Int) ≤ (r : Int) + (a : Int)
          · have hfin : Hid (q - 1 = Q0) := by
              show q - 1 = Q0
              have h1 : Q0 ≤ q - 1 := by have := hgt.out; omega
              rw [hQ0.out] at h1 ⊢
              exact Hb.digit_break b1 (by omega) nx.out h1 (by omega) (by omega)
            rcases tt with t1 | t1
            · go_wp2_with fail
              go_meet
              exact ⟨r + a, by rw [e1.out, hfin.out], by rw [e2.out], rfl⟩
            · by_cases t0 : (4294967296 : Int) ≤ (q : Int)
              · clear t1
                go_wp2_with fail
                go_meet
                exact ⟨r + a, by rw [e1.out, hfin.out], by rw [e2.out], rfl⟩
              · have hqb1 : (q : Int) * (b : Int) ≤ 18446744073709551615 := prod_le (by omega) (by omega)
                go_wp2_with fail
                go_meet
                exact ⟨r + a, by rw [e1.out, hfin.out], by rw [e2.out], rfl⟩
          · have hrel' : Hid (Q0 ≤ q - 1) := by show Q0 ≤ q - 1; have := hgt.out; omega
            rcases tt with t1 | t1
            · go_wp2_with fail
              go_round
              case rel => exact ⟨q - 1, r + a, by rw [e1.out], by rw [e2.out], nx, hrel', by omega, by omega⟩
              case measure => simp only [intOf]; omega
            · by_cases t0 : (4294967296 : Int) ≤ (q : Int)
              · clear t1
                go_wp2_with fail
                go_round
                case rel => exact ⟨q - 1, r + a, by rw [e1.out], by rw [e2.out], nx, hrel', by omega, by omega⟩
                case measure => simp only [intOf]; omega
              · have hqb1 : (q : Int) * (b : Int) ≤ 18446744073709551615 := prod_le (by omega) (by omega)
                go_wp2_with fail
                go_round
                case rel => exact ⟨q - 1, r + a, by rw [e1.out], by rw [e2.out], nx, hrel', by omega, by omega⟩
                case measure => simp only [intOf]; omega
        · have t0 : (q : Int) < 4294967296 := by omega
          have t1 : (q : Int) * b ≤ 4294967296 * (r : Int) + d := by omega
          have hqb1 : (q : Int) * (b : Int) ≤ 18446744073709551615 := prod_le (by omega) (by omega)
          have hfin : Hid (q = Q0) := by
            show q = Q0
            have h1 := hQq.out
            rw [hQ0.out] at h1 ⊢
            exact Hb.digit_done (by omega) hqr.out h1 (le_digit t1)
          have dt0 : decide ((4294967296 : Int) ≤ (q : Int)) = false := by simp; omega
          have dt1 : decide (4294967296 * (r : Int) + d < (q : Int) * b) = false := decide_eq_false (by omega)
          clear tt t0 t1
          go_wp2_with fail
          go_meet
          exact ⟨r, by rw [hfin.out], rfl, rfl⟩
    case rest =>
      obtain ⟨r0, rfl, rfl, rfl⟩ := hcut
      have q0lt : Q0 < 4294967296 := by rw [hQ0.out]; exact Hb.digit_small d1 hv1
      go_wp2_with fail
      go_ret2
      have hQY0 : Q0 = (v * 4294967296 + d) / Y := by rw [hQ0.out, HYab.out]
      have hres := rest_digit v d Y Q0 hY1 (by omega) hQY0
      have key := Hb.two_digits (y := Y) (u := u) (c := c) (d := d) (B := 4294967296) (by omega)
      simp only at key
      rw [← hv.out, ← hQY.out, ← hQY0] at key
      have eU : u * 4294967296 * 4294967296 + c * 4294967296 + d = (hi * 18446744073709551616 + lo) * 2 ^ s := by
        rw [HSH.out, HLcd.out]
        omega
      have e0 : 0 < 2 ^ s := Nat.pow_pos (by omega)
      rw [eU] at key
      have k1 := key.1
      have k2 := key.2
      rw [hY.out, Nat.mul_div_mul_right _ _ e0] at k1
      rw [hY.out, Nat.mul_mod_mul_right, ← hY.out] at k2
      refine ⟨ret_two ?_ ?_, 0, rfl⟩
      · rw [← k1]
        omega
      · rw [hres, k2, Int.natCast_mul, Int.natCast_pow]
        exact Int.mul_ediv_cancel _ (by
          have : (0 : Int) < ((2 ^ s : Nat) : Int) := by omega
          rw [Int.natCast_pow] at this
          exact Int.ne_of_gt this)

theorem div64_any (hi lo y : Nat) (w : World) (h1 : lo < 18446744073709551616) (h2 : y < 18446744073709551616) (h3 : hi < y) :
    Calls Try.prog 84 #[.int .u64 hi, .int .u64 lo, .int .u64 y] w fun e w' =>
      e = .returned (.tuple #[.int .u64 ((hi * 18446744073709551616 + lo) / y : Nat), .int .u64 ((hi * 18446744073709551616 + lo) % y : Nat)]) ∧ ∃ n, w' = w.drewN n := by
  rcases Nat.eq_zero_or_pos hi with h0 | h0
  · subst h0
    rw [Nat.zero_mul, Nat.zero_add]
    exact div64_low lo y w h1 h2 h3
  · exact div64_high hi lo y w h1 h2 h3 h0
end Go.Proofs.Ytadfoaopamlnpaa
