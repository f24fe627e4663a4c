/- Texts of this claim, put together: Ways, Path, PtrMp, CredP, Credit. -/
import Derived.Test.YtihcmifikbkbcaaGreatDoorQD
import Derived.Test.YtihcmifikbkbcaaGreatDoorQB
import Derived.Test.YtihcmifikbkbcaaGreatDoorQA
import Derived.Test.YtihcmifikbkbcaaGreatDoorIter
/- The weights of a path. -/
namespace Go.Proofs.YtihcmifikbkbcaaGreatDoor
set_option linter.unusedVariables false
open Go.RowKit
/-- What weight tells. -/
def WPost (how : Int) (i n : Nat) (w : World) (e : Ending) (w' : World) : Prop := ∃ z : Nat, e = .returned (.int .i64 (z : Int)) ∧ z ≤ 262144 ∧ (z = 0 → (how = 1 ∧ 0 < i) ∨ (how = 2 ∧ i + 1 < n)) ∧ w = w'
theorem WPost.of {how : Int} {i n : Nat} {w : World} {x : Int} {z : Nat} (hx : x = (z : Int)) (h1 : z ≤ 262144) (h2 : z = 0 → (how = 1 ∧ 0 < i) ∨ (how = 2 ∧ i + 1 < n)) : WPost how i n w (.returned (.int .i64 x)) w := ⟨z, by rw [hx], h1, h2, rfl⟩
theorem halve_le {age span : Int} (h1 : 1 ≤ age) (h2 : age ≤ span) : 0 ≤ 18 * age / span ∧ 18 * age / span ≤ 18 := by
  constructor
  · exact Int.ediv_nonneg (by omega) (by omega)
  · have : 18 * age / span ≤ 18 * span / span := Int.ediv_le_ediv (by omega) (by omega)
    rwa [Int.mul_ediv_cancel _ (by omega)] at this
theorem pow_le18 {K : Nat} (h : K ≤ 18) : 1 ≤ 2 ^ K ∧ 2 ^ K ≤ 262144 := ⟨Nat.one_le_two_pow, Nat.pow_le_pow_right (by omega) h⟩
theorem pow_wrap {K : Nat} (h : K ≤ 18) : wrap64 ((2 : Int) ^ K) = (2 : Int) ^ K := by
  have h1 := pow_le18 h
  have e : ((2 : Int) ^ K) = ((2 ^ K : Nat) : Int) := by simp
  rw [e]
  generalize 2 ^ K = m at *
  exact IntWalk.wrap64_in _ (by omega)
set_option maxHeartbeats 2000000 in
set_option maxRecDepth 100000 in
theorem weight_any (how span age : Int) (i n : Nat) (w : World) (h1 : 1 ≤ how) (h6 : how ≤ 6) (ha : 1 ≤ age) (has : age ≤ span) (hs : span ≤ 10000000) (hi : i < n) (hn : n ≤ 12) :
    Calls Tryz.prog 48 #[.int .i64 how, .int .i64 span, .int .i64 age, .int .i64 i, .int .i64 n] w (WPost how i n w) := by
  have a1 : IntKind.i64.wrap ((n : Int) - 1) = (n : Int) - 1 := IntWalk.i64_in _ (by omega)
  have HP := Lib.hid (fun x z hx h1 h2 => WPost.of (how := how) (i := i) (n := n) (w := w) (x := x) (z := z) hx h1 h2)
  clear HP
  have hcs : how = 1 ∨ how = 2 ∨ how = 3 ∨ how = 4 ∨ how = 5 ∨ how = 6 := by omega
  have hq : (i = 0 ∨ 0 < i) ∧ (i + 1 = n ∨ i + 1 < n) ∧ (2 < n ∨ n ≤ 2) := by omega
  obtain ⟨h0, hl, h2⟩ := hq
  rcases hcs with rfl | rfl | rfl | rfl | rfl | rfl
  · rcases h0 with rfl | h0
    · rcases hl with hl | hl
      · rcases h2 with h2 | h2
        · exfalso; omega
        · skip
          have x1 : ((((0 : Nat) : Int) : Int) == 0) = true := by rfl
          have x2 : (((0 : Nat) : Int) == (n : Int) - 1) = true := by simp; omega
          have x3 : ¬ (2 : Int) < (n : Int) := by omega
          have x4 : ¬ ((0 : Nat) : Int) < (n : Int) - 1 := by omega
          go_enter Tryz.func48, Tryz.ntmps48
          go_wp2_with fail
          go_ret
          exact WPost.of (z := 1) (by omega) (by omega) (by omega)
      · rcases h2 with h2 | h2
        · skip
          have x1 : ((((0 : Nat) : Int) : Int) == 0) = true := by rfl
          have x2 : (((0 : Nat) : Int) == (n : Int) - 1) = false := by simp; omega
          have x3 : (2 : Int) < (n : Int) := by omega
          have x4 : ((0 : Nat) : Int) < (n : Int) - 1 := by omega
          go_enter Tryz.func48, Tryz.ntmps48
          go_wp2_with fail
          go_ret
          exact WPost.of (z := 1) (by omega) (by omega) (by omega)
        · skip
          have x1 : ((((0 : Nat) : Int) : Int) == 0) = true := by rfl
          have x2 : (((0 : Nat) : Int) == (n : Int) - 1) = false := by simp; omega
          have x3 : ¬ (2 : Int) < (n : Int) := by omega
          have x4 : ((0 : Nat) : Int) < (n : Int) - 1 := by omega
          go_enter Tryz.func48, Tryz.ntmps48
          go_wp2_with fail
          go_ret
          exact WPost.of (z := 1) (by omega) (by omega) (by omega)
    · rcases hl with hl | hl
      · rcases h2 with h2 | h2
        · skip
          have x1 : (((i : Int) : Int) == 0) = false := by simp; omega
          have x2 : ((i : Int) == (n : Int) - 1) = true := by simp; omega
          have x3 : (2 : Int) < (n : Int) := by omega
          have x4 : ¬ (i : Int) < (n : Int) - 1 := by omega
          have x5 : (0 : Int) < (i : Int) := by omega
          go_enter Tryz.func48, Tryz.ntmps48
          go_wp2_with fail
          go_ret
          exact WPost.of (z := 0) (by omega) (by omega) (by omega)
        · skip
          have x1 : (((i : Int) : Int) == 0) = false := by simp; omega
          have x2 : ((i : Int) == (n : Int) - 1) = true := by simp; omega
          have x3 : ¬ (2 : Int) < (n : Int) := by omega
          have x4 : ¬ (i : Int) < (n : Int) - 1 := by omega
          have x5 : (0 : Int) < (i : Int) := by omega
          go_enter Tryz.func48, Tryz.ntmps48
          go_wp2_with fail
          go_ret
          exact WPost.of (z := 0) (by omega) (by omega) (by omega)
      · rcases h2 with h2 | h2
        · skip
          have x1 : (((i : Int) : Int) == 0) = false := by simp; omega
          have x2 : ((i : Int) == (n : Int) - 1) = false := by simp; omega
          have x3 : (2 : Int) < (n : Int) := by omega
          have x4 : (i : Int) < (n : Int) - 1 := by omega
          have x5 : (0 : Int) < (i : Int) := by omega
          go_enter Tryz.func48, Tryz.ntmps48
          go_wp2_with fail
          go_ret
          exact WPost.of (z := 0) (by omega) (by omega) (by omega)
        · skip
          have x1 : (((i : Int) : Int) == 0) = false := by simp; omega
          have x2 : ((i : Int) == (n : Int) - 1) = false := by simp; omega
          have x3 : ¬ (2 : Int) < (n : Int) := by omega
          have x4 : (i : Int) < (n : Int) - 1 := by omega
          have x5 : (0 : Int) < (i : Int) := by omega
          go_enter Tryz.func48, Tryz.ntmps48
          go_wp2_with fail
          go_ret
          exact WPost.of (z := 0) (by omega) (by omega) (by omega)
  · rcases h0 with rfl | h0
    · rcases hl with hl | hl
      · rcases h2 with h2 | h2
        · exfalso; omega
        · skip
          have x1 : ((((0 : Nat) : Int) : Int) == 0) = true := by rfl
          have x2 : (((0 : Nat) : Int) == (n : Int) - 1) = true := by simp; omega
          have x3 : ¬ (2 : Int) < (n : Int) := by omega
          have x4 : ¬ ((0 : Nat) : Int) < (n : Int) - 1 := by omega
          go_enter Tryz.func48, Tryz.ntmps48
          go_wp2_with fail
          go_ret
          exact WPost.of (z := 1) (by omega) (by omega) (by omega)
      · rcases h2 with h2 | h2
        · skip
          have x1 : ((((0 : Nat) : Int) : Int) == 0) = true := by rfl
          have x2 : (((0 : Nat) : Int) == (n : Int) - 1) = false := by simp; omega
          have x3 : (2 : Int) < (n : Int) := by omega
          have x4 : ((0 : Nat) : Int) < (n : Int) - 1 := by omega
          go_enter Tryz.func48, Tryz.ntmps48
          go_wp2_with fail
          go_ret
          exact WPost.of (z := 0) (by omega) (by omega) (by omega)
        · skip
          have x1 : ((((0 : Nat) : Int) : Int) == 0) = true := by rfl
          have x2 : (((0 : Nat) : Int) == (n : Int) - 1) = false := by simp; omega
          have x3 : ¬ (2 : Int) < (n : Int) := by omega
          have x4 : ((0 : Nat) : Int) < (n : Int) - 1 := by omega
          go_enter Tryz.func48, Tryz.ntmps48
          go_wp2_with fail
          go_ret
          exact WPost.of (z := 0) (by omega) (by omega) (by omega)
    · rcases hl with hl | hl
      · rcases h2 with h2 | h2
        · skip
          have x1 : (((i : Int) : Int) == 0) = false := by simp; omega
          have x2 : ((i : Int) == (n : Int) - 1) = true := by simp; omega
          have x3 : (2 : Int) < (n : Int) := by omega
          have x4 : ¬ (i : Int) < (n : Int) - 1 := by omega
          have x5 : (0 : Int) < (i : Int) := by omega
          go_enter Tryz.func48, Tryz.ntmps48
          go_wp2_with fail
          go_ret
          exact WPost.of (z := 1) (by omega) (by omega) (by omega)
        · skip
          have x1 : (((i : Int) : Int) == 0) = false := by simp; omega
          have x2 : ((i : Int) == (n : Int) - 1) = true := by simp; omega
          have x3 : ¬ (2 : Int) < (n : Int) := by omega
          have x4 : ¬ (i : Int) < (n : Int) - 1 := by omega
          have x5 : (0 : Int) < (i : Int) := by omega
          go_enter Tryz.func48, Tryz.ntmps48
          go_wp2_with fail
          go_ret
          exact WPost.of (z := 1) (by omega) (by omega) (by omega)
      · rcases h2 with h2 | h2
        · skip
          have x1 : (((i : Int) : Int) == 0) = false := by simp; omega
          have x2 : ((i : Int) == (n : Int) - 1) = false := by simp; omega
          have x3 : (2 : Int) < (n : Int) := by omega
          have x4 : (i : Int) < (n : Int) - 1 := by omega
          have x5 : (0 : Int) < (i : Int) := by omega
          go_enter Tryz.func48, Tryz.ntmps48
          go_wp2_with fail
          go_ret
          exact WPost.of (z := 0) (by omega) (by omega) (by omega)
        · skip
          have x1 : (((i : Int) : Int) == 0) = false := by simp; omega
          have x2 : ((i : Int) == (n : Int) - 1) = false := by simp; omega
          have x3 : ¬ (2 : Int) < (n : Int) := by omega
          have x4 : (i : Int) < (n : Int) - 1 := by omega
          have x5 : (0 : Int) < (i : Int) := by omega
          go_enter Tryz.func48, Tryz.ntmps48
          go_wp2_with fail
          go_ret
          exact WPost.of (z := 0) (by omega) (by omega) (by omega)
  · rcases h0 with rfl | h0
    · rcases hl with hl | hl
      · rcases h2 with h2 | h2
        · exfalso; omega
        · skip
          have x1 : ((((0 : Nat) : Int) : Int) == 0) = true := by rfl
          have x2 : (((0 : Nat) : Int) == (n : Int) - 1) = true := by simp; omega
          have x3 : ¬ (2 : Int) < (n : Int) := by omega
          have x4 : ¬ ((0 : Nat) : Int) < (n : Int) - 1 := by omega
          go_enter Tryz.func48, Tryz.ntmps48
          go_wp2_with fail
          go_ret
          exact WPost.of (z := 1) (by omega) (by omega) (by omega)
      · rcases h2 with h2 | h2
        · skip
          have x1 : ((((0 : Nat) : Int) : Int) == 0) = true := by rfl
          have x2 : (((0 : Nat) : Int) == (n : Int) - 1) = false := by simp; omega
          have x3 : (2 : Int) < (n : Int) := by omega
          have x4 : ((0 : Nat) : Int) < (n : Int) - 1 := by omega
          go_enter Tryz.func48, Tryz.ntmps48
          go_wp2_with fail
          go_ret
          exact WPost.of (z := 1) (by omega) (by omega) (by omega)
        · skip
          have x1 : ((((0 : Nat) : Int) : Int) == 0) = true := by rfl
          have x2 : (((0 : Nat) : Int) == (n : Int) - 1) = false := by simp; omega
          have x3 : ¬ (2 : Int) < (n : Int) := by omega
          have x4 : ((0 : Nat) : Int) < (n : Int) - 1 := by omega
          go_enter Tryz.func48, Tryz.ntmps48
          go_wp2_with fail
          go_ret
          exact WPost.of (z := 1) (by omega) (by omega) (by omega)
    · rcases hl with hl | hl
      · rcases h2 with h2 | h2
        · skip
          have x1 : (((i : Int) : Int) == 0) = false := by simp; omega
          have x2 : ((i : Int) == (n : Int) - 1) = true := by simp; omega
          have x3 : (2 : Int) < (n : Int) := by omega
          have x4 : ¬ (i : Int) < (n : Int) - 1 := by omega
          have x5 : (0 : Int) < (i : Int) := by omega
          go_enter Tryz.func48, Tryz.ntmps48
          go_wp2_with fail
          go_ret
          exact WPost.of (z := 1) (by omega) (by omega) (by omega)
        · skip
          have x1 : (((i : Int) : Int) == 0) = false := by simp; omega
          have x2 : ((i : Int) == (n : Int) - 1) = true := by simp; omega
          have x3 : ¬ (2 : Int) < (n : Int) := by omega
          have x4 : ¬ (i : Int) < (n : Int) - 1 := by omega
          have x5 : (0 : Int) < (i : Int) := by omega
          go_enter Tryz.func48, Tryz.ntmps48
          go_wp2_with fail
          go_ret
          exact WPost.of (z := 1) (by omega) (by omega) (by omega)
      · rcases h2 with h2 | h2
        · skip
          have x1 : (((i : Int) : Int) == 0) = false := by simp; omega
          have x2 : ((i : Int) == (n : Int) - 1) = false := by simp; omega
          have x3 : (2 : Int) < (n : Int) := by omega
          have x4 : (i : Int) < (n : Int) - 1 := by omega
          have x5 : (0 : Int) < (i : Int) := by omega
          go_enter Tryz.func48, Tryz.ntmps48
          go_wp2_with fail
          go_ret
          exact WPost.of (z := 1) (by omega) (by omega) (by omega)
        · skip
          have x1 : (((i : Int) : Int) == 0) = false := by simp; omega
          have x2 : ((i : Int) == (n : Int) - 1) = false := by simp; omega
          have x3 : ¬ (2 : Int) < (n : Int) := by omega
          have x4 : (i : Int) < (n : Int) - 1 := by omega
          have x5 : (0 : Int) < (i : Int) := by omega
          go_enter Tryz.func48, Tryz.ntmps48
          go_wp2_with fail
          go_ret
          exact WPost.of (z := 1) (by omega) (by omega) (by omega)
  · rcases h0 with rfl | h0
    · rcases hl with hl | hl
      · rcases h2 with h2 | h2
        · exfalso; omega
        · skip
          have x1 : ((((0 : Nat) : Int) : Int) == 0) = true := by rfl
          have x2 : (((0 : Nat) : Int) == (n : Int) - 1) = true := by simp; omega
          have x3 : ¬ (2 : Int) < (n : Int) := by omega
          have x4 : ¬ ((0 : Nat) : Int) < (n : Int) - 1 := by omega
          go_enter Tryz.func48, Tryz.ntmps48
          go_wp2_with fail
          go_ret
          exact WPost.of (z := 1) (by omega) (by omega) (by omega)
      · rcases h2 with h2 | h2
        · skip
          have x1 : ((((0 : Nat) : Int) : Int) == 0) = true := by rfl
          have x2 : (((0 : Nat) : Int) == (n : Int) - 1) = false := by simp; omega
          have x3 : (2 : Int) < (n : Int) := by omega
          have x4 : ((0 : Nat) : Int) < (n : Int) - 1 := by omega
          go_enter Tryz.func48, Tryz.ntmps48
          go_wp2_with fail
          go_ret
          exact WPost.of (z := 2) (by omega) (by omega) (by omega)
        · skip
          have x1 : ((((0 : Nat) : Int) : Int) == 0) = true := by rfl
          have x2 : (((0 : Nat) : Int) == (n : Int) - 1) = false := by simp; omega
          have x3 : ¬ (2 : Int) < (n : Int) := by omega
          have x4 : ((0 : Nat) : Int) < (n : Int) - 1 := by omega
          go_enter Tryz.func48, Tryz.ntmps48
          go_wp2_with fail
          go_ret
          exact WPost.of (z := 1) (by omega) (by omega) (by omega)
    · rcases hl with hl | hl
      · rcases h2 with h2 | h2
        · skip
          have x1 : (((i : Int) : Int) == 0) = false := by simp; omega
          have x2 : ((i : Int) == (n : Int) - 1) = true := by simp; omega
          have x3 : (2 : Int) < (n : Int) := by omega
          have x4 : ¬ (i : Int) < (n : Int) - 1 := by omega
          have x5 : (0 : Int) < (i : Int) := by omega
          go_enter Tryz.func48, Tryz.ntmps48
          go_wp2_with fail
          go_ret
          exact WPost.of (z := 2) (by omega) (by omega) (by omega)
        · skip
          have x1 : (((i : Int) : Int) == 0) = false := by simp; omega
          have x2 : ((i : Int) == (n : Int) - 1) = true := by simp; omega
          have x3 : ¬ (2 : Int) < (n : Int) := by omega
          have x4 : ¬ (i : Int) < (n : Int) - 1 := by omega
          have x5 : (0 : Int) < (i : Int) := by omega
          go_enter Tryz.func48, Tryz.ntmps48
          go_wp2_with fail
          go_ret
          exact WPost.of (z := 1) (by omega) (by omega) (by omega)
      · rcases h2 with h2 | h2
        · skip
          have x1 : (((i : Int) : Int) == 0) = false := by simp; omega
          have x2 : ((i : Int) == (n : Int) - 1) = false := by simp; omega
          have x3 : (2 : Int) < (n : Int) := by omega
          have x4 : (i : Int) < (n : Int) - 1 := by omega
          have x5 : (0 : Int) < (i : Int) := by omega
          go_enter Tryz.func48, Tryz.ntmps48
          go_wp2_with fail
          go_ret
          exact WPost.of (z := 1) (by omega) (by omega) (by omega)
        · skip
          have x1 : (((i : Int) : Int) == 0) = false := by simp; omega
          have x2 : ((i : Int) == (n : Int) - 1) = false := by simp; omega
          have x3 : ¬ (2 : Int) < (n : Int) := by omega
          have x4 : (i : Int) < (n : Int) - 1 := by omega
          have x5 : (0 : Int) < (i : Int) := by omega
          go_enter Tryz.func48, Tryz.ntmps48
          go_wp2_with fail
          go_ret
          exact WPost.of (z := 1) (by omega) (by omega) (by omega)
  · rcases h0 with rfl | h0
    · rcases hl with hl | hl
      · rcases h2 with h2 | h2
        · exfalso; omega
        · skip
          have x1 : ((((0 : Nat) : Int) : Int) == 0) = true := by rfl
          have x2 : (((0 : Nat) : Int) == (n : Int) - 1) = true := by simp; omega
          have x3 : ¬ (2 : Int) < (n : Int) := by omega
          have x4 : ¬ ((0 : Nat) : Int) < (n : Int) - 1 := by omega
          go_enter Tryz.func48, Tryz.ntmps48
          go_wp2_with fail
          go_ret
          exact WPost.of (z := 1) (by omega) (by omega) (by omega)
      · rcases h2 with h2 | h2
        · skip
          have x1 : ((((0 : Nat) : Int) : Int) == 0) = true := by rfl
          have x2 : (((0 : Nat) : Int) == (n : Int) - 1) = false := by simp; omega
          have x3 : (2 : Int) < (n : Int) := by omega
          have x4 : ((0 : Nat) : Int) < (n : Int) - 1 := by omega
          go_enter Tryz.func48, Tryz.ntmps48
          go_wp2_with fail
          go_ret
          exact WPost.of (z := 1) (by omega) (by omega) (by omega)
        · skip
          have x1 : ((((0 : Nat) : Int) : Int) == 0) = true := by rfl
          have x2 : (((0 : Nat) : Int) == (n : Int) - 1) = false := by simp; omega
          have x3 : ¬ (2 : Int) < (n : Int) := by omega
          have x4 : ((0 : Nat) : Int) < (n : Int) - 1 := by omega
          go_enter Tryz.func48, Tryz.ntmps48
          go_wp2_with fail
          go_ret
          exact WPost.of (z := 1) (by omega) (by omega) (by omega)
    · rcases hl with hl | hl
      · rcases h2 with h2 | h2
        · skip
          have x1 : (((i : Int) : Int) == 0) = false := by simp; omega
          have x2 : ((i : Int) == (n : Int) - 1) = true := by simp; omega
          have x3 : (2 : Int) < (n : Int) := by omega
          have x4 : ¬ (i : Int) < (n : Int) - 1 := by omega
          have x5 : (0 : Int) < (i : Int) := by omega
          go_enter Tryz.func48, Tryz.ntmps48
          go_wp2_with fail
          go_ret
          exact WPost.of (z := i + 1) (by omega) (by omega) (by omega)
        · skip
          have x1 : (((i : Int) : Int) == 0) = false := by simp; omega
          have x2 : ((i : Int) == (n : Int) - 1) = true := by simp; omega
          have x3 : ¬ (2 : Int) < (n : Int) := by omega
          have x4 : ¬ (i : Int) < (n : Int) - 1 := by omega
          have x5 : (0 : Int) < (i : Int) := by omega
          go_enter Tryz.func48, Tryz.ntmps48
          go_wp2_with fail
          go_ret
          exact WPost.of (z := i + 1) (by omega) (by omega) (by omega)
      · rcases h2 with h2 | h2
        · skip
          have x1 : (((i : Int) : Int) == 0) = false := by simp; omega
          have x2 : ((i : Int) == (n : Int) - 1) = false := by simp; omega
          have x3 : (2 : Int) < (n : Int) := by omega
          have x4 : (i : Int) < (n : Int) - 1 := by omega
          have x5 : (0 : Int) < (i : Int) := by omega
          go_enter Tryz.func48, Tryz.ntmps48
          go_wp2_with fail
          go_ret
          exact WPost.of (z := i + 1) (by omega) (by omega) (by omega)
        · skip
          have x1 : (((i : Int) : Int) == 0) = false := by simp; omega
          have x2 : ((i : Int) == (n : Int) - 1) = false := by simp; omega
          have x3 : ¬ (2 : Int) < (n : Int) := by omega
          have x4 : (i : Int) < (n : Int) - 1 := by omega
          have x5 : (0 : Int) < (i : Int) := by omega
          go_enter Tryz.func48, Tryz.ntmps48
          go_wp2_with fail
          go_ret
          exact WPost.of (z := i + 1) (by omega) (by omega) (by omega)
  · rcases h0 with rfl | h0
    · rcases hl with hl | hl
      · rcases h2 with h2 | h2
        · exfalso; omega
        · skip
          have x1 : ((((0 : Nat) : Int) : Int) == 0) = true := by rfl
          have x2 : (((0 : Nat) : Int) == (n : Int) - 1) = true := by simp; omega
          have x3 : ¬ (2 : Int) < (n : Int) := by omega
          have x4 : ¬ ((0 : Nat) : Int) < (n : Int) - 1 := by omega
          have q1 := halve_le ha has
          obtain ⟨K, hK, hK2⟩ : ∃ K : Nat, K ≤ 18 ∧ (18 : Int) - 18 * age / span = (K : Int) := ⟨((18 : Int) - 18 * age / span).toNat, by omega, by omega⟩
          have q0 : IntKind.i64.wrap (18 * age) = 18 * age := IntWalk.i64_in _ (by omega)
          have q2 : Int.tdiv (18 * age) span = 18 * age / span := Int.tdiv_eq_ediv_of_nonneg (by omega)
          have q3 : (span == 0) = false := by simp; omega
          have q4 : ¬ span = 0 := by omega
          have HPW := Lib.hid (pow_le18 hK)
          have HQ5 := Lib.hid (pow_wrap hK)
          go_enter Tryz.func48, Tryz.ntmps48
          go_wp2_with fail
          go_ret
          exact WPost.of (z := 2 ^ K) (by first | (simp; done) | simp [HQ5.out]) HPW.out.2 (fun h => absurd h (by have := HPW.out.1; omega))
      · rcases h2 with h2 | h2
        · skip
          have x1 : ((((0 : Nat) : Int) : Int) == 0) = true := by rfl
          have x2 : (((0 : Nat) : Int) == (n : Int) - 1) = false := by simp; omega
          have x3 : (2 : Int) < (n : Int) := by omega
          have x4 : ((0 : Nat) : Int) < (n : Int) - 1 := by omega
          have q1 := halve_le ha has
          obtain ⟨K, hK, hK2⟩ : ∃ K : Nat, K ≤ 18 ∧ (18 : Int) - 18 * age / span = (K : Int) := ⟨((18 : Int) - 18 * age / span).toNat, by omega, by omega⟩
          have q0 : IntKind.i64.wrap (18 * age) = 18 * age := IntWalk.i64_in _ (by omega)
          have q2 : Int.tdiv (18 * age) span = 18 * age / span := Int.tdiv_eq_ediv_of_nonneg (by omega)
          have q3 : (span == 0) = false := by simp; omega
          have q4 : ¬ span = 0 := by omega
          have HPW := Lib.hid (pow_le18 hK)
          have HQ5 := Lib.hid (pow_wrap hK)
          go_enter Tryz.func48, Tryz.ntmps48
          go_wp2_with fail
          go_ret
          exact WPost.of (z := 2 ^ K) (by first | (simp; done) | simp [HQ5.out]) HPW.out.2 (fun h => absurd h (by have := HPW.out.1; omega))
        · skip
          have x1 : ((((0 : Nat) : Int) : Int) == 0) = true := by rfl
          have x2 : (((0 : Nat) : Int) == (n : Int) - 1) = false := by simp; omega
          have x3 : ¬ (2 : Int) < (n : Int) := by omega
          have x4 : ((0 : Nat) : Int) < (n : Int) - 1 := by omega
          have q1 := halve_le ha has
          obtain ⟨K, hK, hK2⟩ : ∃ K : Nat, K ≤ 18 ∧ (18 : Int) - 18 * age / span = (K : Int) := ⟨((18 : Int) - 18 * age / span).toNat, by omega, by omega⟩
          have q0 : IntKind.i64.wrap (18 * age) = 18 * age := IntWalk.i64_in _ (by omega)
          have q2 : Int.tdiv (18 * age) span = 18 * age / span := Int.tdiv_eq_ediv_of_nonneg (by omega)
          have q3 : (span == 0) = false := by simp; omega
          have q4 : ¬ span = 0 := by omega
          have HPW := Lib.hid (pow_le18 hK)
          have HQ5 := Lib.hid (pow_wrap hK)
          go_enter Tryz.func48, Tryz.ntmps48
          go_wp2_with fail
          go_ret
          exact WPost.of (z := 2 ^ K) (by first | (simp; done) | simp [HQ5.out]) HPW.out.2 (fun h => absurd h (by have := HPW.out.1; omega))
    · rcases hl with hl | hl
      · rcases h2 with h2 | h2
        · skip
          have x1 : (((i : Int) : Int) == 0) = false := by simp; omega
          have x2 : ((i : Int) == (n : Int) - 1) = true := by simp; omega
          have x3 : (2 : Int) < (n : Int) := by omega
          have x4 : ¬ (i : Int) < (n : Int) - 1 := by omega
          have x5 : (0 : Int) < (i : Int) := by omega
          have q1 := halve_le ha has
          obtain ⟨K, hK, hK2⟩ : ∃ K : Nat, K ≤ 18 ∧ (18 : Int) - 18 * age / span = (K : Int) := ⟨((18 : Int) - 18 * age / span).toNat, by omega, by omega⟩
          have q0 : IntKind.i64.wrap (18 * age) = 18 * age := IntWalk.i64_in _ (by omega)
          have q2 : Int.tdiv (18 * age) span = 18 * age / span := Int.tdiv_eq_ediv_of_nonneg (by omega)
          have q3 : (span == 0) = false := by simp; omega
          have q4 : ¬ span = 0 := by omega
          have HPW := Lib.hid (pow_le18 hK)
          have HQ5 := Lib.hid (pow_wrap hK)
          go_enter Tryz.func48, Tryz.ntmps48
          go_wp2_with fail
          go_ret
          exact WPost.of (z := 2 ^ K) (by first | (simp; done) | simp [HQ5.out]) HPW.out.2 (fun h => absurd h (by have := HPW.out.1; omega))
        · skip
          have x1 : (((i : Int) : Int) == 0) = false := by simp; omega
          have x2 : ((i : Int) == (n : Int) - 1) = true := by simp; omega
          have x3 : ¬ (2 : Int) < (n : Int) := by omega
          have x4 : ¬ (i : Int) < (n : Int) - 1 := by omega
          have x5 : (0 : Int) < (i : Int) := by omega
          have q1 := halve_le ha has
          obtain ⟨K, hK, hK2⟩ : ∃ K : Nat, K ≤ 18 ∧ (18 : Int) - 18 * age / span = (K : Int) := ⟨((18 : Int) - 18 * age / span).toNat, by omega, by omega⟩
          have q0 : IntKind.i64.wrap (18 * age) = 18 * age := IntWalk.i64_in _ (by omega)
          have q2 : Int.tdiv (18 * age) span = 18 * age / span := Int.tdiv_eq_ediv_of_nonneg (by omega)
          have q3 : (span == 0) = false := by simp; omega
          have q4 : ¬ span = 0 := by omega
          have HPW := Lib.hid (pow_le18 hK)
          have HQ5 := Lib.hid (pow_wrap hK)
          go_enter Tryz.func48, Tryz.ntmps48
          go_wp2_with fail
          go_ret
          exact WPost.of (z := 2 ^ K) (by first | (simp; done) | simp [HQ5.out]) HPW.out.2 (fun h => absurd h (by have := HPW.out.1; omega))
      · rcases h2 with h2 | h2
        · skip
          have x1 : (((i : Int) : Int) == 0) = false := by simp; omega
          have x2 : ((i : Int) == (n : Int) - 1) = false := by simp; omega
          have x3 : (2 : Int) < (n : Int) := by omega
          have x4 : (i : Int) < (n : Int) - 1 := by omega
          have x5 : (0 : Int) < (i : Int) := by omega
          have q1 := halve_le ha has
          obtain ⟨K, hK, hK2⟩ : ∃ K : Nat, K ≤ 18 ∧ (18 : Int) - 18 * age / span = (K : Int) := ⟨((18 : Int) - 18 * age / span).toNat, by omega, by omega⟩
          have q0 : IntKind.i64.wrap (18 * age) = 18 * age := IntWalk.i64_in _ (by omega)
          have q2 : Int.tdiv (18 * age) span = 18 * age / span := Int.tdiv_eq_ediv_of_nonneg (by omega)
          have q3 : (span == 0) = false := by simp; omega
          have q4 : ¬ span = 0 := by omega
          have HPW := Lib.hid (pow_le18 hK)
          have HQ5 := Lib.hid (pow_wrap hK)
          go_enter Tryz.func48, Tryz.ntmps48
          go_wp2_with fail
          go_ret
          exact WPost.of (z := 2 ^ K) (by first | (simp; done) | simp [HQ5.out]) HPW.out.2 (fun h => absurd h (by have := HPW.out.1; omega))
        · skip
          have x1 : (((i : Int) : Int) == 0) = false := by simp; omega
          have x2 : ((i : Int) == (n : Int) - 1) = false := by simp; omega
          have x3 : ¬ (2 : Int) < (n : Int) := by omega
          have x4 : (i : Int) < (n : Int) - 1 := by omega
          have x5 : (0 : Int) < (i : Int) := by omega
          have q1 := halve_le ha has
          obtain ⟨K, hK, hK2⟩ : ∃ K : Nat, K ≤ 18 ∧ (18 : Int) - 18 * age / span = (K : Int) := ⟨((18 : Int) - 18 * age / span).toNat, by omega, by omega⟩
          have q0 : IntKind.i64.wrap (18 * age) = 18 * age := IntWalk.i64_in _ (by omega)
          have q2 : Int.tdiv (18 * age) span = 18 * age / span := Int.tdiv_eq_ediv_of_nonneg (by omega)
          have q3 : (span == 0) = false := by simp; omega
          have q4 : ¬ span = 0 := by omega
          have HPW := Lib.hid (pow_le18 hK)
          have HQ5 := Lib.hid (pow_wrap hK)
          go_enter Tryz.func48, Tryz.ntmps48
          go_wp2_with fail
          go_ret
          exact WPost.of (z := 2 ^ K) (by first | (simp; done) | simp [HQ5.out]) HPW.out.2 (fun h => absurd h (by have := HPW.out.1; omega))
/-- What weights leaves. -/
def WsPost (n : Nat) (w : World) (e : Ending) (w' : World) : Prop := ∃ (v : Value) (ws : List Nat), e = .returned v ∧ ws.length = n ∧ (∀ z ∈ ws, z ≤ 262144) ∧ (0 < n → 0 < ws.sum) ∧ Orow w' w.heap.size 3 1 fI1 v ws ∧ Below w.heap.size w w'
def AgeOk (span : Int) (ages : List Nat) : Prop := ∀ z ∈ ages, 1 ≤ (z : Int) ∧ (z : Int) ≤ span
/-- What the weights so far say of the first and the last. -/
def Posit (how : Int) (n i : Nat) (ws : List Nat) : Prop := ∀ k (h : k < ws.length), k < i → ws[k] = 0 → (how = 1 ∧ 0 < k) ∨ (how = 2 ∧ k + 1 < n)
theorem Posit.snoc {how : Int} {n i : Nat} {ws : List Nat} (h : Posit how n i ws) (hl : ws.length = i) {z : Nat} (hz : z = 0 → (how = 1 ∧ 0 < i) ∨ (how = 2 ∧ i + 1 < n)) : Posit how n (i + 1) (ws ++ [z]) := fun k hk hk2 e => by
  by_cases c : k < i
  · rw [List.getElem_append_left (by omega)] at e
    exact h k (by omega) c e
  · have : k = i := by omega
    subst this
    rw [List.getElem_append_right (by omega)] at e
    simp at e
    exact hz e
theorem Posit.sum {how : Int} {n : Nat} {ws : List Nat} (h : Posit how n n ws) (hl : ws.length = n) (hn : 0 < n) : 0 < ws.sum := by
  apply Classical.byContradiction
  intro hz
  have hz2 : ws.sum = 0 := by omega
  have hall : ∀ k (hk : k < ws.length), ws[k] = 0 := fun k hk => by
    have := Hb.mem_le_sum (List.getElem_mem hk)
    omega
  have h0 := h 0 (by omega) hn (hall 0 (by omega))
  have h1 := h (n - 1) (by omega) (by omega) (hall (n - 1) (by omega))
  omega
set_option maxHeartbeats 2000000 in
set_option maxRecDepth 100000 in
theorem weights_any (H : Frz) (how span : Int) (A : Option Addr) (cap : Nat) (ages : List Nat) (w : World) (hH : H.In w) (hR : Rw H A 1 fI1 ages) (h1 : 1 ≤ how) (h6 : how ≤ 6) (ha : AgeOk span ages) (hs : span ≤ 10000000) (hn : ages.length ≤ 12) :
    Calls Tryz.prog 34 #[.int .i64 how, .int .i64 span, .slice A ages.length cap] w (WsPost ages.length w) := by
  obtain ⟨i0, hi0, hz0, hz1, hz2⟩ := info_parts infoInt
  have HR := Lib.hid hR
  have HH := Lib.hid hH
  have HA := Lib.hid ha
  have J0 : Hid (Orow w w.heap.size 3 1 fI1 (.slice none 0 0) []) := Orow.nil _ _ _ _ _
  have JB0 : Hid (Below w.heap.size w w) := Below.refl _ _
  have JP0 : Hid (Posit how ages.length 0 []) := fun k hk => absurd hk (by simp)
  clear hR hH ha
  go_enter Tryz.func34, Tryz.ntmps34
  go_wp2_with fail
  go_loopw [7, 12] (fun v t wr => ∃ (i : Nat) (ws : List Nat), i ≤ ages.length ∧ t = .int .i64 i ∧ ws.length = i ∧ Hid (∀ z ∈ ws, z ≤ 262144) ∧ Hid (Posit how ages.length i ws) ∧ Hid (Orow wr w.heap.size 3 1 fI1 v ws) ∧ Hid (Below w.heap.size w wr)) (fun _ t _ => ages.length - (intOf t).toNat)
  case atStart => exact ⟨0, [], by omega, rfl, rfl, (by intro z hz; cases hz), JP0, J0, JB0⟩
  case round =>
    clear J0 JB0 JP0
    obtain ⟨i, ws, hi, rfl, hwl, JZ, JP, J, JB⟩ := hrel
    by_cases hlt : i < ages.length
    · obtain ⟨b, off, hA, _, hc⟩ := HR.out.at_ (HH.out.below JB.out) hlt (by omega)
      subst hA
      have c0 : wr.cell? ⟨b, off + i, none⟩ = some (.int .i64 (ages[i] : Nat)) := by simpa [fI1] using hc 0 (by omega)
      have hag := HA.out _ (List.getElem_mem hlt)
      have hlt2 : (i : Int) < ages.length := by omega
      clear hc
      generalize ages[i] = ag at *
      have HW := Lib.hid (weight_any how span ag i ages.length wr h1 h6 hag.1 hag.2 hs hlt hn)
      go_wp2_with fail
      refine HW.out.mono ?_
      rintro e w' ⟨z, rfl, hz, hz0', hw⟩
      obtain rfl := hw.symm
      have JP2 := Lib.hid (JP.out.snoc hwl hz0')
      have JZ2 : Hid (∀ y ∈ ws ++ [z], y ≤ 262144) := fun y hy => by
        rcases List.mem_append.1 hy with h | h
        · exact JZ.out y h
        · simp at h; omega
      have hsz := JB.out.size
      clear HW JP JZ hz0' c0
      go_upto_region 6 with (at_builtin; refine wpList_app rfl _ _ 22 rfl w.heap.size 3 i0 (.int .i64 0) 1 8 Tryz.underlying22 hi0 hz0 hz1 hz2 rfl (by decide) fI1 _ ws rfl J.out z #[.int .i64 z] 3 rfl rfl (by simp [Value.oneCell']) (by omega) (by omega) hsz ?_; intro v4 W4 ho4 hg4 hb4)
      have J4 := Lib.hid ho4
      have JB4 := Lib.hid (JB.out.trans hb4)
      clear ho4 hg4 hb4
      go_wp2_with fail
      go_roundw
      case rel => exact ⟨i + 1, ws ++ [z], by omega, by go_num, by simp [hwl], JZ2, JP2, J4, JB4⟩
      case measure => simp [intOf]; omega
    · have hie : i = ages.length := by omega
      subst hie
      go_wp2_with fail
      go_ret
      exact ⟨_, ws, rfl, hwl, JZ.out, fun h => JP.out.sum hwl h, J.out, JB.out⟩
end Go.Proofs.YtihcmifikbkbcaaGreatDoor

/- The letters before a gain. -/
namespace Go.Proofs.YtihcmifikbkbcaaGreatDoor
set_option linter.unusedVariables false
open Go.RowKit
theorem Frz.In.putN {H : Frz} {w : World} (h : H.In w) (o : Obj) : ∃ H', H.Le H' ∧ H' w.heap.size = some o ∧ H'.In (w.alloc o) ∧ (∀ b, b ≠ w.heap.size → H' b = H b) :=
  ⟨H.add w.heap.size o, Frz.le_add (h.none_ (Nat.le_refl _)), Frz.add_at _ _ _, (h.alloc o).add (heap_at rfl), fun b hb => Frz.add_other hb⟩
/-- Places of letters before a gain. -/
def PathOk (ss : List SentD) (g : GainD) (span : Int) (l : List Nat) : Prop := ∀ i ∈ l, ∃ h : i < ss.length, 1 ≤ g.at_ - ss[i].at_ ∧ g.at_ - ss[i].at_ ≤ span
theorem PathOk.snoc {ss : List SentD} {g : GainD} {span : Int} {l : List Nat} (h : PathOk ss g span l) {i : Nat} (hi : i < ss.length) (h1 : ss[i].at_ < g.at_) (h2 : g.at_ - ss[i].at_ ≤ span) : PathOk ss g span (l ++ [i]) := fun k hk => by
  rcases List.mem_append.1 hk with c | c
  · exact h k c
  · simp at c; subst c; exact ⟨hi, by omega, h2⟩
/-- What path leaves. -/
def PathPost (H : Frz) (ss : List SentD) (g : GainD) (span : Int) (w : World) (e : Ending) (w' : World) : Prop :=
  ∃ (A : Option Addr) (cap : Nat) (l : List Nat) (H' : Frz), e = .returned (.slice A l.length cap) ∧ l.length ≤ 12 ∧ PathOk ss g span l ∧ H.Le H' ∧ H'.In w' ∧ (∀ b, b < w.heap.size → H' b = H b) ∧ Rw H' A 1 fI1 l ∧ Below w.heap.size w w'
theorem Rw.drop {D : Type} {H : Frz} {b cap : Nat} {k : Nat} {f : D → Nat → Value} {ds : List D} (h : Rw H (some ⟨b, 0, none⟩) k f ds) (n : Nat) (hk : 0 < k) : Rw H (some ⟨b, n * k, none⟩) k f (ds.drop n) := fun i hi => by
  have hi' : n + i < ds.length := by simp at hi; omega
  obtain ⟨b', off, e, hc⟩ := h (n + i) hi'
  injection e with e
  injection e with e1 e2
  subst e1 e2
  refine ⟨b, n * k, rfl, fun j hj => ?_⟩
  rw [List.getElem_drop, ← hc j hj]
  congr 2
  rw [Nat.add_mul]
  omega
set_option maxHeartbeats 4000000 in
set_option maxRecDepth 100000 in
theorem path_any (H : Frz) (A : Option Addr) (cap : Nat) (ss : List SentD) (g : GainD) (span : Int) (w : World) (hH : H.In w) (hR : Rw H A 4 fSe ss) (hsz : SzS ss) (hl : ss.length ≤ 1000) (hg : BdG g) (hs1 : 1 ≤ span) (hs : span ≤ 10000000) :
    Calls Tryz.prog 19 #[.slice A ss.length cap, .agg #[.string g.id, .string g.person, .int .i64 g.at_, .int .i64 g.cents], .int .i64 span] w (PathPost H ss g span w) := by
  obtain ⟨i0, hi0, hz0, hz1, hz2⟩ := info_parts infoInt
  obtain ⟨H1, hle, hb1, hin1, hlo1⟩ := hH.putN (.cells #[.string g.id, .string g.person, .int .i64 g.at_, .int .i64 g.cents] 40)
  have HR := Lib.hid (hR.le hle)
  have HIN := Lib.hid hin1
  have HB1 := Lib.hid hb1
  have HLE := Lib.hid hle
  have HLO : Hid (∀ b, b < w.heap.size → H1 b = H b) := fun b hb => hlo1 b (by omega)
  have HS := Lib.hid hsz
  have HG := Lib.hid hg
  have J0 : Hid (Orow (w.alloc (.cells #[.string g.id, .string g.person, .int .i64 g.at_, .int .i64 g.cents] 40)) (w.alloc (.cells #[.string g.id, .string g.person, .int .i64 g.at_, .int .i64 g.cents] 40)).heap.size 3 1 fI1 (.slice none 0 0) []) := Orow.nil _ _ _ _ _
  have JB0 : Hid (Below (w.alloc (.cells #[.string g.id, .string g.person, .int .i64 g.at_, .int .i64 g.cents] 40)).heap.size (w.alloc (.cells #[.string g.id, .string g.person, .int .i64 g.at_, .int .i64 g.cents] 40)) (w.alloc (.cells #[.string g.id, .string g.person, .int .i64 g.at_, .int .i64 g.cents] 40))) := Below.refl _ _
  have JP0 : Hid (PathOk ss g span []) := fun i hi => (by cases hi)
  have HB0 := Lib.hid (new1 (w := w) (.cells #[.string g.id, .string g.person, .int .i64 g.at_, .int .i64 g.cents] 40))
  clear hR hH hsz hle hb1 hin1 hg hlo1
  go_enter Tryz.func19, Tryz.ntmps19
  go_upto_region 3 with (fail)
  generalize hW0 : w.alloc (.cells #[.string g.id, .string g.person, .int .i64 g.at_, .int .i64 g.cents] 40) = W0 at *
  have HWS : Hid (W0.heap.size = w.heap.size + 1) := by show _ = _; rw [← hW0]; simp
  clear hW0
  go_loopw [7, 12] (fun v t wr => ∃ (i : Nat) (l : List Nat), i ≤ ss.length ∧ t = .int .i64 i ∧ l.length ≤ i ∧ Hid (PathOk ss g span l) ∧ Hid (Orow wr W0.heap.size 3 1 fI1 v l) ∧ Hid (Below W0.heap.size W0 wr)) (fun _ t _ => ss.length - (intOf t).toNat)
  case atStart => exact ⟨0, [], by omega, rfl, by simp, JP0, J0, JB0⟩
  case round =>
    clear J0 JB0 JP0
    obtain ⟨i, l, hi, rfl, hll, JP, J, JB⟩ := hrel
    by_cases hlt : i < ss.length
    · obtain ⟨b, off, hA, _, hc⟩ := HR.out.at_ (HIN.out.below JB.out) hlt (by omega)
      subst hA
      have c0 : wr.cell? ⟨b, off + i * 4, none⟩ = some (.string ss[i].id) := hc 0 (by omega)
      have c1 : wr.cell? ⟨b, off + i * 4 + 1, none⟩ = some (.string ss[i].person) := hc 1 (by omega)
      have c2 : wr.cell? ⟨b, off + i * 4 + 2, none⟩ = some (.string ss[i].letter) := hc 2 (by omega)
      have c3 : wr.cell? ⟨b, off + i * 4 + 3, none⟩ = some (.int .i64 ss[i].at_) := hc 3 (by omega)
      have hks := HS.out _ (List.getElem_mem hlt)
      have HSN := Lib.hid (fun h1 h2 => JP.out.snoc hlt h1 h2)
      have hlt2 : (i : Int) < ss.length := by omega
      clear hc
      generalize ss[i] = s at *
      have J2 := Lib.hid (J.out.below (new1 (.cells #[.string s.id, .string s.person, .string s.letter, .int .i64 s.at_] 47)))
      have JB2 := Lib.hid (JB.out.trans ((new1 (w := wr) (.cells #[.string s.id, .string s.person, .string s.letter, .int .i64 s.at_] 47)).mono JB.out.size))
      have C7 := Lib.hid (heap_alloc_new wr (.cells #[.string s.id, .string s.person, .string s.letter, .int .i64 s.at_] 47))
      have HI2 := Lib.hid ((HIN.out.below JB.out).alloc (.cells #[.string s.id, .string s.person, .string s.letter, .int .i64 s.at_] 47))
      clear J JB
      go_upto_region 5 with (fail)
      generalize wr.alloc (.cells #[.string s.id, .string s.person, .string s.letter, .int .i64 s.at_] 47) = W1 at *
      generalize wr.heap.size = sb at *
      clear c0 c1 c2 c3
      have s1 : W1.cell? ⟨sb, 1, none⟩ = some (.string s.person) := cell_h C7.out 1 rfl
      have s3 : W1.cell? ⟨sb, 3, none⟩ = some (.int .i64 s.at_) := cell_h C7.out 3 rfl
      have hk := HI2.out _ _ HB1.out
      have g1 : W1.cell? ⟨w.heap.size, 1, none⟩ = some (.string g.person) := cell_h hk 1 rfl
      have g2 : W1.cell? ⟨w.heap.size, 2, none⟩ = some (.int .i64 g.at_) := cell_h hk 2 rfl
      have hga := HG.out.2.2.1
      have hgb := HG.out.2.2.2.1
      clear hk
      cases hpe : (s.person.toList == g.person.toList) with
      | false =>
        go_wp2_with fail
        go_roundw
        case rel => exact ⟨i + 1, l, by omega, by go_num, by omega, JP, J2, JB2⟩
        case measure => simp [intOf]; omega
      | true =>
        by_cases h1 : s.at_ < g.at_
        · by_cases h2 : g.at_ - s.at_ ≤ span
          · have JP2 := Lib.hid (HSN.out h1 h2)
            have hsz := JB2.out.size
            go_upto_region 7 with (at_builtin; refine wpList_app rfl _ _ 22 rfl W0.heap.size 3 i0 (.int .i64 0) 1 8 Tryz.underlying22 hi0 hz0 hz1 hz2 rfl (by decide) fI1 _ l rfl J2.out i #[.int .i64 i] 3 rfl rfl (by simp [Value.oneCell']) (by omega) (by omega) hsz ?_; intro v4 W4 ho4 hg4 hb4)
            have J4 := Lib.hid ho4
            have JB4 := Lib.hid (JB2.out.trans hb4)
            clear ho4 hg4 hb4
            go_wp2_with fail
            go_roundw
            case rel => exact ⟨i + 1, l ++ [i], by omega, by go_num, by simp; omega, JP2, J4, JB4⟩
            case measure => simp [intOf]; omega
          · have h3 : ¬ g.at_ - s.at_ ≤ span := h2
            go_wp2_with fail
            go_roundw
            case rel => exact ⟨i + 1, l, by omega, by go_num, by omega, JP, J2, JB2⟩
            case measure => simp [intOf]; omega
        · go_wp2_with fail
          go_roundw
          case rel => exact ⟨i + 1, l, by omega, by go_num, by omega, JP, J2, JB2⟩
          case measure => simp [intOf]; omega
    · have hie : i = ss.length := by omega
      subst hie
      obtain ⟨A2, cap2, H2, hv, hlc, q1, q2, hR2, q3⟩ := Orow.freezeN J.out H1
      have hle12 := q2 (fun q hq => HIN.out.none_ (Orow.lt J.out hq).1)
      have HIN2 := Lib.hid (q1 (HIN.out.below JB.out))
      have HLE2 := Lib.hid (HLE.out.trans hle12)
      have HLO2 : Hid (∀ b, b < w.heap.size → H2 b = H b) := fun b hb => (q3 b (fun e => by have := (Orow.lt J.out e).1; have := HWS.out; omega)).trans (HLO.out b hb)
      have HBF := Lib.hid (HB0.out.trans (JB.out.mono HB0.out.size))
      have HR2 := Lib.hid hR2
      have HPO := Lib.hid (fun n => (fun i hi => JP.out i (List.mem_of_mem_drop hi) : PathOk ss g span (l.drop n)))
      have hJ2 := J.out.2
      clear q1 q2 hR2 q3 hle12 J JP JB HIN HR HB1 HLE HLO HB0
      rcases hJ2 with ⟨e, hn⟩ | ⟨q, capq, cur, e, hBq, hh, hlq, hmq, -, -⟩
      · have hl0 : l = [] := List.eq_nil_of_length_eq_zero hn
        rw [e] at hv
        injection hv with e1 e2 e3
        subst e1 e3 e
        have HRN := HR2
        rw [hl0] at HRN
        clear HR2 HPO hl0 hn e2
        have k1 : IntKind.i64.wrap (0 - 12) = -12 := rfl
        have k2 : max (-12 : Int) 0 = 0 := rfl
        go_wp2_with fail
        go_ret
        exact ⟨none, 0, [], H2, rfl, by simp, (fun i hi => by cases hi), HLE2.out, HIN2.out, HLO2.out, Rw.nil, HBF.out⟩
      · rw [e] at hv
        injection hv with e1 e2 e3
        subst e1 e3 e
        obtain ⟨m, hm⟩ : ∃ m, m = l.length - 12 := ⟨_, rfl⟩
        have hml : m ≤ l.length := by omega
        have hmc : m ≤ capq := by omega
        have k5 : max ((l.length : Int) - 12) 0 = (m : Int) := by omega
        have k3 : IntKind.i64.wrap ((l.length : Int) - 12) = (l.length : Int) - 12 := IntWalk.i64_in _ (by omega)
        have HDR := Lib.hid (HR2.out.drop (cap := capq) m (by omega))
        have HDL : Hid ((l.drop m).length = l.length - m) := List.length_drop
        have HD12 : Hid (l.length - m ≤ 12) := by show _ ≤ _; omega
        have HM0 : Hid (m = capq → l.length - m = 0) := fun e => by omega
        clear hm
        go_wp2_with fail
        · go_ret
          refine ⟨some ⟨q, 0, none⟩, 0, [], H2, ?_, by simp, (fun i hi => by cases hi), HLE2.out, HIN2.out, HLO2.out, Rw.nil, HBF.out⟩
          show Ending.returned (.slice (some ⟨q, 0, none⟩) (l.length - m) 0) = .returned (.slice (some ⟨q, 0, none⟩) 0 0)
          rw [HM0.out (by omega)]
        · go_ret
          refine ⟨some ⟨q, m, none⟩, capq - m, l.drop m, H2, ?_, by rw [HDL.out]; exact HD12.out, HPO.out m, HLE2.out, HIN2.out, HLO2.out, ?_, HBF.out⟩
          · show Ending.returned (.slice (some ⟨q, m, none⟩) (l.length - m) (capq - m)) = .returned (.slice (some ⟨q, m, none⟩) (l.drop m).length (capq - m))
            rw [HDL.out]
          · have := HDR.out
            rw [Nat.mul_one] at this
            exact this
end Go.Proofs.YtihcmifikbkbcaaGreatDoor

/- Maps from strings to pointers; keys, sorted. -/
namespace Go.Proofs.YtihcmifikbkbcaaGreatDoor
set_option linter.unusedVariables false
open Go.RowKit
def ptrMp (ps : List (List UInt8 × Nat)) : Lit → Option Value := fun l => (ps.find? (fun p => l.sameKey (.string p.1))).map (fun p => .pointer (some ⟨p.2, 0, none⟩))
theorem sameKey_str (a b : List UInt8) : (Lit.string a).sameKey (.string b) = (b == a) := by
  unfold Lit.sameKey
  rw [Bool.eq_iff_iff]
  simp only [beq_iff_eq]
  exact ⟨fun h => h.symm, fun h => h.symm⟩
theorem ptrMp_none {ps : List (List UInt8 × Nat)} {k : List UInt8} (h : ¬ k ∈ ps.map (·.1)) : ptrMp ps (.string k) = none := by
  unfold ptrMp
  rw [Option.map_eq_none_iff, List.find?_eq_none]
  intro p hp
  rw [sameKey_str]
  simp only [beq_iff_eq]
  intro e
  exact h (List.mem_map.2 ⟨p, hp, e⟩)
theorem ptrMp_some {ps : List (List UInt8 × Nat)} (hnd : (ps.map (·.1)).Nodup) {p : List UInt8 × Nat} (hp : p ∈ ps) : ptrMp ps (.string p.1) = some (.pointer (some ⟨p.2, 0, none⟩)) := by
  unfold ptrMp
  have : ps.find? (fun q => (Lit.string p.1).sameKey (.string q.1)) = some p := by
    induction ps with
    | nil => cases hp
    | cons q l ih =>
      rw [List.find?_cons]
      by_cases e : q.1 = p.1
      · have : q = p := by
          rcases List.mem_cons.1 hp with rfl | hm
          · rfl
          · rw [List.map_cons, List.nodup_cons] at hnd
            exact absurd (List.mem_map.2 ⟨p, hm, e.symm⟩) hnd.1
        rw [sameKey_str]
        simp [this]
      · rw [sameKey_str]
        simp only [show (q.1 == p.1) = false from by simpa using e]
        rw [List.map_cons, List.nodup_cons] at hnd
        rcases List.mem_cons.1 hp with rfl | hm
        · exact absurd rfl e
        · exact ih hnd.2 hm
  rw [this]; rfl
theorem ptrMp_snoc {ps : List (List UInt8 × Nat)} {k : List UInt8} {g : Nat} (h : ¬ k ∈ ps.map (·.1)) : mpSet (ptrMp ps) (.string k) (.pointer (some ⟨g, 0, none⟩)) = ptrMp (ps ++ [(k, g)]) := by
  funext l
  unfold mpSet
  by_cases e : l.sameKey (.string k) = true
  · have e2 := WideAt.sameKey_eq e
    subst e2
    rw [if_pos e]
    have h2 := ptrMp_none h
    unfold ptrMp at h2 ⊢
    rw [List.find?_append]
    rw [Option.map_eq_none_iff] at h2
    rw [h2]
    simp [e]
  · rw [if_neg e]
    have e' : l.sameKey (.string k) = false := by simpa using e
    unfold ptrMp
    rw [List.find?_append]
    simp [e']
theorem ptrMp_nil : ptrMp [] = mpNew := rfl
theorem nd_inj {α β : Type} {f : α → β} {l : List α} (h : (l.map f).Nodup) {p q : α} (hp : p ∈ l) (hq : q ∈ l) (e : f p = f q) : p = q := by
  induction l with
  | nil => cases hp
  | cons x l ih =>
    rw [List.map_cons, List.nodup_cons] at h
    rcases List.mem_cons.1 hp with hpx | hp
    · rcases List.mem_cons.1 hq with hqx | hq
      · rw [hpx, hqx]
      · exact absurd (List.mem_map.2 ⟨q, hq, by rw [← e, hpx]⟩) h.1
    · rcases List.mem_cons.1 hq with hqx | hq
      · exact absurd (List.mem_map.2 ⟨p, hp, by rw [e, hqx]⟩) h.1
      · exact ih h.2 hp hq
/-- Keys, sorted. -/
def fK (d : List UInt8) (_ : Nat) : Value := .string ⟨d.toArray⟩
theorem cellsOf_fK (ds : List (List UInt8)) : cellsOf 1 fK ds = ds.map encStr := by
  induction ds with
  | nil => rfl
  | cons a l ih =>
    have : cellsOf 1 fK (a :: l) = [fK a 0] ++ cellsOf 1 fK l := by simp [cellsOf]
    rw [this, ih]
    rfl
theorem keys_any (mb : Option Nat) (W : World) : Calls Tryz.prog 22 #[.map mb] W fun e w' => e = .returned (.func (.func 38) #[] #[.pointer (some ⟨W.heap.size, 0, none⟩)]) ∧ w' = W.alloc (.cells #[.map mb] 52) :=
  callsIn_wide.1 (Tryz.maps_Keys_22 mb W)
theorem sorted_any (b nn : Nat) (m : Lit → Option Value) (w : World) (hM : Mp Tryz.prog 9 w b nn m) (hn : nn ≤ 1000000) (ks : List (List UInt8)) (hnd : ks.Nodup) (hk : ∀ x, x ∈ ks ↔ (m (.string x)).isSome = true) :
    Calls Tryz.prog 21 #[.func (.func 38) #[] #[.pointer (some ⟨w.heap.size, 0, none⟩)]] (w.alloc (.cells #[.map (some b)] 52)) fun e w' =>
      (∃ v, e = .returned v ∧ Orow w' (w.heap.size + 1) 9 1 fK v (ks.mergeSort leB)) ∧ Below w.heap.size w w' := by
  obtain ⟨D, ho, hd⟩ := hM
  have hsz := ho.size_le
  refine callsIn_wide.1 ((Tryz.slices_Sorted_keys_21_22 b nn D heldR w ho (by unfold maxLen; omega) (by omega)).mono ?_)
  rintro e w' ⟨v, ss, rfl, hp, hrow, _, hb⟩
  have hkeys : ks.Perm (strKeys D) := by
    obtain ⟨es, rfl, hes⟩ := ho.keysOf
    have ht := ho.tidy strKeyed
    obtain ⟨es', he, hpw⟩ := ht
    injection he with he
    subst he
    refine perm_strKeys hpw (fun p hp => ?_) hnd (fun x => ?_)
    · obtain ⟨v, hv⟩ := hes p hp
      obtain ⟨x, _, h2, _⟩ := Maps.keyOf_str Tryz.underlying9 hv
      exact ⟨x, h2⟩
    · rw [hk x, (hd (.string x) trivial).1]
  have hs : (w.alloc (.cells #[.map (some b)] 52)).heap.size = w.heap.size + 1 := by simp
  have heq : ss.mergeSort leB = ks.mergeSort leB := mergeSort_of_perm (hp.trans hkeys.symm)
  refine ⟨⟨v, rfl, ?_⟩, ((Below.refl w.heap.size w).alloc (Nat.le_refl _) _).trans (hb.mono (by simp))⟩
  unfold Orow
  rw [cellsOf_fK, ← heq, ← hs, List.length_mergeSort]
  exact hrow
end Go.Proofs.YtihcmifikbkbcaaGreatDoor

/- Credits: what is so of them while they are given. -/
namespace Go.Proofs.YtihcmifikbkbcaaGreatDoor
set_option linter.unusedVariables false
open Go.RowKit
structure CrD where
  k : List UInt8
  g : Nat
  gains : Nat
  cents : Nat
def crCells (c : CrD) : Array Value := #[.string ⟨c.k.toArray⟩, .int .i64 (c.gains : Nat), .int .i64 (c.cents : Nat)]
def keyG (c : CrD) : List UInt8 × Nat := (c.k, c.g)
def totC (cs : List CrD) : Nat := (cs.map CrD.cents).sum
/-- The map of credits. -/
structure CI (mb n : Nat) (cs : List CrD) (wr : World) : Prop where
  map : Mp Tryz.prog 9 wr mb n (ptrMp (cs.map keyG))
  blk : ∀ c ∈ cs, mb < c.g ∧ wr.heap[c.g]? = some (.cells (crCells c) 42 (0, 0))
  ndk : (cs.map CrD.k).Nodup
  nd : (cs.map CrD.g).Nodup
theorem fst_key (cs : List CrD) : (cs.map keyG).map (·.1) = cs.map CrD.k := by rw [List.map_map]; rfl
section
variable {mb n : Nat} {cs : List CrD} {wr w' w2 : World}
theorem CI.new (W : World) : CI W.heap.size 0 [] (W.alloc (.map #[] 0)) :=
  ⟨Mp.made Tryz.prog 9 W, (fun c hc => by cases hc), List.nodup_nil, List.nodup_nil⟩
theorem CI.kept (h : CI mb n cs wr) (hb : ∀ b, b < wr.heap.size → (b = mb ∨ ∃ c ∈ cs, b = c.g) → w'.heap[b]? = wr.heap[b]?) : CI mb n cs w' :=
  ⟨h.map.block (hb mb h.map.lt (Or.inl rfl)), fun c hc => ⟨(h.blk c hc).1, (hb c.g (lt_of_heap (h.blk c hc).2) (Or.inr ⟨c, hc, rfl⟩)).trans (h.blk c hc).2⟩, h.ndk, h.nd⟩
theorem CI.call (h : CI mb n cs wr) (hb : Below wr.heap.size wr w') : CI mb n cs w' := h.kept fun b hb1 _ => hb.block b hb1
theorem CI.more {m : Nat} (h : CI mb n cs wr) (hm : n ≤ m) : CI mb m cs wr := ⟨h.map.mono hm, h.blk, h.ndk, h.nd⟩
theorem CI.look_some (h : CI mb n cs wr) {p : Nat} (hp : p < cs.length) : ptrMp (cs.map keyG) (.string cs[p].k) = some (.pointer (some ⟨cs[p].g, 0, none⟩)) :=
  ptrMp_some (p := keyG cs[p]) (by rw [fst_key]; exact h.ndk) (List.mem_map_of_mem (List.getElem_mem hp))
theorem CI.look_none (h : CI mb n cs wr) {k : List UInt8} (hk : k ∉ cs.map CrD.k) : ptrMp (cs.map keyG) (.string k) = none := ptrMp_none (by rw [fst_key]; exact hk)
theorem set_map {α β : Type} {f : α → β} {l : List α} {p : Nat} {c : α} (hp : p < l.length) (hf : f c = f l[p]) : (l.set p c).map f = l.map f := by
  rw [List.map_set, hf]
  apply List.ext_getElem
  · simp
  · intro i h1 h2
    rw [List.getElem_set]
    split
    · rename_i e; subst e; simp
    · rfl
theorem CI.upd (h : CI mb n cs wr) {p : Nat} (hp : p < cs.length) {c : CrD} (hk : c.k = cs[p].k) (hg : c.g = cs[p].g) (hw : wr.grownBy w' (some cs[p].g)) (hr : w'.heap[cs[p].g]? = some (.cells (crCells c) 42 (0, 0))) : CI mb n (cs.set p c) w' := by
  have hkg : (cs.set p c).map keyG = cs.map keyG := set_map hp (by unfold keyG; rw [hk, hg])
  have hpb := (h.blk _ (List.getElem_mem hp)).1
  refine ⟨?_, ?_, by rw [set_map hp hk]; exact h.ndk, by rw [set_map hp hg]; exact h.nd⟩
  · rw [hkg]
    exact h.map.block (hw.block mb h.map.lt (fun e => by injection e with e; omega))
  · intro d hd
    obtain ⟨i, hi, rfl⟩ := List.getElem_of_mem hd
    rw [List.getElem_set]
    have hi' : i < cs.length := by simpa using hi
    split
    · rw [hg]; exact ⟨hpb, hr⟩
    · rename_i hne
      refine ⟨(h.blk _ (List.getElem_mem hi')).1, (hw.block _ (lt_of_heap (h.blk _ (List.getElem_mem hi')).2) (fun e => ?_)).trans (h.blk _ (List.getElem_mem hi')).2⟩
      injection e with e
      apply hne
      have hnd := List.nodup_iff_pairwise_ne.1 h.nd
      rw [List.pairwise_iff_getElem] at hnd
      rcases Nat.lt_trichotomy p i with c1 | c1 | c1
      · exact absurd (by rw [List.getElem_map, List.getElem_map]; exact e.symm) (hnd p i (by simpa using hp) (by simpa using hi') c1)
      · exact c1
      · exact absurd (by rw [List.getElem_map, List.getElem_map]; exact e) (hnd i p (by simpa using hi') (by simpa using hp) c1)
theorem CI.add (h : CI mb n cs wr) {c : CrD} (hk : c.k ∉ cs.map CrD.k) (hg : mb < c.g) (hgn : ∀ d ∈ cs, d.g ≠ c.g) (hM : Mp Tryz.prog 9 w2 mb (n + 1) (mpSet (ptrMp (cs.map keyG)) (.string c.k) (.pointer (some ⟨c.g, 0, none⟩)))) (hw : wr.grownBy w2 (some mb))
    (hr : w2.heap[c.g]? = some (.cells (crCells c) 42 (0, 0))) : CI mb (n + 1) (cs ++ [c]) w2 := by
  refine ⟨?_, ?_, ?_, ?_⟩
  · rw [ptrMp_snoc (by rw [fst_key]; exact hk)] at hM
    rw [List.map_append]
    exact hM
  · intro d hd
    rcases List.mem_append.1 hd with hd | hd
    · exact ⟨(h.blk d hd).1, (hw.block d.g (lt_of_heap (h.blk d hd).2) (fun e => by injection e with e; have := (h.blk d hd).1; omega)).trans (h.blk d hd).2⟩
    · simp at hd; subst hd; exact ⟨hg, hr⟩
  · rw [List.map_append, List.nodup_append]
    refine ⟨h.ndk, by simp, ?_⟩
    intro a ha b hb e
    simp at hb
    rw [e, hb] at ha
    exact hk ha
  · rw [List.map_append, List.nodup_append]
    refine ⟨h.nd, by simp, ?_⟩
    intro a ha b hb e
    simp at hb
    obtain ⟨d, hd, rfl⟩ := List.mem_map.1 ha
    exact hgn d hd (e.trans hb)
theorem totC_set {p : Nat} (hp : p < cs.length) (c : CrD) : totC (cs.set p c) + cs[p].cents = totC cs + c.cents := by
  unfold totC
  induction cs generalizing p with
  | nil => simp at hp
  | cons d cs ih =>
    cases p with
    | zero => simp; omega
    | succ p =>
      have := ih (p := p) (by simpa using hp)
      simp at this ⊢
      omega
theorem totC_snoc (c : CrD) : totC (cs ++ [c]) = totC cs + c.cents := by unfold totC; simp
end
/-- The letters that were counted. -/
def seenL (ct : List (List UInt8)) : Lit → Option Value := fun l => if ct.any (fun x => l.sameKey (.string x)) then some (.bool true) else none
theorem seenL_get (ct : List (List UInt8)) (k : List UInt8) : (seenL ct (.string k)).getD (.bool false) = .bool (decide (k ∈ ct)) := by
  unfold seenL
  have : (fun x : List UInt8 => (Lit.string k).sameKey (.string x)) = fun x => x == k := by
    funext x
    rw [sameKey_str]
  rw [this]
  by_cases h : k ∈ ct
  · rw [if_pos (by rw [List.any_eq_true]; exact ⟨k, h, by simp⟩)]; simp [h]
  · rw [if_neg (by rw [List.any_eq_true]; rintro ⟨x, hx, e⟩; simp at e; subst e; exact h hx)]; simp [h]
theorem seenL_snoc (ct : List (List UInt8)) (k : List UInt8) : mpSet (seenL ct) (.string k) (.bool true) = seenL (ct ++ [k]) := by
  funext l
  unfold mpSet seenL
  rw [List.any_append]
  by_cases e : l.sameKey (.string k) = true
  · simp [e]
  · have e' : l.sameKey (.string k) = false := by simpa using e
    simp [e']
theorem seenL_nil : seenL [] = mpNew := rfl
/-- How often letters were counted. -/
def GainsOk (m : Nat) (ct : List (List UInt8)) (ex : Option (List UInt8)) (cs : List CrD) : Prop := ∀ c ∈ cs, (1 ≤ c.gains ∨ ex = some c.k) ∧ c.gains ≤ m + 1 ∧ (c.k ∉ ct → c.gains ≤ m) ∧ c.k.length ≤ 1000
/-- What is so in the loop of credit. -/
structure CK (H : Frz) (w : World) (mb cb N M m : Nat) (S : Nat) (cs : List CrD) (ct : List (List UInt8)) (ex : Option (List UInt8)) (wr : World) : Prop where
  inn : H.In wr
  bel : Below mb w wr
  ci : CI mb N cs wr
  cn : Mp Tryz.prog 9 wr cb M (seenL ct)
  hm : H mb = none
  hc : ∀ c ∈ cs, H c.g = none
  hb : H cb = none
  mc : mb < cb
  nc : ∀ c ∈ cs, c.g ≠ cb
  mw : mb < w.heap.size
  sum : totC cs = S
  ok : GainsOk m ct ex cs
  sub : ∀ k ∈ ct, k ∈ cs.map CrD.k
section
variable {H : Frz} {w wr w' w2 : World} {mb cb N M m S : Nat} {cs : List CrD} {ct : List (List UInt8)} {ex : Option (List UInt8)}
theorem CK.call (h : CK H w mb cb N M m S cs ct ex wr) (hb : Below wr.heap.size wr w') : CK H w mb cb N M m S cs ct ex w' :=
  ⟨h.inn.below hb, h.bel.trans (hb.mono (Nat.le_of_lt h.ci.map.lt)), h.ci.call hb, h.cn.below hb, h.hm, h.hc, h.hb, h.mc, h.nc, h.mw, h.sum, h.ok, h.sub⟩
theorem set3c {g : Nat} {x0 x1 x2 : Value} {T : TypeId} (h : wr.heap[g]? = some (.cells #[x0, x1, x2] T (0, 0))) (v : Value) : (wr.setCell ⟨g, 2, none⟩ v).heap[g]? = some (.cells #[x0, x1, v] T (0, 0)) ∧ (wr.setCell ⟨g, 1, none⟩ v).heap[g]? = some (.cells #[x0, v, x2] T (0, 0)) := by
  constructor <;> simp [World.setCell, Array.getElem?_modify, h]
theorem grown_one (wr : World) (p : Addr) (v : Value) : wr.grownBy (wr.setCell p v) (some p.block) :=
  ⟨rfl, rfl, rfl, by simp [World.setCell], fun b _ hne => Below.heap_setCell wr p v b (fun e => hne (by rw [e]))⟩
/-- Cents are added to a credit. -/
theorem CK.cents (h : CK H w mb cb N M m S cs ct ex wr) {p : Nat} (hp : p < cs.length) (x : Nat) :
    wr.cell? ⟨cs[p].g, 2, none⟩ = some (.int .i64 (cs[p].cents : Nat)) ∧ wr.frozen? ⟨cs[p].g, 2, none⟩ = false ∧
      CK H w mb cb N M m (S + x) (cs.set p ⟨cs[p].k, cs[p].g, cs[p].gains, cs[p].cents + x⟩) ct ex (wr.setCell ⟨cs[p].g, 2, none⟩ (.int .i64 ((cs[p].cents + x : Nat) : Int))) := by
  have hb := h.ci.blk _ (List.getElem_mem hp)
  have hne := h.nc _ (List.getElem_mem hp)
  have hno := h.hc _ (List.getElem_mem hp)
  have hg := grown_one wr ⟨cs[p].g, 2, none⟩ (.int .i64 ((cs[p].cents + x : Nat) : Int))
  have hmem : ∀ d ∈ cs.set p ⟨cs[p].k, cs[p].g, cs[p].gains, cs[p].cents + x⟩, ∃ c ∈ cs, c.g = d.g ∧ c.gains = d.gains ∧ c.k = d.k := fun d hd => by
    rcases List.mem_or_eq_of_mem_set hd with hd | hd
    · exact ⟨d, hd, rfl, rfl, rfl⟩
    · subst hd; exact ⟨cs[p], List.getElem_mem hp, rfl, rfl, rfl⟩
  refine ⟨cell_h hb.2 2 rfl, froz_h hb.2 2, ⟨h.inn.setCell hno _, h.bel.setCell (by show mb ≤ cs[p].g; omega) _, h.ci.upd hp rfl rfl hg ?_, h.cn.kept hg (fun e => by injection e with e; exact hne e.symm), h.hm, ?_, h.hb, h.mc, ?_, h.mw, ?_, ?_, ?_⟩⟩
  · exact (set3c hb.2 _).1
  · intro d hd; obtain ⟨c, hc, e, -, -⟩ := hmem d hd; rw [← e]; exact h.hc c hc
  · intro d hd; obtain ⟨c, hc, e, -, -⟩ := hmem d hd; rw [← e]; exact h.nc c hc
  · have : totC (cs.set p ⟨cs[p].k, cs[p].g, cs[p].gains, cs[p].cents + x⟩) + cs[p].cents = totC cs + (cs[p].cents + x) := totC_set hp _
    have h2 := h.sum
    omega
  · intro d hd; obtain ⟨c, hc, -, e, e2⟩ := hmem d hd; rw [← e, ← e2]; exact h.ok c hc
  · intro k hk
    rw [show (cs.set p ⟨cs[p].k, cs[p].g, cs[p].gains, cs[p].cents + x⟩).map CrD.k = cs.map CrD.k from set_map hp rfl]
    exact h.sub k hk
/-- A letter is counted. -/
theorem CK.gains (h : CK H w mb cb N M m S cs ct ex wr) {p : Nat} (hp : p < cs.length) (hnc : cs[p].gains ≤ m) (hex : ex = none ∨ ex = some cs[p].k) (hM : Mp Tryz.prog 9 w2 cb (M + 1) (mpSet (seenL ct) (.string cs[p].k) (.bool true))) (hw : wr.grownBy w2 (some cb)) :
    w2.cell? ⟨cs[p].g, 1, none⟩ = some (.int .i64 (cs[p].gains : Nat)) ∧ w2.frozen? ⟨cs[p].g, 1, none⟩ = false ∧
      CK H w mb cb N (M + 1) m S (cs.set p ⟨cs[p].k, cs[p].g, cs[p].gains + 1, cs[p].cents⟩) (ct ++ [cs[p].k]) none (w2.setCell ⟨cs[p].g, 1, none⟩ (.int .i64 ((cs[p].gains + 1 : Nat) : Int))) := by
  have hb0 := h.ci.blk _ (List.getElem_mem hp)
  have hne := h.nc _ (List.getElem_mem hp)
  have hno := h.hc _ (List.getElem_mem hp)
  have hb2 := (hw.block _ (lt_of_heap hb0.2) (fun e => by injection e with e; exact hne e)).trans hb0.2
  have hci : CI mb N cs w2 := h.ci.kept fun b hb1 hb3 => hw.block b hb1 (fun e => by
    injection e with e
    rcases hb3 with hb3 | ⟨c, hc, hb3⟩
    · have := h.mc; omega
    · exact h.nc c hc (hb3.symm.trans e))
  have hg := grown_one w2 ⟨cs[p].g, 1, none⟩ (.int .i64 ((cs[p].gains + 1 : Nat) : Int))
  have hmem : ∀ d ∈ cs.set p ⟨cs[p].k, cs[p].g, cs[p].gains + 1, cs[p].cents⟩, ∃ c ∈ cs, c.g = d.g ∧ c.k = d.k := fun d hd => by
    rcases List.mem_or_eq_of_mem_set hd with hd | hd
    · exact ⟨d, hd, rfl, rfl⟩
    · subst hd; exact ⟨cs[p], List.getElem_mem hp, rfl, rfl⟩
  have hmcb := h.mc
  refine ⟨cell_h hb2 1 rfl, froz_h hb2 1, ⟨(h.inn.grown hw h.hb).setCell hno _, (h.bel.grown hw (by have := h.ci.map.lt; omega) (fun q hq => by injection hq with hq; omega)).setCell (by show mb ≤ cs[p].g; omega) _, hci.upd hp rfl rfl hg ?_, ?_, h.hm, ?_, h.hb, h.mc, ?_, h.mw, ?_, ?_, ?_⟩⟩
  · exact (set3c hb2 _).2
  · rw [seenL_snoc] at hM
    exact hM.kept hg (fun e => by injection e with e; exact hne e.symm)
  · intro d hd; obtain ⟨c, hc, e, -⟩ := hmem d hd; rw [← e]; exact h.hc c hc
  · intro d hd; obtain ⟨c, hc, e, -⟩ := hmem d hd; rw [← e]; exact h.nc c hc
  · have : totC (cs.set p ⟨cs[p].k, cs[p].g, cs[p].gains + 1, cs[p].cents⟩) + cs[p].cents = totC cs + cs[p].cents := totC_set hp _
    have h2 := h.sum
    omega
  · intro d hd
    obtain ⟨i, hi, rfl⟩ := List.getElem_of_mem hd
    rw [List.getElem_set]
    have hi' : i < cs.length := by simpa using hi
    split
    · rename_i e
      exact ⟨Or.inl (by show 1 ≤ cs[p].gains + 1; omega), by show cs[p].gains + 1 ≤ m + 1; omega, fun c => absurd (by simp) c, (h.ok _ (List.getElem_mem hp)).2.2.2⟩
    · rename_i hne2
      have := h.ok _ (List.getElem_mem hi')
      refine ⟨?_, this.2.1, fun c => this.2.2.1 (fun d => c (by simp [d])), this.2.2.2⟩
      rcases this.1 with c | c
      · exact Or.inl c
      · exfalso
        rcases hex with e | e
        · rw [e] at c; cases c
        · rw [e] at c
          injection c with c
          have hnd := List.nodup_iff_pairwise_ne.1 h.ci.ndk
          rw [List.pairwise_iff_getElem] at hnd
          rcases Nat.lt_trichotomy p i with c1 | c1 | c1
          · exact hnd p i (by simpa using hp) (by simpa using hi') c1 (by rw [List.getElem_map, List.getElem_map]; exact c)
          · exact hne2 c1
          · exact hnd i p (by simpa using hi') (by simpa using hp) c1 (by rw [List.getElem_map, List.getElem_map]; exact c.symm)
  · intro k hk
    rw [show (cs.set p ⟨cs[p].k, cs[p].g, cs[p].gains + 1, cs[p].cents⟩).map CrD.k = cs.map CrD.k from set_map hp rfl]
    rcases List.mem_append.1 hk with hk | hk
    · exact h.sub k hk
    · simp at hk; rw [hk]; exact List.mem_map_of_mem (List.getElem_mem hp)
/-- A new credit. -/
theorem CK.fresh (h : CK H w mb cb N M m S cs ct none wr) {k : List UInt8} (hk : k ∉ cs.map CrD.k) (hkl : k.length ≤ 1000) {g : Nat} (hg : mb < g) (hgn : ∀ d ∈ cs, d.g ≠ g) (hgc : g ≠ cb) (hgH : H g = none) (hb : wr.heap[g]? = some (.cells #[.string ⟨k.toArray⟩, .int .i64 0, .int .i64 0] 42 (0, 0)))
    (hM : Mp Tryz.prog 9 w2 mb (N + 1) (mpSet (ptrMp (cs.map keyG)) (.string k) (.pointer (some ⟨g, 0, none⟩)))) (hw : wr.grownBy w2 (some mb)) : CK H w mb cb (N + 1) M m S (cs ++ [⟨k, g, 0, 0⟩]) ct (some k) w2 := by
  have hmc := h.mc
  refine ⟨h.inn.grown hw h.hm, h.bel.grown hw (by have := h.ci.map.lt; omega) (fun q hq => by injection hq with hq; omega), h.ci.add hk hg hgn hM hw ((hw.block g (lt_of_heap hb) (fun e => by injection e with e; omega)).trans hb), h.cn.kept hw (fun e => by injection e with e; omega), h.hm, ?_, h.hb, h.mc, ?_, h.mw, by rw [totC_snoc, h.sum]; rfl, ?_, ?_⟩
  · intro d hd
    rcases List.mem_append.1 hd with hd | hd
    · exact h.hc d hd
    · simp at hd; subst hd; exact hgH
  · intro d hd
    rcases List.mem_append.1 hd with hd | hd
    · exact h.nc d hd
    · simp at hd; subst hd; exact hgc
  · intro d hd
    rcases List.mem_append.1 hd with hd | hd
    · have := h.ok d hd
      refine ⟨Or.inl ?_, this.2⟩
      rcases this.1 with c | c
      · exact c
      · cases c
    · simp at hd; subst hd; exact ⟨Or.inr rfl, by simp, fun _ => by simp, hkl⟩
  · intro x hx
    rw [List.map_append]
    exact List.mem_append_left _ (h.sub x hx)
end
end Go.Proofs.YtihcmifikbkbcaaGreatDoor

/- A gain is given to the letters of its path. -/
namespace Go.Proofs.YtihcmifikbkbcaaGreatDoor
set_option linter.unusedVariables false
open Go.RowKit
theorem OpV.monoC {P : Program} {o : Oper} {ev : Operand → Value} {w : World} {R R' : Value → World → Prop} (h : OpV P o ev w R) (hr : ∀ v w', R v w' → R' v w') : OpV P o ev w R' := by
  unfold OpV at h ⊢
  generalize (execOp ev o).run P w = r at h ⊢
  cases r with
  | halt x w' => exact h
  | ok n w' =>
    cases n with
    | value v => exact hr _ _ h
    | skip => exact hr _ _ h
    | enter f args => exact Calls.mono h fun e w'' ⟨v, he, hR⟩ => ⟨v, he, hr _ _ hR⟩
    | _ => exact h
theorem str_backC (s : ByteArray) : (⟨s.data.toList.toArray⟩ : ByteArray) = s := by cases s; rfl
theorem zeroPtrC (w : World) : (zeroValue 60).run Tryz.prog w = .ok (.pointer none) w := by kernel_rfl
def ageN (ss : List SentD) (g : GainD) (i : Nat) : Nat := (g.at_ - atOf ss i).toNat
theorem PathOk.ages {ss : List SentD} {g : GainD} {span : Int} {l : List Nat} (h : PathOk ss g span l) : AgeOk span (l.map (ageN ss g)) := by
  intro z hz
  obtain ⟨i, hi, rfl⟩ := List.mem_map.1 hz
  obtain ⟨h1, h2, h3⟩ := h i hi
  unfold ageN
  rw [atOf_eq h1]
  omega
/-- What credit leaves. -/
def CredPost (H : Frz) (mb N m S : Nat) (c : Nat) (w : World) (e : Ending) (w' : World) : Prop := e = .returned (.tuple #[]) ∧ ∃ cs : List CrD, CI mb N cs w' ∧ totC cs = S + c ∧ (∀ d ∈ cs, 1 ≤ d.gains ∧ d.gains ≤ m + 1 ∧ d.k.length ≤ 1000) ∧ H.In w' ∧ Below mb w w' ∧ (∀ d ∈ cs, H d.g = none)
theorem le_totC {cs : List CrD} {p : Nat} (hp : p < cs.length) : cs[p].cents ≤ totC cs := by
  unfold totC
  exact Hb.mem_le_sum (List.mem_map_of_mem (List.getElem_mem hp))
theorem IRow.orow {w : World} {B : Nat} {v : Value} {ps : List Nat} (h : IRow w B v (ci ps)) : Orow w B 3 1 fI1 v ps := by
  show World.ownsRow _ _ _ _ _ _ _
  rw [cells_fI1]
  have := h.own
  rw [ci_len] at this
  exact this
theorem Rw.ints {H : Frz} {A : Option Addr} {ps : List Nat} (h : Rw H A 1 fI1 ps) {w : World} (hH : H.In w) : Ints w A (ci ps) := by
  intro i hi
  have hi' : i < ps.length := by rw [ci_len] at hi; exact hi
  obtain ⟨b, off, e, -, hc⟩ := h.at_ hH hi' (by omega)
  refine ⟨b, off, e, ?_⟩
  have := hc 0 (by omega)
  rw [ci_get]
  simpa [fI1] using this
theorem CK.more {H : Frz} {w wr : World} {mb cb N M N' M' m S : Nat} {cs : List CrD} {ct : List (List UInt8)} {ex : Option (List UInt8)} (h : CK H w mb cb N M m S cs ct ex wr) (hN : N ≤ N') (hM : M ≤ M') : CK H w mb cb N' M' m S cs ct ex wr :=
  ⟨h.inn, h.bel, h.ci.more hN, h.cn.mono hM, h.hm, h.hc, h.hb, h.mc, h.nc, h.mw, h.sum, h.ok, h.sub⟩
def φCr (S : Nat) (v12 : Value) (gb : Nat) (gat : Int) (A : Option Addr) (n cap ik : Nat) (b off : Nat) (sa : Int) (ag : Nat) (i : Nat) (v : Value) (w : World) : Prop :=
  match i with
  | 0 => v = v12
  | 1 => v = .pointer (some ⟨gb, 2, none⟩)
  | 2 => v = .int .i64 gat
  | 3 => v = .slice A n cap
  | 4 => v = .int .i64 ik
  | 5 => v = .pointer (some ⟨b, off + ik * 4, none⟩)
  | 6 => v = .pointer (some ⟨b, off + ik * 4 + 3, none⟩)
  | 7 => v = .int .i64 sa
  | 8 => v = .int .i64 (ag : Nat)
  | 9 => TmpS S v #[.int .i64 ag] 3 w
  | 10 => True
  | _ => True
theorem φCr_mono {W0 : World} {v12 : Value} {gb : Nat} {gat : Int} {A : Option Addr} {n cap ik : Nat} {b off : Nat} {sa : Int} {ag : Nat} (i : Nat) (x : Value) (w w' : World) (e : RowsE W0 w w') (h : φCr W0.heap.size v12 gb gat A n cap ik b off sa ag i x w) : φCr W0.heap.size v12 gb gat A n cap ik b off sa ag i x w' := by
  match i, h with
  | 0, h => exact h
  | 1, h => exact h
  | 2, h => exact h
  | 3, h => exact h
  | 4, h => exact h
  | 5, h => exact h
  | 6, h => exact h
  | 7, h => exact h
  | 8, h => exact h
  | 9, h => exact TmpS.mono e h
  | 10, h => exact h
  | i + 11, h => exact trivial
def tsCr (v12 : Value) (B n : Nat) (x y : List Value) : List RowT := [⟨10, 37, v12, B, 3, 1, n, x, n + 1, y⟩]
theorem tsCr_own {v12 : Value} {B n : Nat} {x y : List Value} {W0 W : World} {L : Array Bool} {a : Act} (h : RowsJ W0 (tsCr v12 B n x y) L a W) (h10 : L.getD 10 false = true) {z : Value} (e : a.tmps.getD 37 undef = z) : W.ownsRow B 3 1 z (n + 1) y := by
  have o1 := h.own ⟨10, 37, v12, B, 3, 1, n, x, n + 1, y⟩ (by simp [tsCr])
  unfold RowT.own at o1
  simp only [h10, e, if_true] at o1
  exact o1
set_option maxHeartbeats 8000000 in
set_option maxRecDepth 100000 in
theorem credit_any (H : Frz) (mb N m S : Nat) (cs : List CrD) (A : Option Addr) (cap : Nat) (ss : List SentD) (g : GainD) (At : Option Addr) (capt : Nat) (l : List Nat) (how span : Int) (w : World)
    (hH : H.In w) (hci : CI mb N cs w) (hm : H mb = none) (hc : ∀ c ∈ cs, H c.g = none) (hok : ∀ c ∈ cs, 1 ≤ c.gains ∧ c.gains ≤ m ∧ c.k.length ≤ 1000) (hS : totC cs = S) (hN : N ≤ 100000) (hm2 : m ≤ 1000) (hS2 : S ≤ 1000000000000000)
    (hR : Rw H A 4 fSe ss) (hsz : SzS ss) (hl : ss.length ≤ 1000) (hg : BdG g) (hg0 : 0 ≤ g.cents) (hg1 : g.cents ≤ 1000000000000) (hRt : Rw H At 1 fI1 l) (hpo : PathOk ss g span l) (hl12 : l.length ≤ 12) (hl0 : 0 < l.length) (h1 : 1 ≤ how) (h6 : how ≤ 6) (hs1 : 1 ≤ span) (hs : span ≤ 10000000) :
    Calls Tryz.prog 20 #[.map (some mb), .slice A ss.length cap, .agg #[.string g.id, .string g.person, .int .i64 g.at_, .int .i64 g.cents], .slice At l.length capt, .int .i64 how, .int .i64 span] w (CredPost H mb (N + 12) m S g.cents.toNat w) := by
  obtain ⟨i0, hi0, hz0, hz1, hz2⟩ := info_parts infoInt
  obtain ⟨H1, hle, hb1, hin1, hlo1⟩ := hH.putN (.cells #[.string g.id, .string g.person, .int .i64 g.at_, .int .i64 g.cents] 40)
  have HR := Lib.hid (hR.le hle)
  have HRT := Lib.hid (hRt.le hle)
  have HIN := Lib.hid hin1
  have HB1 := Lib.hid hb1
  have HLE := Lib.hid hle
  have HLO : Hid (∀ b, b < w.heap.size → H1 b = H b) := fun b hb => hlo1 b (by omega)
  have HS := Lib.hid hsz
  have HG := Lib.hid hg
  have HPO := Lib.hid hpo
  have HCI := Lib.hid hci
  have HMB : Hid (mb < w.heap.size) := hci.map.lt
  have HCB : Hid (∀ c ∈ cs, c.g < w.heap.size) := fun c hc => lt_of_heap (hci.blk c hc).2
  have HM := Lib.hid hm
  have HC := Lib.hid hc
  have HOK := Lib.hid hok
  have HSS := Lib.hid hS
  have J0 : Hid (Orow (w.alloc (.cells #[.string g.id, .string g.person, .int .i64 g.at_, .int .i64 g.cents] 40)) (w.alloc (.cells #[.string g.id, .string g.person, .int .i64 g.at_, .int .i64 g.cents] 40)).heap.size 3 1 fI1 (.slice none 0 0) ((l.take 0).map (ageN ss g))) := by
    show Orow _ _ _ _ _ _ _
    rw [List.take_zero]
    exact Orow.nil _ _ _ _ _
  have JB0 : Hid (Below (w.alloc (.cells #[.string g.id, .string g.person, .int .i64 g.at_, .int .i64 g.cents] 40)).heap.size (w.alloc (.cells #[.string g.id, .string g.person, .int .i64 g.at_, .int .i64 g.cents] 40)) (w.alloc (.cells #[.string g.id, .string g.person, .int .i64 g.at_, .int .i64 g.cents] 40))) := Below.refl _ _
  have HB0 := Lib.hid (new1 (w := w) (.cells #[.string g.id, .string g.person, .int .i64 g.at_, .int .i64 g.cents] 40))
  have HSZW : Hid ((w.alloc (.cells #[.string g.id, .string g.person, .int .i64 g.at_, .int .i64 g.cents] 40)).heap.size = w.heap.size + 1) := by show _ = _; simp
  clear hR hRt hH hsz hle hb1 hin1 hg hlo1 hpo hci hm hc hok hS
  go_enter Tryz.func20, Tryz.ntmps20
  go_upto_region 3 with (fail)
  generalize w.alloc (.cells #[.string g.id, .string g.person, .int .i64 g.at_, .int .i64 g.cents] 40) = W0 at *
  go_loopw [12, 23] (fun v t wr => ∃ k : Nat, k ≤ l.length ∧ t = .int .i64 k ∧ Hid (Orow wr W0.heap.size 3 1 fI1 v ((l.take k).map (ageN ss g))) ∧ Hid (Below W0.heap.size W0 wr)) (fun _ t _ => l.length - (intOf t).toNat)
  case atStart => exact ⟨0, by omega, rfl, J0, JB0⟩
  case round =>
    clear J0 JB0
    obtain ⟨k, hk, rfl, J, JB⟩ := hrel
    by_cases hlt : k < l.length
    · obtain ⟨bt, offt, hAt, _, hct⟩ := HRT.out.at_ (HIN.out.below JB.out) hlt (by omega)
      subst hAt
      have c0 : wr.cell? ⟨bt, offt + k, none⟩ = some (.int .i64 (l[k] : Nat)) := by simpa [fI1] using hct 0 (by omega)
      obtain ⟨hil, ha1, ha2⟩ := HPO.out _ (List.getElem_mem hlt)
      have hks := HS.out _ (List.getElem_mem hil)
      obtain ⟨b, off, hA, _, hcs⟩ := HR.out.at_ (HIN.out.below JB.out) hil (by omega)
      subst hA
      have s3 : wr.cell? ⟨b, off + l[k] * 4 + 3, none⟩ = some (.int .i64 ss[l[k]].at_) := hcs 3 (by omega)
      have htk : (l.take (k + 1)).map (ageN ss g) = (l.take k).map (ageN ss g) ++ [ageN ss g l[k]] := by rw [List.take_succ_eq_append_getElem hlt, List.map_append]; rfl
      have HTK := Lib.hid htk
      have HBL : Hid (b < W0.heap.size) := by
        show b < _
        obtain ⟨b', off', e', hbl, _⟩ := HR.out.at_ HIN.out hil (by omega)
        simp only [Option.some.injEq, Addr.mk.injEq] at e'
        rw [e'.1]
        exact hbl
      have HAG : Hid ((ageN ss g l[k] : Int) = g.at_ - ss[l[k]].at_) := by
        show _ = _
        unfold ageN
        rw [atOf_eq hil]
        omega
      have hlt2 : (k : Int) < l.length := by omega
      have hil2 : ((l[k] : Nat) : Int) < ss.length := by omega
      have hbk := HIN.out.below JB.out _ _ HB1.out
      have g2 : wr.cell? ⟨w.heap.size, 2, none⟩ = some (.int .i64 g.at_) := cell_h hbk 2 rfl
      have hga := HG.out.2.2.1
      have hgb := HG.out.2.2.2.1
      have hal : ((l.take k).map (ageN ss g)).length ≤ 12 := by rw [List.length_map, List.length_take]; omega
      clear hct hcs htk hbk
      generalize ss[l[k]].at_ = sa at *
      generalize hq1 : (l.take (k + 1)).map (ageN ss g) = q1 at *
      have HQ1 := Lib.hid hq1
      clear hq1
      generalize (l.take k).map (ageN ss g) = q0 at *
      generalize ageN ss g l[k] = ag at *
      generalize l[k] = ik at *
      have hwr : IntKind.i64.wrap (g.at_ - sa) = (ag : Int) := by rw [HAG.out]; exact IntWalk.i64_in _ (by omega)
      have hsub : g.at_ - sa = (ag : Int) := HAG.out.symm
      go_upto_region 5 with (fail)
      generalize u12 = v12 at *
      have R12 := J.out.own
      obtain ⟨x12, hx12⟩ : ∃ x, x = cellsOf 1 fI1 q0 := ⟨_, rfl⟩
      rw [← hx12] at R12
      have HROWS : Hid (∀ t ∈ tsCr v12 W0.heap.size q0.length x12 (x12 ++ [.int .i64 ag]), wr.ownsRow t.B t.T t.k t.v t.n t.xs) := by
        intro t ht
        simp only [tsCr, List.mem_cons, List.not_mem_nil, or_false] at ht
        subst ht
        exact R12
      have HAPT : Hid ((tsCr v12 W0.heap.size q0.length x12 (x12 ++ [.int .i64 ag])).Pairwise fun t u => apart t.v u.v) := List.pairwise_singleton _ _
      have HLT0 : Hid (∀ g, v12.ownBlock = some g → g < wr.heap.size) := fun g hg => (World.ownsRow.lt R12 g hg).2
      have HGE : Hid (∀ t ∈ tsCr v12 W0.heap.size q0.length x12 (x12 ++ [.int .i64 ag]), ∀ g, t.v.ownBlock = some g → W0.heap.size ≤ g) := by
        intro t ht g hg
        simp only [tsCr, List.mem_cons, List.not_mem_nil, or_false] at ht
        subst ht
        exact (World.ownsRow.lt R12 g hg).1
      have HSZ : Hid (W0.heap.size ≤ wr.heap.size) := JB.out.size
      have HCC : Hid (∀ W L a, RowsJ wr (tsCr v12 W0.heap.size q0.length x12 (x12 ++ [.int .i64 ag])) L a W → W.cell? ⟨w.heap.size, 2, none⟩ = some (.int .i64 g.at_) ∧ W.cell? ⟨b, off + ik * 4 + 3, none⟩ = some (.int .i64 sa)) := fun W L a h => by
        have hk := fun (p : Addr) (hp : p.block < W0.heap.size) => World.cell?_of_block (a := p) (h.keep p.block (by have := HSZ.out; omega) (fun t ht c => by have := HGE.out t ht _ c; omega))
        exact ⟨(hk ⟨w.heap.size, 2, none⟩ (by show w.heap.size < _; have := HSZW.out; omega)).trans g2, (hk ⟨b, off + ik * 4 + 3, none⟩ (HBL.out)).trans s3⟩
      clear R12
      refine wp_region_concV 11 100 (φCr wr.heap.size v12 w.heap.size g.at_ (some ⟨b, off, none⟩) ss.length cap ik b off sa ag) (RowsJ wr (tsCr v12 W0.heap.size q0.length x12 (x12 ++ [.int .i64 ag]))) (RowsE wr) (by kernel_rfl) (by kernel_rfl) (by rfl) (RowsJ.start HROWS.out HAPT.out _ _) (fun i x w w' _ e h => φCr_mono i x w w' e h) (fun i x w hi e _ => absurd e (by have hcs : i = 0 ∨ i = 1 ∨ i = 2 ∨ i = 3 ∨ i = 4 ∨ i = 5 ∨ i = 6 ∨ i = 7 ∨ i = 8 ∨ i = 9 ∨ i = 10 := (by omega); rcases hcs with rfl | rfl | rfl | rfl | rfl | rfl | rfl | rfl | rfl | rfl | rfl <;> decide)) ?_ ?_
      · intro n o hn ho a W2 L hr hsN hLs hJ hkn
        replace hsN : a.tmps.size = 100 := hsN
        have hcs : n = 0 ∨ n = 1 ∨ n = 2 ∨ n = 3 ∨ n = 4 ∨ n = 5 ∨ n = 6 ∨ n = 7 ∨ n = 8 ∨ n = 9 ∨ n = 10 := by omega
        rcases hcs with rfl | rfl | rfl | rfl | rfl | rfl | rfl | rfl | rfl | rfl | rfl
        · obtain rfl := Option.some.inj ho
          refine OpV.monoC (R := fun v w' => φCr wr.heap.size v12 w.heap.size g.at_ (some ⟨b, off, none⟩) ss.length cap ik b off sa ag 0 v w' ∧ Below W2.heap.size W2 w') ?_ (fun v w' h => ⟨h.1, hJ.step h.2 (rows_ne (li := [10]) (ls := [37]) rfl rfl (by decide) (by decide)) v, RowsE.of h.2⟩)
          exact ⟨hkn 12 (by decide), Below.refl _ _⟩
        · obtain rfl := Option.some.inj ho
          refine OpV.monoC (R := fun v w' => φCr wr.heap.size v12 w.heap.size g.at_ (some ⟨b, off, none⟩) ss.length cap ik b off sa ag 1 v w' ∧ Below W2.heap.size W2 w') ?_ (fun v w' h => ⟨h.1, hJ.step h.2 (rows_ne (li := [10]) (ls := [37]) rfl rfl (by decide) (by decide)) v, RowsE.of h.2⟩)
          have h0 := slotv (hkn 8 (by decide) : a.tmps.getD 8 undef = .pointer (some ⟨w.heap.size, 0, none⟩))
          clear hkn ho
          simp only [OpV, execOp]
          simp [go_sem, h0]
          exact ⟨rfl, Below.refl _ _⟩
        · obtain rfl := Option.some.inj ho
          refine OpV.monoC (R := fun v w' => φCr wr.heap.size v12 w.heap.size g.at_ (some ⟨b, off, none⟩) ss.length cap ik b off sa ag 2 v w' ∧ Below W2.heap.size W2 w') ?_ (fun v w' h => ⟨h.1, hJ.step h.2 (rows_ne (li := [10]) (ls := [37]) rfl rfl (by decide) (by decide)) v, RowsE.of h.2⟩)
          have h0 := slotv (hkn 28 (by decide) : a.tmps.getD 28 undef = .pointer (some ⟨w.heap.size, 2, none⟩))
          have hcc := (HCC.out W2 _ _ hJ).1
          clear hkn ho
          simp only [OpV, execOp]
          simp [go_sem, h0, hcc]
          exact ⟨rfl, Below.refl _ _⟩
        · obtain rfl := Option.some.inj ho
          refine OpV.monoC (R := fun v w' => φCr wr.heap.size v12 w.heap.size g.at_ (some ⟨b, off, none⟩) ss.length cap ik b off sa ag 3 v w' ∧ Below W2.heap.size W2 w') ?_ (fun v w' h => ⟨h.1, hJ.step h.2 (rows_ne (li := [10]) (ls := [37]) rfl rfl (by decide) (by decide)) v, RowsE.of h.2⟩)
          exact ⟨hkn 1 (by decide), Below.refl _ _⟩
        · obtain rfl := Option.some.inj ho
          refine OpV.monoC (R := fun v w' => φCr wr.heap.size v12 w.heap.size g.at_ (some ⟨b, off, none⟩) ss.length cap ik b off sa ag 4 v w' ∧ Below W2.heap.size W2 w') ?_ (fun v w' h => ⟨h.1, hJ.step h.2 (rows_ne (li := [10]) (ls := [37]) rfl rfl (by decide) (by decide)) v, RowsE.of h.2⟩)
          exact ⟨hkn 14 (by decide), Below.refl _ _⟩
        · obtain rfl := Option.some.inj ho
          refine OpV.monoC (R := fun v w' => φCr wr.heap.size v12 w.heap.size g.at_ (some ⟨b, off, none⟩) ss.length cap ik b off sa ag 5 v w' ∧ Below W2.heap.size W2 w') ?_ (fun v w' h => ⟨h.1, hJ.step h.2 (rows_ne (li := [10]) (ls := [37]) rfl rfl (by decide) (by decide)) v, RowsE.of h.2⟩)
          have h0 := slotv (hkn 30 (by decide) : a.tmps.getD 30 undef = .slice (some ⟨b, off, none⟩) ss.length cap)
          have h1 := slotv (hkn 31 (by decide) : a.tmps.getD 31 undef = .int .i64 (ik : Nat))
          clear hkn ho
          simp only [OpV, execOp]
          simp [go_sem, h0, h1, hil2]
          exact ⟨rfl, Below.refl _ _⟩
        · obtain rfl := Option.some.inj ho
          refine OpV.monoC (R := fun v w' => φCr wr.heap.size v12 w.heap.size g.at_ (some ⟨b, off, none⟩) ss.length cap ik b off sa ag 6 v w' ∧ Below W2.heap.size W2 w') ?_ (fun v w' h => ⟨h.1, hJ.step h.2 (rows_ne (li := [10]) (ls := [37]) rfl rfl (by decide) (by decide)) v, RowsE.of h.2⟩)
          have h0 := slotv (hkn 32 (by decide) : a.tmps.getD 32 undef = .pointer (some ⟨b, off + ik * 4, none⟩))
          clear hkn ho
          simp only [OpV, execOp]
          simp [go_sem, h0]
          exact ⟨rfl, Below.refl _ _⟩
        · obtain rfl := Option.some.inj ho
          refine OpV.monoC (R := fun v w' => φCr wr.heap.size v12 w.heap.size g.at_ (some ⟨b, off, none⟩) ss.length cap ik b off sa ag 7 v w' ∧ Below W2.heap.size W2 w') ?_ (fun v w' h => ⟨h.1, hJ.step h.2 (rows_ne (li := [10]) (ls := [37]) rfl rfl (by decide) (by decide)) v, RowsE.of h.2⟩)
          have h0 := slotv (hkn 33 (by decide) : a.tmps.getD 33 undef = .pointer (some ⟨b, off + ik * 4 + 3, none⟩))
          have hcc := (HCC.out W2 _ _ hJ).2
          clear hkn ho
          simp only [OpV, execOp]
          simp [go_sem, h0, hcc]
          exact ⟨rfl, Below.refl _ _⟩
        · obtain rfl := Option.some.inj ho
          refine OpV.monoC (R := fun v w' => φCr wr.heap.size v12 w.heap.size g.at_ (some ⟨b, off, none⟩) ss.length cap ik b off sa ag 8 v w' ∧ Below W2.heap.size W2 w') ?_ (fun v w' h => ⟨h.1, hJ.step h.2 (rows_ne (li := [10]) (ls := [37]) rfl rfl (by decide) (by decide)) v, RowsE.of h.2⟩)
          have h0 := slotv (hkn 29 (by decide) : a.tmps.getD 29 undef = .int .i64 g.at_)
          have h1 := slotv (hkn 34 (by decide) : a.tmps.getD 34 undef = .int .i64 sa)
          clear hkn ho
          simp only [OpV, execOp]
          simp [go_sem, h0, h1, hwr]
          exact ⟨rfl, Below.refl _ _⟩
        · obtain rfl := Option.some.inj ho
          refine OpV.monoC (R := fun v w' => φCr wr.heap.size v12 w.heap.size g.at_ (some ⟨b, off, none⟩) ss.length cap ik b off sa ag 9 v w' ∧ Below W2.heap.size W2 w') ?_ (fun v w' h => ⟨h.1, hJ.step h.2 (rows_ne (li := [10]) (ls := [37]) rfl rfl (by decide) (by decide)) v, RowsE.of h.2⟩)
          have h0 := slotv (hkn 35 (by decide) : a.tmps.getD 35 undef = .int .i64 (ag : Nat))
          clear hkn ho
          simp only [OpV, execOp]
          simp [go_sem, h0]
          exact ⟨⟨W2.heap.size, rfl, hJ.size, heap_alloc_new _ _⟩, new1 _⟩
        · obtain rfl := Option.some.inj ho
          have h1 := slotv (hkn 27 (by decide) : a.tmps.getD 27 undef = v12)
          obtain ⟨b, h2, hb0, hh⟩ : TmpS wr.heap.size (a.tmps.getD 36 undef) #[.int .i64 ag] 3 W2 := hkn 36 (by decide)
          replace h2 := slotv h2
          refine OpV.monoC (hJ.app (t := ⟨10, 37, v12, W0.heap.size, 3, 1, q0.length, x12, q0.length + 1, x12 ++ [.int .i64 ag]⟩) (by simp [tsCr]) rfl (ready_not hr (by show (10 : Nat) < L.size; rw [hLs]; decide)) (by show (10 : Nat) < L.size; rw [hLs]; decide) (by show (37 : Nat) < a.tmps.size; rw [hsN]; decide) (rows_other (li := [10]) (ls := [37]) rfl rfl (by decide) (by decide) (by simp [tsCr])) (nodup_of_map (f := RowT.i) (show ([10] : List Nat).Nodup by decide)) (HLT0.out) (.tmp 27) (.tmp 36) 22 rfl i0 (.int .i64 0) 8 Tryz.underlying22 hi0 hz0 hz1 hz2 rfl (show (0 : Nat) < 1 by decide) (by simpa [Act.eval, tsCr] using h1) b #[.int .i64 ag] 3 (by simpa [Act.eval] using h2) hh rfl (by simp [Value.oneCell']) rfl rfl (by show q0.length ≤ _; omega) (by decide) (by have := HSZ.out; show W0.heap.size ≤ _; omega)) (fun v w' h => ⟨trivial, h.1, h.2⟩)
      · intro yv W9 L9 hL9 hW9 hgt hφ
        have ho9 := tsCr_own hW9 (hL9 10 (by decide)) (hgt 10 37 rfl)
        have hb9 := hW9.below HSZ.out HGE.out
        rw [hx12] at ho9
        have J4 : Hid (Orow W9 W0.heap.size 3 1 fI1 (yv 10) q1) := by
          show World.ownsRow _ _ _ _ _ _ _
          rw [HTK.out, cellsOf_snoc, List.length_append]
          exact ho9
        have JB4 := Lib.hid (JB.out.trans hb9)
        clear hW9 hgt hφ hL9 HROWS HAPT HLT0 HGE HCC J JB ho9 hb9 hx12 g2 s3 c0
        simp only [List.drop_succ_cons, List.drop_zero, List.take_succ_cons, List.take_zero, putAll, Nat.reduceAdd]
        generalize yv 10 = z10 at *
        go_wp2_with fail
        go_roundw
        case rel => exact ⟨k + 1, by omega, by go_num, by rw [HQ1.out]; exact J4, JB4⟩
        case measure => simp [intOf]; omega
    · have hke : k = l.length := by omega
      subst hke
      have hJ := J.out
      rw [List.take_length] at hJ
      have hag := HPO.out.ages
      have hal : (l.map (ageN ss g)).length = l.length := by simp
      obtain ⟨Aa, capa, H2, hva, -, q1, q2, hRa, q3⟩ := Orow.freezeN hJ H1
      have hle12 := q2 (fun q hq => HIN.out.none_ (Orow.lt hJ hq).1)
      rw [hal] at hva
      subst hva
      have HIN2 := Lib.hid (q1 (HIN.out.below JB.out))
      have HBW := Lib.hid (HB0.out.trans (JB.out.mono HB0.out.size))
      have HLO2 : Hid (∀ b, b < w.heap.size → H2 b = H b) := fun b hb => (q3 b (fun e => by have := (Orow.lt hJ e).1; have := HSZW.out; omega)).trans (HLO.out b hb)
      have HR2 := Lib.hid (HR.out.le hle12)
      have HRT2 := Lib.hid (HRT.out.le hle12)
      have HB2 := Lib.hid (hle12 _ _ HB1.out)
      have HLE2 := Lib.hid (HLE.out.trans hle12)
      have HWT := Lib.hid (weights_any H2 how span Aa capa (l.map (ageN ss g)) wr HIN2.out hRa h1 h6 hag hs (by rw [hal]; omega))
      rw [hal] at HWT
      clear J hJ q1 q2 q3 hRa hle12 HIN JB HB0 HLO HR HRT HB1 HLE hag hal HSZW
      go_wp2_with fail
      refine HWT.out.mono ?_
      rintro e W2 ⟨vw, ws, rfl, hwl, hwz, hwp, hwo, hwb⟩
      obtain ⟨Aw, capw, H3, hvw, -, q1, q2, hRw, q3⟩ := Orow.freezeN hwo H2
      have hle23 := q2 (fun q hq => HIN2.out.none_ (Orow.lt hwo hq).1)
      rw [hwl] at hvw
      subst hvw
      have HIN3 := Lib.hid (q1 (HIN2.out.below hwb))
      have HLO3 : Hid (∀ b, b < w.heap.size → H3 b = H b) := fun b hb => (q3 b (fun e => by have := (Orow.lt hwo e).1; have := HBW.out.size; omega)).trans (HLO2.out b hb)
      have HBW3 := Lib.hid (HBW.out.trans (hwb.mono HBW.out.size))
      have HR3 := Lib.hid (HR2.out.le hle23)
      have HRT3 := Lib.hid (HRT2.out.le hle23)
      have HB3 := Lib.hid (hle23 _ _ HB2.out)
      have HLE3 := Lib.hid (HLE2.out.trans hle23)
      have HRW := Lib.hid hRw
      have HWZ : Hid (∀ z ∈ ws, z ≤ 1000000) := fun z hz => by have := hwz z hz; omega
      have HWL := Lib.hid hwl
      have hwpos := hwp hl0
      have hmm := @run_makeMap Tryz.prog
      clear hwo hwb q1 q2 q3 hRw hle23 HWT HIN2 HLO2 HBW HR2 HRT2 HB2 HLE2 hwz hwp
      go_upto_region 9 with (fail)
      clear hmm
      have CN0 := Lib.hid (Mp.made Tryz.prog 9 W2)
      have HIN3b := Lib.hid (HIN3.out.alloc (.map #[] 0))
      have HBW3b := Lib.hid (HBW3.out.trans ((new1 (w := W2) (.map #[] 0)).mono HBW3.out.size))
      have HCB0 : Hid (H3 W2.heap.size = none) := HIN3.out.none_ (Nat.le_refl _)
      have HCL : Hid (W2.heap.size < (W2.alloc (.map #[] 0)).heap.size) := by show _ < _; simp
      have HWC : Hid (w.heap.size ≤ W2.heap.size) := HBW3.out.size
      clear HIN3 HBW3
      generalize W2.alloc (.map #[] 0) = W3 at *
      generalize W2.heap.size = cb at *
      obtain ⟨c, hc⟩ := Int.eq_ofNat_of_zero_le hg0
      have g3 : W3.cell? ⟨w.heap.size, 3, none⟩ = some (.int .i64 (c : Int)) := by rw [← hc]; exact cell_h (HIN3b.out _ _ HB3.out) 3 rfl
      have HDV := Lib.hid (divideZ_any c ws Aw capw W3 (HRW.out.ints HIN3b.out) (by omega) HWZ.out hwpos (by omega))
      rw [HWL.out] at HDV
      have HCT : Hid (g.cents.toNat = c) := by show _ = _; omega
      have hcb : c ≤ 1000000000000 := by omega
      go_wp2_with fail
      refine HDV.out.mono ?_
      rintro e W4 ⟨vp, ps, rfl, hpl, hps, hpz, hpo, hpb⟩
      have hpo := IRow.orow hpo
      obtain ⟨Ap, capp, H4, hvp, -, q1, q2, hRp, q3⟩ := Orow.freezeN hpo H3
      have hle34 := q2 (fun q hq => HIN3b.out.none_ (Orow.lt hpo hq).1)
      rw [HWL.out] at hpl
      rw [hpl] at hvp
      subst hvp
      have HIN4 := Lib.hid (q1 (HIN3b.out.below hpb))
      have HLO4 : Hid (∀ b, b < w.heap.size → H4 b = H b) := fun b hb => (q3 b (fun e => by have := (Orow.lt hpo e).1; have := HBW3b.out.size; omega)).trans (HLO3.out b hb)
      have HCB4 : Hid (H4 cb = none) := (q3 cb (fun e => by have := (Orow.lt hpo e).1; have := HCL.out; omega)).trans HCB0.out
      have HBW4 := Lib.hid (HBW3b.out.trans (hpb.mono HBW3b.out.size))
      have HR4 := Lib.hid (HR3.out.le hle34)
      have HRT4 := Lib.hid (HRT3.out.le hle34)
      have HRW4 := Lib.hid (HRW.out.le hle34)
      have HRP4 := Lib.hid hRp
      have HPZ := Lib.hid hpz
      have HPL := Lib.hid hpl
      have HPS := Lib.hid hps
      have HLE4 := Lib.hid (HLE3.out.trans hle34)
      have JK0 : Hid (CK H4 w mb cb (N + 0) 0 m (S + (ps.take 0).sum) cs [] none W4) := by
        refine ⟨HIN4.out, HBW4.out.mono (Nat.le_of_lt HMB.out), HCI.out.call HBW4.out, CN0.out.below hpb, ?_, ?_, HCB4.out, ?_, ?_, HMB.out, ?_, ?_, fun k hk => by cases hk⟩
        · rw [HLO4.out mb HMB.out]; exact HM.out
        · intro d hd; rw [HLO4.out _ (HCB.out d hd)]; exact HC.out d hd
        · have := HMB.out; have := HWC.out; omega
        · intro d hd; have := HCB.out d hd; have := HWC.out; omega
        · rw [HSS.out]; simp
        · intro d hd; have := HOK.out d hd; exact ⟨Or.inl this.1, by omega, fun _ => this.2.1, this.2.2⟩
      clear hpo q1 q2 q3 hRp hle34 hpb HDV HIN3b HLO3 HBW3b HR3 HRT3 HB3 HRW HLE3 CN0 HCB0 HCL HWC HCI HCB HM HC HOK HSS hpz hps g3 HIN4 HBW4 HCB4
      go_wp2_with fail
      go_loopw [49] (fun t wr => ∃ (k : Nat) (cs' : List CrD) (ct : List (List UInt8)), k ≤ l.length ∧ t = .int .i64 k ∧ Hid (CK H4 w mb cb (N + k) k m (S + (ps.take k).sum) cs' ct none wr)) (fun t _ => l.length - (intOf t).toNat)
      case atStart => exact ⟨0, cs, [], by omega, rfl, JK0⟩
      case round =>
        clear JK0
        obtain ⟨k, cs', ct, hk, rfl, J⟩ := hrel
        by_cases hlt : k < l.length
        · obtain ⟨bp, offp, hAp, _, hcp⟩ := HRP4.out.at_ J.out.inn (show k < ps.length by rw [HPL.out]; exact hlt) (by omega)
          subst hAp
          have hkp : k < ps.length := by rw [HPL.out]; exact hlt
          have hkw : k < ws.length := by rw [HWL.out]; exact hlt
          have p0 : wr.cell? ⟨bp, offp + k, none⟩ = some (.int .i64 (ps[k] : Nat)) := by simpa [fI1] using hcp 0 (by omega)
          obtain ⟨bt, offt, hAt, _, hct⟩ := HRT4.out.at_ J.out.inn hlt (by omega)
          subst hAt
          have t0 : wr.cell? ⟨bt, offt + k, none⟩ = some (.int .i64 (l[k] : Nat)) := by simpa [fI1] using hct 0 (by omega)
          obtain ⟨bw, offw, hAw, _, hcw⟩ := HRW4.out.at_ J.out.inn hkw (by omega)
          subst hAw
          have w0 : wr.cell? ⟨bw, offw + k, none⟩ = some (.int .i64 (ws[k] : Nat)) := by simpa [fI1] using hcw 0 (by omega)
          obtain ⟨hil, -, -⟩ := HPO.out _ (List.getElem_mem hlt)
          have hks := (HS.out _ (List.getElem_mem hil)).2.2.1
          obtain ⟨b, off, hA, _, hcs⟩ := HR4.out.at_ J.out.inn hil (by omega)
          subst hA
          have s2 : wr.cell? ⟨b, off + l[k] * 4 + 2, none⟩ = some (.string ss[l[k]].letter) := hcs 2 (by omega)
          have HSU : Hid ((ps.take (k + 1)).sum = (ps.take k).sum + ps[k]) := Hb.sum_take_succ hkp
          have hsl := Hb.sum_take_le ps (k + 1)
          rw [HSU.out, HPS.out] at hsl
          have HZ : Hid (ws[k] = 0 → ps[k] = 0) := fun h => HPZ.out k hkp hkw h
          have hlt2 : (k : Int) < l.length := by omega
          have hil2 : ((l[k] : Nat) : Int) < ss.length := by omega
          clear hcp hct hcw hcs
          generalize hsu1 : (ps.take (k + 1)).sum = sk1 at HSU
          have HSK1 := Lib.hid hsu1
          clear hsu1
          generalize (ps.take k).sum = sk at *
          generalize ps[k] = x at *
          generalize ws[k] = wk at *
          generalize ss[l[k]].letter = letter at *
          generalize l[k] = ik at *
          by_cases hw0 : wk = 0
          · have hx := HZ.out hw0
            have hwk : ((wk : Int) == 0) = true := by simp [hw0]
            have J2 : Hid (CK H4 w mb cb (N + (k + 1)) (k + 1) m (S + sk1) cs' ct none wr) := by
              show CK _ _ _ _ _ _ _ _ _ _ _ _
              rw [HSU.out, hx]
              exact J.out.more (by omega) (by omega)
            clear hx hw0 J
            go_wp2_with fail
            go_roundw
            case rel => exact ⟨k + 1, cs', ct, by omega, by go_num, by rw [HSK1.out]; exact J2⟩
            case measure => simp [intOf]; omega
          · have hwk : ((wk : Int) == 0) = false := by simp; omega
            have HK1 := Lib.hid (strKey (s := letter) (by omega))
            have HL : Hid (codeLit letter = .string letter.data.toList) := rfl
            have HNK : Hid (N + k < maxLen) := by show _ < _; unfold maxLen; omega
            have HKM : Hid (k < maxLen) := by show _ < _; unfold maxLen; omega
            have hSx : S + sk + x ≤ 1001000000000000 := by omega
            clear hw0 HZ
            by_cases hmem : letter.data.toList ∈ cs'.map CrD.k
            · obtain ⟨p, hp, hpk⟩ : ∃ (p : Nat) (hp : p < cs'.length), cs'[p].k = letter.data.toList := by
                obtain ⟨d, hd, e⟩ := List.mem_map.1 hmem
                obtain ⟨p, hp, rfl⟩ := List.getElem_of_mem hd
                exact ⟨p, hp, e⟩
              have HPK := Lib.hid hpk
              have HCM : Hid ((ptrMp (cs'.map keyG) (codeLit letter)).getD (.pointer none) = .pointer (some ⟨cs'[p].g, 0, none⟩)) := by
                show _ = _
                rw [HL.out, ← hpk, J.out.ci.look_some hp]
                rfl
              obtain ⟨c2, f2, hJ2⟩ := J.out.cents hp x
              have hct := Nat.le_trans (le_totC hp) (Nat.le_of_eq J.out.sum)
              rw [Int.natCast_add, Nat.add_assoc, ← HSU.out] at hJ2
              have J2 := Lib.hid hJ2
              have hp2 : p < (cs'.set p ⟨cs'[p].k, cs'[p].g, cs'[p].gains, cs'[p].cents + x⟩).length := by simpa using hp
              have HG2 : Hid ((cs'.set p ⟨cs'[p].k, cs'[p].g, cs'[p].gains, cs'[p].cents + x⟩)[p] = ⟨cs'[p].k, cs'[p].g, cs'[p].gains, cs'[p].cents + x⟩) := List.getElem_set_self _
              clear hJ2 hmem hpk
              generalize cs'.set p ⟨cs'[p].k, cs'[p].g, cs'[p].gains, cs'[p].cents + x⟩ = cs2 at *
              generalize cs'[p].gains = ga at *
              generalize cs'[p].cents = ce at *
              generalize cs'[p].k = kk at *
              generalize cs'[p].g = gb at *
              go_upto_region 19 with (at_lookup; refine wpList_mp_getv _ rfl _ _ 52 rfl 9 60 strKeyed Tryz.underlying52 (.pointer none) (zeroPtrC _) mb (N + k) (ptrMp (cs'.map keyG)) rfl J.out.ci.map _ _ rfl HK1.out _ HCM.out ?_)
              have HEX : Hid ((none : Option (List UInt8)) = none ∨ (none : Option (List UInt8)) = some kk) := Or.inl rfl
              generalize wr.setCell ⟨gb, 2, none⟩ _ = W5 at *
              have HGET : Hid ((seenL ct (codeLit letter)).getD (.bool false) = .bool (decide (letter.data.toList ∈ ct))) := by show _ = _; rw [HL.out]; exact seenL_get _ _
              by_cases hcn : letter.data.toList ∈ ct
              · rw [decide_eq_true hcn] at HGET
                have J3 : Hid (CK H4 w mb cb (N + (k + 1)) (k + 1) m (S + sk1) cs2 ct none W5) := J2.out.more (by omega) (by omega)
                clear hcn
                go_wp2_with (at_lookup; refine wpList_mp_getv _ rfl _ _ 70 rfl 9 4 strKeyed Tryz.underlying70 (.bool false) (zeroBool _) cb k (seenL ct) rfl J2.out.cn _ _ rfl HK1.out _ HGET.out ?_)
                go_roundw
                case rel => exact ⟨k + 1, cs2, ct, by omega, by go_num, by rw [HSK1.out]; exact J3⟩
                case measure => simp [intOf]; omega
              · rw [decide_eq_false hcn] at HGET
                have hnc : cs2[p].gains ≤ m := (J2.out.ok _ (List.getElem_mem hp2)).2.2.1 (by rw [HG2.out]; show kk ∉ ct; rw [HPK.out]; exact hcn)
                have hex : (none : Option (List UInt8)) = none ∨ (none : Option (List UInt8)) = some cs2[p].k := by rw [HG2.out]; exact HEX.out
                have HST : Hid (∀ w5, Mp Tryz.prog 9 w5 cb (k + 1) (mpSet (seenL ct) (codeLit letter) (.bool true)) → W5.grownBy w5 (some cb) → w5.cell? ⟨gb, 1, none⟩ = some (.int .i64 (ga : Nat)) ∧ w5.frozen? ⟨gb, 1, none⟩ = false ∧ ∃ cs3, CK H4 w mb cb (N + (k + 1)) (k + 1) m (S + sk1) cs3 (ct ++ [kk]) none (w5.setCell ⟨gb, 1, none⟩ (.int .i64 ((ga : Int) + 1)))) := fun w5 h1 h2 => by
                  have := J2.out.gains hp2 hnc hex (by rw [HG2.out]; show Mp _ _ _ _ _ (mpSet _ (.string kk) _); rw [HPK.out]; exact h1) h2
                  rw [HG2.out] at this
                  obtain ⟨k1, k2, k3⟩ := this
                  exact ⟨k1, k2, _, k3.more (by omega) (by omega)⟩
                have hga : ga ≤ m := by rw [HG2.out] at hnc; exact hnc
                clear hcn hnc hex
                go_upto_region 21 with (first | (at_lookup; refine wpList_mp_getv _ rfl _ _ 70 rfl 9 4 strKeyed Tryz.underlying70 (.bool false) (zeroBool _) cb k (seenL ct) rfl J2.out.cn _ _ rfl HK1.out _ HGET.out ?_) | (at_mapUpdate; refine wpList_mp_set _ rfl _ _ _ 70 rfl 9 4 strKeyed Tryz.underlying70 cb k (seenL ct) rfl J2.out.cn HKM.out _ _ _ rfl rfl HK1.out ?_; intro w5 hM5 hg5 hz5; obtain ⟨c1, f1, cs3, hJ3⟩ := HST.out w5 hM5 hg5; have J3 := Lib.hid hJ3; clear hM5 hg5 hz5 hJ3))
                clear J2 HST
                go_wp2_with fail
                go_roundw
                case rel => exact ⟨k + 1, cs3, _, by omega, by go_num, by rw [HSK1.out]; exact J3⟩
                case measure => simp [intOf]; omega
            · have HCM : Hid ((ptrMp (cs'.map keyG) (codeLit letter)).getD (.pointer none) = .pointer none) := by
                show _ = _
                rw [HL.out, J.out.ci.look_none hmem]
                rfl
              have HNC : Hid (letter.data.toList ∉ ct) := fun c => hmem (J.out.sub _ c)
              have HMEM := Lib.hid hmem
              have JA := Lib.hid (J.out.call (new1 (w := wr) (.cells #[.string letter, .int .i64 0, .int .i64 0] 42)))
              have HBK := Lib.hid (heap_alloc_new wr (.cells #[.string letter, .int .i64 0, .int .i64 0] 42))
              have hmg : mb < wr.heap.size := J.out.ci.map.lt
              have HGN : Hid (∀ d ∈ cs', d.g ≠ wr.heap.size) := fun d hd => by have := lt_of_heap (J.out.ci.blk d hd).2; omega
              have hgc : wr.heap.size ≠ cb := by have := J.out.cn.lt; omega
              have HGH : Hid (H4 wr.heap.size = none) := J.out.inn.none_ (Nat.le_refl _)
              clear hmem
              go_upto_region 17 with (at_lookup; refine wpList_mp_getv _ rfl _ _ 52 rfl 9 60 strKeyed Tryz.underlying52 (.pointer none) (zeroPtrC _) mb (N + k) (ptrMp (cs'.map keyG)) rfl J.out.ci.map _ _ rfl HK1.out _ HCM.out ?_)
              generalize wr.alloc _ = WA at *
              generalize wr.heap.size = gb at *
              clear J p0 t0 w0 s2
              have HFR : Hid (∀ W6, Mp Tryz.prog 9 W6 mb (N + k + 1) (mpSet (ptrMp (cs'.map keyG)) (codeLit letter) (.pointer (some ⟨gb, 0, none⟩))) → WA.grownBy W6 (some mb) → CK H4 w mb cb (N + k + 1) k m (S + sk) (cs' ++ [⟨letter.data.toList, gb, 0, 0⟩]) ct (some letter.data.toList) W6) := fun W6 h1 h2 => JA.out.fresh HMEM.out (by rw [Array.length_toList]; exact hks) hmg HGN.out hgc HGH.out (by rw [str_backC]; exact HBK.out) h1 h2
              go_upto_region 18 with (at_mapUpdate; refine wpList_mp_set _ rfl _ _ _ 52 rfl 9 60 strKeyed Tryz.underlying52 mb (N + k) (ptrMp (cs'.map keyG)) rfl JA.out.ci.map HNK.out _ _ _ rfl rfl HK1.out ?_; intro W6 hM6 hg6 hz6; have JB := Lib.hid (HFR.out W6 hM6 hg6); clear hM6 hg6 hz6)
              obtain ⟨p, hpe⟩ : ∃ p, p = cs'.length := ⟨_, rfl⟩
              have hp : p < (cs' ++ [(⟨letter.data.toList, gb, 0, 0⟩ : CrD)]).length := by rw [hpe]; simp
              have hgp : (cs' ++ [(⟨letter.data.toList, gb, 0, 0⟩ : CrD)])[p] = ⟨letter.data.toList, gb, 0, 0⟩ := by subst hpe; simp
              have hcc := JB.out.cents hp x
              rw [hgp] at hcc
              obtain ⟨c2, f2, hJ2⟩ := hcc
              simp only [Nat.zero_add] at hJ2
              rw [show S + sk + x = S + sk1 from by rw [HSU.out, Nat.add_assoc]] at hJ2
              have J2 := Lib.hid hJ2
              have hp2 : p < ((cs' ++ [(⟨letter.data.toList, gb, 0, 0⟩ : CrD)]).set p ⟨letter.data.toList, gb, 0, x⟩).length := by simpa using hp
              have HG2 : Hid (((cs' ++ [(⟨letter.data.toList, gb, 0, 0⟩ : CrD)]).set p ⟨letter.data.toList, gb, 0, x⟩)[p] = ⟨letter.data.toList, gb, 0, x⟩) := List.getElem_set_self _
              clear hJ2 hgp hpe HFR JA JB
              generalize (cs' ++ [(⟨letter.data.toList, gb, 0, 0⟩ : CrD)]).set p ⟨letter.data.toList, gb, 0, x⟩ = cs2 at *
              obtain ⟨kk, hkk⟩ : ∃ kk, kk = letter.data.toList := ⟨_, rfl⟩
              have HPK := Lib.hid hkk
              obtain ⟨ga, hga0⟩ : ∃ ga : Nat, ga = 0 := ⟨_, rfl⟩
              have HG2 : Hid (cs2[p] = ⟨kk, gb, ga, x⟩) := by rw [hkk, hga0]; exact HG2
              have HEX : Hid (some letter.data.toList = none ∨ some letter.data.toList = some kk) := Or.inr (by rw [hkk])
              clear hkk hga0
              go_upto_region 19 with (fail)
              generalize W6.setCell ⟨gb, 2, none⟩ _ = W5 at *
              have HGET : Hid ((seenL ct (codeLit letter)).getD (.bool false) = .bool (decide (letter.data.toList ∈ ct))) := by show _ = _; rw [HL.out]; exact seenL_get _ _
              by_cases hcn : letter.data.toList ∈ ct
              · rw [decide_eq_true hcn] at HGET
                exfalso
                exact HNC.out hcn
              · rw [decide_eq_false hcn] at HGET
                have hnc : cs2[p].gains ≤ m := (J2.out.ok _ (List.getElem_mem hp2)).2.2.1 (by rw [HG2.out]; show kk ∉ ct; rw [HPK.out]; exact hcn)
                have hex : (some letter.data.toList) = none ∨ (some letter.data.toList) = some cs2[p].k := by rw [HG2.out]; exact HEX.out
                have HST : Hid (∀ w5, Mp Tryz.prog 9 w5 cb (k + 1) (mpSet (seenL ct) (codeLit letter) (.bool true)) → W5.grownBy w5 (some cb) → w5.cell? ⟨gb, 1, none⟩ = some (.int .i64 (ga : Nat)) ∧ w5.frozen? ⟨gb, 1, none⟩ = false ∧ ∃ cs3, CK H4 w mb cb (N + (k + 1)) (k + 1) m (S + sk1) cs3 (ct ++ [kk]) none (w5.setCell ⟨gb, 1, none⟩ (.int .i64 ((ga : Int) + 1)))) := fun w5 h1 h2 => by
                  have := J2.out.gains hp2 hnc hex (by rw [HG2.out]; show Mp _ _ _ _ _ (mpSet _ (.string kk) _); rw [HPK.out]; exact h1) h2
                  rw [HG2.out] at this
                  obtain ⟨k1, k2, k3⟩ := this
                  exact ⟨k1, k2, _, k3.more (by omega) (by omega)⟩
                have hga : ga ≤ m := by rw [HG2.out] at hnc; exact hnc
                clear hcn hnc hex
                go_upto_region 21 with (first | (at_lookup; refine wpList_mp_getv _ rfl _ _ 70 rfl 9 4 strKeyed Tryz.underlying70 (.bool false) (zeroBool _) cb k (seenL ct) rfl J2.out.cn _ _ rfl HK1.out _ HGET.out ?_) | (at_mapUpdate; refine wpList_mp_set _ rfl _ _ _ 70 rfl 9 4 strKeyed Tryz.underlying70 cb k (seenL ct) rfl J2.out.cn HKM.out _ _ _ rfl rfl HK1.out ?_; intro w5 hM5 hg5 hz5; obtain ⟨c1, f1, cs3, hJ3⟩ := HST.out w5 hM5 hg5; have J3 := Lib.hid hJ3; clear hM5 hg5 hz5 hJ3))
                clear J2 HST
                go_wp2_with fail
                go_roundw
                case rel => exact ⟨k + 1, cs3, _, by omega, by go_num, by rw [HSK1.out]; exact J3⟩
                case measure => simp [intOf]; omega
        · have hke : k = l.length := by omega
          subst hke
          have hJ := J.out
          rw [List.take_of_length_le (by have := HPL.out; omega), HPS.out] at hJ
          have HF : Hid (CredPost H mb (N + 12) m S g.cents.toNat w (.returned (.tuple #[])) wr) := by
            rw [HCT.out]
            refine ⟨rfl, cs', hJ.ci.more (by omega), hJ.sum, fun d hd => ?_, hJ.inn.le HLE4.out, hJ.bel, fun d hd => ?_⟩
            · have := hJ.ok d hd
              rcases this.1 with c | c
              · exact ⟨c, this.2.1, this.2.2.2⟩
              · cases c
            · cases e : H d.g with
              | none => rfl
              | some o => exact absurd ((HLE4.out _ _ e).symm.trans (hJ.hc d hd)) (by simp)
          clear hJ J
          go_wp2_with fail
          go_end0
          exact HF.out
end Go.Proofs.YtihcmifikbkbcaaGreatDoor
