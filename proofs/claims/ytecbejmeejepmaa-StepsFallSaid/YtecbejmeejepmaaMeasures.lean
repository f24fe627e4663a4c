/- The package measure is there: it reduces a fraction. -/
import Derived.Test.YtecbejmeejepmaaCheckSent
import Derived.LoopTactic
namespace Go.Proofs.Ytecbejmeejepmaa
set_option linter.unusedVariables false
open Go.RowKit

theorem gcd_step {x y : Nat} (_h : ¬ y = 0) : Nat.gcd y (x % y) = Nat.gcd x y := by
  rw [Nat.gcd_comm x y, Nat.gcd_rec y x, Nat.gcd_comm]

set_option maxHeartbeats 400000 in
theorem divisor_any (a b : Nat) (w : World) (_ha : a < 18446744073709551616) (_hb : b < 18446744073709551616) :
    Calls Try.prog 36 #[.int .u64 a, .int .u64 b] w fun e w' => e = .returned (.int .u64 (Nat.gcd a b)) ∧ ∃ n, w' = w.drewN n := by
  go_enter Try.func36, Try.ntmps36
  go_wp2
  go_loopw [0, 1] (fun s t wr => ∃ x y n : Nat, s = .int .u64 x ∧ t = .int .u64 y ∧ wr = w.drewN n ∧ x < 18446744073709551616 ∧ y < 18446744073709551616 ∧ Hid (Nat.gcd x y = Nat.gcd a b)) (fun _ t _ => (intOf t).toNat)
  case atStart => exact ⟨a, b, 0, rfl, rfl, rfl, _ha, _hb, rfl⟩
  case round =>
    obtain ⟨x, y, n, rfl, rfl, rfl, hx, hy, hg⟩ := hrel
    by_cases h0 : y = 0
    · subst h0
      go_wp2
      go_ret
      exact ⟨ret_int (by have := hg.out; rw [Nat.gcd_zero_right] at this; rw [this]), n, rfl⟩
    · have h1 : ((y : Int) != 0) = true := by simp; omega
      go_wp2
      go_quiet (fail)
      go_wp2
      go_roundw
      case rel => exact ⟨y, x % y, n + nq, rfl, by go_num, World.drewN_drewN _ _ _, hy, Nat.lt_trans (Nat.mod_lt _ (by omega)) hy, (gcd_step h0).trans hg⟩
      case measure => simp only [intOf]; have := Nat.mod_lt x (show 0 < y by omega); omega

theorem divisor_int (a b : Int) (w : World) (h1 : 0 ≤ a) (h2 : a < 18446744073709551616) (h3 : 0 ≤ b) (h4 : b < 18446744073709551616) :
    Calls Try.prog 36 #[.int .u64 a, .int .u64 b] w fun e w' => e = .returned (.int .u64 (Nat.gcd a.toNat b.toNat)) ∧ ∃ n, w' = w.drewN n := by
  obtain ⟨x, rfl⟩ := Int.eq_ofNat_of_zero_le h1
  obtain ⟨y, rfl⟩ := Int.eq_ofNat_of_zero_le h3
  exact divisor_any x y w (by omega) (by omega)

theorem ret_nat {k : IntKind} {a : Int} {b : Nat} (h : a = (b : Int)) : Ending.returned (.int k a) = .returned (.int k b) := by rw [h]

set_option maxHeartbeats 400000 in
theorem size_any (n : Int) (w : World) (h0 : 0 ≤ n) (h1 : n ≤ 9223372036854775807) :
    Calls Try.prog 37 #[.int .i64 n] w fun e w' => e = .returned (.int .u64 n) ∧ w = w' := by
  go_enter Try.func37, Try.ntmps37
  go_wp2
  go_ret
  exact ⟨rfl, rfl⟩

theorem div_in (a g : Nat) (h : a ≤ 9223372036854775807) : wrap64 ((a : Int) / g) = ((a / g : Nat) : Int) := by
  have h1 : a / g ≤ a := Nat.div_le_self _ _
  have e : ((a : Int) / g) = ((a / g : Nat) : Int) := by simp
  rw [e]
  generalize a / g = q at h1
  exact IntWalk.wrap64_in _ (by omega)

/-- A fraction as reduce makes it. -/
def frac (num den : Nat) : Value := .agg #[.int .i64 (num / Nat.gcd num den : Nat), .int .i64 (den / Nat.gcd num den : Nat)]

set_option maxHeartbeats 400000 in
theorem reduce_any (num den : Nat) (w : World) (hn : num ≤ 9223372036854775807) (hd : den ≤ 9223372036854775807) (hd0 : 0 < den) :
    Calls Try.prog 27 #[.int .i64 num, .int .i64 den] w fun e w' => e = .returned (frac num den) ∧ Below w.heap.size w w' := by
  have hg : 1 ≤ Nat.gcd num den := Nat.gcd_pos_of_pos_right _ hd0
  have hg2 : Nat.gcd num den ≤ den := Nat.gcd_le_right _ hd0
  unfold frac
  go_enter Try.func27, Try.ntmps27
  go_wp2_with (go_at_call 37; refine (size_any _ _ (by omega) (by omega)).mono ?_; rintro e w' ⟨rfl, rfl⟩)
  refine (divisor_int _ _ _ (by omega) (by omega) (by omega) (by omega)).mono ?_
  rintro e w' ⟨rfl, q1, rfl⟩
  rw [Int.toNat_natCast, Int.toNat_natCast]
  generalize hgd : Nat.gcd num den = g at hg hg2 ⊢
  have HG := Lib.hid hgd
  clear hgd
  go_wp2_with fail
  go_region
  go_wp2_with fail
  refine bodyPost_ret (v := .agg #[.int .i64 (wrap64 ((num : Int) / g)), .int .i64 (wrap64 ((den : Int) / g))]) (by simp [results, Try.results27, go_sem]) rfl ⟨?_, ?_⟩
  · rw [HG.out, div_in num g hn, div_in den g hd]
  · exact ((below_drewN ((Below.refl _ _).alloc (Nat.le_refl _) _) _).setCell (Nat.le_refl _) _).setCell (Nat.le_refl _) _

theorem cell2 {w1 W : World} {B n : Nat} {T : TypeId} {x y : Value} (hb : Below B W w1) (hR : W.heap[n]? = some (.cells #[x, y] T (0, 0))) (h : n < B) :
    w1.cell? ⟨n, 0, none⟩ = some x ∧ w1.cell? ⟨n, 1, none⟩ = some y ∧ w1.frozen? ⟨n, 0, none⟩ = false ∧ w1.frozen? ⟨n, 1, none⟩ = false := by
  have hR1 := (hb.block n h).trans hR
  exact ⟨by simp [World.cell?, hR1], by simp [World.cell?, hR1], by simp [World.frozen?, hR1], by simp [World.frozen?, hR1]⟩

set_option maxHeartbeats 400000 in
theorem Reduce24 (w : World) :
    Calls Try.prog 22 #[.int .i64 2, .int .i64 4] w fun e w' =>
      e = .returned (.tuple #[.agg #[.int .i64 1, .int .i64 2], .int .i64 0]) ∧ Below w.heap.size w w' := by
  go_enter Try.func22, Try.ntmps22
  go_wp2_with (go_at_call 18; refine (mwithin_any _ _ _ _).mono ?_; rintro e w' ⟨rfl, rfl⟩)
  refine (reduce_any 2 4 _ (by omega) (by omega) (by omega)).mono ?_
  rintro e w1 ⟨rfl, hb1⟩
  obtain ⟨r0, r1, f0, f1⟩ := cell2 hb1 (heap_at rfl) (by simp)
  rw [show frac 2 4 = .agg #[.int .i64 1, .int .i64 2] from rfl]
  go_wp2_with fail
  refine bodyPost_ret (v := .tuple #[.agg #[.int .i64 1, .int .i64 2], .int .i64 0]) (by simp [results, Try.results22, go_sem, r0, r1]) rfl ⟨rfl, ?_⟩
  exact ((((Below.refl _ w).alloc (Nat.le_refl _) _).trans (hb1.mono (by simp))).setCell (Nat.le_refl _) _).setCell (Nat.le_refl _) _

set_option maxHeartbeats 400000 in
theorem measures_any (w : World) :
    Calls Try.prog 8 #[] w fun e w' => e = .returned (.bool true) ∧ Below w.heap.size w w' := by
  go_enter Try.func8, Try.ntmps8
  go_wp2_with (go_at_call 22; refine (Reduce24 _).mono ?_; rintro e w1 ⟨rfl, hb1⟩)
  go_ret
  exact ⟨rfl, hb1.alloc hb1.size _⟩

end Go.Proofs.Ytecbejmeejepmaa
