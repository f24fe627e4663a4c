/- The test of signs; that package measure reduces a fraction. -/
import Derived.Test.YtadfoaopamlnpaaExact
namespace Go.Proofs.Ytadfoaopamlnpaa
set_option linter.unusedVariables false
open Go.RowKit Hb

theorem cell2 {w1 W : World} {B n : Nat} {T : TypeId} {x y : Value} (hb : Below B W w1) (hR : W.heap[n]? = some (.cells #[x, y] T (0, 0))) (h : n < B) :
    w1.cell? ⟨n, 0, none⟩ = some x ∧ w1.cell? ⟨n, 1, none⟩ = some y ∧ w1.frozen? ⟨n, 0, none⟩ = false ∧ w1.frozen? ⟨n, 1, none⟩ = false := by
  have hR1 := (hb.block n h).trans hR
  exact ⟨by simp [World.cell?, hR1], by simp [World.cell?, hR1], by simp [World.frozen?, hR1], by simp [World.frozen?, hR1]⟩
theorem shl_val {n : Nat} (h : 2 ^ n ≤ 1152921504606846976) : wrap64 ((2 : Int) ^ n) = ((2 ^ n : Nat) : Int) := by
  have e : ((2 : Int) ^ n) = ((2 ^ n : Nat) : Int) := by simp
  rw [e]
  generalize 2 ^ n = m at h
  exact IntWalk.wrap64_in _ (by omega)

theorem S_grow (f : Nat → Nat) {a b : Nat} (h : a ≤ b) : S f a ≤ S f b := by
  induction b with
  | zero => rw [show a = 0 from by omega]; exact Nat.le_refl _
  | succ b ih =>
    by_cases e : a = b + 1
    · rw [e]; exact Nat.le_refl _
    · exact Nat.le_trans (ih (by omega)) (by rw [S]; omega)

set_option maxHeartbeats 400000 in
theorem signs_any (n k : Nat) (w : World) (hn : n ≤ 60) (hk : k ≤ n) :
    Calls Try.prog 11 #[.int .i64 n, .int .i64 k] w fun e w' =>
      e = .returned (.tuple #[frac (sgFew n k) (2 ^ n), .int .i64 0]) ∧ Below w.heap.size w w' := by
  go_enter Try.func11, Try.ntmps11
  go_wp2_with (go_at_call 40; refine (within_yes _ _ _ _ (by omega) (by omega)).mono ?_; rintro e w' ⟨rfl, rfl⟩)
  generalize hW : World.alloc w _ = W
  have HW := Lib.hid hW
  clear hW
  have bel : Below w.heap.size w W := by rw [← HW.out]; exact (Below.refl _ _).alloc (Nat.le_refl _) _
  have hR : W.heap[w.heap.size]? = some (.cells #[.int .i64 0, .int .i64 0] 28 (0, 0)) := by rw [← HW.out]; exact heap_at rfl
  clear HW
  have HF := Lib.hid (fun x => pow60 hn x)
  have ho : C n k ≤ 1152921504606846976 := HF.out k
  have ck := choose_any (n : Int) (k : Int)
  rw [Int.toNat_natCast, Int.toNat_natCast] at ck
  obtain ⟨own, hown⟩ : ∃ own, own = C n k := ⟨_, rfl⟩
  rw [← hown] at ho ck
  have HO := Lib.hid hown
  have CK := Lib.hid ck
  clear hown ck
  go_loopw [6, 21] (fun s6 s21 wr => ∃ x q : Nat, x ≤ n + 1 ∧ s21 = .int .i64 x ∧ s6 = .int .i64 (S (fun y => few own (C n y)) x) ∧ wr = W.drewN q) (fun _ t _ => n + 1 - (intOf t).toNat)
  case atStart => exact ⟨0, 0, by omega, rfl, rfl, rfl⟩
  case round =>
    obtain ⟨x, q, hx, rfl, rfl, rfl⟩ := hrel
    have b1 : S (fun y => few own (C n y)) x ≤ 1152921504606846976 := by
      refine Nat.le_trans (S_mono fun _ _ => few_le _ _) ?_
      refine Nat.le_trans (S_grow (C n) (show x ≤ n + 1 from hx)) ?_
      rw [sum_C n (n + 1) (by omega)]
      exact Nat.le_trans (Nat.pow_le_pow_right (by omega) hn) (by decide)
    have b3 := HF.out x
    have s2 := Lib.hid (show S (fun y => few own (C n y)) (x + 1) = S (fun y => few own (C n y)) x + few own (C n x) from rfl)
    generalize hF : S (fun y => few own (C n y)) x = F at b1 s2 ⊢
    have GF := Lib.hid hF
    clear hF
    by_cases hlt : x < n + 1
    · go_wp2_with fail
      refine (choose_any (n : Int) (x : Int) _ (by omega) (by omega) (by omega)).mono ?_
      rintro e w' ⟨rfl, q1, rfl⟩
      rw [Int.toNat_natCast, Int.toNat_natCast]
      by_cases hle : C n x ≤ own
      · have hf : Hid (few own (C n x) = C n x) := if_pos hle
        rw [hf.out] at s2
        generalize C n x = v at s2 b3 hle ⊢
        clear hf
        go_wp2_with fail
        refine (CK.out _ (by omega) (by omega) (by omega)).mono ?_
        rintro e w' ⟨rfl, q2, rfl⟩
        go_wp2_with fail
        go_roundw
        case rel => exact ⟨x + 1, q + q1 + q2, by omega, by go_num, by rw [s2.out]; go_num, rfl⟩
        case measure => simp [intOf]; omega
      · have hf : Hid (few own (C n x) = 0) := if_neg hle
        rw [hf.out] at s2
        generalize C n x = v at s2 b3 hle ⊢
        clear hf
        go_wp2_with fail
        refine (CK.out _ (by omega) (by omega) (by omega)).mono ?_
        rintro e w' ⟨rfl, q2, rfl⟩
        go_wp2_with fail
        go_roundw
        case rel => exact ⟨x + 1, q + q1 + q2, by omega, by go_num, by rw [s2.out]; go_num, rfl⟩
        case measure => simp [intOf]; omega
    · go_wp2_with fail
      have hp : 2 ^ n ≤ 1152921504606846976 := Nat.le_trans (Nat.pow_le_pow_right (by omega) hn) (by decide)
      rw [shl_val hp]
      have pA : 0 < 2 ^ n := Nat.pow_pos (by omega)
      generalize hA : 2 ^ n = A at hp pA ⊢
      have GA := Lib.hid hA
      clear hA
      refine (reduce_any F A _ (by omega) (by omega) pA).mono ?_
      rintro e w1 ⟨rfl, hb1⟩
      have hb2 : Below W.heap.size W w1 := (below_drewN (Below.refl _ W) q).trans hb1
      have hR1 : w1.heap[w.heap.size]? = some (.cells #[.int .i64 0, .int .i64 0] 28 (0, 0)) := (hb2.block _ (lt_of_heap hR)).trans hR
      have r0 : w1.cell? ⟨w.heap.size, 0, none⟩ = some (.int .i64 0) := by simp [World.cell?, hR1]
      have r1 : w1.cell? ⟨w.heap.size, 1, none⟩ = some (.int .i64 0) := by simp [World.cell?, hR1]
      have f0 : w1.frozen? ⟨w.heap.size, 0, none⟩ = false := by simp [World.frozen?, hR1]
      have f1 : w1.frozen? ⟨w.heap.size, 1, none⟩ = false := by simp [World.frozen?, hR1]
      clear hR1 hb1
      unfold frac
      go_wp2_with fail
      refine bodyPost_ret (v := .tuple #[.agg #[.int .i64 ((F : Int) / (Nat.gcd F A : Nat)), .int .i64 ((A : Int) / (Nat.gcd F A : Nat))], .int .i64 0]) (by simp [results, Try.results11, go_sem, r0, r1]) rfl ⟨?_, ?_⟩
      · have eF : F = sgFew n k := by rw [← GF.out, show x = n + 1 from by omega, HO.out]; rfl
        rw [GA.out, ← eF]
        unfold frac
        simp
      · exact ((bel.trans (hb2.mono bel.size)).setCell (Nat.le_refl _) _).setCell (Nat.le_refl _) _

set_option maxHeartbeats 400000 in
theorem Reduce24 (w : World) :
    Calls Try.prog 41 #[.int .i64 2, .int .i64 4] w fun e w' =>
      e = .returned (.tuple #[.agg #[.int .i64 1, .int .i64 2], .int .i64 0]) ∧ Below w.heap.size w w' := by
  go_enter Try.func41, Try.ntmps41
  go_wp2_with (go_at_call 40; refine (within_yes _ _ _ _ (by omega) (by omega)).mono ?_; rintro e w' ⟨rfl, rfl⟩)
  refine (reduce_any 2 4 _ (by omega) (by omega) (by omega)).mono ?_
  rintro e w1 ⟨rfl, hb1⟩
  obtain ⟨r0, r1, f0, f1⟩ := cell2 hb1 (heap_at rfl) (by simp)
  rw [show frac 2 4 = .agg #[.int .i64 1, .int .i64 2] from rfl]
  go_wp2_with fail
  refine bodyPost_ret (v := .tuple #[.agg #[.int .i64 1, .int .i64 2], .int .i64 0]) (by simp [results, Try.results41, go_sem, r0, r1]) rfl ⟨rfl, ?_⟩
  exact ((((Below.refl _ w).alloc (Nat.le_refl _) _).trans (hb1.mono (by simp))).setCell (Nat.le_refl _) _).setCell (Nat.le_refl _) _

set_option maxHeartbeats 400000 in
theorem measures_any (w : World) :
    Calls Try.prog 12 #[] w fun e w' => e = .returned (.bool true) ∧ Below w.heap.size w w' := by
  go_enter Try.func12, Try.ntmps12
  go_wp2_with (go_at_call 41; refine (Reduce24 _).mono ?_; rintro e w1 ⟨rfl, hb1⟩)
  go_ret
  exact ⟨rfl, hb1.alloc hb1.size _⟩
end Go.Proofs.Ytadfoaopamlnpaa
