/- The exact test of a table: what Exact returns. -/
import Derived.Test.YtadfoaopamlnpaaMeas
namespace Go.Proofs.Ytadfoaopamlnpaa
set_option linter.unusedVariables false
open Go.RowKit Hb

theorem ints4 {W : World} {n : Nat} {a b c d : Int} {T : TypeId} (h : W.heap[n]? = some (.cells #[.int .i64 a, .int .i64 b, .int .i64 c, .int .i64 d] T (0, 0))) :
    Ints W (some ⟨n, 0, none⟩) [a, b, c, d] := by
  intro i hi
  refine ⟨n, 0, rfl, ?_⟩
  simp only [World.cell?, h]
  simp only [List.length_cons, List.length_nil] at hi
  match i, hi with
  | 0, _ => rfl
  | 1, _ => rfl
  | 2, _ => rfl
  | 3, _ => rfl


theorem ways_le {a b c d : Nat} (x : Nat) (ha : a ≤ 14) (hb : b ≤ 14) (hc : c ≤ 14) (hd : d ≤ 14) : Hb.ways a b c d x ≤ 72057594037927936 := by
  unfold Hb.ways
  split
  · have h1 : C (a + b) x ≤ 2 ^ 28 := Nat.le_trans (C_le _ _) (Nat.pow_le_pow_right (by omega) (by omega))
    have h2 : C (c + d) (a + c - x) ≤ 2 ^ 28 := Nat.le_trans (C_le _ _) (Nat.pow_le_pow_right (by omega) (by omega))
    exact Nat.le_trans (Nat.mul_le_mul h1 h2) (by decide)
  · omega

theorem ways_nat (x a b c d : Nat) (pa pb pc pd : Addr) (w : World)
    (h1 : w.cell? pa = some (.int .i64 a)) (h2 : w.cell? pb = some (.int .i64 b)) (h3 : w.cell? pc = some (.int .i64 c)) (h4 : w.cell? pd = some (.int .i64 d))
    (ha : a ≤ 14) (hb : b ≤ 14) (hc : c ≤ 14) (hd : d ≤ 14) (hx : x ≤ a + c) :
    Calls Try.prog 37 #[.int .i64 x, .pointer (some pa), .pointer (some pb), .pointer (some pc), .pointer (some pd)] w fun e w' =>
      e = .returned (.int .i64 (Hb.ways a b c d x)) ∧ ∃ m, w' = w.drewN m := by
  refine (ways_any x pa pb pc pd a b c d w h1 h2 h3 h4 (by omega) (by omega) (by omega) (by omega) (by omega) (by omega) (by omega) (by omega)).mono fun e w' ⟨he, hw⟩ => ⟨?_, hw⟩
  rw [he]
  have hl := ways_le (a := a) (b := b) (c := c) (d := d) x ha hb hc hd
  have e1 : ((a : Int) + b).toNat = a + b := by omega
  have e2 : ((c : Int) + d).toNat = c + d := by omega
  have e3 : ((a : Int) + c - x).toNat = a + c - x := by omega
  rw [e1, e2, e3, Int.toNat_natCast, ← Int.natCast_mul]
  unfold Hb.ways at hl ⊢
  rw [if_pos hx] at hl ⊢
  exact ret_int (IntWalk.wrap64_in _ (by omega))

set_option maxHeartbeats 400000 in
theorem exact_any (a b c d : Nat) (w : World) (ha : a ≤ 14) (hb : b ≤ 14) (hc : c ≤ 14) (hd : d ≤ 14) :
    Calls Try.prog 10 #[.int .i64 a, .int .i64 b, .int .i64 c, .int .i64 d] w fun e w' =>
      e = .returned (.tuple #[frac (exFew a b c d) (exAll a b c d), .int .i64 0]) ∧ Below w.heap.size w w' := by
  go_enter Try.func10, Try.ntmps10
  go_wp2_with fail
  generalize hW : World.alloc (World.alloc (World.alloc (World.alloc (World.alloc (World.alloc w _) _) _) _) _) _ = W
  have HW := Lib.hid hW
  clear hW
  have bel : Below w.heap.size w W := by
    rw [← HW.out]
    exact ((((((Below.refl _ _).alloc (Nat.le_refl _) _).alloc (by simp) _).alloc (by simp; omega) _).alloc (by simp; omega) _).alloc (by simp; omega) _).alloc (by simp; omega) _
  have ca : W.cell? ⟨w.heap.size, 0, none⟩ = some (.int .i64 a) := by rw [← HW.out]; go_simp
  have cb : W.cell? ⟨w.heap.size + 1, 0, none⟩ = some (.int .i64 b) := by rw [← HW.out]; go_simp
  have cc : W.cell? ⟨w.heap.size + 1 + 1, 0, none⟩ = some (.int .i64 c) := by rw [← HW.out]; go_simp
  have cd : W.cell? ⟨w.heap.size + 1 + 1 + 1, 0, none⟩ = some (.int .i64 d) := by rw [← HW.out]; go_simp
  have hI : Ints W (some ⟨w.heap.size + 1 + 1 + 1 + 1 + 1, 0, none⟩) [(a : Int), b, c, d] := by
    apply ints4 (T := 3)
    rw [← HW.out]
    exact heap_at (by simp)
  have hR : W.heap[w.heap.size + 1 + 1 + 1 + 1]? = some (.cells #[.int .i64 0, .int .i64 0] 28 (0, 0)) := by
    rw [← HW.out, heap_lt (by simp)]
    exact heap_at (by simp)
  clear HW
  have HI := Lib.hid hI
  clear hI
  refine (min_any _ _ [(a : Int), b, c, d] W HI.out (by simp) (by simp)).mono ?_
  rintro e w' ⟨⟨z, hz, rfl⟩, rfl⟩
  have hz1 : 0 ≤ z := by have := hz.out; simp at this; omega
  go_wp2_with fail
  refine (max_any _ _ [(a : Int), b, c, d] W HI.out (by simp) (by simp)).mono ?_
  rintro e w' ⟨⟨y, hy, rfl⟩, rfl⟩
  have hy1 : y ≤ 14 := by have := hy.out; simp at this; omega
  clear hz hy
  go_wp2_with fail
  refine (sumOf_any _ _ [(a : Int), b, c, d] W HI.out (by simp; omega) (by simp)).mono ?_
  rintro e w' ⟨rfl, rfl⟩
  have hs : [(a : Int), b, c, d].sum = (a : Int) + b + c + d := by simp [List.sum_cons]; omega
  rw [hs]
  clear hs
  go_wp2_with fail
  refine (ways_nat a a b c d _ _ _ _ _ ca cb cc cd ha hb hc hd (by omega)).mono ?_
  rintro e w' ⟨rfl, q0, rfl⟩
  have HF := Lib.hid (fun x => ways_le (a := a) (b := b) (c := c) (d := d) x ha hb hc hd)
  have ho : Hb.ways a b c d a ≤ 72057594037927936 := HF.out a
  obtain ⟨own, hown⟩ : ∃ own, own = Hb.ways a b c d a := ⟨_, rfl⟩
  rw [← hown] at ho ⊢
  have HO := Lib.hid hown
  clear hown
  go_wp2_with fail
  go_loopw [13, 14, 43] (fun s13 s14 s43 wr => ∃ x q : Nat, x ≤ a + c + 1 ∧ s43 = .int .i64 x ∧ s13 = .int .i64 (S (fun y => few own (Hb.ways a b c d y)) x) ∧ s14 = .int .i64 (S (Hb.ways a b c d) x) ∧ wr = W.drewN q) (fun _ _ t _ => a + c + 1 - (intOf t).toNat)
  case atStart => exact ⟨0, q0, by omega, rfl, rfl, rfl, rfl⟩
  case round =>
    obtain ⟨x, q, hx, rfl, rfl, rfl, rfl⟩ := hrel
    have b1 : S (Hb.ways a b c d) x ≤ x * 72057594037927936 := S_le fun y _ => HF.out y
    have b2 : S (fun y => few own (Hb.ways a b c d y)) x ≤ S (Hb.ways a b c d) x := S_mono fun _ _ => few_le _ _
    have b3 := HF.out x
    have s1 := Lib.hid (show S (Hb.ways a b c d) (x + 1) = S (Hb.ways a b c d) x + Hb.ways a b c d x from rfl)
    have s2 := Lib.hid (show S (fun y => few own (Hb.ways a b c d y)) (x + 1) = S (fun y => few own (Hb.ways a b c d y)) x + few own (Hb.ways a b c d x) from rfl)
    generalize hA : S (Hb.ways a b c d) x = A at b1 b2 s1 ⊢
    generalize hF : S (fun y => few own (Hb.ways a b c d y)) x = F at b2 s2 ⊢
    have GA := Lib.hid hA
    have GF := Lib.hid hF
    clear hA hF
    by_cases hlt : x < a + c + 1
    · go_wp2_with fail
      refine (ways_nat x a b c d _ _ _ _ _ (by simpa using ca) (by simpa using cb) (by simpa using cc) (by simpa using cd) ha hb hc hd (by omega)).mono ?_
      rintro e w' ⟨rfl, q1, rfl⟩
      by_cases hle : Hb.ways a b c d x ≤ own
      · have hf : Hid (few own (Hb.ways a b c d x) = Hb.ways a b c d x) := if_pos hle
        rw [hf.out] at s2
        generalize Hb.ways a b c d x = v at s1 s2 b3 hle ⊢
        clear hf
        go_wp2_with fail
        go_roundw
        case rel => exact ⟨x + 1, q + q1, by omega, by go_num, by rw [s2.out]; go_num, by rw [s1.out]; go_num, rfl⟩
        case measure => simp [intOf]; omega
      · have hf : Hid (few own (Hb.ways a b c d x) = 0) := if_neg hle
        rw [hf.out] at s2
        generalize Hb.ways a b c d x = v at s1 s2 b3 hle ⊢
        clear hf
        go_wp2_with fail
        go_roundw
        case rel => exact ⟨x + 1, q + q1, by omega, by go_num, by rw [s2.out]; go_num, by rw [s1.out]; go_num, rfl⟩
        case measure => simp [intOf]; omega
    · go_wp2_with fail
      have ex : x = a + c + 1 := by omega
      have eA : A = exAll a b c d := by rw [← GA.out, ex]; rfl
      have eF : F = exFew a b c d := by rw [← GF.out, ex, HO.out]; rfl
      have pA : 0 < A := by have h1 := exFew_pos a b c d; have h2 := exFew_le a b c d; omega
      refine (reduce_any F A _ (by omega) (by omega) pA).mono ?_
      rintro e w1 ⟨rfl, hb1⟩
      have hb2 : Below W.heap.size W w1 := (below_drewN (Below.refl _ W) q).trans hb1
      have hR1 : w1.heap[w.heap.size + 1 + 1 + 1 + 1]? = some (.cells #[.int .i64 0, .int .i64 0] 28 (0, 0)) := (hb2.block _ (lt_of_heap hR)).trans hR
      have r0 : w1.cell? ⟨w.heap.size + 1 + 1 + 1 + 1, 0, none⟩ = some (.int .i64 0) := by simp [World.cell?, hR1]
      have r1 : w1.cell? ⟨w.heap.size + 1 + 1 + 1 + 1, 1, none⟩ = some (.int .i64 0) := by simp [World.cell?, hR1]
      have f0 : w1.frozen? ⟨w.heap.size + 1 + 1 + 1 + 1, 0, none⟩ = false := by simp [World.frozen?, hR1]
      have f1 : w1.frozen? ⟨w.heap.size + 1 + 1 + 1 + 1, 1, none⟩ = false := by simp [World.frozen?, hR1]
      clear hR1 hb1 eA eF ex
      unfold frac
      go_wp2_with fail
      refine bodyPost_ret (v := .tuple #[.agg #[.int .i64 ((F : Int) / (Nat.gcd F A : Nat)), .int .i64 ((A : Int) / (Nat.gcd F A : Nat))], .int .i64 0]) (by simp [results, Try.results10, go_sem, r0, r1]) rfl ⟨?_, ?_⟩
      · have eA : A = exAll a b c d := by rw [← GA.out, show x = a + c + 1 from by omega]; rfl
        have eF : F = exFew a b c d := by rw [← GF.out, show x = a + c + 1 from by omega, HO.out]; rfl
        rw [← eA, ← eF]
        unfold frac
        simp
      · exact (bel.trans (hb2.mono bel.size)).setCell (by simp; omega) _ |>.setCell (by simp; omega) _

set_option maxHeartbeats 400000 in
theorem within_any (n l h : Int) (w : World) : Calls Try.prog 40 #[.int .i64 n, .int .i64 l, .int .i64 h] w fun e w' => e = .returned (.bool (decide (l ≤ n) && decide (n ≤ h))) ∧ w = w' := by
  by_cases h1 : l ≤ n
  · go_enter Try.func40, Try.ntmps40
    go_wp2
    go_ret
    exact ⟨by simp [h1], rfl⟩
  · go_enter Try.func40, Try.ntmps40
    go_wp2
    go_ret
    exact ⟨by simp; omega, rfl⟩

set_option maxHeartbeats 400000 in
theorem within_yes (n l h : Int) (w : World) (h1 : l ≤ n) (h2 : n ≤ h) : Calls Try.prog 40 #[.int .i64 n, .int .i64 l, .int .i64 h] w fun e w' => e = .returned (.bool true) ∧ w = w' :=
  (within_any n l h w).mono fun e w' ⟨he, hw⟩ => ⟨by rw [he]; simp [h1, h2], hw⟩

end Go.Proofs.Ytadfoaopamlnpaa
