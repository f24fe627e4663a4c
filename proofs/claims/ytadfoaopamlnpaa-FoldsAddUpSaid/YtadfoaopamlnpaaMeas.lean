/- The exact numbers of package measure: divisor, choose, sums, least and greatest, reduce. -/
import Derived.Test.YtadfoaopamlnpaaPick
import Derived.Test.YtadfoaopamlnpaaExa
import Derived.LoopTactic
import Derived.Lib.Hide
namespace Go.Proofs.Ytadfoaopamlnpaa
set_option linter.unusedVariables false
open Go.RowKit Hb

theorem gcd_step {x y : Nat} (_h : ¬ y = 0) : Nat.gcd y (x % y) = Nat.gcd x y := by
  rw [Nat.gcd_comm x y, Nat.gcd_rec y x, Nat.gcd_comm]

set_option maxHeartbeats 400000 in
theorem divisor_any (a b : Nat) (w : World) (_ha : a < 18446744073709551616) (_hb : b < 18446744073709551616) :
    Calls Try.prog 78 #[.int .u64 a, .int .u64 b] w fun e w' => e = .returned (.int .u64 (Nat.gcd a b)) ∧ ∃ n, w' = w.drewN n := by
  go_enter Try.func78, Try.ntmps78
  go_wp2
  go_loopw [0, 1] (fun s t wr => ∃ x y n : Nat, s = .int .u64 x ∧ t = .int .u64 y ∧ wr = w.drewN n ∧ x < 18446744073709551616 ∧ y < 18446744073709551616 ∧ Hid (Nat.gcd x y = Nat.gcd a b)) (fun _ t _ => (intOf t).toNat)
  case atStart => exact ⟨a, b, 0, rfl, rfl, rfl, _ha, _hb, rfl⟩
  case round =>
    obtain ⟨x, y, n, rfl, rfl, rfl, hx, hy, hg⟩ := hrel
    by_cases h0 : y = 0
    · subst h0
      go_wp2
      go_ret
      exact ⟨ret_int (by have := hg.out; rw [Nat.gcd_zero_right] at this; rw [this]), n, rfl⟩
    · have h1 : ((y : Int) != 0) = true := by simp; omega
      go_wp2
      go_quiet (fail)
      go_wp2
      go_roundw
      case rel => exact ⟨y, x % y, n + nq, rfl, by go_num, World.drewN_drewN _ _ _, hy, Nat.lt_trans (Nat.mod_lt _ (by omega)) hy, (gcd_step h0).trans hg⟩
      case measure => simp only [intOf]; have := Nat.mod_lt x (show 0 < y by omega); omega


theorem divisor_int (a b : Int) (w : World) (h1 : 0 ≤ a) (h2 : a < 18446744073709551616) (h3 : 0 ≤ b) (h4 : b < 18446744073709551616) :
    Calls Try.prog 78 #[.int .u64 a, .int .u64 b] w fun e w' => e = .returned (.int .u64 (Nat.gcd a.toNat b.toNat)) ∧ ∃ n, w' = w.drewN n := by
  obtain ⟨x, rfl⟩ := Int.eq_ofNat_of_zero_le h1
  obtain ⟨y, rfl⟩ := Int.eq_ofNat_of_zero_le h3
  exact divisor_any x y w (by omega) (by omega)

theorem ret_nat {k : IntKind} {a : Int} {b : Nat} (h : a = (b : Int)) : Ending.returned (.int k a) = .returned (.int k b) := by rw [h]

set_option maxHeartbeats 400000 in
theorem choose_far (n k : Int) (w : World) (hk : k < 0 ∨ n < k) :
    Calls Try.prog 38 #[.int .i64 n, .int .i64 k] w fun e w' => e = .returned (.int .i64 0) ∧ ∃ m, w' = w.drewN m := by
  by_cases h0 : k < 0
  · go_enter Try.func38, Try.ntmps38
    go_wp2
    go_ret
    exact ⟨rfl, 0, rfl⟩
  · have h1 : n < k := by omega
    have h2 : 0 ≤ k := by omega
    clear hk h0
    go_enter Try.func38, Try.ntmps38
    go_wp2
    go_ret
    exact ⟨rfl, 0, rfl⟩


theorem gcd_facts (a i : Nat) (h : 0 < a) : 1 ≤ Nat.gcd a (i + 1) ∧ Nat.gcd a (i + 1) ≤ i + 1 :=
  ⟨Nat.gcd_pos_of_pos_left _ h, Nat.gcd_le_right _ (by omega)⟩
theorem pow60 {n : Nat} (h : n ≤ 60) (k : Nat) : C n k ≤ 1152921504606846976 :=
  Nat.le_trans (C_le n k) (Nat.le_trans (Nat.pow_le_pow_right (by omega) h) (by decide))

theorem choose_val {n i d : Nat} (hn : n ≤ 60) (hd : 1 ≤ d) (hi : i ≤ n) (h : C n i / d * ((n - i) / ((i + 1) / d)) = C n (i + 1)) :
    wrap64 (wrap64 ((C n i : Int) / d) * (((n : Int) - i) / (((i : Int) + 1) / d))) = (C n (i + 1) : Nat) := by
  have h1 := pow60 hn i
  have h2 := pow60 hn (i + 1)
  have e1 : ((C n i : Int) / d) = ((C n i / d : Nat) : Int) := by simp
  have h3 : C n i / d ≤ C n i := Nat.div_le_self _ _
  have hw1 : wrap64 ((C n i / d : Nat) : Int) = ((C n i / d : Nat) : Int) := by
    generalize C n i / d = t at h3
    exact IntWalk.wrap64_in _ (by omega)
  rw [e1, hw1]
  have e2 : (((n : Int) - i) / (((i : Int) + 1) / d)) = (((n - i) / ((i + 1) / d) : Nat) : Int) := by
    rw [Int.natCast_ediv, Int.natCast_ediv, Int.natCast_sub hi]; simp
  rw [e2, ← Int.natCast_mul, h, IntWalk.wrap64_in _ (by omega)]

set_option maxHeartbeats 400000 in
theorem choose_near (n k : Nat) (w : World) (hk : k ≤ n) (hn : n ≤ 60) :
    Calls Try.prog 38 #[.int .i64 n, .int .i64 k] w fun e w' => e = .returned (.int .i64 (C n k)) ∧ ∃ m, w' = w.drewN m := by
  have hm : ∃ m : Nat, Hid (C n m = C n k) ∧ m ≤ n ∧ m ≤ k ∧ m ≤ n - k ∧ (k ≤ n - k → k ≤ m) ∧ (¬ k ≤ n - k → n - k ≤ m) := by
    by_cases h : k ≤ n - k
    · exact ⟨k, rfl, hk, Nat.le_refl _, h, fun _ => Nat.le_refl _, fun g => absurd h g⟩
    · exact ⟨n - k, C_symm hk, by omega, by omega, Nat.le_refl _, fun g => absurd g h, fun _ => Nat.le_refl _⟩
  obtain ⟨m, hc, hmn, hm1, hm2, hm3, hm4⟩ := hm
  have hk1 : decide ((k : Int) < 0) = false := by simp
  have hk2 : ¬ n < k := by omega
  have H3 : Hid (k ≤ n - k → k ≤ m) := hm3
  have H4 : Hid (¬ k ≤ n - k → n - k ≤ m) := hm4
  clear hm3 hm4
  by_cases hle : (k : Int) ≤ n - k
  all_goals
    first
      | have hM : k ≤ m := H3.out (by omega)
      | have hM : (n : Int) - k ≤ m := by have := H4.out (by omega); omega
    clear H3 H4
    go_enter Try.func38, Try.ntmps38
    go_wp2
    go_loopw [5, 20] (fun o t wr => ∃ i q : Nat, i ≤ m ∧ t = .int .i64 i ∧ o = .int .i64 (C n i) ∧ wr = w.drewN q) (fun _ t _ => m - (intOf t).toNat)
    case atStart => exact ⟨0, 0, Nat.zero_le _, rfl, by rw [C_zero]; rfl, rfl⟩
    case round =>
      obtain ⟨i, q, hi, rfl, rfl, rfl⟩ := hrel
      have hb := pow60 hn i
      by_cases hlt : i < m
      · go_wp2_with fail
        refine (divisor_int _ _ _ (by omega) (by omega) (by omega) (by omega)).mono ?_
        rintro e w' ⟨rfl, q1, rfl⟩
        have hd := gcd_facts (C n i) i (C_pos (show i ≤ n by omega))
        have ht : (↑i + 1 : Int).toNat = i + 1 := by omega
        rw [ht, Int.toNat_natCast]
        have hv := choose_round (show i < n by omega)
        generalize Nat.gcd (C n i) (i + 1) = d at hd hv ⊢
        have HV := Lib.hid hv
        clear hv
        obtain ⟨hd1, hd2⟩ := hd
        have hq : (1 : Int) ≤ ((i : Int) + 1) / d := by rw [Int.le_ediv_iff_mul_le (by omega)]; omega
        go_wp2_with fail
        go_quiet (fail)
        go_wp2_with fail
        go_roundw
        case rel => exact ⟨i + 1, q + q1 + nq, by omega, by go_num, congrArg _ (choose_val hn (by omega) (by omega) HV.out), rfl⟩
        case measure => simp [intOf]; omega
      · go_wp2_with fail
        go_ret
        exact ⟨ret_int (by rw [← hc.out, show i = m from by omega]), q, rfl⟩

/-- choose, at numbers that are not below 0. -/
theorem choose_any (n k : Int) (w : World) (h0 : 0 ≤ n) (hn : n ≤ 60) (hk : 0 ≤ k) :
    Calls Try.prog 38 #[.int .i64 n, .int .i64 k] w fun e w' => e = .returned (.int .i64 (C n.toNat k.toNat)) ∧ ∃ m, w' = w.drewN m := by
  obtain ⟨a, rfl⟩ := Int.eq_ofNat_of_zero_le h0
  obtain ⟨b, rfl⟩ := Int.eq_ofNat_of_zero_le hk
  by_cases h : b ≤ a
  · exact choose_near a b w h (by omega)
  · refine (choose_far a b w (.inr (by omega))).mono fun e w' ⟨he, hw⟩ => ⟨?_, hw⟩
    rw [he, Int.toNat_natCast, Int.toNat_natCast, C_gt (by omega)]
    rfl

set_option maxHeartbeats 400000 in
/-- The closure 'ways' of Exact, over its four captured variables. -/
theorem ways_any (x : Int) (pa pb pc pd : Addr) (a b c d : Int) (w : World)
    (ha : w.cell? pa = some (.int .i64 a)) (hb : w.cell? pb = some (.int .i64 b)) (hc : w.cell? pc = some (.int .i64 c)) (hd : w.cell? pd = some (.int .i64 d))
    (h1 : 0 ≤ a) (h2 : 0 ≤ b) (h3 : 0 ≤ c) (h4 : 0 ≤ d) (hab : a + b ≤ 60) (hcd : c + d ≤ 60) (hx : 0 ≤ x) (hx2 : x ≤ a + c) :
    Calls Try.prog 37 #[.int .i64 x, .pointer (some pa), .pointer (some pb), .pointer (some pc), .pointer (some pd)] w fun e w' =>
      e = .returned (.int .i64 (wrap64 ((C (a + b).toNat x.toNat : Int) * (C (c + d).toNat (a + c - x).toNat : Int)))) ∧ ∃ m, w' = w.drewN m := by
  go_enter Try.func37, Try.ntmps37
  go_wp2_with fail
  go_quiet ((go_at_call 38; exact Calls.quiet_of (choose_any _ _ _ (by omega) (by omega) (by omega))))
  go_wp2_with fail
  go_ret
  exact ⟨rfl, _, rfl⟩

theorem sum_take {zs : List Int} {k : Nat} (h : k < zs.length) : (zs.take (k + 1)).sum = (zs.take k).sum + zs[k] := by
  rw [List.take_succ_eq_append_getElem h, List.sum_append]; simp

theorem sum_bounds {zs : List Int} (h : ∀ z ∈ zs, 0 ≤ z ∧ z ≤ 1000000000000) : 0 ≤ zs.sum ∧ zs.sum ≤ zs.length * 1000000000000 := by
  induction zs with
  | nil => simp
  | cons z zs ih =>
    have h1 := ih fun y hy => h y (List.mem_cons_of_mem _ hy)
    have h2 := h z List.mem_cons_self
    simp only [List.sum_cons, List.length_cons]
    omega

set_option maxHeartbeats 400000 in
theorem sumOf_any (A : Option Addr) (cap : Nat) (zs : List Int) (w : World) (hA : Ints w A zs) (hr : ∀ z ∈ zs, 0 ≤ z ∧ z ≤ 1000000000000) (hl : zs.length ≤ 1000000) :
    Calls Try.prog 36 #[.slice A zs.length cap] w fun e w' => e = .returned (.int .i64 zs.sum) ∧ w = w' := by
  have HA := Lib.hid hA
  have HR := Lib.hid hr
  clear hA hr
  go_enter Try.func36, Try.ntmps36
  go_wp2
  go_loop [3, 8] (fun o t => ∃ i : Nat, i ≤ zs.length ∧ t = .int .i64 i ∧ o = .int .i64 (zs.take i).sum) (fun _ t => zs.length - (intOf t).toNat)
  case atStart => exact ⟨0, Nat.zero_le _, rfl, rfl⟩
  case round =>
    obtain ⟨i, hi, rfl, rfl⟩ := hrel
    have hs := sum_bounds (zs := zs.take i) fun z hz => HR.out z (List.mem_of_mem_take hz)
    rw [List.length_take, Nat.min_eq_left hi] at hs
    by_cases hlt : i < zs.length
    · obtain ⟨b, off, rfl, hc⟩ := HA.out i hlt
      have hz := HR.out _ (List.getElem_mem hlt)
      have hs1 := Lib.hid (sum_take hlt)
      generalize zs[i] = z at hc hz hs1
      generalize (zs.take i).sum = s0 at hs hs1 ⊢
      go_wp2
      go_round
      case rel => exact ⟨i + 1, by omega, by go_num, by rw [hs1.out]⟩
      case measure => simp [intOf]; omega
    · go_wp2
      go_ret
      exact ⟨ret_int (by rw [List.take_of_length_le (by omega)]), rfl⟩

set_option maxHeartbeats 400000 in
theorem min_any (A : Option Addr) (cap : Nat) (zs : List Int) (w : World) (hA : Ints w A zs) (h0 : 0 < zs.length) (_hl : zs.length ≤ 1000000) :
    Calls Try.prog 34 #[.slice A zs.length cap] w fun e w' => (∃ z, Hid (z ∈ zs) ∧ e = .returned (.int .i64 z)) ∧ w = w' := by
  obtain ⟨b, off, rfl, hc0⟩ := hA 0 h0
  have hm0 : Hid (zs[0] ∈ zs) := List.getElem_mem h0
  generalize zs[0] = z0 at hc0 hm0
  have HA := Lib.hid hA
  clear hA
  rw [Nat.add_zero] at hc0
  have hp : decide ((zs.length : Int) < 1) = false := by simp; omega
  have hp0 : (0 : Int) < (zs.length : Int) := by omega
  go_enter Try.func34, Try.ntmps34
  go_wp2
  go_loop [3, 4] (fun o t => ∃ (i : Nat) (z : Int), i ≤ zs.length ∧ t = .int .i64 i ∧ o = .int .i64 z ∧ Hid (z ∈ zs)) (fun _ t => zs.length - (intOf t).toNat)
  case atStart => exact ⟨1, z0, h0, rfl, rfl, hm0⟩
  case round =>
    obtain ⟨i, z, hi, rfl, rfl, hm⟩ := hrel
    by_cases hlt : i < zs.length
    · obtain ⟨b', off', e, hc⟩ := HA.out i hlt
      obtain ⟨rfl, rfl⟩ : b = b' ∧ off = off' := by injection e with e; injection e with e1 e2; exact ⟨e1, e2⟩
      clear e
      have hm1 : Hid (zs[i] ∈ zs) := List.getElem_mem hlt
      generalize zs[i] = y at hc hm1
      go_wp2
      all_goals
        go_round
        case rel => exact ⟨i + 1, _, by omega, by go_num, rfl, by split <;> assumption⟩
        case measure => simp [intOf]; omega
    · go_wp2
      go_ret
      exact ⟨⟨z, hm, rfl⟩, rfl⟩

set_option maxHeartbeats 400000 in
theorem max_any (A : Option Addr) (cap : Nat) (zs : List Int) (w : World) (hA : Ints w A zs) (h0 : 0 < zs.length) (_hl : zs.length ≤ 1000000) :
    Calls Try.prog 35 #[.slice A zs.length cap] w fun e w' => (∃ z, Hid (z ∈ zs) ∧ e = .returned (.int .i64 z)) ∧ w = w' := by
  obtain ⟨b, off, rfl, hc0⟩ := hA 0 h0
  have hm0 : Hid (zs[0] ∈ zs) := List.getElem_mem h0
  generalize zs[0] = z0 at hc0 hm0
  have HA := Lib.hid hA
  clear hA
  rw [Nat.add_zero] at hc0
  have hp : decide ((zs.length : Int) < 1) = false := by simp; omega
  have hp0 : (0 : Int) < (zs.length : Int) := by omega
  go_enter Try.func35, Try.ntmps35
  go_wp2
  go_loop [3, 4] (fun o t => ∃ (i : Nat) (z : Int), i ≤ zs.length ∧ t = .int .i64 i ∧ o = .int .i64 z ∧ Hid (z ∈ zs)) (fun _ t => zs.length - (intOf t).toNat)
  case atStart => exact ⟨1, z0, h0, rfl, rfl, hm0⟩
  case round =>
    obtain ⟨i, z, hi, rfl, rfl, hm⟩ := hrel
    by_cases hlt : i < zs.length
    · obtain ⟨b', off', e, hc⟩ := HA.out i hlt
      obtain ⟨rfl, rfl⟩ : b = b' ∧ off = off' := by injection e with e; injection e with e1 e2; exact ⟨e1, e2⟩
      clear e
      have hm1 : Hid (zs[i] ∈ zs) := List.getElem_mem hlt
      generalize zs[i] = y at hc hm1
      go_wp2
      all_goals
        go_round
        case rel => exact ⟨i + 1, _, by omega, by go_num, rfl, by split <;> assumption⟩
        case measure => simp [intOf]; omega
    · go_wp2
      go_ret
      exact ⟨⟨z, hm, rfl⟩, rfl⟩

set_option maxHeartbeats 400000 in
theorem size_any (n : Int) (w : World) (h0 : 0 ≤ n) (h1 : n ≤ 9223372036854775807) :
    Calls Try.prog 79 #[.int .i64 n] w fun e w' => e = .returned (.int .u64 n) ∧ w = w' := by
  go_enter Try.func79, Try.ntmps79
  go_wp2
  go_ret
  exact ⟨rfl, rfl⟩

theorem div_in (a g : Nat) (h : a ≤ 9223372036854775807) : wrap64 ((a : Int) / g) = ((a / g : Nat) : Int) := by
  have h1 : a / g ≤ a := Nat.div_le_self _ _
  have e : ((a : Int) / g) = ((a / g : Nat) : Int) := by simp
  rw [e]
  generalize a / g = q at h1
  exact IntWalk.wrap64_in _ (by omega)

/-- A fraction as reduce makes it. -/
def frac (num den : Nat) : Value := .agg #[.int .i64 (num / Nat.gcd num den : Nat), .int .i64 (den / Nat.gcd num den : Nat)]

set_option maxHeartbeats 400000 in
theorem reduce_any (num den : Nat) (w : World) (hn : num ≤ 9223372036854775807) (hd : den ≤ 9223372036854775807) (hd0 : 0 < den) :
    Calls Try.prog 39 #[.int .i64 num, .int .i64 den] w fun e w' => e = .returned (frac num den) ∧ Below w.heap.size w w' := by
  have hg : 1 ≤ Nat.gcd num den := Nat.gcd_pos_of_pos_right _ hd0
  have hg2 : Nat.gcd num den ≤ den := Nat.gcd_le_right _ hd0
  unfold frac
  go_enter Try.func39, Try.ntmps39
  go_wp2_with (go_at_call 79; refine (size_any _ _ (by omega) (by omega)).mono ?_; rintro e w' ⟨rfl, rfl⟩)
  refine (divisor_int _ _ _ (by omega) (by omega) (by omega) (by omega)).mono ?_
  rintro e w' ⟨rfl, q1, rfl⟩
  rw [Int.toNat_natCast, Int.toNat_natCast]
  generalize hgd : Nat.gcd num den = g at hg hg2 ⊢
  have HG := Lib.hid hgd
  clear hgd
  go_wp2_with fail
  go_region
  go_wp2_with fail
  refine bodyPost_ret (v := .agg #[.int .i64 (wrap64 ((num : Int) / g)), .int .i64 (wrap64 ((den : Int) / g))]) (by simp [results, Try.results39, go_sem]) rfl ⟨?_, ?_⟩
  · rw [HG.out, div_in num g hn, div_in den g hd]
  · exact ((below_drewN ((Below.refl _ _).alloc (Nat.le_refl _) _) _).setCell (Nat.le_refl _) _).setCell (Nat.le_refl _) _
end Go.Proofs.Ytadfoaopamlnpaa
