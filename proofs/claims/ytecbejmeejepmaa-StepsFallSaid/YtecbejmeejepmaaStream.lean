/- The stream of numbers that the statements draw from: what Below and Next do. -/
import Derived.Test.YtecbejmeejepmaaProg
import Derived.WalkKit
import Derived.WalkLawsBesides
import Derived.WalkSpells
import Derived.RegionTactic
import Derived.Deep.QuietTactic
import Derived.BigQuiet
namespace Go.Proofs.Ytecbejmeejepmaa
set_option linter.unusedVariables false
open Go.RowKit

theorem ret_int {k : IntKind} {a b : Int} (h : a = b) : Ending.returned (.int k a) = .returned (.int k b) := by rw [h]

theorem emod_neg {x n : Int} (hn : 1 ≤ n) (h : x.tmod n < 0) : x.tmod n + n = x % n := by
  have h1 := Int.tmod_eq_emod (a := x) (b := n)
  have h2 := Int.emod_nonneg x (show n ≠ 0 by omega)
  have h3 := Int.emod_lt_of_pos x (show 0 < n by omega)
  split at h1 <;> omega
theorem emod_pos {x n : Int} (hn : 1 ≤ n) (h : ¬ x.tmod n < 0) : x.tmod n = x % n := by
  have h1 := Int.tmod_eq_emod (a := x) (b := n)
  have h2 := Int.emod_nonneg x (show n ≠ 0 by omega)
  have h3 := Int.emod_lt_of_pos x (show 0 < n by omega)
  split at h1 <;> omega

/-- Below: the remainder, from 0 to n-1; 0 where n is below 1. -/
def bel (x n : Int) : Int := if n < 1 then 0 else x % n
theorem bel_lo (x n : Int) : 0 ≤ bel x n := by
  unfold bel; split
  · omega
  · exact Int.emod_nonneg _ (by omega)
theorem bel_hi {x n : Int} (h : 1 ≤ n) : bel x n < n := by
  unfold bel; rw [if_neg (by omega)]; exact Int.emod_lt_of_pos _ (by omega)
theorem bel_zero {x n : Int} (h : n < 1) : bel x n = 0 := by unfold bel; rw [if_pos h]
theorem bel_neg {x n : Int} (hn : 1 ≤ n) (h : x.tmod n < 0) : x.tmod n + n = bel x n := by unfold bel; rw [if_neg (by omega), emod_neg hn h]
theorem bel_pos {x n : Int} (hn : 1 ≤ n) (h : 0 ≤ x.tmod n) : x.tmod n = bel x n := by unfold bel; rw [if_neg (by omega), emod_pos hn (by omega)]

set_option maxHeartbeats 400000 in
theorem below_any (x n : Int) (w : World) (hn' : n ≤ 9223372036854775807) :
    Calls Try.prog 14 #[.int .i64 x, .int .i64 n] w fun e w' => e = .returned (.int .i64 (bel x n)) ∧ w = w' := by
  by_cases hn : n < 1
  · go_enter Try.func14, Try.ntmps14
    go_wp2
    go_ret
    exact ⟨ret_int (bel_zero hn).symm, rfl⟩
  · have hn1 : 1 ≤ n := by omega
    by_cases h0 : x.tmod n < 0
    · have hb1 : -n < x.tmod n := Int.lt_tmod_of_pos x (by omega)
      go_enter Try.func14, Try.ntmps14
      go_wp2
      go_ret
      exact ⟨ret_int (bel_neg hn1 (by omega)), rfl⟩
    · go_enter Try.func14, Try.ntmps14
      go_wp2
      go_ret
      exact ⟨ret_int (bel_pos hn1 (by omega)), rfl⟩

/-- The stream at block bs: its counter is from 0 to K; the list that it hands out lies below it. -/
def St (w : World) (bs : Nat) (K : Nat) : Prop :=
  ∃ (A : Option Addr) (len cap : Nat) (k : Nat), k ≤ K ∧ len ≤ 9223372036854775807 ∧ w.heap[bs]? = some (.cells #[.slice A len cap, .int .i64 k] 25 (0, 0)) ∧
    ∀ i, i < len → ∃ b off z, A = some ⟨b, off, none⟩ ∧ b < bs ∧ w.cell? ⟨b, off + i, none⟩ = some (.int .i64 z) ∧ -9223372036854775808 ≤ z ∧ z ≤ 9223372036854775807

theorem St.lt {w : World} {bs K : Nat} (h : St w bs K) : bs < w.heap.size := by
  obtain ⟨A, len, cap, k, h1, h2, h3, h4⟩ := h
  rcases Nat.lt_or_ge bs w.heap.size with hlt | hge
  · exact hlt
  · rw [Array.getElem?_eq_none hge] at h3; cases h3
theorem St.below {w w' : World} {bs K : Nat} (h : St w bs K) (hb : Below (bs + 1) w w') : St w' bs K := by
  obtain ⟨A, len, cap, k, h1, h2, h3, h4⟩ := h
  refine ⟨A, len, cap, k, h1, h2, (hb.block bs (by omega)).trans h3, fun i hi => ?_⟩
  obtain ⟨b, off, z, e1, e2, e3, e4⟩ := h4 i hi
  exact ⟨b, off, z, e1, e2, (hb.cell (p := ⟨b, off + i, none⟩) (by show b < bs + 1; omega)).trans e3, e4⟩
theorem St.more {w : World} {bs K K' : Nat} (h : St w bs K) (hK : K ≤ K') : St w bs K' := by
  obtain ⟨A, len, cap, k, h1, h⟩ := h
  exact ⟨A, len, cap, k, by omega, h⟩
theorem St.new {w : World} {A : Option Addr} {len cap : Nat} (hl : len ≤ 9223372036854775807)
    (h : ∀ i, i < len → ∃ b off z, A = some ⟨b, off, none⟩ ∧ b < w.heap.size ∧ w.cell? ⟨b, off + i, none⟩ = some (.int .i64 z) ∧ -9223372036854775808 ≤ z ∧ z ≤ 9223372036854775807) :
    St (w.alloc (.cells #[.slice A len cap, .int .i64 0] 25)) w.heap.size 0 := by
  refine ⟨A, len, cap, 0, Nat.le_refl _, hl, heap_alloc_new w _, fun i hi => ?_⟩
  obtain ⟨b, off, z, e1, e2, e3, e4⟩ := h i hi
  exact ⟨b, off, z, e1, e2, (World.cell?_alloc_lt w _ _ e2).trans e3, e4⟩

/-- What the walk of a law is told of a slice of integers that came in. -/
def IsRow (k : IntKind) (w : World) (a : Option Addr) (len cap : Nat) (zs : List Int) : Prop :=
  (a = none ∧ len = 0 ∧ cap = 0 ∧ zs = []) ∨
  ∃ x, a = some x ∧ len ≤ cap ∧ cap ≤ maxLen ∧ zs.length = cap ∧ (∀ i, i < zs.length → w.cell? (x.add i) = some (.int k (zs.getD i 0))) ∧ ∀ n ∈ zs, (Lit.int k n).wf = true

theorem row_facts {w : World} {a : Option Addr} {len cap : Nat} {zs : List Int} (h : IsRow .i64 w a len cap zs) :
    len ≤ 9223372036854775807 ∧ ∀ i, i < len → ∃ b off z, a = some ⟨b, off, none⟩ ∧ b < w.heap.size ∧ w.cell? ⟨b, off + i, none⟩ = some (.int .i64 z) ∧ -9223372036854775808 ≤ z ∧ z ≤ 9223372036854775807 := by
  rcases h with ⟨_, rfl, _, _⟩ | ⟨x, rfl, hl, hm, hz, hcell, hwz⟩
  · exact ⟨by omega, fun i hi => by omega⟩
  · unfold maxLen at hm
    refine ⟨by omega, fun i hi => ?_⟩
    obtain ⟨b, off, spot⟩ := x
    have hc0 := hcell 0 (by omega)
    have hspot : spot = none := by simpa [Addr.add] using World.cell?_spot hc0
    subst hspot
    have hc := hcell i (by omega)
    rw [Addr.add_lit] at hc
    have hw := hwz (zs.getD i 0) (by rw [List.getD_eq_getElem?_getD, List.getElem?_eq_getElem (by omega)]; exact List.getElem_mem _)
    have hb : -9223372036854775808 ≤ zs.getD i 0 ∧ zs.getD i 0 ≤ 9223372036854775807 := by
      simp [Lit.wf, IntKind.min, IntKind.max, IntKind.signed, IntKind.bits] at hw ⊢
      omega
    exact ⟨b, off, _, rfl, World.block_lt_of_cell? w _ hc, hc, by omega, by omega⟩

/-- The stream that a law makes of its numbers. -/
theorem St.of_row {w : World} {a : Option Addr} {len cap : Nat} {zs : List Int} (h : IsRow .i64 w a len cap zs) :
    St (w.alloc (.cells #[.slice a len cap, .int .i64 0] 25)) w.heap.size 0 := St.new (row_facts h).1 (row_facts h).2

set_option maxHeartbeats 400000 in
theorem next_some (bs : Nat) (n : Int) (b off len cap k : Nat) (z : Int) (w : World)
    (hblk : w.heap[bs]? = some (.cells #[.slice (some ⟨b, off, none⟩) len cap, .int .i64 k] 25 (0, 0)))
    (hl0 : 0 < len) (_hl : len ≤ 9223372036854775807) (_hk : k ≤ 1099511627776) (hb : b < bs)
    (_hz : w.cell? ⟨b, off + k % len, none⟩ = some (.int .i64 z))
    (_hn : n ≤ 9223372036854775807) :
    Calls Try.prog 6 #[.pointer (some ⟨bs, 0, none⟩), .int .i64 n] w fun e w' =>
      ∃ x m, e = .returned (.int .i64 (bel x n)) ∧ w' = (w.setCell ⟨bs, 1, none⟩ (.int .i64 (k + 1))).drewN m := by
  have c0 : w.cell? ⟨bs, 0, none⟩ = some (.slice (some ⟨b, off, none⟩) len cap) := by simp [World.cell?, hblk]
  have c1 : w.cell? ⟨bs, 1, none⟩ = some (.int .i64 k) := by simp [World.cell?, hblk]
  have f1 : w.frozen? ⟨bs, 1, none⟩ = false := by simp [World.frozen?, hblk]
  have hne : ((len : Int) == 0) = false := by simp; omega
  have hne2 : ¬ bs = b := by omega
  have hm : 0 ≤ (k : Int) % (len : Int) ∧ (k : Int) % (len : Int) < len := ⟨Int.emod_nonneg _ (by omega), Int.emod_lt_of_pos _ (by omega)⟩
  clear hblk
  go_enter Try.func6, Try.ntmps6
  go_wp2_with fail
  go_quiet (fail)
  go_wp2_with fail
  go_quiet (fail)
  go_wp2_with (go_at_call 14; refine (below_any _ _ _ (by omega)).mono ?_; rintro e w' ⟨rfl, rfl⟩)
  go_ret
  exact ⟨_, _, rfl, rfl⟩

set_option maxHeartbeats 400000 in
theorem next_none (bs : Nat) (n : Int) (A : Option Addr) (cap k : Nat) (w : World)
    (hblk : w.heap[bs]? = some (.cells #[.slice A 0 cap, .int .i64 k] 25 (0, 0)))
    (_hk : k ≤ 1099511627776) (_hn : n ≤ 9223372036854775807) :
    Calls Try.prog 6 #[.pointer (some ⟨bs, 0, none⟩), .int .i64 n] w fun e w' =>
      ∃ x m, e = .returned (.int .i64 (bel x n)) ∧ w' = (w.setCell ⟨bs, 1, none⟩ (.int .i64 (k + 1))).drewN m := by
  have c0 : w.cell? ⟨bs, 0, none⟩ = some (.slice A 0 cap) := by simp [World.cell?, hblk]
  have c1 : w.cell? ⟨bs, 1, none⟩ = some (.int .i64 k) := by simp [World.cell?, hblk]
  have f1 : w.frozen? ⟨bs, 1, none⟩ = false := by simp [World.frozen?, hblk]
  clear hblk
  go_enter Try.func6, Try.ntmps6
  go_wp2_with (go_at_call 14; refine (below_any _ _ _ (by omega)).mono ?_; rintro e w' ⟨rfl, rfl⟩)
  go_ret
  exact ⟨_, 0, rfl, rfl⟩

/-- What Next leaves: a number in its range; only the stream's own block has turned. -/
def NextPost (bs K : Nat) (n : Int) (w : World) (e : Ending) (w' : World) : Prop :=
  ∃ r : Int, e = .returned (.int .i64 r) ∧ 0 ≤ r ∧ (1 ≤ n → r < n) ∧ (n < 1 → r = 0) ∧ St w' bs (K + 1) ∧ w.grownBy w' (some bs) ∧ w'.heap.size = w.heap.size

theorem next_post {bs K : Nat} {n x : Int} {w : World} {A : Option Addr} {len cap k m : Nat} (hk : k ≤ K) (hl : len ≤ 9223372036854775807)
    (h3 : w.heap[bs]? = some (.cells #[.slice A len cap, .int .i64 k] 25 (0, 0)))
    (h4 : ∀ i, i < len → ∃ b off z, A = some ⟨b, off, none⟩ ∧ b < bs ∧ w.cell? ⟨b, off + i, none⟩ = some (.int .i64 z) ∧ -9223372036854775808 ≤ z ∧ z ≤ 9223372036854775807) :
    NextPost bs K n w (.returned (.int .i64 (bel x n))) ((w.setCell ⟨bs, 1, none⟩ (.int .i64 (k + 1))).drewN m) := by
  refine ⟨_, rfl, bel_lo _ _, fun h => bel_hi h, fun h => bel_zero h, ⟨A, len, cap, k + 1, by omega, hl, ?_, fun i hi => ?_⟩, ⟨rfl, rfl, rfl, ?_, fun b _ hne => ?_⟩, ?_⟩
  · show (w.setCell ⟨bs, 1, none⟩ (.int .i64 (k + 1))).heap[bs]? = _
    simp [World.setCell, Array.getElem?_modify, h3]
  · obtain ⟨b, off, z, e1, e2, e3, e4⟩ := h4 i hi
    exact ⟨b, off, z, e1, e2, (World.cell?_setCell_other w _ _ _ (fun e => by injection e; omega)).trans e3, e4⟩
  · show _ ≤ (w.setCell ⟨bs, 1, none⟩ (.int .i64 (k + 1))).heap.size
    simp
  · exact Below.heap_setCell w _ _ b (fun e => hne (by rw [e]))
  · show (w.setCell ⟨bs, 1, none⟩ (.int .i64 (k + 1))).heap.size = _
    simp

theorem next_any {bs K : Nat} (n : Int) {w : World} (hS : St w bs K) (hK : K ≤ 1099511627776) (hn : n ≤ 9223372036854775807) :
    Calls Try.prog 6 #[.pointer (some ⟨bs, 0, none⟩), .int .i64 n] w (NextPost bs K n w) := by
  obtain ⟨A, len, cap, k, h1, h2, h3, h4⟩ := hS
  rcases Nat.eq_zero_or_pos len with hl | hl
  · subst hl
    exact (next_none bs n A cap k w h3 (by omega) hn).mono fun e w' ⟨x, m, he, hw⟩ => by
      subst he; subst hw; exact next_post h1 h2 h3 h4
  · obtain ⟨b, off, z, rfl, hb, hc, hz⟩ := h4 (k % len) (Nat.mod_lt _ hl)
    exact (next_some bs n b off len cap k z w h3 hl h2 (by omega) hb hc hn).mono fun e w' ⟨x, m, he, hw⟩ => by
      subst he; subst hw; exact next_post h1 h2 h3 h4
end Go.Proofs.Ytecbejmeejepmaa
