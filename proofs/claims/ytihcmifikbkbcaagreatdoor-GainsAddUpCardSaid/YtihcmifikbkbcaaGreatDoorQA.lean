/- Texts of this claim, put together: Stream, Mem, Mp, StrMp, Pick, App, LwMore, Row, PutR, Key, Idx, StrP, Isort, Orow, Conc, AppG, Make, MakeG, Cellw, Grown, Cmp, ConcW, ConcV, AppRow. -/
import Derived.Test.YtihcmifikbkbcaaGreatDoorProg
import Derived.WalkKit
import Derived.WalkLawsBesides
import Derived.WalkSpells
import Derived.RegionTactic
import Derived.Deep.QuietTactic
import Derived.BigQuiet
import Derived.Lib.Hide
import Derived.Maps.OwnSet
import Derived.StringKeys
import Derived.LoopTactic
import Derived.Deep.OwnRows
import Derived.Maps.AppendAt
import Derived.StillTail
import Derived.Below
import Derived.ArgAppend
import Derived.IntWalk
/- The stream of numbers that the statements draw from: what Below and Next do. -/
namespace Go.Proofs.YtihcmifikbkbcaaGreatDoor
set_option linter.unusedVariables false
open Go.RowKit

theorem ret_int {k : IntKind} {a b : Int} (h : a = b) : Ending.returned (.int k a) = .returned (.int k b) := by rw [h]

theorem emod_neg {x n : Int} (hn : 1 ≤ n) (h : x.tmod n < 0) : x.tmod n + n = x % n := by
  have h1 := Int.tmod_eq_emod (a := x) (b := n)
  have h2 := Int.emod_nonneg x (show n ≠ 0 by omega)
  have h3 := Int.emod_lt_of_pos x (show 0 < n by omega)
  split at h1 <;> omega
theorem emod_pos {x n : Int} (hn : 1 ≤ n) (h : ¬ x.tmod n < 0) : x.tmod n = x % n := by
  have h1 := Int.tmod_eq_emod (a := x) (b := n)
  have h2 := Int.emod_nonneg x (show n ≠ 0 by omega)
  have h3 := Int.emod_lt_of_pos x (show 0 < n by omega)
  split at h1 <;> omega

/-- Below: the remainder, from 0 to n-1; 0 where n is below 1. -/
def bel (x n : Int) : Int := if n < 1 then 0 else x % n
theorem bel_lo (x n : Int) : 0 ≤ bel x n := by
  unfold bel; split
  · omega
  · exact Int.emod_nonneg _ (by omega)
theorem bel_hi {x n : Int} (h : 1 ≤ n) : bel x n < n := by
  unfold bel; rw [if_neg (by omega)]; exact Int.emod_lt_of_pos _ (by omega)
theorem bel_zero {x n : Int} (h : n < 1) : bel x n = 0 := by unfold bel; rw [if_pos h]
theorem bel_neg {x n : Int} (hn : 1 ≤ n) (h : x.tmod n < 0) : x.tmod n + n = bel x n := by unfold bel; rw [if_neg (by omega), emod_neg hn h]
theorem bel_pos {x n : Int} (hn : 1 ≤ n) (h : 0 ≤ x.tmod n) : x.tmod n = bel x n := by unfold bel; rw [if_neg (by omega), emod_pos hn (by omega)]

set_option maxHeartbeats 400000 in
theorem below_any (x n : Int) (w : World) (hn' : n ≤ 9223372036854775807) :
    Calls Tryz.prog 30 #[.int .i64 x, .int .i64 n] w fun e w' => e = .returned (.int .i64 (bel x n)) ∧ w = w' := by
  by_cases hn : n < 1
  · go_enter Tryz.func30, Tryz.ntmps30
    go_wp2
    go_ret
    exact ⟨ret_int (bel_zero hn).symm, rfl⟩
  · have hn1 : 1 ≤ n := by omega
    by_cases h0 : x.tmod n < 0
    · have hb1 : -n < x.tmod n := Int.lt_tmod_of_pos x (by omega)
      go_enter Tryz.func30, Tryz.ntmps30
      go_wp2
      go_ret
      exact ⟨ret_int (bel_neg hn1 (by omega)), rfl⟩
    · go_enter Tryz.func30, Tryz.ntmps30
      go_wp2
      go_ret
      exact ⟨ret_int (bel_pos hn1 (by omega)), rfl⟩

/-- The stream at block bs: its counter is from 0 to K; the list that it hands out lies below it. -/
def St (w : World) (bs : Nat) (K : Nat) : Prop :=
  ∃ (A : Option Addr) (len cap : Nat) (k : Nat), k ≤ K ∧ len ≤ 9223372036854775807 ∧ w.heap[bs]? = some (.cells #[.slice A len cap, .int .i64 k] 25 (0, 0)) ∧
    ∀ i, i < len → ∃ b off z, A = some ⟨b, off, none⟩ ∧ b < bs ∧ w.cell? ⟨b, off + i, none⟩ = some (.int .i64 z) ∧ -9223372036854775808 ≤ z ∧ z ≤ 9223372036854775807

theorem St.lt {w : World} {bs K : Nat} (h : St w bs K) : bs < w.heap.size := by
  obtain ⟨A, len, cap, k, h1, h2, h3, h4⟩ := h
  rcases Nat.lt_or_ge bs w.heap.size with hlt | hge
  · exact hlt
  · rw [Array.getElem?_eq_none hge] at h3; cases h3
theorem St.below {w w' : World} {bs K : Nat} (h : St w bs K) (hb : Below (bs + 1) w w') : St w' bs K := by
  obtain ⟨A, len, cap, k, h1, h2, h3, h4⟩ := h
  refine ⟨A, len, cap, k, h1, h2, (hb.block bs (by omega)).trans h3, fun i hi => ?_⟩
  obtain ⟨b, off, z, e1, e2, e3, e4⟩ := h4 i hi
  exact ⟨b, off, z, e1, e2, (hb.cell (p := ⟨b, off + i, none⟩) (by show b < bs + 1; omega)).trans e3, e4⟩
theorem St.more {w : World} {bs K K' : Nat} (h : St w bs K) (hK : K ≤ K') : St w bs K' := by
  obtain ⟨A, len, cap, k, h1, h⟩ := h
  exact ⟨A, len, cap, k, by omega, h⟩
theorem St.new {w : World} {A : Option Addr} {len cap : Nat} (hl : len ≤ 9223372036854775807)
    (h : ∀ i, i < len → ∃ b off z, A = some ⟨b, off, none⟩ ∧ b < w.heap.size ∧ w.cell? ⟨b, off + i, none⟩ = some (.int .i64 z) ∧ -9223372036854775808 ≤ z ∧ z ≤ 9223372036854775807) :
    St (w.alloc (.cells #[.slice A len cap, .int .i64 0] 25)) w.heap.size 0 := by
  refine ⟨A, len, cap, 0, Nat.le_refl _, hl, heap_alloc_new w _, fun i hi => ?_⟩
  obtain ⟨b, off, z, e1, e2, e3, e4⟩ := h i hi
  exact ⟨b, off, z, e1, e2, (World.cell?_alloc_lt w _ _ e2).trans e3, e4⟩

/-- What the walk of a law is told of a slice of integers that came in. -/
def IsRow (k : IntKind) (w : World) (a : Option Addr) (len cap : Nat) (zs : List Int) : Prop :=
  (a = none ∧ len = 0 ∧ cap = 0 ∧ zs = []) ∨
  ∃ x, a = some x ∧ len ≤ cap ∧ cap ≤ maxLen ∧ zs.length = cap ∧ (∀ i, i < zs.length → w.cell? (x.add i) = some (.int k (zs.getD i 0))) ∧ ∀ n ∈ zs, (Lit.int k n).wf = true

theorem row_facts {w : World} {a : Option Addr} {len cap : Nat} {zs : List Int} (h : IsRow .i64 w a len cap zs) :
    len ≤ 9223372036854775807 ∧ ∀ i, i < len → ∃ b off z, a = some ⟨b, off, none⟩ ∧ b < w.heap.size ∧ w.cell? ⟨b, off + i, none⟩ = some (.int .i64 z) ∧ -9223372036854775808 ≤ z ∧ z ≤ 9223372036854775807 := by
  rcases h with ⟨_, rfl, _, _⟩ | ⟨x, rfl, hl, hm, hz, hcell, hwz⟩
  · exact ⟨by omega, fun i hi => by omega⟩
  · unfold maxLen at hm
    refine ⟨by omega, fun i hi => ?_⟩
    obtain ⟨b, off, spot⟩ := x
    have hc0 := hcell 0 (by omega)
    have hspot : spot = none := by simpa [Addr.add] using World.cell?_spot hc0
    subst hspot
    have hc := hcell i (by omega)
    rw [Addr.add_lit] at hc
    have hw := hwz (zs.getD i 0) (by rw [List.getD_eq_getElem?_getD, List.getElem?_eq_getElem (by omega)]; exact List.getElem_mem _)
    have hb : -9223372036854775808 ≤ zs.getD i 0 ∧ zs.getD i 0 ≤ 9223372036854775807 := by
      simp [Lit.wf, IntKind.min, IntKind.max, IntKind.signed, IntKind.bits] at hw ⊢
      omega
    exact ⟨b, off, _, rfl, World.block_lt_of_cell? w _ hc, hc, by omega, by omega⟩

/-- The stream that a law makes of its numbers. -/
theorem St.of_row {w : World} {a : Option Addr} {len cap : Nat} {zs : List Int} (h : IsRow .i64 w a len cap zs) :
    St (w.alloc (.cells #[.slice a len cap, .int .i64 0] 25)) w.heap.size 0 := St.new (row_facts h).1 (row_facts h).2

set_option maxHeartbeats 400000 in
theorem next_some (bs : Nat) (n : Int) (b off len cap k : Nat) (z : Int) (w : World)
    (hblk : w.heap[bs]? = some (.cells #[.slice (some ⟨b, off, none⟩) len cap, .int .i64 k] 25 (0, 0)))
    (hl0 : 0 < len) (_hl : len ≤ 9223372036854775807) (_hk : k ≤ 1099511627776) (hb : b < bs)
    (_hz : w.cell? ⟨b, off + k % len, none⟩ = some (.int .i64 z))
    (_hn : n ≤ 9223372036854775807) :
    Calls Tryz.prog 12 #[.pointer (some ⟨bs, 0, none⟩), .int .i64 n] w fun e w' =>
      ∃ x m, e = .returned (.int .i64 (bel x n)) ∧ w' = (w.setCell ⟨bs, 1, none⟩ (.int .i64 (k + 1))).drewN m := by
  have c0 : w.cell? ⟨bs, 0, none⟩ = some (.slice (some ⟨b, off, none⟩) len cap) := by simp [World.cell?, hblk]
  have c1 : w.cell? ⟨bs, 1, none⟩ = some (.int .i64 k) := by simp [World.cell?, hblk]
  have f1 : w.frozen? ⟨bs, 1, none⟩ = false := by simp [World.frozen?, hblk]
  have hne : ((len : Int) == 0) = false := by simp; omega
  have hne2 : ¬ bs = b := by omega
  have hm : 0 ≤ (k : Int) % (len : Int) ∧ (k : Int) % (len : Int) < len := ⟨Int.emod_nonneg _ (by omega), Int.emod_lt_of_pos _ (by omega)⟩
  clear hblk
  go_enter Tryz.func12, Tryz.ntmps12
  go_wp2_with fail
  go_quiet (fail)
  go_wp2_with fail
  go_quiet (fail)
  go_wp2_with (go_at_call 30; refine (below_any _ _ _ (by omega)).mono ?_; rintro e w' ⟨rfl, rfl⟩)
  go_ret
  exact ⟨_, _, rfl, rfl⟩

set_option maxHeartbeats 400000 in
theorem next_none (bs : Nat) (n : Int) (A : Option Addr) (cap k : Nat) (w : World)
    (hblk : w.heap[bs]? = some (.cells #[.slice A 0 cap, .int .i64 k] 25 (0, 0)))
    (_hk : k ≤ 1099511627776) (_hn : n ≤ 9223372036854775807) :
    Calls Tryz.prog 12 #[.pointer (some ⟨bs, 0, none⟩), .int .i64 n] w fun e w' =>
      ∃ x m, e = .returned (.int .i64 (bel x n)) ∧ w' = (w.setCell ⟨bs, 1, none⟩ (.int .i64 (k + 1))).drewN m := by
  have c0 : w.cell? ⟨bs, 0, none⟩ = some (.slice A 0 cap) := by simp [World.cell?, hblk]
  have c1 : w.cell? ⟨bs, 1, none⟩ = some (.int .i64 k) := by simp [World.cell?, hblk]
  have f1 : w.frozen? ⟨bs, 1, none⟩ = false := by simp [World.frozen?, hblk]
  clear hblk
  go_enter Tryz.func12, Tryz.ntmps12
  go_wp2_with (go_at_call 30; refine (below_any _ _ _ (by omega)).mono ?_; rintro e w' ⟨rfl, rfl⟩)
  go_ret
  exact ⟨_, 0, rfl, rfl⟩

/-- What Next leaves: a number in its range; only the stream's own block has turned. -/
def NextPost (bs K : Nat) (n : Int) (w : World) (e : Ending) (w' : World) : Prop :=
  ∃ r : Int, e = .returned (.int .i64 r) ∧ 0 ≤ r ∧ (1 ≤ n → r < n) ∧ (n < 1 → r = 0) ∧ St w' bs (K + 1) ∧ w.grownBy w' (some bs) ∧ w'.heap.size = w.heap.size

theorem next_post {bs K : Nat} {n x : Int} {w : World} {A : Option Addr} {len cap k m : Nat} (hk : k ≤ K) (hl : len ≤ 9223372036854775807)
    (h3 : w.heap[bs]? = some (.cells #[.slice A len cap, .int .i64 k] 25 (0, 0)))
    (h4 : ∀ i, i < len → ∃ b off z, A = some ⟨b, off, none⟩ ∧ b < bs ∧ w.cell? ⟨b, off + i, none⟩ = some (.int .i64 z) ∧ -9223372036854775808 ≤ z ∧ z ≤ 9223372036854775807) :
    NextPost bs K n w (.returned (.int .i64 (bel x n))) ((w.setCell ⟨bs, 1, none⟩ (.int .i64 (k + 1))).drewN m) := by
  refine ⟨_, rfl, bel_lo _ _, fun h => bel_hi h, fun h => bel_zero h, ⟨A, len, cap, k + 1, by omega, hl, ?_, fun i hi => ?_⟩, ⟨rfl, rfl, rfl, ?_, fun b _ hne => ?_⟩, ?_⟩
  · show (w.setCell ⟨bs, 1, none⟩ (.int .i64 (k + 1))).heap[bs]? = _
    simp [World.setCell, Array.getElem?_modify, h3]
  · obtain ⟨b, off, z, e1, e2, e3, e4⟩ := h4 i hi
    exact ⟨b, off, z, e1, e2, (World.cell?_setCell_other w _ _ _ (fun e => by injection e; omega)).trans e3, e4⟩
  · show _ ≤ (w.setCell ⟨bs, 1, none⟩ (.int .i64 (k + 1))).heap.size
    simp
  · exact Below.heap_setCell w _ _ b (fun e => hne (by rw [e]))
  · show (w.setCell ⟨bs, 1, none⟩ (.int .i64 (k + 1))).heap.size = _
    simp

theorem next_any {bs K : Nat} (n : Int) {w : World} (hS : St w bs K) (hK : K ≤ 1099511627776) (hn : n ≤ 9223372036854775807) :
    Calls Tryz.prog 12 #[.pointer (some ⟨bs, 0, none⟩), .int .i64 n] w (NextPost bs K n w) := by
  obtain ⟨A, len, cap, k, h1, h2, h3, h4⟩ := hS
  rcases Nat.eq_zero_or_pos len with hl | hl
  · subst hl
    exact (next_none bs n A cap k w h3 (by omega) hn).mono fun e w' ⟨x, m, he, hw⟩ => by
      subst he; subst hw; exact next_post h1 h2 h3 h4
  · obtain ⟨b, off, z, rfl, hb, hc, hz⟩ := h4 (k % len) (Nat.mod_lt _ hl)
    exact (next_some bs n b off len cap k z w h3 hl h2 (by omega) hb hc hn).mono fun e w' ⟨x, m, he, hw⟩ => by
      subst he; subst hw; exact next_post h1 h2 h3 h4
end Go.Proofs.YtihcmifikbkbcaaGreatDoor

/- Memory that nobody writes any more (Frz), and the state of a law: its stream and what it has laid. -/
namespace Go.Proofs.YtihcmifikbkbcaaGreatDoor
set_option linter.unusedVariables false
open Go.RowKit

theorem lt_of_heap {w : World} {o : Obj} {n : Nat} (h : w.heap[n]? = some o) : n < w.heap.size := (Array.getElem?_eq_some_iff.1 h).1
theorem heap_at {w : World} {o : Obj} {n : Nat} (h : n = w.heap.size) : (w.alloc o).heap[n]? = some o := by subst h; exact heap_alloc_new _ _
theorem heap_lt {w : World} {o : Obj} {n : Nat} (h : n < w.heap.size) : (w.alloc o).heap[n]? = w.heap[n]? := Below.heap_alloc w o n h

/-- A part of memory, block by block. -/
def Frz : Type := Nat → Option Obj

/-- The world holds it. -/
def Frz.In (H : Frz) (w : World) : Prop := ∀ b o, H b = some o → w.heap[b]? = some o
def Frz.Le (H H' : Frz) : Prop := ∀ b o, H b = some o → H' b = some o
def Frz.empty : Frz := fun _ => none
def Frz.add (H : Frz) (n : Nat) (o : Obj) : Frz := fun b => if b = n then some o else H b
/-- All that is new from block n on. -/
def Frz.all (H : Frz) (w : World) (n : Nat) : Frz := fun b => if b < n then H b else w.heap[b]?

theorem Frz.Le.refl (H : Frz) : H.Le H := fun _ _ h => h
theorem Frz.Le.trans {H H' H'' : Frz} (h : H.Le H') (k : H'.Le H'') : H.Le H'' := fun b o e => k b o (h b o e)
theorem Frz.In.empty (w : World) : Frz.empty.In w := fun _ _ h => by cases h
theorem Frz.In.lt {H : Frz} {w : World} (h : H.In w) {b : Nat} {o : Obj} (e : H b = some o) : b < w.heap.size := lt_of_heap (h b o e)
theorem Frz.In.none_ {H : Frz} {w : World} (h : H.In w) {b : Nat} (hb : w.heap.size ≤ b) : H b = none := by
  cases e : H b with
  | none => rfl
  | some o => exact absurd (h.lt e) (by omega)
theorem Frz.In.le {H H' : Frz} {w : World} (h : H'.In w) (k : H.Le H') : H.In w := fun b o e => h b o (k b o e)
theorem Frz.In.below {H : Frz} {w w' : World} (h : H.In w) (hb : Below w.heap.size w w') : H.In w' := fun b o e => (hb.block b (h.lt e)).trans (h b o e)
theorem Frz.In.alloc {H : Frz} {w : World} (h : H.In w) (o : Obj) : H.In (w.alloc o) := fun b o' e => (heap_lt (h.lt e)).trans (h b o' e)
theorem Frz.In.drewN {H : Frz} {w : World} (h : H.In w) (n : Nat) : H.In (w.drewN n) := h
theorem Frz.In.grown {H : Frz} {w w' : World} (h : H.In w) {g : Nat} (hg : w.grownBy w' (some g)) (hn : H g = none) : H.In w' := fun b o e =>
  (hg.block b (h.lt e) (fun c => by injection c with c; subst c; rw [hn] at e; cases e)).trans (h b o e)
theorem Frz.In.grown' {H : Frz} {w w' : World} {row : Option Nat} (h : H.In w) (hg : w.grownBy w' row) (hn : ∀ g, row = some g → H g = none) : H.In w' := fun b o e =>
  (hg.block b (h.lt e) (fun c => by rw [hn b c.symm] at e; cases e)).trans (h b o e)
theorem Frz.In.setCell {H : Frz} {w : World} (h : H.In w) {p : Addr} (hn : H p.block = none) (v : Value) : H.In (w.setCell p v) := fun b o e =>
  (Below.heap_setCell w p v b (fun c => by rw [c, hn] at e; cases e)).trans (h b o e)
theorem Frz.le_add {H : Frz} {n : Nat} {o : Obj} (h : H n = none) : H.Le (H.add n o) := fun b o' e => by
  unfold Frz.add
  split
  · rename_i hb; subst hb; rw [h] at e; cases e
  · exact e
theorem Frz.add_at (H : Frz) (n : Nat) (o : Obj) : (H.add n o) n = some o := by unfold Frz.add; simp
theorem Frz.add_other {H : Frz} {n m : Nat} {o : Obj} (h : m ≠ n) : (H.add n o) m = H m := by unfold Frz.add; rw [if_neg h]
theorem Frz.In.add {H : Frz} {w : World} (h : H.In w) {n : Nat} {o : Obj} (e : w.heap[n]? = some o) : (H.add n o).In w := fun b o' k => by
  unfold Frz.add at k
  split at k
  · rename_i hb; subst hb; injection k with k; subst k; exact e
  · exact h b o' k
theorem Frz.In.all {H : Frz} {w : World} (h : H.In w) (n : Nat) : (H.all w n).In w := fun b o k => by
  unfold Frz.all at k
  split at k
  · exact h b o k
  · exact k
theorem Frz.le_all {H : Frz} {w w' : World} {n : Nat} (h : H.In w') (hn : w'.heap.size ≤ n) : H.Le (H.all w n) := fun b o e => by
  unfold Frz.all
  rw [if_pos (Nat.lt_of_lt_of_le (h.lt e) hn)]
  exact e
theorem Frz.all_lt {H : Frz} {w : World} {n b : Nat} (h : b < n) : (H.all w n) b = H b := by unfold Frz.all; rw [if_pos h]
theorem Frz.all_ge {H : Frz} {w : World} {n b : Nat} (h : n ≤ b) : (H.all w n) b = w.heap[b]? := by unfold Frz.all; rw [if_neg (by omega)]

/-- A cell of a frozen part. -/
def Frz.cell? (H : Frz) (a : Addr) : Option Value :=
  match H a.block with
  | some (.cells c _ _) => if a.spot.isSome then none else c[a.off]?
  | _ => none
theorem Frz.In.cell {H : Frz} {w : World} (h : H.In w) {a : Addr} {v : Value} (e : H.cell? a = some v) : w.cell? a = some v := by
  unfold Frz.cell? at e
  split at e
  · rename_i c t f hb
    simp only [World.cell?, h _ _ hb]
    exact e
  · cases e
theorem Frz.Le.cell {H H' : Frz} (h : H.Le H') {a : Addr} {v : Value} (e : H.cell? a = some v) : H'.cell? a = some v := by
  unfold Frz.cell? at e ⊢
  split at e
  · rename_i c t f hb
    rw [h _ _ hb]
    exact e
  · cases e
theorem Frz.cell_lt {H : Frz} {w : World} (h : H.In w) {a : Addr} {v : Value} (e : H.cell? a = some v) : a.block < w.heap.size := World.block_lt_of_cell? w a (h.cell e)

/-- The state of a law in world W: the stream at block bs has been asked at most K times; nothing that was there has turned; H is laid for good. -/
structure Lw (w : World) (bs K : Nat) (H : Frz) (W : World) : Prop where
  st : St W bs K
  bel : Below w.heap.size w W
  le : w.heap.size ≤ bs
  fin : H.In W
  apart : H bs = none

theorem Lw.new {w : World} {a : Option Addr} {len cap : Nat} {zs : List Int} (h : IsRow .i64 w a len cap zs) :
    Lw w w.heap.size 0 Frz.empty (w.alloc (.cells #[.slice a len cap, .int .i64 0] 25)) :=
  ⟨St.of_row h, (Below.refl _ _).alloc (Nat.le_refl _) _, Nat.le_refl _, Frz.In.empty _, rfl⟩
section
variable {w W W' : World} {bs K : Nat} {H : Frz}
theorem Lw.lt (h : Lw w bs K H W) : bs < W.heap.size := h.st.lt
theorem Lw.more (h : Lw w bs K H W) {K' : Nat} (hK : K ≤ K') : Lw w bs K' H W := ⟨h.st.more hK, h.bel, h.le, h.fin, h.apart⟩
/-- A call that only makes memory. -/
theorem Lw.call (h : Lw w bs K H W) (hb : Below W.heap.size W W') : Lw w bs K H W' :=
  ⟨h.st.below (hb.mono h.lt), h.bel.trans (hb.mono h.bel.size), h.le, h.fin.below hb, h.apart⟩
theorem Lw.alloc (h : Lw w bs K H W) (o : Obj) : Lw w bs K H (W.alloc o) := h.call ((Below.refl _ _).alloc (Nat.le_refl _) _)
theorem Lw.drewN (h : Lw w bs K H W) (n : Nat) : Lw w bs K H (W.drewN n) := h.call (below_drewN (Below.refl _ _) n)
/-- A block that is laid for good. -/
theorem Lw.keep (h : Lw w bs K H W) {n : Nat} {o : Obj} (e : W.heap[n]? = some o) (hn : n ≠ bs) : Lw w bs K (H.add n o) W :=
  ⟨h.st, h.bel, h.le, h.fin.add e, by rw [Frz.add_other (fun c => hn c.symm)]; exact h.apart⟩
/-- A store into a block of the law's own. -/
theorem Lw.setCell (h : Lw w bs K H W) {p : Addr} (hp : bs < p.block) (hH : H p.block = none) (v : Value) : Lw w bs K H (W.setCell p v) :=
  ⟨h.st.below ((Below.refl _ _).setCell hp v), h.bel.setCell (Nat.le_of_lt (Nat.lt_of_le_of_lt h.le hp)) v, h.le, h.fin.setCell hH v, h.apart⟩
/-- A new block that is laid for good. -/
theorem Lw.put (h : Lw w bs K H W) (o : Obj) : ∃ H', H.Le H' ∧ H' W.heap.size = some o ∧ Lw w bs K H' (W.alloc o) :=
  ⟨H.add W.heap.size o, Frz.le_add (h.fin.none_ (Nat.le_refl _)), Frz.add_at _ _ _, (h.alloc o).keep (heap_at rfl) (by have := h.lt; omega)⟩
theorem Lw.next (h : Lw w bs K H W) (n : Int) (hK : K ≤ 1099511627776) (hn : n ≤ 9223372036854775807) :
    Calls Tryz.prog 12 #[.pointer (some ⟨bs, 0, none⟩), .int .i64 n] W fun e W' =>
      ∃ r : Int, e = .returned (.int .i64 r) ∧ 0 ≤ r ∧ (1 ≤ n → r < n) ∧ (n < 1 → r = 0) ∧ Lw w bs (K + 1) H W' ∧ W.grownBy W' (some bs) ∧ W'.heap.size = W.heap.size :=
  (next_any n h.st hK hn).mono fun e W' ⟨r, h1, h2, h3, h4, h5, h6, h7⟩ =>
    ⟨r, h1, h2, h3, h4, ⟨h5, h.bel.grown h6 h.bel.size (fun k hk => by injection hk with hk; have := h.le; omega), h.le, h.fin.grown h6 h.apart, h.apart⟩, h6, h7⟩
end
end Go.Proofs.YtihcmifikbkbcaaGreatDoor

/- Maps of the call's own, at any element: what a key has, said by a function from keys to values. -/
namespace Go.Proofs.YtihcmifikbkbcaaGreatDoor
set_option linter.unusedVariables false
open Go.RowKit

/-- An element, read as itself. -/
def heldR (v : Value) : Option (DataW Value × List MemPlace) := some (.held v, [])
/-- Block b is a map of at most n entries; the key l has m l. -/
def Mp (P : Program) (k : TypeId) (w : World) (b n : Nat) (m : Lit → Option Value) : Prop :=
  ∃ D : DataW Value, w.ownsMap P k heldR b n D ∧ ∀ l, WideAt.IsKeyLit l → Maps.has D l = (m l).isSome ∧ ∀ v, m l = some v → ∀ z, D.atKey l z = .held v
def mpSet (m : Lit → Option Value) (l : Lit) (v : Value) : Lit → Option Value := fun x => if x.sameKey l then some v else m x
def mpDel (m : Lit → Option Value) (l : Lit) : Lit → Option Value := fun x => if x.sameKey l then none else m x
def mpNew : Lit → Option Value := fun _ => none
section
variable {P : Program} {k e t : TypeId} {w w' : World} {b n : Nat} {m : Lit → Option Value} {key : Value} {kl : Lit}
theorem Mp.made (P : Program) (k : TypeId) (w : World) : Mp P k (w.alloc (.map #[] 0)) w.heap.size 0 mpNew :=
  ⟨_, World.ownsMap_made w P k heldR, fun l _ => ⟨rfl, fun v h => by cases h⟩⟩
theorem Mp.mono {n' : Nat} (h : Mp P k w b n m) (hn : n ≤ n') : Mp P k w b n' m := by
  obtain ⟨D, ho, hd⟩ := h
  exact ⟨D, ho.mono hn, hd⟩
theorem Mp.lt (h : Mp P k w b n m) : b < w.heap.size := by
  obtain ⟨D, ho, hd⟩ := h
  exact ho.lt
theorem Mp.kept {row : Option Nat} (h : Mp P k w b n m) (hg : w.grownBy w' row) (hne : some b ≠ row) : Mp P k w' b n m := by
  obtain ⟨D, ho, hd⟩ := h
  exact ⟨D, ho.kept hg hne, hd⟩
theorem Mp.below (h : Mp P k w b n m) (hb : Below w.heap.size w w') : Mp P k w' b n m :=
  h.kept (row := none) ⟨hb.os, hb.tape, hb.output, hb.size, fun i hi _ => hb.block i hi⟩ (by simp)
theorem Mp.block (h : Mp P k w b n m) (hb : w'.heap[b]? = w.heap[b]?) : Mp P k w' b n m := by
  obtain ⟨D, ⟨es, clock, h1, h2⟩, hd⟩ := h
  exact ⟨D, ⟨es, clock, hb.trans h1, h2⟩, hd⟩
theorem Mp.alloc (h : Mp P k w b n m) (o : Obj) : Mp P k (w.alloc o) b n m := h.below ((Below.refl _ _).alloc (Nat.le_refl _) _)
theorem Mp.setCell (h : Mp P k w b n m) {a : Addr} (ha : b ≠ a.block) (u : Value) : Mp P k (w.setCell a u) b n m := by
  obtain ⟨D, ho, hd⟩ := h
  exact ⟨D, ho.setCell ha u, hd⟩
theorem Mp.obj (h : Mp P k w b n m) : ∃ o, w.heap[b]? = some o ∧ ∀ w' : World, w'.heap[b]? = some o → Mp P k w' b n m := by
  obtain ⟨D, ⟨es, clock, h1, h2⟩, hd⟩ := h
  exact ⟨_, h1, fun w' h' => ⟨D, ⟨es, clock, h', h2⟩, hd⟩⟩
/-- 'v, ok := m[k]' and 'm[k]': the key is there. -/
theorem Mp.look_some (h : Mp P k w b n m) (K : Maps.Keyed P k) (ht : P.underlying t = some (.map k e)) {z : Value} (hz : (zeroValue e).run P w = .ok z w) (hkey : keyOf P k key = some kl) {v : Value} (hv : m kl = some v) (c : Bool) :
    (Instr.lookup t (.map (some b)) key c).run P w = .ok (if c then .tuple #[v, .bool true] else v) w := by
  obtain ⟨D, ⟨es, clock, hb, F, _, rfl⟩, hd⟩ := h
  have hk : WideAt.IsKeyLit kl := K.key hkey
  obtain ⟨h1, h2⟩ := hd kl hk
  rcases Maps.fit_look c K ht hz hb F hkey with ⟨hrun, _, hat⟩ | ⟨e0, y, _, _, hrun, hRv, hat, _⟩
  · rw [Maps.has_false_of_atKey hat, hv] at h1
    cases h1
  · have := h2 v hv (.held v)
    rw [hat] at this
    unfold heldR at hRv
    injection hRv with hRv
    rw [← hRv] at this
    injection this with this
    rw [← this]
    exact hrun
theorem Mp.look_none (h : Mp P k w b n m) (K : Maps.Keyed P k) (ht : P.underlying t = some (.map k e)) {z : Value} (hz : (zeroValue e).run P w = .ok z w) (hkey : keyOf P k key = some kl) (hv : m kl = none) (c : Bool) :
    (Instr.lookup t (.map (some b)) key c).run P w = .ok (if c then .tuple #[z, .bool false] else z) w := by
  obtain ⟨D, ⟨es, clock, hb, F, _, rfl⟩, hd⟩ := h
  have hk : WideAt.IsKeyLit kl := K.key hkey
  obtain ⟨h1, h2⟩ := hd kl hk
  rcases Maps.fit_look c K ht hz hb F hkey with ⟨hrun, _, hat⟩ | ⟨e0, y, _, _, hrun, hRv, hat, _⟩
  · exact hrun
  · rw [Maps.has_true_of_atKey hat, hv] at h1
    cases h1
/-- Both at once. -/
theorem Mp.look (h : Mp P k w b n m) (K : Maps.Keyed P k) (ht : P.underlying t = some (.map k e)) {z : Value} (hz : (zeroValue e).run P w = .ok z w) (hkey : keyOf P k key = some kl) (c : Bool) :
    (Instr.lookup t (.map (some b)) key c).run P w = .ok (if c then .tuple #[(m kl).getD z, .bool (m kl).isSome] else (m kl).getD z) w := by
  cases hv : m kl with
  | none => exact h.look_none K ht hz hkey hv c
  | some v => exact h.look_some K ht hz hkey hv c
/-- 'm[k] = v'. -/
theorem Mp.update (h : Mp P k w b n m) (K : Maps.Keyed P k) (ht : P.underlying t = some (.map k e)) (hn : n < maxLen) (hkey : keyOf P k key = some kl) (val : Value) :
    ∃ w', (Instr.mapUpdate t (.map (some b)) key val).run P w = .ok () w' ∧ Mp P k w' b (n + 1) (mpSet m kl val) ∧ w.grownBy w' (some b) ∧ w'.heap.size = w.heap.size := by
  obtain ⟨D, ho, hd⟩ := h
  have hk : WideAt.IsKeyLit kl := K.key hkey
  obtain ⟨w', hrun, ho', ht'⟩ := ho.store K ht hn hkey (show heldR val = some (.held val, []) from rfl)
  refine ⟨w', hrun, ⟨_, ho', fun l hl => ?_⟩, ht'.grown, ?_⟩
  · by_cases hs : l = kl
    · subst hs
      have e1 : mpSet m l val l = some val := by unfold mpSet; rw [WideAt.sameKey_self hk]; rfl
      rw [e1]
      refine ⟨by rw [Maps.has_put_same ho.isMap hk]; rfl, fun v hv z => ?_⟩
      injection hv with hv
      rw [Maps.atKey_put_same ho.isMap hk, hv]
    · have e1 : mpSet m kl val l = m l := by
        unfold mpSet
        rw [if_neg]
        intro c
        exact hs (WideAt.sameKey_eq c)
      rw [e1, Maps.has_put_other hs]
      refine ⟨(hd l hl).1, fun v hv z => ?_⟩
      rw [Maps.atKey_put_other hs]
      exact (hd l hl).2 v hv z
  · obtain ⟨es, clock, es', clock', hb, rfl⟩ := ht'
    simp [ChangeMaps.setBlock]
/-- 'delete(m, k)'. -/
theorem Mp.drop (h : Mp P k w b n m) (K : Maps.Keyed P k) (ht : P.underlying t = some (.map k e)) (hkey : keyOf P k key = some kl) (ty : TypeId) :
    ∃ w', (Builtin.delete_ #[t, k] ty #[.map (some b), key]).run P w = .ok (.tuple #[]) w' ∧ Mp P k w' b n (mpDel m kl) ∧ w.grownBy w' (some b) ∧ w'.heap.size = w.heap.size := by
  obtain ⟨D, ho, hd⟩ := h
  have hk : WideAt.IsKeyLit kl := K.key hkey
  obtain ⟨w', hrun, ho', ht'⟩ := ho.drop K ht hkey ty
  refine ⟨w', hrun, ⟨_, ho', fun l hl => ?_⟩, ht'.grown, ?_⟩
  · by_cases hs : l = kl
    · subst hs
      have e1 : mpDel m l l = none := by unfold mpDel; rw [WideAt.sameKey_self hk]; rfl
      rw [e1]
      exact ⟨by rw [Maps.has_del_same]; rfl, fun v hv z => by cases hv⟩
    · have e1 : mpDel m kl l = m l := by
        unfold mpDel
        rw [if_neg]
        intro c
        exact hs (WideAt.sameKey_eq c)
      rw [e1, Maps.has_del_other hs]
      refine ⟨(hd l hl).1, fun v hv z => ?_⟩
      rw [Maps.atKey_del_other hs]
      exact (hd l hl).2 v hv z
  · obtain ⟨es, clock, es', clock', hb, rfl⟩ := ht'
    simp [ChangeMaps.setBlock]
end
/-- 'm[k] = v' at the operation. -/
theorem wpList_mp_set {P : Program} (w : World) {ops : Array Oper} {rest : List Oper} {o : Oper} {a : Act} {Q : Exit → Act → World → Prop}
    (hg : o.guard = none) (mo x v : Operand) (t : TypeId) (hop : o.op = Op.mapUpdate t mo x v)
    (k e : TypeId) (K : Maps.Keyed P k) (ht : P.underlying t = some (.map k e)) (b n : Nat) (m : Lit → Option Value)
    (hm : a.eval mo = .map (some b)) (hown : Mp P k w b n m) (hn : n < maxLen) (key val : Value) (kl : Lit) (hx : a.eval x = key) (hv : a.eval v = val) (hkey : keyOf P k key = some kl)
    (hK : ∀ w', Mp P k w' b (n + 1) (mpSet m kl val) → w.grownBy w' (some b) → w'.heap.size = w.heap.size → wpList P ops Q rest (a.put o.dst undef) w') :
    wpList P ops Q (o :: rest) a w := by
  refine wpList_plain hg fun K' hK' => ?_
  obtain ⟨w', hrun, r1, r2, r3⟩ := hown.update K ht hn hkey val
  unfold Oper.wp
  simp [execOp, hop, hm, hx, hv, hrun, Result.andThen]
  exact hK' _ _ (hK w' r1 r2 r3)
/-- 'm[k]' at the operation. -/
theorem wpList_mp_get {P : Program} (w : World) {ops : Array Oper} {rest : List Oper} {o : Oper} {a : Act} {Q : Exit → Act → World → Prop}
    (hg : o.guard = none) (mo x : Operand) (t : TypeId) (hop : o.op = Op.lookup t mo x false)
    (k e : TypeId) (K : Maps.Keyed P k) (ht : P.underlying t = some (.map k e)) (z : Value) (hz : (zeroValue e).run P w = .ok z w) (b n : Nat) (m : Lit → Option Value)
    (hm : a.eval mo = .map (some b)) (hown : Mp P k w b n m) (key : Value) (kl : Lit) (hx : a.eval x = key) (hkey : keyOf P k key = some kl)
    (hK : wpList P ops Q rest (a.put o.dst ((m kl).getD z)) w) :
    wpList P ops Q (o :: rest) a w := by
  refine wpList_plain hg fun K' hK' => ?_
  have hrun := hown.look K ht hz hkey false
  unfold Oper.wp
  simp [execOp, hop, hm, hx, hrun, Result.andThen]
  exact hK' _ _ hK
/-- 'v, ok := m[k]' at the operation. -/
theorem wpList_mp_ok {P : Program} (w : World) {ops : Array Oper} {rest : List Oper} {o : Oper} {a : Act} {Q : Exit → Act → World → Prop}
    (hg : o.guard = none) (mo x : Operand) (t : TypeId) (hop : o.op = Op.lookup t mo x true)
    (k e : TypeId) (K : Maps.Keyed P k) (ht : P.underlying t = some (.map k e)) (z : Value) (hz : (zeroValue e).run P w = .ok z w) (b n : Nat) (m : Lit → Option Value)
    (hm : a.eval mo = .map (some b)) (hown : Mp P k w b n m) (key : Value) (kl : Lit) (hx : a.eval x = key) (hkey : keyOf P k key = some kl)
    (hK : wpList P ops Q rest (a.put o.dst (.tuple #[(m kl).getD z, .bool (m kl).isSome])) w) :
    wpList P ops Q (o :: rest) a w := by
  refine wpList_plain hg fun K' hK' => ?_
  have hrun := hown.look K ht hz hkey true
  unfold Oper.wp
  simp [execOp, hop, hm, hx, hrun, Result.andThen]
  exact hK' _ _ hK
/-- .. the key is there; or it is not. -/
theorem wpList_mp_yes {P : Program} (w : World) {ops : Array Oper} {rest : List Oper} {o : Oper} {a : Act} {Q : Exit → Act → World → Prop}
    (hg : o.guard = none) (mo x : Operand) (t : TypeId) (hop : o.op = Op.lookup t mo x true)
    (k e : TypeId) (K : Maps.Keyed P k) (ht : P.underlying t = some (.map k e)) (z : Value) (hz : (zeroValue e).run P w = .ok z w) (b n : Nat) (m : Lit → Option Value)
    (hm : a.eval mo = .map (some b)) (hown : Mp P k w b n m) (key : Value) (kl : Lit) (hx : a.eval x = key) (hkey : keyOf P k key = some kl) (v : Value) (hv : m kl = some v)
    (hK : wpList P ops Q rest (a.put o.dst (.tuple #[v, .bool true])) w) :
    wpList P ops Q (o :: rest) a w :=
  wpList_mp_ok w hg mo x t hop k e K ht z hz b n m hm hown key kl hx hkey (by rw [hv]; exact hK)
theorem wpList_mp_no {P : Program} (w : World) {ops : Array Oper} {rest : List Oper} {o : Oper} {a : Act} {Q : Exit → Act → World → Prop}
    (hg : o.guard = none) (mo x : Operand) (t : TypeId) (hop : o.op = Op.lookup t mo x true)
    (k e : TypeId) (K : Maps.Keyed P k) (ht : P.underlying t = some (.map k e)) (z : Value) (hz : (zeroValue e).run P w = .ok z w) (b n : Nat) (m : Lit → Option Value)
    (hm : a.eval mo = .map (some b)) (hown : Mp P k w b n m) (key : Value) (kl : Lit) (hx : a.eval x = key) (hkey : keyOf P k key = some kl) (hv : m kl = none)
    (hK : wpList P ops Q rest (a.put o.dst (.tuple #[z, .bool false])) w) :
    wpList P ops Q (o :: rest) a w :=
  wpList_mp_ok w hg mo x t hop k e K ht z hz b n m hm hown key kl hx hkey (by rw [hv]; exact hK)
end Go.Proofs.YtihcmifikbkbcaaGreatDoor

/- Strings as keys of maps. -/
namespace Go.Proofs.YtihcmifikbkbcaaGreatDoor
set_option linter.unusedVariables false
open Go.RowKit
/-- A string as a key. -/
def codeLit (s : ByteArray) : Lit := .string s.data.toList
theorem bytes_ext' {a b : ByteArray} (h : a.data.toList = b.data.toList) : a = b := by
  cases a; cases b
  simp only [Array.toList_inj] at h
  rw [h]
theorem sameKey_code (a b : ByteArray) : (codeLit a).sameKey (codeLit b) = (b.toList == a.toList) := by
  unfold codeLit Lit.sameKey
  rw [Bool.eq_iff_iff]
  simp only [beq_iff_eq]
  constructor
  · intro h; rw [show a = b from bytes_ext' h]
  · intro h
    rw [ByteArray.toList_eq, ByteArray.toList_eq] at h
    exact h.symm
theorem strKeyed : Maps.Keyed Tryz.prog 9 := Maps.string_keyed Tryz.underlying9
theorem strKey {s : ByteArray} (h : s.size ≤ 1000000000) : keyOf Tryz.prog 9 (.string s) = some (codeLit s) := Go.WideMaps.keyOf_string_mk Tryz.underlying9 (by unfold maxLen; omega)
theorem zeroBool (w : World) : (zeroValue 4).run Tryz.prog w = .ok (.bool false) w := by kernel_rfl
theorem wpList_mp_getv {P : Program} (w : World) {ops : Array Oper} {rest : List Oper} {o : Oper} {a : Act} {Q : Exit → Act → World → Prop}
    (hg : o.guard = none) (mo x : Operand) (t : TypeId) (hop : o.op = Op.lookup t mo x false)
    (k e : TypeId) (K : Maps.Keyed P k) (ht : P.underlying t = some (.map k e)) (z : Value) (hz : (zeroValue e).run P w = .ok z w) (b n : Nat) (m : Lit → Option Value)
    (hm : a.eval mo = .map (some b)) (hown : Mp P k w b n m) (key : Value) (kl : Lit) (hx : a.eval x = key) (hkey : keyOf P k key = some kl) (v : Value) (hv : (m kl).getD z = v)
    (hK : wpList P ops Q rest (a.put o.dst v) w) :
    wpList P ops Q (o :: rest) a w :=
  wpList_mp_get w hg mo x t hop k e K ht z hz b n m hm hown key kl hx hkey (by rw [hv]; exact hK)
/-- A set of strings as a map of bools. -/
def setMp (ks : List ByteArray) : Lit → Option Value := fun l => if ks.any (fun k => l.sameKey (codeLit k)) then some (.bool true) else none
def hasK (ks : List ByteArray) (k : ByteArray) : Bool := ks.any fun x => x.toList == k.toList
theorem setMp_nil : setMp [] = mpNew := rfl
theorem setMp_get (ks : List ByteArray) (k : ByteArray) : (setMp ks (codeLit k)).getD (.bool false) = .bool (hasK ks k) := by
  unfold setMp hasK
  have : (fun x : ByteArray => (codeLit k).sameKey (codeLit x)) = fun x => x.toList == k.toList := by
    funext x
    rw [sameKey_code]
  rw [this]
  cases ks.any fun x => x.toList == k.toList <;> rfl
theorem setMp_snoc (ks : List ByteArray) (s : ByteArray) : mpSet (setMp ks) (codeLit s) (.bool true) = setMp (ks ++ [s]) := by
  funext l
  unfold mpSet setMp
  rw [List.any_append]
  by_cases e : l.sameKey (codeLit s) = true
  · simp [e]
  · have e' : l.sameKey (codeLit s) = false := by simpa using e
    simp [e']
end Go.Proofs.YtihcmifikbkbcaaGreatDoor

/- What a stream makes: Pick, Flip, Range, Changed. -/
namespace Go.Proofs.YtihcmifikbkbcaaGreatDoor
set_option linter.unusedVariables false
open Go.RowKit

/-- A slice of ints that reads as a list. -/
def Ints (w : World) (A : Option Addr) (zs : List Int) : Prop :=
  ∀ i (h : i < zs.length), ∃ b off, A = some ⟨b, off, none⟩ ∧ w.cell? ⟨b, off + i, none⟩ = some (.int .i64 zs[i])

theorem Ints.of_row {w : World} {n : Nat} {T : TypeId} {f : Nat × Nat} {zs : List Int} {cs : Array Value} (h : w.heap[n]? = some (.cells cs T f)) (hc : cs = (zs.map (Value.int .i64)).toArray) :
    Ints w (some ⟨n, 0, none⟩) zs := by
  intro i hi
  refine ⟨n, 0, rfl, ?_⟩
  simp only [World.cell?, h, hc]
  simp [hi]

/-- What a call that asks the stream leaves. -/
def Asked (w : World) (bs K : Nat) (H : Frz) (W W' : World) : Prop := Lw w bs K H W' ∧ W.grownBy W' (some bs)

section
variable {w W : World} {bs K : Nat} {H : Frz}

theorem Lw.next' (h : Lw w bs K H W) (n : Int) (hK : K ≤ 1099511627776) (hn : n ≤ 9223372036854775807) (h1 : 1 ≤ n) :
    Calls Tryz.prog 12 #[.pointer (some ⟨bs, 0, none⟩), .int .i64 n] W fun e W' =>
      ∃ r : Int, e = .returned (.int .i64 r) ∧ 0 ≤ r ∧ r < n ∧ Lw w bs (K + 1) H W' ∧ W.grownBy W' (some bs) ∧ W'.heap.size = W.heap.size :=
  (h.next n hK hn).mono fun e W' ⟨r, g1, g2, g3, g4, g5, g6, g7⟩ => ⟨r, g1, g2, g3 h1, g5, g6, g7⟩

set_option maxHeartbeats 400000 in
theorem Lw.pick (h : Lw w bs K H W) (A : Option Addr) (cap : Nat) (zs : List Int) (hA : Ints W A zs) (hne : ∀ b off, A = some ⟨b, off, none⟩ → b ≠ bs)
    (h0 : 0 < zs.length) (hl : zs.length ≤ 1000000) (hK : K ≤ 1099511627776) :
    Calls Tryz.prog 7 #[.pointer (some ⟨bs, 0, none⟩), .slice A zs.length cap] W fun e W' =>
      ∃ z : Int, e = .returned (.int .i64 z) ∧ z ∈ zs ∧ Lw w bs (K + 1) H W' ∧ W.grownBy W' (some bs) ∧ W'.heap.size = W.heap.size := by
  have HA := Lib.hid hA
  have HN := Lib.hid hne
  clear hA hne
  go_enter Tryz.func7, Tryz.ntmps7
  go_wp2_with fail
  refine (h.next' _ hK (by omega) (by omega)).mono ?_
  rintro e W' ⟨r, rfl, r0, r1, L, g, hz⟩
  obtain ⟨i, rfl⟩ := Int.eq_ofNat_of_zero_le r0
  have hi : i < zs.length := by omega
  obtain ⟨b, off, rfl, hc⟩ := HA.out i hi
  have hc' := (World.cell?_of_block (a := ⟨b, off + i, none⟩) (g.block b (World.block_lt_of_cell? W _ hc) (fun e => HN.out b off rfl (by injection e)))).trans hc
  have hm := Lib.hid (List.getElem_mem hi)
  have HG := Lib.hid g
  have HZ := Lib.hid hz
  generalize zs[i] = z at hc' hm
  clear hc g hz
  go_wp2_with fail
  go_ret
  exact ⟨z, rfl, hm.out, L, HG.out, HZ.out⟩

set_option maxHeartbeats 400000 in
theorem Lw.flip (h : Lw w bs K H W) (n : Int) (hn : n ≤ 9223372036854775807) (hK : K ≤ 1099511627776) :
    Calls Tryz.prog 14 #[.pointer (some ⟨bs, 0, none⟩), .int .i64 n] W fun e W' =>
      ∃ t : Bool, e = .returned (.bool t) ∧ Lw w bs (K + 1) H W' ∧ W.grownBy W' (some bs) ∧ W'.heap.size = W.heap.size := by
  go_enter Tryz.func14, Tryz.ntmps14
  go_wp2_with fail
  refine (h.next n hK hn).mono ?_
  rintro e W' ⟨r, rfl, r0, r1, r2, L, g, hz⟩
  have HG := Lib.hid g
  have HZ := Lib.hid hz
  clear g hz
  go_wp2_with fail
  go_ret
  exact ⟨_, rfl, L, HG.out, HZ.out⟩

set_option maxHeartbeats 400000 in
theorem Lw.range (h : Lw w bs K H W) (l u : Int) (hl : -1000000000000000 ≤ l) (hu : u ≤ 1000000000000000) (hlu : l ≤ u) (hK : K ≤ 1099511627776) :
    Calls Tryz.prog 6 #[.pointer (some ⟨bs, 0, none⟩), .int .i64 l, .int .i64 u] W fun e W' =>
      ∃ r : Int, e = .returned (.int .i64 r) ∧ l ≤ r ∧ r ≤ u ∧ Lw w bs (K + 1) H W' ∧ W.grownBy W' (some bs) ∧ W'.heap.size = W.heap.size := by
  go_enter Tryz.func6, Tryz.ntmps6
  go_wp2_with fail
  refine (h.next' _ hK (by omega) (by omega)).mono ?_
  rintro e W' ⟨r, rfl, r0, r1, L, g, hz⟩
  have HG := Lib.hid g
  have HZ := Lib.hid hz
  clear g hz
  go_wp2_with fail
  go_ret
  exact ⟨_, rfl, by omega, by omega, L, HG.out, HZ.out⟩
end
end Go.Proofs.YtihcmifikbkbcaaGreatDoor

/- append of one element to a slice of the call's own, its side conditions paid. -/
namespace Go.Proofs.YtihcmifikbkbcaaGreatDoor
set_option linter.unusedVariables false
open Go.RowKit

theorem grown_alloc_left {w w' : World} {o : Obj} {row : Option Nat} (h : (w.alloc o).grownBy w' row) : w.grownBy w' row :=
  ⟨h.os, h.tape, h.output, Nat.le_trans (by simp) h.size, fun k hk hne => (h.block k (by simp; omega) hne).trans (Below.heap_alloc w o k hk)⟩

theorem own_below {w w' : World} {B : Nat} {e : TypeId} {size n : Nat} {v : Value} {xs : List Value} (h : w.ownsRow B e size v n xs) (hB : B ≤ w.heap.size) (hg : w.grownBy w' v.ownBlock) : Below B w w' :=
  (Below.refl B w).grown hg hB (fun k hk => (h.lt k hk).1)

/-- 'v = append(v, x)', x laid in a block of its own just before. -/
theorem wpList_append1 {P : Program} {wr : World} {ops : Array Oper} {rest : List Oper} {o : Oper} {a : Act} {Q : Exit → Act → World → Prop} (hgd : o.guard = none) (s x : Operand) (t : TypeId)
    (ho : o.op = .call { callee := .builtin .append, args := #[s, x], argTypes := #[t, t] })
    (B : Nat) (e : TypeId) (i : TypeInfo) (z : Value) (size bytes : Nat) (ht : P.underlying t = some (.slice e)) (hi : P.info? e = some i) (hz : i.zero = some z)
    (hsize : i.size = size) (hby : i.bytes = bytes) (hzs : z.cells.size = size) (hsz : 0 < size)
    (v : Value) (n : Nat) (xs : List Value) (hs : a.eval s = v) (hown : wr.ownsRow B e size v n xs)
    (cs : Array Value) (T : TypeId) (hx : a.eval x = .slice (some ⟨wr.heap.size, 0, none⟩) 1 1) (hcs : cs.size = size) (h1 : ∀ u ∈ cs.toList, u.oneCell' = true)
    (hn : n ≤ 4294967296) (hbytes : bytes ≤ 4096) (hB : B ≤ wr.heap.size)
    (h : ∀ v' w', w'.ownsRow B e size v' (n + 1) (xs ++ cs.toList) → wr.grownBy w' v.ownBlock → Below B wr w' → wpList P ops Q rest (a.put o.dst v') w') :
    wpList P ops Q (o :: rest) a (wr.alloc (.cells cs T)) := by
  refine wpList_append_own _ hgd s x t ho B e i z size bytes ht hi hz hsize hby hzs hsz v n xs hs (hown.alloc _) ⟨wr.heap.size, 0, none⟩ 1 1 cs.toList hx (by simpa using hcs) ?_ h1 (by simp only [maxLen]; omega) ?_ (by simp; omega) ?_
  · intro j u hu
    have hj : j < cs.size := by have := (List.getElem?_eq_some_iff.1 hu).1; simpa using this
    rw [Addr.add_lit, World.cell?_alloc_new]
    simp at hu ⊢
    exact hu
  · have : (n + 1) * bytes ≤ 4294967297 * 4096 := Nat.mul_le_mul (by omega) hbytes
    omega
  · intro v' w' ho' hg' _
    have hg := grown_alloc_left hg'
    exact h v' w' ho' hg (own_below hown hB hg)
end Go.Proofs.YtihcmifikbkbcaaGreatDoor

/- The state of a law behind an append to a row of its own. -/
namespace Go.Proofs.YtihcmifikbkbcaaGreatDoor
open Go.RowKit
section
variable {w W W' : World} {bs K : Nat} {H : Frz}
theorem Lw.grown (h : Lw w bs K H W) {row : Option Nat} (hg : W.grownBy W' row) (hr : ∀ g, row = some g → bs < g ∧ H g = none) : Lw w bs K H W' :=
  ⟨h.st.below ((Below.refl (bs + 1) W).grown hg h.lt (fun k hk => (hr k hk).1)), h.bel.grown hg h.bel.size (fun k hk => by have := (hr k hk).1; have := h.le; omega), h.le, h.fin.grown' hg (fun g hg => (hr g hg).2), h.apart⟩
end
end Go.Proofs.YtihcmifikbkbcaaGreatDoor

/- Slices of elements of several cells: read in memory that is laid for good; made by appends. -/
namespace Go.Proofs.YtihcmifikbkbcaaGreatDoor
set_option linter.unusedVariables false
open Go.RowKit

section
variable {D : Type}

/-- The slice at A reads as ds, k cells an element. -/
def Rw (H : Frz) (A : Option Addr) (k : Nat) (f : D → Nat → Value) (ds : List D) : Prop :=
  ∀ i (h : i < ds.length), ∃ b off, A = some ⟨b, off, none⟩ ∧ ∀ j, j < k → H.cell? ⟨b, off + i * k + j, none⟩ = some (f ds[i] j)
theorem Rw.le {H H' : Frz} {A : Option Addr} {k : Nat} {f : D → Nat → Value} {ds : List D} (h : Rw H A k f ds) (hl : H.Le H') : Rw H' A k f ds := fun i hi => by
  obtain ⟨b, off, e, hc⟩ := h i hi
  exact ⟨b, off, e, fun j hj => hl.cell (hc j hj)⟩
theorem Rw.nil {H : Frz} {A : Option Addr} {k : Nat} {f : D → Nat → Value} : Rw H A k f ([] : List D) := fun i hi => absurd hi (by simp)
theorem Rw.at_ {H : Frz} {A : Option Addr} {k : Nat} {f : D → Nat → Value} {ds : List D} (h : Rw H A k f ds) {W : World} (hH : H.In W) {i : Nat} (hi : i < ds.length) (hk : 0 < k) :
    ∃ b off, A = some ⟨b, off, none⟩ ∧ b < W.heap.size ∧ ∀ j, j < k → W.cell? ⟨b, off + i * k + j, none⟩ = some (f ds[i] j) := by
  obtain ⟨b, off, e, hc⟩ := h i hi
  exact ⟨b, off, e, Frz.cell_lt hH (hc 0 hk), fun j hj => hH.cell (hc j hj)⟩
/-- The cells of a list of elements. -/
def cellsOf (k : Nat) (f : D → Nat → Value) (ds : List D) : List Value := ds.flatMap fun d => (List.range k).map (f d)
theorem cellsOf_snoc (k : Nat) (f : D → Nat → Value) (ds : List D) (d : D) : cellsOf k f (ds ++ [d]) = cellsOf k f ds ++ (List.range k).map (f d) := by simp [cellsOf]
theorem cellsOf_len (k : Nat) (f : D → Nat → Value) (ds : List D) : (cellsOf k f ds).length = ds.length * k := by
  induction ds with
  | nil => simp [cellsOf]
  | cons d ds ih =>
    simp only [cellsOf, List.flatMap_cons, List.length_append, List.length_map, List.length_range, List.length_cons] at ih ⊢
    rw [ih, Nat.succ_mul]; omega
theorem cellsOf_get (k : Nat) (f : D → Nat → Value) (ds : List D) (i j : Nat) (hi : i < ds.length) (hj : j < k) : (cellsOf k f ds)[i * k + j]? = some (f ds[i] j) := by
  induction ds generalizing i with
  | nil => simp at hi
  | cons d ds ih =>
    have e : cellsOf k f (d :: ds) = (List.range k).map (f d) ++ cellsOf k f ds := by simp [cellsOf]
    rw [e]
    cases i with
    | zero => rw [List.getElem?_append_left (by simp; omega)]; simp [hj]
    | succ i =>
      rw [List.getElem?_append_right (by simp; rw [Nat.succ_mul]; omega)]
      have : (i + 1) * k + j - ((List.range k).map (f d)).length = i * k + j := by simp; rw [Nat.succ_mul]; omega
      rw [this]
      simpa using ih i (by simpa using hi)

/-- A slice of the call's own that holds ds. -/
def Orow (w : World) (B : Nat) (T k : Nat) (f : D → Nat → Value) (v : Value) (ds : List D) : Prop := w.ownsRow B T k v ds.length (cellsOf k f ds)
section
variable {w w' : World} {B T k : Nat} {f : D → Nat → Value} {v v' : Value} {ds : List D}
theorem Orow.own (h : Orow w B T k f v ds) : w.ownsRow B T k v ds.length (cellsOf k f ds) := h
theorem Orow.nil (w : World) (B T k : Nat) (f : D → Nat → Value) : Orow w B T k f (.slice none 0 0) [] := World.ownsRow_nil _ _ _ _
theorem Orow.lt (h : Orow w B T k f v ds) {g : Nat} (e : v.ownBlock = some g) : B ≤ g ∧ g < w.heap.size := World.ownsRow.lt h g e
theorem Orow.kept (h : Orow w B T k f v ds) {row : Option Nat} (hg : w.grownBy w' row) (hne : v.ownBlock = none ∨ v.ownBlock ≠ row) : Orow w' B T k f v ds := World.ownsRow.kept h hg hne
theorem Orow.far (h : Orow w B T k f v ds) {g : Nat} (hg : w.grownBy w' (some g)) (hne : g < B) : Orow w' B T k f v ds := h.kept hg (by
  cases e : v.ownBlock with
  | none => exact Or.inl rfl
  | some q => right; intro c; injection c with c; have := (h.lt e).1; omega)
theorem Orow.below (h : Orow w B T k f v ds) (hb : Below w.heap.size w w') : Orow w' B T k f v ds :=
  h.kept (row := none) ⟨hb.os, hb.tape, hb.output, hb.size, fun i hi _ => hb.block i hi⟩ (by cases e : v.ownBlock <;> simp)
theorem Orow.mono {B' : Nat} (h : Orow w B T k f v ds) (hB : B' ≤ B) : Orow w B' T k f v ds := by
  refine ⟨h.1, ?_⟩
  rcases h.2 with h | ⟨g, cap, cur, hv, hg, r⟩
  · exact Or.inl h
  · exact Or.inr ⟨g, cap, cur, hv, by omega, r⟩
theorem Orow.snoc {n : Nat} {d : D} {cs : List Value} (h : w'.ownsRow B T k v' (ds.length + 1) (cellsOf k f ds ++ cs)) (hc : (List.range k).map (f d) = cs) : Orow w' B T k f v' (ds ++ [d]) := by
  unfold Orow
  rw [cellsOf_snoc, hc]
  simpa using h
theorem Orow.slice (h : Orow w B T k f v ds) : ∃ A cap, v = .slice A ds.length cap ∧ ds.length ≤ cap := by
  rcases h.2 with ⟨rfl, hn⟩ | ⟨g, cap, cur, rfl, hB, hh, hle, hm, hs, ht⟩
  · exact ⟨none, 0, by rw [hn], by omega⟩
  · exact ⟨_, cap, rfl, hle⟩
/-- Laid for good: it reads as ds. -/
theorem Orow.freeze (h : Orow w B T k f v ds) (H : Frz) :
    ∃ (A : Option Addr) (cap : Nat) (H' : Frz), v = .slice A ds.length cap ∧ ds.length ≤ cap ∧ (H.In w → H'.In w) ∧ ((∀ g, v.ownBlock = some g → H g = none) → H.Le H') ∧ Rw H' A k f ds ∧ (∀ b, b < B → H' b = H b) ∧ (∀ b, w.heap.size ≤ b → H' b = H b) := by
  rcases h.2 with ⟨rfl, hn⟩ | ⟨g, cap, cur, rfl, hB, hh, hle, hm, hs, ht⟩
  · have : ds = [] := List.eq_nil_of_length_eq_zero hn
    subst this
    exact ⟨none, 0, H, rfl, Nat.le_refl _, id, fun _ => Frz.Le.refl _, Rw.nil, fun _ _ => rfl, fun _ _ => rfl⟩
  · refine ⟨some ⟨g, 0, none⟩, cap, H.add g (.cells cur T (0, 0)), rfl, hle, fun hI => hI.add hh, fun hN => Frz.le_add (hN g rfl), ?_, fun b hb => Frz.add_other (by omega), fun b hb => Frz.add_other (by have := lt_of_heap hh; omega)⟩
    intro i hi
    refine ⟨g, 0, rfl, fun j hj => ?_⟩
    have hx := cellsOf_get k f ds i j hi hj
    rw [← ht] at hx
    have hlt : i * k + j < ds.length * k := by
      have : (i + 1) * k ≤ ds.length * k := Nat.mul_le_mul_right _ hi
      rw [Nat.succ_mul] at this; omega
    rw [List.getElem?_take_of_lt hlt] at hx
    unfold Frz.cell?
    rw [show (⟨g, 0 + i * k + j, none⟩ : Addr).block = g from rfl, Frz.add_at]
    simpa using hx
end

/-- 'v = append(v, x)', x an element of k cells laid in a block of its own just before. -/
theorem wpList_app {P : Program} {wr : World} {ops : Array Oper} {rest : List Oper} {o : Oper} {a : Act} {Q : Exit → Act → World → Prop} (hgd : o.guard = none) (s x : Operand) (t : TypeId)
    (ho : o.op = .call { callee := .builtin .append, args := #[s, x], argTypes := #[t, t] })
    (B : Nat) (e : TypeId) (i : TypeInfo) (z : Value) (k bytes : Nat) (ht : P.underlying t = some (.slice e)) (hi : P.info? e = some i) (hz : i.zero = some z)
    (hsize : i.size = k) (hby : i.bytes = bytes) (hzs : z.cells.size = k) (hsz : 0 < k)
    (f : D → Nat → Value) (v : Value) (ds : List D) (hs : a.eval s = v) (hown : Orow wr B e k f v ds)
    (d : D) (cs : Array Value) (T : TypeId) (hx : a.eval x = .slice (some ⟨wr.heap.size, 0, none⟩) 1 1) (hcs : (List.range k).map (f d) = cs.toList) (h1 : ∀ u ∈ cs.toList, u.oneCell' = true)
    (hn : ds.length ≤ 4294967296) (hbytes : bytes ≤ 4096) (hB : B ≤ wr.heap.size)
    (h : ∀ v' w', Orow w' B e k f v' (ds ++ [d]) → wr.grownBy w' v.ownBlock → Below B wr w' → wpList P ops Q rest (a.put o.dst v') w') :
    wpList P ops Q (o :: rest) a (wr.alloc (.cells cs T)) := by
  refine wpList_append1 hgd s x t ho B e i z k bytes ht hi hz hsize hby hzs hsz v ds.length _ hs hown.own cs T hx ?_ h1 hn hbytes hB ?_
  · have := congrArg List.length hcs; simpa using this.symm
  · intro v' w' o1 g1 b1
    exact h v' w' (Orow.snoc (n := 0) o1 hcs) g1 b1
/-- The same, with word of where the new slice lies. -/
theorem wpList_app_at {P : Program} {wr : World} {ops : Array Oper} {rest : List Oper} {o : Oper} {a : Act} {Q : Exit → Act → World → Prop} (hgd : o.guard = none) (s x : Operand) (t : TypeId)
    (ho : o.op = .call { callee := .builtin .append, args := #[s, x], argTypes := #[t, t] })
    (B : Nat) (e : TypeId) (i : TypeInfo) (z : Value) (k bytes : Nat) (ht : P.underlying t = some (.slice e)) (hi : P.info? e = some i) (hz : i.zero = some z)
    (hsize : i.size = k) (hby : i.bytes = bytes) (hzs : z.cells.size = k) (hsz : 0 < k)
    (f : D → Nat → Value) (v : Value) (ds : List D) (hs : a.eval s = v) (hown : Orow wr B e k f v ds)
    (d : D) (cs : Array Value) (T : TypeId) (hx : a.eval x = .slice (some ⟨wr.heap.size, 0, none⟩) 1 1) (hcs : (List.range k).map (f d) = cs.toList) (h1 : ∀ u ∈ cs.toList, u.oneCell' = true)
    (hn : ds.length ≤ 4294967296) (hbytes : bytes ≤ 4096) (hB : B ≤ wr.heap.size)
    (h : ∀ v' w', Orow w' B e k f v' (ds ++ [d]) → wr.grownBy w' v.ownBlock → Below B wr w' → (v'.ownBlock = v.ownBlock ∨ ∃ g, v'.ownBlock = some g ∧ wr.heap.size < g) → wpList P ops Q rest (a.put o.dst v') w') :
    wpList P ops Q (o :: rest) a (wr.alloc (.cells cs T)) := by
  have hck : cs.size = k := by have := congrArg List.length hcs; simpa using this.symm
  refine wpList_append_own_at _ hgd s x t ho B e i z k bytes ht hi hz hsize hby hzs hsz v ds.length _ hs (hown.own.alloc _) ⟨wr.heap.size, 0, none⟩ 1 1 cs.toList hx (by simpa using hck) ?_ h1 (by simp only [maxLen]; omega) ?_ (by simp; omega) ?_
  · intro j u hu
    have hj : j < cs.size := by have := (List.getElem?_eq_some_iff.1 hu).1; simpa using this
    rw [Addr.add_lit, World.cell?_alloc_new]
    simp at hu ⊢
    exact hu
  · have : (ds.length + 1) * bytes ≤ 4294967297 * 4096 := Nat.mul_le_mul (by omega) hbytes
    omega
  · intro v' w' ho' hg' _ hat
    have hg := grown_alloc_left hg'
    refine h v' w' (Orow.snoc (n := 0) ho' hcs) hg (own_below hown.own hB hg) ?_
    rcases hat with hat | hat
    · exact Or.inl hat
    · exact Or.inr ⟨_, hat, by simp⟩
/-- The same, x laid in whatever block. -/
theorem wpList_app_any {P : Program} {wr : World} {ops : Array Oper} {rest : List Oper} {o : Oper} {a : Act} {Q : Exit → Act → World → Prop} (hgd : o.guard = none) (s x : Operand) (t : TypeId)
    (ho : o.op = .call { callee := .builtin .append, args := #[s, x], argTypes := #[t, t] })
    (B : Nat) (e : TypeId) (i : TypeInfo) (z : Value) (k bytes : Nat) (ht : P.underlying t = some (.slice e)) (hi : P.info? e = some i) (hz : i.zero = some z)
    (hsize : i.size = k) (hby : i.bytes = bytes) (hzs : z.cells.size = k) (hsz : 0 < k)
    (f : D → Nat → Value) (v : Value) (ds : List D) (hs : a.eval s = v) (hown : Orow wr B e k f v ds)
    (d : D) (q : Nat) (cs : Array Value) (T : TypeId) (hx : a.eval x = .slice (some ⟨q, 0, none⟩) 1 1) (hq : wr.heap[q]? = some (.cells cs T (0, 0))) (hcs : (List.range k).map (f d) = cs.toList) (h1 : ∀ u ∈ cs.toList, u.oneCell' = true)
    (hn : ds.length ≤ 4294967296) (hbytes : bytes ≤ 4096) (hB : B ≤ wr.heap.size)
    (h : ∀ v' w', Orow w' B e k f v' (ds ++ [d]) → wr.grownBy w' v.ownBlock → Below B wr w' → (v'.ownBlock = v.ownBlock ∨ v'.ownBlock = some wr.heap.size) → wpList P ops Q rest (a.put o.dst v') w') :
    wpList P ops Q (o :: rest) a wr := by
  have hck : cs.size = k := by have := congrArg List.length hcs; simpa using this.symm
  refine wpList_append_own_at _ hgd s x t ho B e i z k bytes ht hi hz hsize hby hzs hsz v ds.length _ hs hown.own ⟨q, 0, none⟩ 1 1 cs.toList hx (by simpa using hck) ?_ h1 (by simp only [maxLen]; omega) ?_ hB ?_
  · intro j u hu
    have hj : j < cs.size := by have := (List.getElem?_eq_some_iff.1 hu).1; simpa using this
    rw [Addr.add_lit]
    simp only [World.cell?, hq]
    simp at hu ⊢
    exact hu
  · have : (ds.length + 1) * bytes ≤ 4294967297 * 4096 := Nat.mul_le_mul (by omega) hbytes
    omega
  · intro v' w' ho' hg' _ hat
    exact h v' w' (Orow.snoc (n := 0) ho' hcs) hg' (own_below hown.own hB hg') hat
end
end Go.Proofs.YtihcmifikbkbcaaGreatDoor

/- A block laid for good; the first elements of a row. -/
namespace Go.Proofs.YtihcmifikbkbcaaGreatDoor
set_option linter.unusedVariables false
open Go.RowKit
theorem Frz.In.put {H : Frz} {w : World} (h : H.In w) (o : Obj) : ∃ H', H.Le H' ∧ H' w.heap.size = some o ∧ H'.In (w.alloc o) :=
  ⟨H.add w.heap.size o, Frz.le_add (h.none_ (Nat.le_refl _)), Frz.add_at _ _ _, (h.alloc o).add (heap_at rfl)⟩
theorem Rw.take {D : Type} {H : Frz} {A : Option Addr} {k : Nat} {f : D → Nat → Value} {ds : List D} (h : Rw H A k f ds) (n : Nat) : Rw H A k f (ds.take n) := fun i hi => by
  have hi' : i < ds.length := by simp at hi; omega
  obtain ⟨b, off, e, hc⟩ := h i hi'
  refine ⟨b, off, e, fun j hj => ?_⟩
  rw [hc j hj, List.getElem_take]
end Go.Proofs.YtihcmifikbkbcaaGreatDoor

/- Keys: which strings are names. -/
namespace Go.Proofs.YtihcmifikbkbcaaGreatDoor
set_option linter.unusedVariables false
open Go.RowKit

theorem ret_bool' {a b : Bool} (h : a = b) : Ending.returned (.bool a) = .returned (.bool b) := by rw [h]
def smallB (c : UInt8) : Bool := decide ((97 : Int) ≤ c.toNat) && decide ((c.toNat : Int) ≤ 122)
def digitB (c : UInt8) : Bool := decide ((48 : Int) ≤ c.toNat) && decide ((c.toNat : Int) ≤ 57)
def keyC (c : UInt8) : Bool := smallB c || digitB c || ((c.toNat : Int) == 45) || ((c.toNat : Int) == 95)
def allB (p : UInt8 → Bool) (s : ByteArray) : Bool := s.data.toList.all p
/-- What IsKey says. -/
def isKey (s : ByteArray) : Bool := decide (1 ≤ s.size ∧ s.size ≤ 40) && ((s.data.toList.head?.map smallB).getD false && allB keyC s)
theorem isKey_size {s : ByteArray} (h : isKey s = true) : 1 ≤ s.size ∧ s.size ≤ 40 := by simp [isKey] at h; exact h.1

set_option maxHeartbeats 400000 in
theorem pwithin_any (n l h : Int) (w : World) : Calls Tryz.prog 43 #[.int .i64 n, .int .i64 l, .int .i64 h] w fun e w' => e = .returned (.bool (decide (l ≤ n) && decide (n ≤ h))) ∧ w = w' := by
  by_cases h1 : l ≤ n
  · go_enter Tryz.func43, Tryz.ntmps43
    go_wp2
    go_ret
    exact ⟨by simp [h1], rfl⟩
  · go_enter Tryz.func43, Tryz.ntmps43
    go_wp2
    go_ret
    exact ⟨by simp; omega, rfl⟩
theorem small_any (c : UInt8) (w : World) : Calls Tryz.prog 44 #[.int .u8 (c.toNat : Int)] w fun e w' => e = .returned (.bool (smallB c)) ∧ w = w' := by
  unfold smallB
  generalize (c.toNat : Int) = n
  by_cases h1 : 97 ≤ n
  · go_enter Tryz.func44, Tryz.ntmps44
    go_wp2
    go_ret
    exact ⟨by simp [h1], rfl⟩
  · go_enter Tryz.func44, Tryz.ntmps44
    go_wp2
    go_ret
    exact ⟨by simp; omega, rfl⟩
theorem digit_any (c : UInt8) (w : World) : Calls Tryz.prog 47 #[.int .u8 (c.toNat : Int)] w fun e w' => e = .returned (.bool (digitB c)) ∧ w = w' := by
  unfold digitB
  generalize (c.toNat : Int) = n
  by_cases h1 : 48 ≤ n
  · go_enter Tryz.func47, Tryz.ntmps47
    go_wp2
    go_ret
    exact ⟨by simp [h1], rfl⟩
  · go_enter Tryz.func47, Tryz.ntmps47
    go_wp2
    go_ret
    exact ⟨by simp; omega, rfl⟩
set_option maxHeartbeats 400000 in
theorem keyC_any (c : UInt8) (w : World) : Calls Tryz.prog 46 #[.int .u8 (c.toNat : Int)] w fun e w' => e = .returned (.bool (keyC c)) ∧ w = w' := by
  go_enter Tryz.func46, Tryz.ntmps46
  go_wp2_with fail
  refine (small_any c _).mono ?_
  rintro e w' ⟨rfl, rfl⟩
  generalize hs : smallB c = q1
  have HS := Lib.hid hs
  clear hs
  cases q1 with
  | true =>
    go_wp2_with fail
    go_ret
    exact ⟨ret_bool' (by unfold keyC; rw [HS.out]; rfl), rfl⟩
  | false =>
    go_wp2_with fail
    refine (digit_any c _).mono ?_
    rintro e w' ⟨rfl, rfl⟩
    generalize hd : digitB c = q2
    have HD := Lib.hid hd
    clear hd
    cases q2 with
    | true =>
      go_wp2_with fail
      go_ret
      exact ⟨ret_bool' (by unfold keyC; rw [HS.out, HD.out]; rfl), rfl⟩
    | false =>
      cases h : ((c.toNat : Int) == 45) with
      | true =>
        have HN := Lib.hid h
        go_wp2_with fail
        go_ret
        exact ⟨ret_bool' (by unfold keyC; rw [HS.out, HD.out, HN.out]; rfl), rfl⟩
      | false =>
        have HN := Lib.hid h
        go_wp2_with fail
        go_ret
        exact ⟨ret_bool' (by unfold keyC; rw [HS.out, HD.out, HN.out]; rfl), rfl⟩

theorem take_snoc' (s : ByteArray) (k : Nat) (h : k < s.size) : s.data.toList.take (k + 1) = s.data.toList.take k ++ [s[k]] := by
  rw [List.take_succ_eq_append_getElem (by simpa using h)]; rfl
set_option maxHeartbeats 400000 in
theorem all_any (k : Nat) (p : UInt8 → Bool) (hp : ∀ (c : UInt8) (W : World), Calls Tryz.prog k #[.int .u8 (c.toNat : Int)] W fun e W' => e = .returned (.bool (p c)) ∧ W = W')
    (hcall : ∀ (a : Value) (W : World), (callFunc k #[a]).run Tryz.prog W = .ok (.enter k #[a]) W) (s : ByteArray) (w : World) (hs : s.size ≤ 1000000000) :
    Calls Tryz.prog 45 #[.string s, .func (.func k) #[] #[]] w fun e w' => e = .returned (.bool (allB p s)) ∧ w = w' := by
  have HP := Lib.hid hp
  clear hp
  go_enter Tryz.func45, Tryz.ntmps45
  go_wp2_with fail
  go_loop [8] (fun t => ∃ i : Nat, i ≤ s.size ∧ t = .int .i64 i ∧ Hid ((s.data.toList.take i).all p = true)) (fun t => s.size - (intOf t).toNat)
  case atStart => exact ⟨0, by omega, rfl, rfl⟩
  case round =>
    obtain ⟨i, hi, rfl, hall⟩ := hrel
    by_cases hlt : i < s.size
    · have ht := Lib.hid (take_snoc' s i hlt)
      have hm : Hid (s[i] ∈ s.data.toList) := by show s.data[i] ∈ _; simp
      go_wp2_with fail
      refine (HP.out s[i] _).mono ?_
      rintro e w' ⟨rfl, rfl⟩
      generalize s[i] = c at ht hm ⊢
      cases hc : p c with
      | false =>
        have HC := Lib.hid hc
        clear hc
        go_wp2_with fail
        go_ret
        refine ⟨ret_bool' ?_, rfl⟩
        cases e : allB p s with
        | false => rfl
        | true => have := List.all_eq_true.1 e _ hm.out; rw [HC.out] at this; cases this
      | true =>
        have HC := Lib.hid hc
        clear hc
        go_wp2_with fail
        go_round
        case rel => exact ⟨i + 1, by omega, by go_num, by show _ = true; rw [ht.out, List.all_append, hall.out]; simp [HC.out]⟩
        case measure => simp [intOf]; omega
    · go_wp2_with fail
      go_ret
      refine ⟨ret_bool' ?_, rfl⟩
      have := hall.out
      rw [List.take_of_length_le (by simp; omega)] at this
      exact this.symm

set_option maxHeartbeats 400000 in
theorem isKey_any (s : ByteArray) (w : World) (hs : s.size ≤ 1000000000) :
    Calls Tryz.prog 31 #[.string s] w fun e w' => e = .returned (.bool (isKey s)) ∧ w = w' := by
  by_cases h1 : 1 ≤ s.size ∧ s.size ≤ 40
  · have h2 : (decide ((1 : Int) ≤ (s.size : Int)) && decide ((s.size : Int) ≤ 40)) = true := by simp; omega
    have h0 : 0 < s.size := by omega
    have H2 := Lib.hid h2
    have hh : Hid (isKey s = (smallB s[0] && allB keyC s)) := by
      show _ = _
      have : s.data.toList.head? = some s[0] := by
        rw [List.head?_eq_getElem?, List.getElem?_eq_getElem (by simpa using h0)]; rfl
      unfold isKey
      rw [this, decide_eq_true h1]; simp
    clear h2
    go_enter Tryz.func31, Tryz.ntmps31
    go_wp2_with fail
    refine (pwithin_any _ _ _ _).mono ?_
    rintro e w' ⟨rfl, rfl⟩
    rw [H2.out]
    go_wp2_with fail
    refine (small_any s[0] _).mono ?_
    rintro e w' ⟨rfl, rfl⟩
    generalize smallB s[0] = q at hh
    cases q with
    | false =>
      go_wp2_with fail
      go_ret
      exact ⟨ret_bool' (hh.out.trans (Bool.false_and _)).symm, rfl⟩
    | true =>
      go_wp2_with fail
      refine (all_any 46 keyC keyC_any (fun _ _ => by kernel_rfl) s _ hs).mono ?_
      rintro e w' ⟨rfl, rfl⟩
      generalize allB keyC s = q at hh
      go_wp2_with fail
      go_ret
      exact ⟨ret_bool' (hh.out.trans (Bool.true_and _)).symm, rfl⟩
  · have h2 : (decide ((1 : Int) ≤ (s.size : Int)) && decide ((s.size : Int) ≤ 40)) = false := by simp; omega
    have H2 := Lib.hid h2
    have hh : Hid (isKey s = false) := by show _ = _; unfold isKey; rw [decide_eq_false h1]; rfl
    clear h2
    go_enter Tryz.func31, Tryz.ntmps31
    go_wp2_with fail
    refine (pwithin_any _ _ _ _).mono ?_
    rintro e w' ⟨rfl, rfl⟩
    rw [H2.out]
    go_wp2_with fail
    go_ret
    exact ⟨ret_bool' hh.out.symm, rfl⟩
end Go.Proofs.YtihcmifikbkbcaaGreatDoor

/- The first place at which a predicate holds; plain. -/
namespace Go.Proofs.YtihcmifikbkbcaaGreatDoor
set_option linter.unusedVariables false
open Go.RowKit
section
variable {D : Type}
def idxF (p : D → Bool) (ds : List D) : Int := match ds.findIdx? p with | some i => (i : Int) | none => -1
def anyF (p : D → Bool) (ds : List D) : Bool := ds.any p
theorem idxF_none {p : D → Bool} {ds : List D} (h : ds.any p = false) : idxF p ds = -1 := by
  have : ds.findIdx? p = none := by
    rw [List.findIdx?_eq_none_iff]
    intro x hx
    have := List.any_eq_false.1 h x hx
    simpa using this
  simp [idxF, this]
theorem idxF_found {p : D → Bool} {ds : List D} {i : Nat} (hi : i < ds.length) (h : (ds.take i).any p = false) : p ds[i] = true → idxF p ds = i := by
  intro hp
  have : ds.findIdx? p = some i := by
    rw [List.findIdx?_eq_some_iff_getElem]
    refine ⟨hi, hp, fun j hj => ?_⟩
    have hm : ds[j] ∈ ds.take i := List.mem_take_iff_getElem.2 ⟨j, by omega, rfl⟩
    have := List.any_eq_false.1 h _ hm
    simpa using this
  simp [idxF, this]
theorem any_take_succ {p : D → Bool} {ds : List D} {i : Nat} (hi : i < ds.length) (h : (ds.take i).any p = false) : p ds[i] = false → (ds.take (i + 1)).any p = false := by
  intro hp
  rw [List.take_succ_eq_append_getElem hi, List.any_append, h]
  simp [hp]
theorem idxF_any (p : D → Bool) (ds : List D) : decide (0 ≤ idxF p ds) = anyF p ds := by
  unfold anyF
  cases h : ds.any p with
  | false => rw [idxF_none h]; rfl
  | true =>
    unfold idxF
    cases e : ds.findIdx? p with
    | none =>
      have := List.findIdx?_eq_none_iff.1 e
      obtain ⟨x, hx, hp⟩ := List.any_eq_true.1 h
      have h2 := this x hx
      rw [hp] at h2
      cases h2
    | some i => simp
def allEq (p : D → D → Bool) : List D → List D → Bool
  | [], [] => true
  | a :: ds, b :: es => p a b && allEq p ds es
  | _, _ => false
theorem allEq_drop {p : D → D → Bool} {ds es : List D} {i : Nat} (h1 : i < ds.length) (h2 : i < es.length) : allEq p (ds.drop i) (es.drop i) = (p ds[i] es[i] && allEq p (ds.drop (i + 1)) (es.drop (i + 1))) := by
  rw [List.drop_eq_getElem_cons h1, List.drop_eq_getElem_cons h2, allEq]
theorem allEq_len {p : D → D → Bool} {ds es : List D} (h : ds.length ≠ es.length) : allEq p ds es = false := by
  induction ds generalizing es with
  | nil => cases es <;> simp_all [allEq]
  | cons a ds ih =>
    cases es with
    | nil => rfl
    | cons b es => rw [allEq, ih (by simpa using h), Bool.and_false]
theorem idxF_cases (p : D → Bool) (ds : List D) : (idxF p ds = -1 ∧ ∀ d ∈ ds, p d = false) ∨ ∃ (i : Nat) (h : i < ds.length), idxF p ds = i ∧ p ds[i] = true := by
  cases e : ds.findIdx? p with
  | none => exact Or.inl ⟨by simp [idxF, e], fun d hd => by simpa using List.findIdx?_eq_none_iff.1 e d hd⟩
  | some i =>
    obtain ⟨h1, h2, _⟩ := List.findIdx?_eq_some_iff_getElem.1 e
    exact Or.inr ⟨i, h1, by simp [idxF, e], h2⟩
end
end Go.Proofs.YtihcmifikbkbcaaGreatDoor

/- Strings and slices of strings: their order; plain. -/
namespace Go.Proofs.YtihcmifikbkbcaaGreatDoor
set_option linter.unusedVariables false
open Go.RowKit

theorem bl_irrefl (a : List UInt8) : Op.bytesLess a a = false := by
  induction a with
  | nil => rfl
  | cons x a ih => simp [Op.bytesLess, ih]
theorem bl_asymm {a b : List UInt8} (h : Op.bytesLess a b = true) : Op.bytesLess b a = false := by
  induction a generalizing b with
  | nil => cases b <;> simp_all [Op.bytesLess]
  | cons x a ih =>
    cases b with
    | nil => simp [Op.bytesLess] at h
    | cons y b =>
      simp only [Op.bytesLess, Bool.or_eq_true, Bool.and_eq_true, decide_eq_true_eq, beq_iff_eq] at h
      rcases h with h | ⟨rfl, h⟩
      · have h1 : ¬ y < x := UInt8.not_lt.2 (UInt8.le_of_lt h)
        have h2 : (y == x) = false := by simp; rintro rfl; exact UInt8.lt_irrefl _ h
        simp [Op.bytesLess, h1, h2]
      · simp [Op.bytesLess, ih h]
theorem bl_total {a b : List UInt8} (h1 : Op.bytesLess a b = false) (h2 : Op.bytesLess b a = false) : a = b := by
  induction a generalizing b with
  | nil => cases b <;> simp_all [Op.bytesLess]
  | cons x a ih =>
    cases b with
    | nil => simp [Op.bytesLess] at h2
    | cons y b =>
      simp only [Op.bytesLess, Bool.or_eq_false_iff, Bool.and_eq_false_iff, decide_eq_false_iff_not, beq_eq_false_iff_ne] at h1 h2
      have hxy : x = y := UInt8.le_antisymm (UInt8.not_lt.1 h2.1) (UInt8.not_lt.1 h1.1)
      subst hxy
      simp at h1 h2
      rw [ih h1 h2]
theorem bl_trans {a b c : List UInt8} (h1 : Op.bytesLess a b = true) (h2 : Op.bytesLess b c = true) : Op.bytesLess a c = true := by
  induction a generalizing b c with
  | nil =>
    cases b with
    | nil => simp [Op.bytesLess] at h1
    | cons y b => cases c <;> simp_all [Op.bytesLess]
  | cons x a ih =>
    cases b with
    | nil => simp [Op.bytesLess] at h1
    | cons y b =>
      cases c with
      | nil => simp [Op.bytesLess] at h2
      | cons z c =>
        simp only [Op.bytesLess, Bool.or_eq_true, Bool.and_eq_true, decide_eq_true_eq, beq_iff_eq] at h1 h2 ⊢
        rcases h1 with h1 | ⟨rfl, h1⟩
        · rcases h2 with h2 | ⟨rfl, h2⟩
          · exact Or.inl (UInt8.lt_trans h1 h2)
          · exact Or.inl h1
        · rcases h2 with h2 | ⟨rfl, h2⟩
          · exact Or.inl h2
          · exact Or.inr ⟨rfl, ih h1 h2⟩

/-- cmp.Compare of strings. -/
def cmpS (a b : ByteArray) : Int := if Op.bytesLess a.toList b.toList then -1 else if a.toList == b.toList then 0 else 1
theorem toList_inj {a b : ByteArray} (h : a.toList = b.toList) : a = b := by
  rw [ByteArray.toList_eq, ByteArray.toList_eq] at h
  exact ByteArray.ext (Array.toList_inj.1 h)
theorem cmpS_self (a : ByteArray) : cmpS a a = 0 := by simp [cmpS, bl_irrefl]
theorem cmpS_zero {a b : ByteArray} (h : cmpS a b = 0) : a = b := by
  unfold cmpS at h
  split at h
  · omega
  · split at h
    · rename_i h2
      exact toList_inj (by simpa using h2)
    · omega
theorem cmpS_vals (a b : ByteArray) : cmpS a b = -1 ∨ cmpS a b = 0 ∨ cmpS a b = 1 := by
  unfold cmpS
  split
  · exact Or.inl rfl
  · split
    · exact Or.inr (Or.inl rfl)
    · exact Or.inr (Or.inr rfl)
theorem cmpS_lt {a b : ByteArray} : cmpS a b < 0 ↔ Op.bytesLess a.toList b.toList = true := by
  unfold cmpS
  split
  · simp [*]
  · rename_i h
    split <;> simp [h]
theorem cmpS_swap (a b : ByteArray) : cmpS b a = - cmpS a b := by
  rcases cmpS_vals a b with h | h | h
  · have h1 := bl_asymm (cmpS_lt.1 (show cmpS a b < 0 by omega))
    have h2 : ¬ (b.toList == a.toList) = true := by
      intro e
      have : b = a := toList_inj (by simpa using e)
      subst this
      rw [cmpS_self] at h
      omega
    unfold cmpS at h ⊢
    rw [if_neg (by simp [h1]), if_neg h2, h]
    rfl
  · rw [cmpS_zero h, cmpS_self]; rfl
  · have h1 : ¬ Op.bytesLess a.toList b.toList = true := by intro e; have := cmpS_lt.2 e; omega
    have h2 : Op.bytesLess b.toList a.toList = true := by
      cases e : Op.bytesLess b.toList a.toList with
      | true => rfl
      | false =>
        have := toList_inj (bl_total (by simpa using h1) e)
        subst this
        rw [cmpS_self] at h
        omega
    have := cmpS_lt.2 h2
    rcases cmpS_vals b a with g | g | g <;> omega
theorem cmpS_trans {a b c : ByteArray} (h1 : cmpS a b < 0) (h2 : cmpS b c < 0) : cmpS a c < 0 := cmpS_lt.2 (bl_trans (cmpS_lt.1 h1) (cmpS_lt.1 h2))

/-- slices.Compare of lists of strings. -/
def cmpL : List ByteArray → List ByteArray → Int
  | [], [] => 0
  | [], _ :: _ => -1
  | _ :: _, [] => 1
  | a :: xs, b :: ys => if cmpS a b = 0 then cmpL xs ys else cmpS a b
theorem cmpL_self (xs : List ByteArray) : cmpL xs xs = 0 := by
  induction xs with
  | nil => rfl
  | cons a xs ih => simp [cmpL, cmpS_self, ih]
theorem cmpL_zero {xs ys : List ByteArray} (h : cmpL xs ys = 0) : xs = ys := by
  induction xs generalizing ys with
  | nil => cases ys <;> simp_all [cmpL]
  | cons a xs ih =>
    cases ys with
    | nil => simp [cmpL] at h
    | cons b ys =>
      unfold cmpL at h
      split at h
      · rename_i h2
        rw [cmpS_zero h2, ih h]
      · contradiction
theorem cmpL_swap (xs ys : List ByteArray) : cmpL ys xs = - cmpL xs ys := by
  induction xs generalizing ys with
  | nil => cases ys <;> simp [cmpL]
  | cons a xs ih =>
    cases ys with
    | nil => simp [cmpL]
    | cons b ys =>
      unfold cmpL
      rw [cmpS_swap a b, ih ys]
      by_cases h : cmpS a b = 0
      · simp [h]
      · rw [if_neg h, if_neg (by omega)]
theorem cmpL_trans {xs ys cs : List ByteArray} (h1 : cmpL xs ys < 0) (h2 : cmpL ys cs < 0) : cmpL xs cs < 0 := by
  induction xs generalizing ys cs with
  | nil =>
    cases ys with
    | nil => simp [cmpL] at h1
    | cons b ys => cases cs <;> simp_all [cmpL]
  | cons a xs ih =>
    cases ys with
    | nil => simp [cmpL] at h1
    | cons b ys =>
      cases cs with
      | nil => simp [cmpL] at h2
      | cons c cs =>
        unfold cmpL at h1 h2 ⊢
        by_cases e1 : cmpS a b = 0
        · obtain rfl := cmpS_zero e1
          rw [if_pos e1] at h1
          by_cases e2 : cmpS a c = 0
          · rw [if_pos e2] at h2 ⊢; exact ih h1 h2
          · rw [if_neg e2] at h2 ⊢; exact h2
        · rw [if_neg e1] at h1
          by_cases e2 : cmpS b c = 0
          · obtain rfl := cmpS_zero e2
            rw [if_neg e1]; exact h1
          · rw [if_neg e2] at h2
            have := cmpS_trans h1 h2
            rw [if_neg (by omega)]; exact this

/-- The cells of a slice of strings. -/
def fS (s : ByteArray) (_ : Nat) : Value := .string s
/-- A slice of strings. -/
def Ss (H : Frz) (v : Value) (ss : List ByteArray) : Prop := ∃ A cap, v = .slice A ss.length cap ∧ ss.length ≤ cap ∧ Rw H A 1 fS ss ∧ (∀ s ∈ ss, s.size ≤ 1000000) ∧ ss.length ≤ 1000000
theorem Ss.le {H H' : Frz} {v : Value} {ss : List ByteArray} (h : Ss H v ss) (hl : H.Le H') : Ss H' v ss := by
  obtain ⟨A, cap, h1, h0, h2, h3⟩ := h
  exact ⟨A, cap, h1, h0, h2.le hl, h3⟩
theorem Ss.nil (H : Frz) : Ss H (.slice none 0 0) [] := ⟨none, 0, rfl, Nat.le_refl _, Rw.nil, by simp, by simp⟩
theorem Ss.at_ {H : Frz} {A : Option Addr} {ss : List ByteArray} (h : Rw H A 1 fS ss) {W : World} (hH : H.In W) {i : Nat} (hi : i < ss.length) :
    ∃ b off, A = some ⟨b, off, none⟩ ∧ b < W.heap.size ∧ W.cell? ⟨b, off + i, none⟩ = some (.string ss[i]) := by
  obtain ⟨b, off, e, hb, hc⟩ := h.at_ hH hi (by omega)
  exact ⟨b, off, e, hb, by simpa [fS] using hc 0 (by omega)⟩

end Go.Proofs.YtihcmifikbkbcaaGreatDoor

/- Insertion sort of lists, plain; and blocks of elements of k cells. -/
namespace Go.Proofs.YtihcmifikbkbcaaGreatDoor
set_option linter.unusedVariables false
open Go.RowKit

section
variable {D : Type}
/-- x goes in from the right, ahead of all that are greater. -/
def insLast (lt : D → D → Bool) (x : D) (acc : List D) : List D := (acc.reverse.dropWhile (lt x)).reverse ++ x :: (acc.reverse.takeWhile (lt x)).reverse
def isort (lt : D → D → Bool) (ds : List D) : List D := ds.foldl (fun acc x => insLast lt x acc) []
theorem isort_snoc (lt : D → D → Bool) (ds : List D) (x : D) : isort lt (ds ++ [x]) = insLast lt x (isort lt ds) := by simp [isort]
theorem takeWhile_all_append {p : D → Bool} {a b : List D} (ha : ∀ x ∈ a, p x = true) (hb : b.head?.map p ≠ some true) : (a ++ b).takeWhile p = a ∧ (a ++ b).dropWhile p = b := by
  induction a with
  | nil =>
    cases b with
    | nil => exact ⟨rfl, rfl⟩
    | cons y b =>
      have : p y = false := by cases h : p y <;> simp_all
      simp [this]
  | cons x a ih =>
    have h1 := ha x List.mem_cons_self
    have h2 := ih fun y hy => ha y (List.mem_cons_of_mem _ hy)
    simp [h1, h2]
theorem insLast_eq {lt : D → D → Bool} {x : D} {P S : List D} (hS : ∀ s ∈ S, lt x s = true) (hP : P.getLast?.map (lt x) ≠ some true) : insLast lt x (P ++ S) = P ++ x :: S := by
  have h := takeWhile_all_append (p := lt x) (a := S.reverse) (b := P.reverse) (by simpa using hS) (by simpa using hP)
  unfold insLast
  rw [List.reverse_append, h.1, h.2]
  simp
theorem insLast_perm (lt : D → D → Bool) (x : D) (acc : List D) : (insLast lt x acc).Perm (x :: acc) := by
  unfold insLast
  refine List.perm_middle.trans (List.Perm.cons x ?_)
  rw [← List.reverse_append]
  refine (List.reverse_perm _).trans ?_
  rw [List.takeWhile_append_dropWhile]
  exact List.reverse_perm _
theorem isort_perm (lt : D → D → Bool) (ds : List D) : (isort lt ds).Perm ds := by
  unfold isort
  have : ∀ acc : List D, (ds.foldl (fun acc x => insLast lt x acc) acc).Perm (acc ++ ds) := by
    induction ds with
    | nil => intro acc; simp
    | cons x ds ih =>
      intro acc
      rw [List.foldl_cons]
      refine (ih _).trans ?_
      refine (List.Perm.append_right ds (insLast_perm lt x acc)).trans ?_
      rw [List.cons_append]
      exact List.perm_middle.symm
  simpa using this []
theorem isort_length (lt : D → D → Bool) (ds : List D) : (isort lt ds).length = ds.length := (isort_perm lt ds).length_eq
theorem insLast_sorted {lt : D → D → Bool} (hA : ∀ a b, lt a b = true → lt b a = false) (hT : ∀ a b c, lt b a = false → lt c b = false → lt c a = false) {x : D} {acc : List D} (h : acc.Pairwise fun a b => lt b a = false) : (insLast lt x acc).Pairwise fun a b => lt b a = false := by
  have e : (acc.reverse.dropWhile (lt x)).reverse ++ (acc.reverse.takeWhile (lt x)).reverse = acc := by
    rw [← List.reverse_append, List.takeWhile_append_dropWhile, List.reverse_reverse]
  have hS : ∀ s ∈ (acc.reverse.takeWhile (lt x)).reverse, lt x s = true := fun s hs => by
    have : s ∈ acc.reverse.takeWhile (lt x) := by simpa using hs
    exact List.all_eq_true.1 List.all_takeWhile _ this
  have hP : ∀ y, (acc.reverse.dropWhile (lt x)).head? = some y → lt x y = false := fun y hy => by
    have := List.head?_dropWhile_not (lt x) acc.reverse
    rw [hy] at this
    simpa using this
  unfold insLast
  generalize acc.reverse.dropWhile (lt x) = Q at e hP
  generalize acc.reverse.takeWhile (lt x) = S at e hS
  rw [← e] at h
  rw [List.pairwise_append] at h ⊢
  obtain ⟨h1, h2, h3⟩ := h
  refine ⟨h1, List.pairwise_cons.2 ⟨fun s hs => hA _ _ (hS s hs), h2⟩, fun p hp s hs => ?_⟩
  rcases List.mem_cons.1 hs with rfl | hs
  · cases Q with
    | nil => simp at hp
    | cons y Q =>
      have hy := hP y rfl
      have hp' : p ∈ y :: Q := List.mem_reverse.1 hp
      rcases List.mem_cons.1 hp' with rfl | hq
      · exact hy
      · have h4 : lt y p = false := by
          rw [List.reverse_cons, List.pairwise_append] at h1
          exact h1.2.2 p (by simpa using hq) y (by simp)
        exact hT p y s h4 hy
  · exact h3 p hp s hs
theorem isort_sorted {lt : D → D → Bool} (hA : ∀ a b, lt a b = true → lt b a = false) (hT : ∀ a b c, lt b a = false → lt c b = false → lt c a = false) (ds : List D) : (isort lt ds).Pairwise fun a b => lt b a = false := by
  unfold isort
  have : ∀ acc : List D, acc.Pairwise (fun a b => lt b a = false) → (ds.foldl (fun acc x => insLast lt x acc) acc).Pairwise fun a b => lt b a = false := by
    induction ds with
    | nil => intro acc h; exact h
    | cons x ds ih => intro acc h; exact ih _ (insLast_sorted hA hT h)
  exact this [] List.Pairwise.nil

theorem nil_or_snoc (l : List D) : l = [] ∨ ∃ L b, l = L ++ [b] := by
  rcases List.eq_nil_or_concat l with h | ⟨L, b, h⟩
  · exact Or.inl h
  · exact Or.inr ⟨L, b, by rw [h, List.concat_eq_append]⟩

/-- The inner loop: x has come down to place j. -/
def SIn (lt : D → D → Bool) (acc : List D) (x : D) (R : List D) (j : Nat) (ys : List D) : Prop :=
  ∃ P S, ys = P ++ x :: (S ++ R) ∧ P ++ S = acc ∧ P.length = j ∧ ∀ s ∈ S, lt x s = true
section
variable {lt : D → D → Bool} {acc R ys : List D} {x : D} {j : Nat}
theorem SIn.start (acc R : List D) (x : D) : SIn lt acc x R acc.length (acc ++ x :: R) := ⟨acc, [], by simp, by simp, rfl, by simp⟩
theorem SIn.length (h : SIn lt acc x R j ys) : ys.length = acc.length + 1 + R.length ∧ j ≤ acc.length := by
  obtain ⟨P, S, rfl, rfl, rfl, _⟩ := h
  simp; omega
theorem SIn.at_ (h : SIn lt acc x R j ys) (hj : j < ys.length) : ys[j] = x := by
  obtain ⟨P, S, rfl, rfl, rfl, _⟩ := h
  simp
theorem SIn.swap (h : SIn lt acc x R j ys) (hj : 0 < j) (hl : j < ys.length) (hlt : lt x (ys[j - 1]'(by omega)) = true) : SIn lt acc x R (j - 1) ((ys.set j (ys[j - 1]'(by omega))).set (j - 1) x) := by
  obtain ⟨P, S, rfl, rfl, rfl, hS⟩ := h
  rcases nil_or_snoc P with rfl | ⟨P, y, rfl⟩
  · simp at hj
  · have e : ((P ++ [y]) ++ x :: (S ++ R))[(P ++ [y]).length - 1]'(by simp) = y := by simp
    rw [e] at hlt ⊢
    refine ⟨P, y :: S, ?_, by simp, by simp, ?_⟩
    · simp
    · intro s hs
      rcases List.mem_cons.1 hs with rfl | hs
      · exact hlt
      · exact hS s hs
theorem SIn.done (h : SIn lt acc x R j ys) (hl : ys.length = acc.length + 1 + R.length) (hlt : ∀ (h0 : 0 < j), lt x (ys[j - 1]'(by have := h.length; omega)) = false) : ys = insLast lt x acc ++ R := by
  have hn := h.length
  obtain ⟨P, S, rfl, rfl, rfl, hS⟩ := h
  rw [insLast_eq hS]
  · simp
  · rcases nil_or_snoc P with rfl | ⟨P, y, rfl⟩
    · simp
    · have := hlt (by simp)
      have e : ((P ++ [y]) ++ x :: (S ++ R))[(P ++ [y]).length - 1]'(by simp) = y := by simp
      rw [e] at this
      simp [this]
theorem SIn.mem (h : SIn lt acc x R j ys) {d : D} (hd : d ∈ ys) : d ∈ acc ∨ d = x ∨ d ∈ R := by
  obtain ⟨P, S, rfl, rfl, _, _⟩ := h
  simp at hd ⊢
  rcases hd with h | h | h | h <;> simp [h]
end

/-- Block g holds the elements ds, k cells each, and more behind them. -/
def KBlk (w : World) (g T k : Nat) (f : D → Nat → Value) (ds : List D) (rest : List Value) : Prop := w.heap[g]? = some (.cells (cellsOf k f ds ++ rest).toArray T (0, 0))
/-- Stores, one behind the other. -/
def setK (w : World) (g : Nat) : Nat → List Value → World
  | _, [] => w
  | o, v :: vs => setK (w.setCell ⟨g, o, none⟩ v) g (o + 1) vs
theorem setK_heap (w : World) (g o : Nat) (vs : List Value) {cs : Array Value} {T : TypeId} (h : w.heap[g]? = some (.cells cs T (0, 0))) (hl : o + vs.length ≤ cs.size) :
    (setK w g o vs).heap[g]? = some (.cells (cs.toList.take o ++ vs ++ cs.toList.drop (o + vs.length)).toArray T (0, 0)) := by
  induction vs generalizing w o cs with
  | nil => simp [setK, h]
  | cons v vs ih =>
    simp only [List.length_cons] at hl
    have h1 : (w.setCell ⟨g, o, none⟩ v).heap[g]? = some (.cells (cs.setIfInBounds o v) T (0, 0)) := by simp [World.setCell, Array.getElem?_modify, h]
    have := ih (w.setCell ⟨g, o, none⟩ v) (o + 1) h1 (by simp; omega)
    simp only [setK]
    rw [this]
    congr 2
    have e1 : (cs.setIfInBounds o v).toList = cs.toList.set o v := by simp
    rw [e1]
    apply congrArg List.toArray
    have e2 : (cs.toList.set o v).take (o + 1) = cs.toList.take o ++ [v] := by
      rw [List.take_set, List.take_succ_eq_append_getElem (by simp; omega), List.set_append_right _ _ (by simp; omega)]
      simp
      rw [show o - min o cs.size = 0 from by omega]
      rfl
    rw [e2, List.drop_set_of_lt (by omega)]
    simp [Nat.add_assoc, Nat.add_comm 1]
theorem setK_other (w : World) (g o : Nat) (vs : List Value) {b : Nat} (hb : b ≠ g) : (setK w g o vs).heap[b]? = w.heap[b]? := by
  induction vs generalizing w o with
  | nil => rfl
  | cons v vs ih => rw [setK, ih]; exact Below.heap_setCell w _ _ b hb
theorem setK_grown {a w : World} {g : Nat} (o : Nat) (vs : List Value) (h : a.grownBy w (some g)) : a.grownBy (setK w g o vs) (some g) := by
  induction vs generalizing w o with
  | nil => exact h
  | cons v vs ih =>
    exact ih (o + 1) ⟨h.os, h.tape, h.output, by simpa [World.setCell] using h.size, fun k hk hne => (Below.heap_setCell w _ v k (fun e => hne (by rw [e]))).trans (h.block k hk hne)⟩
theorem setK_in {H : Frz} {w : World} {g : Nat} (o : Nat) (vs : List Value) (h : H.In w) (hg : H g = none) : H.In (setK w g o vs) := by
  induction vs generalizing w o with
  | nil => exact h
  | cons v vs ih => exact ih (o + 1) (h.setCell (p := ⟨g, o, none⟩) hg v)
section
variable {w w' : World} {g T k : Nat} {f : D → Nat → Value} {ds : List D} {rest : List Value}
theorem KBlk.lt (h : KBlk w g T k f ds rest) : g < w.heap.size := lt_of_heap h
theorem KBlk.cell (h : KBlk w g T k f ds rest) (i j : Nat) (hi : i < ds.length) (hj : j < k) : w.cell? ⟨g, i * k + j, none⟩ = some (f ds[i] j) := by
  unfold KBlk at h
  have hx := cellsOf_get k f ds i j hi hj
  have hlt := (List.getElem?_eq_some_iff.1 hx).1
  simp only [World.cell?, h]
  simp only [Option.isSome_none, Bool.false_eq_true, if_false, List.getElem?_toArray]
  rw [List.getElem?_append_left hlt, hx]
theorem KBlk.frozen (h : KBlk w g T k f ds rest) (i : Nat) : w.frozen? ⟨g, i, none⟩ = false := by
  unfold KBlk at h
  simp [World.frozen?, h]
theorem KBlk.keep (h : KBlk w g T k f ds rest) (hb : Below w.heap.size w w') : KBlk w' g T k f ds rest := (hb.block g h.lt).trans h
theorem KBlk.drewN (h : KBlk w g T k f ds rest) (n : Nat) : KBlk (w.drewN n) g T k f ds rest := h
theorem cellsOf_split (k : Nat) (f : D → Nat → Value) (a b : List D) : cellsOf k f (a ++ b) = cellsOf k f a ++ cellsOf k f b := by simp [cellsOf]
theorem KBlk.put (h : KBlk w g T k f ds rest) (i : Nat) (hi : i < ds.length) (d : D) : KBlk (setK w g (i * k) ((List.range k).map (f d))) g T k f (ds.set i d) rest := by
  unfold KBlk at h ⊢
  have hl := cellsOf_len k f ds
  have hik : i * k + k ≤ ds.length * k := by rw [← Nat.succ_mul]; exact Nat.mul_le_mul_right _ hi
  rw [setK_heap w g (i * k) _ h (by simp [hl]; omega)]
  congr 3
  have e1 : ds.set i d = ds.take i ++ d :: ds.drop (i + 1) := List.set_eq_take_append_cons_drop .. |>.trans (by rw [if_pos hi])
  have l1 : (cellsOf k f (ds.take i)).length = i * k := by rw [cellsOf_len, List.length_take]; congr 1; omega
  rw [e1]
  have e3 : cellsOf k f ds = cellsOf k f (ds.take i) ++ ((List.range k).map (f ds[i]) ++ cellsOf k f (ds.drop (i + 1))) := by
    have h3 : cellsOf k f ds = cellsOf k f (ds.take i ++ ds.drop i) := by rw [List.take_append_drop]
    rw [h3, cellsOf_split]
    congr 1
    rw [List.drop_eq_getElem_cons hi]
    rfl
  have e4 : cellsOf k f (ds.take i ++ d :: ds.drop (i + 1)) = cellsOf k f (ds.take i) ++ ((List.range k).map (f d) ++ cellsOf k f (ds.drop (i + 1))) := by
    rw [cellsOf_split]
    simp [cellsOf]
  rw [e3, e4]
  simp only [List.append_assoc]
  rw [List.take_left' l1]
  congr 1
  congr 1
  rw [List.length_map, List.length_range, ← List.append_assoc (cellsOf k f (ds.take i)), List.drop_left' (by simp [l1])]
end
end
end Go.Proofs.YtihcmifikbkbcaaGreatDoor

/- Rows of the call's own: their block, an element changed in one cell. -/
namespace Go.Proofs.YtihcmifikbkbcaaGreatDoor
set_option linter.unusedVariables false
open Go.RowKit
section
variable {D : Type} {w : World} {g T k B : Nat} {f : D → Nat → Value} {ds : List D} {rest : List Value} {v : Value}
theorem cellsOf_set (i j : Nat) (hi : i < ds.length) (hj : j < k) {d' : D} {x : Value} (hx : f d' j = x) (ho : ∀ m, m < k → m ≠ j → f d' m = f ds[i] m) : (cellsOf k f ds).set (i * k + j) x = cellsOf k f (ds.set i d') := by
  have e1 : ds.set i d' = ds.take i ++ d' :: ds.drop (i + 1) := List.set_eq_take_append_cons_drop .. |>.trans (by rw [if_pos hi])
  have l1 : (cellsOf k f (ds.take i)).length = i * k := by rw [cellsOf_len, List.length_take]; congr 1; omega
  have e3 : cellsOf k f ds = cellsOf k f (ds.take i) ++ ((List.range k).map (f ds[i]) ++ cellsOf k f (ds.drop (i + 1))) := by
    have h3 : cellsOf k f ds = cellsOf k f (ds.take i ++ ds.drop i) := by rw [List.take_append_drop]
    rw [h3, cellsOf_split]
    congr 1
    rw [List.drop_eq_getElem_cons hi]
    rfl
  have e4 : cellsOf k f (ds.take i ++ d' :: ds.drop (i + 1)) = cellsOf k f (ds.take i) ++ ((List.range k).map (f d') ++ cellsOf k f (ds.drop (i + 1))) := by
    rw [cellsOf_split]
    rfl
  rw [e1, e4, e3, List.set_append_right _ _ (by rw [l1]; omega), l1, show i * k + j - i * k = j from by omega, List.set_append_left _ _ (by simpa using hj)]
  congr 2
  apply List.ext_getElem
  · simp
  · intro n h1 h2
    simp at h1 h2
    by_cases e : n = j
    · subst e; simp [hx]
    · rw [List.getElem_set_ne (by omega)]
      simp
      exact (ho n h1 e).symm
theorem KBlk.upd (h : KBlk w g T k f ds rest) (i j : Nat) (hi : i < ds.length) (hj : j < k) {d' : D} {x : Value} (hx : f d' j = x) (ho : ∀ m, m < k → m ≠ j → f d' m = f ds[i] m) : KBlk (w.setCell ⟨g, i * k + j, none⟩ x) g T k f (ds.set i d') rest := by
  unfold KBlk at h ⊢
  have hlt := (List.getElem?_eq_some_iff.1 (cellsOf_get k f ds i j hi hj)).1
  simp only [World.setCell, Array.getElem?_modify, h]
  simp [List.set_append_left _ _ hlt, cellsOf_set i j hi hj hx ho]
theorem Orow.form (h : Orow w B T k f v ds) (hne : ds ≠ []) : ∃ g cap rest, v = .slice (some ⟨g, 0, none⟩) ds.length cap ∧ ds.length ≤ cap ∧ B ≤ g ∧ g < w.heap.size ∧ cap ≤ maxLen ∧ KBlk w g T k f ds rest ∧ rest.length = cap * k - ds.length * k := by
  rcases h.2 with ⟨_, hl⟩ | ⟨g, cap, cur, hv, hB, hh, hle, hm, hs, ht⟩
  · exact absurd (List.eq_nil_of_length_eq_zero hl) hne
  · refine ⟨g, cap, cur.toList.drop (ds.length * k), hv, hle, hB, lt_of_heap hh, hm, ?_, by simp [hs]⟩
    unfold KBlk
    rw [← ht, List.take_append_drop]
    exact hh
theorem Orow.of_blk {cap : Nat} (h : KBlk w g T k f ds rest) (hB : B ≤ g) (hm : cap ≤ maxLen) (hle : ds.length ≤ cap) (hr : rest.length = cap * k - ds.length * k) : Orow w B T k f (.slice (some ⟨g, 0, none⟩) ds.length cap) ds := by
  refine ⟨by rw [cellsOf_len], Or.inr ⟨g, cap, _, rfl, hB, h, hle, hm, ?_, ?_⟩⟩
  · have := Nat.mul_le_mul_right k hle
    simp [cellsOf_len, hr]; omega
  · simp
    rw [List.take_left' (by rw [cellsOf_len])]
/-- Laid for good: it reads as ds; nothing else has turned. -/
theorem Orow.freezeN (h : Orow w B T k f v ds) (H : Frz) :
    ∃ (A : Option Addr) (cap : Nat) (H' : Frz), v = .slice A ds.length cap ∧ ds.length ≤ cap ∧ (H.In w → H'.In w) ∧ ((∀ g, v.ownBlock = some g → H g = none) → H.Le H') ∧ Rw H' A k f ds ∧ (∀ b, v.ownBlock ≠ some b → H' b = H b) := by
  rcases h.2 with ⟨rfl, hn⟩ | ⟨g, cap, cur, rfl, hB, hh, hle, hm, hs, ht⟩
  · have : ds = [] := List.eq_nil_of_length_eq_zero hn
    subst this
    exact ⟨none, 0, H, rfl, Nat.le_refl _, id, fun _ => Frz.Le.refl _, Rw.nil, fun _ _ => rfl⟩
  · refine ⟨some ⟨g, 0, none⟩, cap, H.add g (.cells cur T (0, 0)), rfl, hle, fun hI => hI.add hh, fun hN => Frz.le_add (hN g rfl), ?_, fun b hb => Frz.add_other (fun e => hb (by rw [e]; rfl))⟩
    intro i hi
    refine ⟨g, 0, rfl, fun j hj => ?_⟩
    have hx := cellsOf_get k f ds i j hi hj
    rw [← ht] at hx
    have hlt : i * k + j < ds.length * k := by
      have : (i + 1) * k ≤ ds.length * k := Nat.mul_le_mul_right _ hi
      rw [Nat.succ_mul] at this; omega
    rw [List.getElem?_take_of_lt hlt] at hx
    unfold Frz.cell?
    rw [show (⟨g, 0 + i * k + j, none⟩ : Addr).block = g from rfl, Frz.add_at]
    simpa using hx
/-- Rows of elements of one cell. -/
theorem KBlk.cell1 (h : KBlk w g T 1 f ds rest) (i : Nat) (hi : i < ds.length) : w.cell? ⟨g, i, none⟩ = some (f ds[i] 0) := by simpa using h.cell i 0 hi (by omega)
theorem KBlk.set1 (h : KBlk w g T 1 f ds rest) (i : Nat) (hi : i < ds.length) (d' : D) : KBlk (w.setCell ⟨g, i, none⟩ (f d' 0)) g T 1 f (ds.set i d') rest := by
  have := h.upd i 0 hi (by omega) (d' := d') rfl (fun m hm hne => absurd hm (by omega))
  simpa using this
theorem KBlk.other (h : KBlk w g T k f ds rest) {a : Addr} (hne : a.block ≠ g) (u : Value) : KBlk (w.setCell a u) g T k f ds rest :=
  (Below.heap_setCell w a u g (fun e => hne e.symm)).trans h
end
end Go.Proofs.YtihcmifikbkbcaaGreatDoor

/- A region that draws its order, walked by what each operation leaves, whatever came before it. -/
namespace Go.Proofs.YtihcmifikbkbcaaGreatDoor
set_option linter.unusedVariables false
open Go.RowKit

/-- An operation, by the value that it yields. -/
def OpV (P : Program) (o : Oper) (ev : Operand → Value) (w : World) (R : Value → World → Prop) : Prop :=
  match (execOp ev o).run P w with
  | .ok (.value v) w' => R v w'
  | .ok .skip w' => R undef w'
  | .ok (.enter f args) w' => Calls P f args w' fun e w'' => ∃ v, e = .returned v ∧ R v w''
  | _ => False
theorem OpV.wp {P : Program} {o : Oper} {a : Act} {w : World} {R : Value → World → Prop} {K : Act → World → Prop} {Q : Exit → Act → World → Prop} (h : OpV P o a.eval w R) (hK : ∀ v w', R v w' → K (a.put o.dst v) w') : o.wp P a w K Q := by
  unfold Oper.wp
  unfold OpV at h
  generalize (execOp a.eval o).run P w = r at h ⊢
  cases r with
  | halt x w' => cases h
  | ok n w' =>
    cases n with
    | value v => exact hK _ _ h
    | skip => exact hK _ _ h
    | enter f args =>
      refine Calls.mono h ?_
      rintro e w'' ⟨v, rfl, hR⟩
      exact hK _ _ hR
    | defer d => cases h
    | row r xs => cases h
    | _ => cases h
/-- What is known of a slot ahead of an operation. -/
def dstAt (l : List Oper) (i : Nat) : Option Tmp := (l[i]?).bind (·.dst)
/-- The first operation of n that writes slot s. -/
def writer (l : List Oper) (n s : Nat) : Option Nat := (List.range n).find? fun i => dstAt l i == some s
def known (l : List Oper) (n : Nat) (T : Array Value) (φ : Nat → Value → World → Prop) (s : Nat) (x : Value) (w : World) : Prop :=
  match writer l n s with
  | some j => φ j x w
  | none => x = T.getD s undef

def tmpsOf (o : Oper) : List Nat := o.op.operands.toList.filterMap fun | .tmp t => some t | _ => none
def allTrue (n m : Nat) : Array Bool := ((List.range m).map fun t => decide (t < n)).toArray
/-- The closed facts on a region: its first n operations may run in any order, the others follow one by one. -/
def concB (l : List Oper) (n N : Nat) : Bool :=
  decide (n < l.length) && Region.sinkB .any l.toArray n && Region.chainB .any l.toArray n && Region.seqB .any l.toArray (l.length - n) n (allTrue n l.length) &&
  ((List.range n).all fun i => match l[i]? with
    | some o => o.guard.isNone && (match o.dst with | some d => decide (d < N) && decide (writer l n d = some i) | none => false) &&
        (o.after.toList.all fun e => !Region.binds .any e || decide (e.on < i)) &&
        ((tmpsOf o).all fun s => match writer l n s with | some j => Region.waitsFor .any l.toArray i j | none => true)
    | none => false)

def putAll : List Oper → Nat → (Nat → Value) → Act → Act
  | [], _, _, a => a
  | o :: l, i, x, a => putAll l (i + 1) x (a.put o.dst (x i))

section
variable {P : Program} {l : List Oper} {n N : Nat} {a0 : Act} {φ : Nat → Value → World → Prop} {J : Nat → World → Prop} {E : World → World → Prop} {Q : Exit → Act → World → Prop}

theorem concB_at (h : concB l n N = true) {i : Nat} (hi : i < n) : ∃ o d, l[i]? = some o ∧ o.guard = none ∧ o.dst = some d ∧ d < N ∧ writer l n d = some i ∧ (∀ e ∈ o.after, Region.binds .any e = true → e.on < i) ∧ ∀ s ∈ tmpsOf o, ∀ j, writer l n s = some j → Region.waitsFor .any l.toArray i j = true := by
  simp only [concB, Bool.and_eq_true] at h
  have h1 := List.all_eq_true.1 h.2 i (List.mem_range.2 hi)
  cases ho : l[i]? with
  | none => rw [ho] at h1; cases h1
  | some o =>
    rw [ho] at h1
    simp only [Bool.and_eq_true] at h1
    obtain ⟨⟨⟨g1, g2⟩, g3⟩, g4⟩ := h1
    cases hd : o.dst with
    | none => rw [hd] at g2; cases g2
    | some d =>
      rw [hd] at g2
      simp only [Bool.and_eq_true, decide_eq_true_eq] at g2
      refine ⟨o, d, rfl, by simpa using g1, hd, g2.1, g2.2, ?_, ?_⟩
      · intro e he hb
        have := List.all_eq_true.1 g3 e (by simpa using he)
        simpa [hb] using this
      · intro s hs j hj
        have := List.all_eq_true.1 g4 s hs
        rw [hj] at this
        exact this

structure CInv (l : List Oper) (n : Nat) (a0 : Act) (φ : Nat → Value → World → Prop) (J : Nat → World → Prop) (k : Nat) (listed : Array Bool) (a : Act) (w : World) : Prop where
  head : HeadInv .any l.toArray n listed
  world : J k w
  defers : a.defers = a0.defers
  size : a.tmps.size = a0.tmps.size
  other : ∀ s, writer l n s = none → a.tmps.getD s undef = a0.tmps.getD s undef
  done : ∀ i s, i < n → listed.getD i false = true → dstAt l i = some s → φ i (a.tmps.getD s undef) w

theorem getD_put {a : Act} {d s : Nat} {v : Value} (hd : d < a.tmps.size) : (a.put (some d) v).tmps.getD s undef = if s = d then v else a.tmps.getD s undef := by
  simp only [Act.put, Array.getD_eq_getD_getElem?, Array.getElem?_setIfInBounds]
  by_cases e : d = s
  · subst e; simp [hd]
  · simp [e, Ne.symm e]
theorem writer_dst {s i : Nat} (h : writer l n s = some i) : i < n ∧ dstAt l i = some s := by
  have h1 := List.mem_of_find?_eq_some h
  have h2 := List.find?_some h
  exact ⟨List.mem_range.1 h1, by simpa using h2⟩

theorem writer_some {i s : Nat} (hi : i < n) (h : dstAt l i = some s) : writer l n s ≠ none := by
  intro e
  have := List.find?_eq_none.1 e i (List.mem_range.2 hi)
  simp [h] at this
theorem CInv.step (hB : concB l n N = true) (hN : a0.tmps.size = N)
    (hmono : ∀ i x w w', i < n → E w w' → φ i x w → φ i x w')
    (hstep : ∀ i o, i < n → l[i]? = some o → ∀ (a : Act) (w : World) (k : Nat), k < n → J k w → (∀ s ∈ tmpsOf o, known l n a0.tmps φ s (a.tmps.getD s undef) w) → OpV P o a.eval w fun v w' => φ i v w' ∧ J (k + 1) w' ∧ E w w')
    {k : Nat} (hk : k < n) {listed : Array Bool} {a : Act} {w : World} (h : CInv l n a0 φ J k listed a w) {i : Nat} (hr : i ∈ Region.ready .any l.toArray listed) (hi : i < n) :
    wpOp P l.toArray Q i (fun a' w' => CInv l n a0 φ J (k + 1) (listed.setIfInBounds i true) a' w') a w := by
  obtain ⟨o, d, ho, hg, hd, hdN, hw, haft, hdep⟩ := concB_at hB hi
  have ho' : l.toArray[i]? = some o := by simpa using ho
  have hwant : Region.wanted o (yielded l.toArray a.tmps) = true := by simp [Region.wanted, hg]
  unfold wpOp
  rw [ho']
  simp only [hwant, if_true]
  left
  refine OpV.wp (hstep i o hi ho a w k hk h.world ?_) ?_
  · intro s hs
    unfold known
    cases hws : writer l n s with
    | none => exact h.other s hws
    | some j =>
      obtain ⟨hj, hjd⟩ := writer_dst hws
      obtain ⟨_, oi, hoi, hall⟩ := mem_ready.1 hr
      obtain ⟨oj, hoj, e, he, hb, hon⟩ := Region.waitsFor_spec (hdep s hs j hws)
      have : oj = oi := Option.some.inj (hoj.symm.trans hoi)
      subst this
      have hl := hall e he hb
      rw [hon] at hl
      exact h.done j s hj hl hjd
  · rintro v w' ⟨h1, h2, h3⟩
    have hda : d < a.tmps.size := by rw [h.size, hN]; exact hdN
    rw [hd]
    refine ⟨h.head.set hr hi, h2, h.defers, by simp [Act.put, h.size], ?_, ?_⟩
    · intro s hs
      rw [getD_put hda]
      have : s ≠ d := by rintro rfl; rw [hw] at hs; cases hs
      rw [if_neg this]
      exact h.other s hs
    · intro j s hj hl hjs
      rw [getD_put hda]
      by_cases e : s = d
      · subst e
        rw [if_pos rfl]
        have hw2 : writer l n s = some j := by
          obtain ⟨oj, dj, hoj, _, hdj, _, hwj, _⟩ := concB_at hB hj
          have : dj = s := by simp only [dstAt, hoj, Option.bind_some, hdj] at hjs; injection hjs
          rw [← this]; exact hwj
        rw [hw] at hw2
        injection hw2 with e2
        subst e2
        exact h1
      · rw [if_neg e]
        have hne : i ≠ j := by
          rintro rfl
          simp only [dstAt, ho, Option.bind_some, hd] at hjs
          injection hjs with e3
          exact e e3.symm
        rw [getD_set_ne false hne] at hl
        exact hmono j _ w w' hj h3 (h.done j s hj hl hjs)

theorem putAll_size (l : List Oper) (i : Nat) (x : Nat → Value) (a : Act) : (putAll l i x a).tmps.size = a.tmps.size ∧ (putAll l i x a).defers = a.defers := by
  induction l generalizing i a with
  | nil => exact ⟨rfl, rfl⟩
  | cons o l ih =>
    rw [putAll, (ih _ _).1, (ih _ _).2]
    cases o.dst <;> simp [Act.put]
theorem putAll_get (l : List Oper) (i : Nat) (x : Nat → Value) (a : Act) (s : Nat) (v : Value) (hs : s < a.tmps.size) (hv : ∀ j, dstAt l j = some s → x (i + j) = v) (hn : (∀ j, dstAt l j ≠ some s) → a.tmps.getD s undef = v) : (putAll l i x a).tmps.getD s undef = v := by
  induction l generalizing i a with
  | nil => exact hn (fun j => by simp [dstAt])
  | cons o l ih =>
    rw [putAll]
    have hsz : (a.put o.dst (x i)).tmps.size = a.tmps.size := by cases o.dst <;> simp [Act.put]
    refine ih (i + 1) _ (by rw [hsz]; exact hs) (fun j hj => ?_) (fun hno => ?_)
    · rw [show i + 1 + j = i + (j + 1) from by omega]
      exact hv (j + 1) (by simpa [dstAt] using hj)
    · cases hd : o.dst with
      | none =>
        exact hn (fun j => by
          cases j with
          | zero => simp [dstAt, hd]
          | succ j => simpa [dstAt] using hno j)
      | some d =>
        by_cases e : d = s
        · subst e
          rw [getD_put hs, if_pos rfl]
          exact hv 0 (by simp [dstAt, hd])
        · have : (a.put (some d) (x i)).tmps.getD s undef = a.tmps.getD s undef := by
            simp only [Act.put, Array.getD_eq_getD_getElem?, Array.getElem?_setIfInBounds]
            simp [e]
          rw [this]
          exact hn (fun j => by
            cases j with
            | zero => simp [dstAt, hd, e]
            | succ j => simpa [dstAt] using hno j)
theorem CInv.fin (hB : concB l n N = true) (hN : a0.tmps.size = N) {k : Nat} {listed : Array Bool} {a : Act} {w : World} (h : CInv l n a0 φ J k listed a w) (hall : ∀ i, i < n → listed.getD i false = true) :
    ∃ x : Nat → Value, (∀ i, i < n → φ i (x i) w) ∧ a = putAll (l.take n) 0 x a0 := by
  refine ⟨fun i => a.tmps.getD ((dstAt l i).getD 0) undef, fun i hi => ?_, ?_⟩
  · obtain ⟨o, d, ho, _, hd, _⟩ := concB_at hB hi
    have hds : dstAt l i = some d := by simp [dstAt, ho, hd]
    show φ i (a.tmps.getD ((dstAt l i).getD 0) undef) w
    rw [hds]
    exact h.done i d hi (hall i hi) hds
  · have hs := putAll_size (l.take n) 0 (fun i => a.tmps.getD ((dstAt l i).getD 0) undef) a0
    have htm : a.tmps = (putAll (l.take n) 0 (fun i => a.tmps.getD ((dstAt l i).getD 0) undef) a0).tmps := by
      apply Array.ext
      · rw [hs.1, h.size]
      · intro s h1 h2
        have hdt : ∀ j, dstAt (l.take n) j = some s → j < n ∧ dstAt l j = some s := fun j hj => by
          unfold dstAt at hj ⊢
          rw [List.getElem?_take] at hj
          split at hj
          · exact ⟨‹_›, hj⟩
          · cases hj
        have := putAll_get (l.take n) 0 (fun i => a.tmps.getD ((dstAt l i).getD 0) undef) a0 s (a.tmps.getD s undef) (by rw [← h.size]; exact h1)
          (fun j hj => by rw [Nat.zero_add, (hdt j hj).2]; rfl)
          (fun hno => by
            cases hw : writer l n s with
            | none => exact (h.other s hw).symm
            | some j =>
              obtain ⟨hj, hjd⟩ := writer_dst hw
              refine absurd ?_ (hno j)
              unfold dstAt at hjd ⊢
              rw [List.getElem?_take, if_pos hj]
              exact hjd)
        have e1 : a.tmps.getD s undef = a.tmps[s] := by simp [h1]
        rw [e1] at this
        rw [← this]
        generalize putAll (l.take n) 0 _ a0 = p at h2
        simp [h2]
    obtain ⟨tm, df⟩ := a
    have e2 := h.defers
    simp only at htm e2
    generalize hp : putAll (l.take n) 0 (fun i => tm.getD ((dstAt l i).getD 0) undef) a0 = p at htm hs ⊢
    obtain ⟨tm', df'⟩ := p
    simp only at htm hs
    rw [htm, e2, hs.2]

theorem allTrue_eq {listed : Array Bool} {m : Nat} (hs : listed.size = m) (h1 : ∀ i, i < n → listed.getD i false = true) (h2 : ∀ t, n ≤ t → t < m → listed.getD t true = false) : listed = allTrue n m := by
  apply Array.ext
  · simp [allTrue, hs]
  · intro i hi hj
    have him : i < m := by omega
    simp only [allTrue, List.getElem_toArray, List.getElem_map, List.getElem_range]
    by_cases h : i < n
    · have := h1 i h
      simp [hi] at this
      simp [this, h]
    · have := h2 i (by omega) him
      simp [hi] at this
      simp [this, h]

theorem countP_set {listed : Array Bool} {i n : Nat} (hi : i < n) (hl : listed.getD i true = false) : ((List.range n).countP fun j => !listed.getD j true) = ((List.range n).countP fun j => !(listed.setIfInBounds i true).getD j true) + 1 := by
  have his : i < listed.size := by
    rcases Nat.lt_or_ge i listed.size with h | h
    · exact h
    · simp [Array.getElem?_eq_none h] at hl
  induction n with
  | zero => omega
  | succ n ih =>
    rw [List.range_succ, List.countP_append, List.countP_append]
    by_cases e : i = n
    · subst e
      have e1 : ((List.range i).countP fun j => !listed.getD j true) = ((List.range i).countP fun j => !(listed.setIfInBounds i true).getD j true) := by
        apply List.countP_congr
        intro j hj
        rw [getD_set_ne true (by have := List.mem_range.1 hj; omega)]
      rw [e1]
      have e2 : (listed.setIfInBounds i true).getD i true = true := by simp [his]
      rw [List.countP_singleton, List.countP_singleton, hl, e2]
      rfl
    · rw [ih (by omega)]
      have e2 : (listed.setIfInBounds i true).getD n true = listed.getD n true := getD_set_ne true e
      simp only [List.countP_singleton, e2]
      omega
theorem wpAny_conc (hB : concB l n N = true) (hN : a0.tmps.size = N)
    (hmono : ∀ i x w w', i < n → E w w' → φ i x w → φ i x w')
    (hstep : ∀ i o, i < n → l[i]? = some o → ∀ (a : Act) (w : World) (k : Nat), k < n → J k w → (∀ s ∈ tmpsOf o, known l n a0.tmps φ s (a.tmps.getD s undef) w) → OpV P o a.eval w fun v w' => φ i v w' ∧ J (k + 1) w' ∧ E w w')
    (hend : ∀ (x : Nat → Value) (w' : World), J n w' → (∀ i, i < n → φ i (x i) w') → wpList P l.toArray Q (l.drop n) (putAll (l.take n) 0 x a0) w') :
    ∀ (c : Nat) (listed : Array Bool) (a : Act) (w : World), c ≤ n → CInv l n a0 φ J (n - c) listed a w → ((List.range n).countP fun j => !listed.getD j true) = c → wpAny P .any l.toArray Q (c + (l.length - n)) listed a w := by
  have hB' := hB
  simp only [concB, Bool.and_eq_true, decide_eq_true_eq] at hB'
  obtain ⟨⟨⟨⟨hn, hsink⟩, hchain⟩, hseq⟩, _⟩ := hB'
  intro c
  induction c with
  | zero =>
    intro listed a w hcn h hc
    have hall : ∀ i, i < n → listed.getD i false = true := fun i hi => by
      have := List.countP_eq_zero.1 hc i (List.mem_range.2 hi)
      have hsz := h.head.size
      have his : i < listed.size := by rw [hsz]; simp; omega
      simp [his] at this ⊢
      exact this
    obtain ⟨x, hx, rfl⟩ := h.fin hB hN hall
    have he := allTrue_eq (n := n) (m := l.length) (by rw [h.head.size]; simp) hall (fun t h1 h2 => h.head.tail t h1 (by simpa using h2))
    have := wpAny_of_seq (P := P) (ops := l.toArray) (md := .any) (Q' := Q) (l.drop n) n listed (putAll (l.take n) 0 x a0) w (fun j => by simp [List.getElem?_drop]) (by rw [List.length_drop, he]; exact hseq) (hend x w h.world hx)
    rw [List.length_drop] at this
    rw [Nat.zero_add]
    exact this
  | succ c ih =>
    intro listed a w hcn h hc
    have hex : ∃ i, i < n ∧ listed.getD i true = false := by
      have : 0 < (List.range n).countP fun j => !listed.getD j true := by omega
      obtain ⟨i, hi, hl⟩ := List.countP_pos_iff.1 this
      exact ⟨i, List.mem_range.1 hi, by simpa using hl⟩
    have hne : Region.ready .any l.toArray listed ≠ [] := by
      have : ∀ m i, i < n → i ≤ m → listed.getD i true = false → ∃ k, k ∈ Region.ready .any l.toArray listed := by
        intro m
        induction m with
        | zero =>
          intro i hi hm hl
          obtain rfl : i = 0 := by omega
          obtain ⟨o, d, ho, _, _, _, _, haft, _⟩ := concB_at hB hi
          refine ⟨0, mem_ready.2 ⟨hl, o, by simpa using ho, fun e he hb => ?_⟩⟩
          have := haft e he hb
          omega
        | succ m ihm =>
          intro i hi hm hl
          obtain ⟨o, d, ho, _, _, _, _, haft, _⟩ := concB_at hB hi
          by_cases hd : ∀ e ∈ o.after, Region.binds .any e = true → listed.getD e.on false = true
          · exact ⟨i, mem_ready.2 ⟨hl, o, by simpa using ho, hd⟩⟩
          · obtain ⟨e, hd⟩ := Classical.not_forall.1 hd
            obtain ⟨he, hd⟩ := Classical.not_forall.1 hd
            obtain ⟨hb, hd⟩ := Classical.not_forall.1 hd
            have hlt := haft e he hb
            have hes : e.on < listed.size := by rw [h.head.size]; simp; omega
            exact ihm e.on (by omega) (by omega) (getD_in hes (by simpa using hd))
      obtain ⟨i, hi, hl⟩ := hex
      obtain ⟨k, hk⟩ := this i i hi (Nat.le_refl _) hl
      intro e
      rw [e] at hk
      cases hk
    rw [show c + 1 + (l.length - n) = (c + (l.length - n)) + 1 from by omega]
    refine ⟨fun e => absurd e hne, fun i hi => ?_⟩
    obtain ⟨k, hk, hkl⟩ := hex
    have hin : i < n := by
      rcases Nat.lt_or_ge i n with h' | h'
      · exact h'
      · exact absurd hi (tail_waits hsink hchain (by simpa using hn) h.head (n - k) k rfl hk hkl i h')
    refine wpOp_mono (fun a' w' h' => ih _ _ _ (by omega) (by rw [show n - (c + 1) + 1 = n - c from by omega] at h'; exact h') ?_) (CInv.step hB hN hmono hstep (by omega) h hi hin)
    have hl := (mem_ready.1 hi).1
    have := countP_set hin hl
    omega

/-- A region that draws its order, by what each operation leaves. -/
theorem wp_region_conc {id : Nat} {w : World} (n N : Nat) (φ : Nat → Value → World → Prop) (J : Nat → World → Prop) (E : World → World → Prop) (hm : P.follows .mixedOrders = true) (hB : concB l n N = true) (hN : a0.tmps.size = N)
    (hJ : J 0 w.drew) (hmono : ∀ i x w w', i < n → E w w' → φ i x w → φ i x w')
    (hstep : ∀ i o, i < n → l[i]? = some o → ∀ (a : Act) (w : World) (k : Nat), k < n → J k w → (∀ s ∈ tmpsOf o, known l n a0.tmps φ s (a.tmps.getD s undef) w) → OpV P o a.eval w fun v w' => φ i v w' ∧ J (k + 1) w' ∧ E w w')
    (hend : ∀ (x : Nat → Value) (w' : World), J n w' → (∀ i, i < n → φ i (x i) w') → wpList P l.toArray Q (l.drop n) (putAll (l.take n) 0 x a0) w') :
    (Code.region id l.toArray true).wp P Q a0 w := by
  refine wp_region_any hm ?_
  have hn : n < l.length := by
    simp only [concB, Bool.and_eq_true, decide_eq_true_eq] at hB
    exact hB.1.1.1.1
  have h0 : CInv l n a0 φ J (n - n) (Array.replicate l.toArray.size false) a0 w.drew := by
    refine ⟨⟨by simp, fun j oj _ hl => (by rw [getD_replicate_false] at hl; cases hl), fun t _ ht => getD_in (by simpa using ht) (getD_replicate_false _ _)⟩, by rw [Nat.sub_self]; exact hJ, rfl, rfl, fun _ _ => rfl, fun i s _ hl => by rw [getD_replicate_false] at hl; cases hl⟩
  have hc : ((List.range n).countP fun j => !(Array.replicate l.toArray.size false).getD j true) = n := by
    have : ((List.range n).countP fun j => !(Array.replicate l.toArray.size false).getD j true) = (List.range n).length := by
      rw [List.countP_eq_length]
      intro j hj
      have := List.mem_range.1 hj
      have h2 : j < l.length := by omega
      simp [h2]
    rw [this, List.length_range]
  have := wpAny_conc (Q := Q) hB hN hmono hstep hend n _ _ _ (Nat.le_refl _) h0 hc
  rw [show n + (l.length - n) = l.toArray.size from by simp; omega] at this
  exact this
end
end Go.Proofs.YtihcmifikbkbcaaGreatDoor

/- append onto a full slice of one element, whatever the source. -/
namespace Go.Proofs.YtihcmifikbkbcaaGreatDoor
set_option linter.unusedVariables false
open Go.RowKit
theorem OpV.append {P : Program} {o : Oper} {a : Act} {w w' : World} {R : Value → World → Prop} (s x : Operand) (t : TypeId) (vs vx v' : Value) (hop : o.op = .call { callee := .builtin .append, args := #[s, x], argTypes := #[t, t] })
    (hs : a.eval s = vs) (hx : a.eval x = vx) (hrun : (Builtin.append_ #[t, t] o.type #[vs, vx]).run P w = .ok v' w') (h : R v' w') : OpV P o a.eval w R := by
  unfold OpV
  simp [execOp, hop, resolve, invoke, builtin, hs, hx, hrun, Result.andThen]
  exact h
theorem run_append_full {P : Program} (w : World) (t ty e : TypeId) (i : TypeInfo) (z : Value) (bytes : Nat) (ht : P.underlying t = some (.slice e)) (hi : P.info? e = some i) (hz : i.zero = some z) (hsize : i.size = 1) (hby : i.bytes = bytes) (hzs : z.cells.size = 1)
    (g : Nat) (s : Value) (hg : w.heap[g]? = some (.cells #[s] e (0, 0))) (Ap : Option Addr) (m capp : Nat) (news : List Value) (hl : news.length = m) (hn : ∀ j u, news[j]? = some u → ∃ ad, Ap = some ad ∧ w.cell? (ad.add j) = some u) (hm : m ≤ 1000000) (hb : bytes ≤ 4096) :
    ∃ v' w' g' cap', (Builtin.append_ #[t, t] ty #[.slice (some ⟨g, 0, none⟩) 1 1, .slice Ap m capp]).run P w = .ok v' w' ∧ v' = .slice (some ⟨g', 0, none⟩) (m + 1) cap' ∧ m + 1 ≤ cap' ∧ (g' = g ∨ w.heap.size ≤ g') ∧
      (∃ rest, w'.heap[g']? = some (.cells ((s :: news) ++ rest).toArray e (0, 0))) ∧ w.grownBy w' none := by
  rcases Nat.eq_zero_or_pos m with h0 | h0
  · subst h0
    obtain rfl := List.eq_nil_of_length_eq_zero hl
    refine ⟨_, w, g, 1, ?_, rfl, by omega, Or.inl rfl, ⟨[], by simpa using hg⟩, World.grownBy.refl _ _⟩
    cases Ap with
    | none => simp [Builtin.append_, run_underlying ht, sizeOf, typeInfo, hi, Builtin.lenOf, Builtin.firstCells, storeCells]
    | some ad => simp [Builtin.append_, run_underlying ht, sizeOf, typeInfo, hi, Builtin.lenOf, Builtin.firstCells, storeCells, loadCells, loadCellsFrom]
  · obtain ⟨ad, rfl, -⟩ := hn 0 (news[0]'(by omega)) (List.getElem?_eq_getElem (by omega))
    obtain ⟨v', w', hrun, r1, r2⟩ := run_append_arg_grows (P := P) w t ty e i z 1 bytes ht hi hz hsize hby hzs (by omega) ⟨g, 0, none⟩ 1 1 [s] (by simp) (fun j u hu => by
        cases j with
        | zero =>
          simp at hu
          subst hu
          rw [Addr.add_lit]
          simp [World.cell?, hg]
        | succ j => simp at hu) ad m capp news (by omega) (fun j u hu => by
        obtain ⟨ad', e', h'⟩ := hn j u hu
        injection e' with e'
        subst e'
        exact h') (by omega) (by simp only [maxLen]; omega) (by
        have : (1 + m) * bytes ≤ 1000001 * 4096 := Nat.mul_le_mul (by omega) hb
        omega)
    rcases r1.2 with ⟨_, hz⟩ | ⟨g', cap, cur, hv, hB, hh, hle, _, _, htk⟩
    · omega
    · refine ⟨v', w', g', cap, hrun, by rw [hv, Nat.add_comm 1 m], by omega, Or.inr hB, ⟨cur.toList.drop ((1 + m) * 1), ?_⟩, r2⟩
      rw [hh]
      have : s :: news = cur.toList.take ((1 + m) * 1) := htk.symm
      rw [this, List.take_append_drop]
end Go.Proofs.YtihcmifikbkbcaaGreatDoor

/- What a stream makes: strings. -/
namespace Go.Proofs.YtihcmifikbkbcaaGreatDoor
set_option linter.unusedVariables false
open Go.RowKit
/-- A slice of strings in a world. -/
def StrsW (w : World) (A : Option Addr) (ss : List ByteArray) : Prop := ∀ i (h : i < ss.length), ∃ b off, A = some ⟨b, off, none⟩ ∧ w.cell? ⟨b, off + i, none⟩ = some (.string ss[i])
theorem StrsW.of_row {w : World} {n : Nat} {T : TypeId} {f : Nat × Nat} {ss : List ByteArray} {cs : Array Value} (h : w.heap[n]? = some (.cells cs T f)) (hc : cs = (ss.map Value.string).toArray) : StrsW w (some ⟨n, 0, none⟩) ss := by
  intro i hi
  refine ⟨n, 0, rfl, ?_⟩
  simp only [World.cell?, h, hc]
  simp [hi]
section
variable {w W : World} {bs K : Nat} {H : Frz}
set_option maxHeartbeats 400000 in
theorem Lw.one (h : Lw w bs K H W) (A : Option Addr) (cap : Nat) (ss : List ByteArray) (hA : StrsW W A ss) (hne : ∀ b off, A = some ⟨b, off, none⟩ → b ≠ bs)
    (h0 : 0 < ss.length) (hl : ss.length ≤ 1000000) (hK : K ≤ 1099511627776) :
    Calls Tryz.prog 15 #[.pointer (some ⟨bs, 0, none⟩), .slice A ss.length cap] W fun e W' =>
      ∃ s : ByteArray, e = .returned (.string s) ∧ s ∈ ss ∧ Lw w bs (K + 1) H W' ∧ W.grownBy W' (some bs) ∧ W'.heap.size = W.heap.size := by
  have HA := Lib.hid hA
  have HN := Lib.hid hne
  clear hA hne
  go_enter Tryz.func15, Tryz.ntmps15
  go_wp2_with fail
  refine (h.next' _ hK (by omega) (by omega)).mono ?_
  rintro e W' ⟨r, rfl, r0, r1, L, g, hz⟩
  obtain ⟨i, rfl⟩ := Int.eq_ofNat_of_zero_le r0
  have hi : i < ss.length := by omega
  obtain ⟨b, off, rfl, hc⟩ := HA.out i hi
  have hc' := (World.cell?_of_block (a := ⟨b, off + i, none⟩) (g.block b (World.block_lt_of_cell? W _ hc) (fun e => HN.out b off rfl (by injection e)))).trans hc
  have hm := Lib.hid (List.getElem_mem hi)
  have HG := Lib.hid g
  have HZ := Lib.hid hz
  generalize ss[i] = z at hc' hm
  clear hc g hz
  go_wp2_with fail
  go_ret
  exact ⟨z, rfl, hm.out, L, HG.out, HZ.out⟩
end
end Go.Proofs.YtihcmifikbkbcaaGreatDoor

/- Rows of structs in the making: the stream is asked, elements are put on, one cell is changed. -/
namespace Go.Proofs.YtihcmifikbkbcaaGreatDoor
set_option linter.unusedVariables false
open Go.RowKit
/-- A row in the making. -/
def RM {D : Type} (T k : Nat) (f : D → Nat → Value) (w : World) (bs K : Nat) (H : Frz) (B : Nat) (v : Value) (ds : List D) (wr : World) : Prop :=
  Lw w bs K H wr ∧ Orow wr B T k f v ds ∧ (∀ g, v.ownBlock = some g → H g = none) ∧ bs < B ∧ B ≤ wr.heap.size
theorem grown_alloc {w : World} (o : Obj) (row : Option Nat) : w.grownBy (w.alloc o) row := ⟨rfl, rfl, rfl, by simp, fun k hk _ => heap_lt hk⟩
section
variable {D : Type} {T k : Nat} {f : D → Nat → Value} {w wr W' : World} {bs K K' B : Nat} {H H' : Frz} {v v' : Value} {ds ds' : List D}
theorem RM.new (h : Lw w bs K H wr) : RM T k f w bs K H wr.heap.size (.slice none 0 0) [] wr := ⟨h, Orow.nil _ _ _ _ _, (fun g hg => by cases hg), h.lt, Nat.le_refl _⟩
theorem RM.lw (h : RM T k f w bs K H B v ds wr) : Lw w bs K H wr := h.1
theorem RM.row (h : RM T k f w bs K H B v ds wr) : Orow wr B T k f v ds := h.2.1
theorem RM.asked (h : RM T k f w bs K H B v ds wr) (L : Lw w bs K' H W') (g : wr.grownBy W' (some bs)) : RM T k f w bs K' H B v ds W' :=
  ⟨L, h.2.1.far g h.2.2.2.1, h.2.2.1, h.2.2.2.1, Nat.le_trans h.2.2.2.2 g.size⟩
theorem RM.more (h : RM T k f w bs K H B v ds wr) (hK : K ≤ K') : RM T k f w bs K' H B v ds wr := ⟨h.1.more hK, h.2⟩
theorem RM.call (h : RM T k f w bs K H B v ds wr) (hb : Below wr.heap.size wr W') : RM T k f w bs K H B v ds W' :=
  ⟨h.1.call hb, h.2.1.below hb, h.2.2.1, h.2.2.2.1, Nat.le_trans h.2.2.2.2 hb.size⟩
theorem RM.alloc (h : RM T k f w bs K H B v ds wr) (o : Obj) : RM T k f w bs K H B v ds (wr.alloc o) := h.call ((Below.refl _ _).alloc (Nat.le_refl _) _)
theorem RM.put (h : RM T k f w bs K H B v ds wr) (o : Obj) : ∃ H', H.Le H' ∧ H' wr.heap.size = some o ∧ RM T k f w bs K H' B v ds (wr.alloc o) := by
  refine ⟨H.add wr.heap.size o, Frz.le_add (h.1.fin.none_ (Nat.le_refl _)), Frz.add_at _ _ _, (h.1.alloc o).keep (heap_at rfl) (by have := h.1.lt; omega), (h.alloc o).2.1, ?_, (h.alloc o).2.2.2⟩
  intro g hg
  rw [Frz.add_other (by have := (h.2.1.lt hg).2; omega)]
  exact h.2.2.1 g hg
theorem RM.app (h : RM T k f w bs K H B v ds wr) (o : Orow W' B T k f v' ds') (g1 : wr.grownBy W' v.ownBlock) (at1 : v'.ownBlock = v.ownBlock ∨ ∃ g, v'.ownBlock = some g ∧ wr.heap.size < g) : RM T k f w bs K H B v' ds' W' := by
  have hown : ∀ q, v.ownBlock = some q → bs < q ∧ H q = none := fun q hq => ⟨by have := (h.2.1.lt hq).1; have := h.2.2.2.1; omega, h.2.2.1 q hq⟩
  refine ⟨h.1.grown g1 hown, o, ?_, h.2.2.2.1, Nat.le_trans h.2.2.2.2 g1.size⟩
  intro q hq
  rcases at1 with at1 | ⟨g, at1, hg⟩
  · exact (hown q (by rw [← at1]; exact hq)).2
  · rw [at1] at hq
    injection hq with hq
    exact h.1.fin.none_ (by omega)
/-- One cell of an element changed. -/
theorem RM.upd {go capg : Nat} (h : RM T k f w bs K H B (.slice (some ⟨go, 0, none⟩) ds.length capg) ds wr) {p : Nat} (hp : p < ds.length) {j : Nat} (hj : j < k) (d' : D) {x : Value} (hx : f d' j = x) (ho : ∀ m, m < k → m ≠ j → f d' m = f ds[p] m) :
    wr.cell? ⟨go, p * k + j, none⟩ = some (f ds[p] j) ∧ wr.frozen? ⟨go, p * k + j, none⟩ = false ∧ RM T k f w bs K H B (.slice (some ⟨go, 0, none⟩) ds.length capg) (ds.set p d') (wr.setCell ⟨go, p * k + j, none⟩ x) := by
  have hne : ds ≠ [] := by intro e; rw [e] at hp; simp at hp
  obtain ⟨g', cap', rest, hv, hle', hB', hlt, hm', hblk, hr⟩ := h.2.1.form hne
  injection hv with e1 _ e2
  injection e1 with e1
  injection e1 with e1
  subst e1 e2
  have hnone : H go = none := h.2.2.1 go rfl
  refine ⟨hblk.cell p j hp hj, hblk.frozen _, h.1.setCell (p := ⟨go, p * k + j, none⟩) (by show bs < go; have := h.2.2.2.1; omega) hnone _, ?_, h.2.2.1, h.2.2.2.1, by have := h.2.2.2.2; simpa [World.setCell] using this⟩
  have := Orow.of_blk (B := B) (hblk.upd p j hp hj hx ho) hB' hm' (by simpa using hle') (by simpa using hr)
  simpa using this
end
/-- Two cells of an element changed. -/
theorem RM.upd2 {D : Type} {T k : Nat} {f : D → Nat → Value} {w wr : World} {bs K B : Nat} {H : Frz} {ds : List D} {go capg : Nat} (h : RM T k f w bs K H B (.slice (some ⟨go, 0, none⟩) ds.length capg) ds wr) {p : Nat} (hp : p < ds.length) {i j : Nat} (hi : i < k) (hj : j < k) (hij : i ≠ j) (d1 d2 : D) {x y : Value} (hx : f d1 i = x) (hy : f d2 j = y) (h1 : ∀ m, m < k → m ≠ i → f d1 m = f ds[p] m) (h2 : ∀ m, m < k → m ≠ j → f d2 m = f d1 m) :
    wr.cell? ⟨go, p * k + i, none⟩ = some (f ds[p] i) ∧ wr.frozen? ⟨go, p * k + i, none⟩ = false ∧ wr.cell? ⟨go, p * k + j, none⟩ = some (f ds[p] j) ∧ wr.frozen? ⟨go, p * k + j, none⟩ = false ∧ RM T k f w bs K H B (.slice (some ⟨go, 0, none⟩) ds.length capg) (ds.set p d2) ((wr.setCell ⟨go, p * k + i, none⟩ x).setCell ⟨go, p * k + j, none⟩ y) := by
  obtain ⟨c1, f1, r1⟩ := h.upd hp hi d1 hx h1
  obtain ⟨c2, f2, -⟩ := h.upd hp hj ds[p] rfl (fun _ _ _ => rfl)
  have hl : (ds.set p d1).length = ds.length := by simp
  have r1' : RM T k f w bs K H B (.slice (some ⟨go, 0, none⟩) (ds.set p d1).length capg) (ds.set p d1) (wr.setCell ⟨go, p * k + i, none⟩ x) := by rw [hl]; exact r1
  obtain ⟨_, _, r2⟩ := r1'.upd (p := p) (by rw [hl]; exact hp) hj d2 hy (fun m hm hne => by rw [List.getElem_set_self]; exact h2 m hm hne)
  rw [hl, List.set_set] at r2
  exact ⟨c1, f1, c2, f2, r2⟩
end Go.Proofs.YtihcmifikbkbcaaGreatDoor

/- Cells of blocks: new ones, kept ones, stores into a block of the call's own. -/
namespace Go.Proofs.YtihcmifikbkbcaaGreatDoor
set_option linter.unusedVariables false
open Go.RowKit
theorem newc {w : World} {T : TypeId} {xs : Array Value} (m : Nat) {v : Value} (h : xs[m]? = some v) : (w.alloc (.cells xs T)).cell? ⟨w.heap.size, m, none⟩ = some v := by
  rw [World.cell?_alloc_new]; exact h
theorem oldc {w : World} {o : Obj} {a : Addr} {v : Value} (h : w.cell? a = some v) : (w.alloc o).cell? a = some v := (World.cell?_alloc_lt w _ _ (World.block_lt_of_cell? w _ h)).trans h
theorem new1 {w : World} (o : Obj) : Below w.heap.size w (w.alloc o) := (Below.refl _ _).alloc (Nat.le_refl _) _
theorem new2 {w : World} (o1 o2 : Obj) : Below w.heap.size w ((w.alloc o1).alloc o2) := ((Below.refl _ _).alloc (Nat.le_refl _) _).alloc (by simp) _
theorem sizeA (w : World) (o : Obj) : (w.alloc o).heap.size = w.heap.size + 1 := by simp
theorem keep2 {w w1 : World} {T : TypeId} {xs : Array Value} (hb : Below (w.alloc (.cells xs T)).heap.size (w.alloc (.cells xs T)) w1) : w1.heap[w.heap.size]? = some (.cells xs T (0, 0)) := (hb.block _ (by simp)).trans (heap_alloc_new _ _)
theorem cell_h {w : World} {g : Nat} {T : TypeId} {xs : Array Value} {f : Nat × Nat} (h : w.heap[g]? = some (.cells xs T f)) (m : Nat) {v : Value} (hv : xs[m]? = some v) : w.cell? ⟨g, m, none⟩ = some v := by
  simp only [World.cell?, h]; exact hv
theorem froz_h {w : World} {g : Nat} {T : TypeId} {xs : Array Value} (h : w.heap[g]? = some (.cells xs T (0, 0))) (m : Nat) : w.frozen? ⟨g, m, none⟩ = false := by
  simp [World.frozen?, h]
theorem set2 {w : World} {g : Nat} {T : TypeId} {x0 x1 : Value} (h : w.heap[g]? = some (.cells #[x0, x1] T (0, 0))) (a0 a1 : Value) : ((w.setCell ⟨g, 0, none⟩ a0).setCell ⟨g, 1, none⟩ a1).heap[g]? = some (.cells #[a0, a1] T (0, 0)) := by
  simp [World.setCell, Array.getElem?_modify, h]
theorem set3 {w : World} {g : Nat} {T : TypeId} {x0 x1 x2 : Value} (h : w.heap[g]? = some (.cells #[x0, x1, x2] T (0, 0))) (a0 a1 a2 : Value) : (((w.setCell ⟨g, 0, none⟩ a0).setCell ⟨g, 1, none⟩ a1).setCell ⟨g, 2, none⟩ a2).heap[g]? = some (.cells #[a0, a1, a2] T (0, 0)) := by
  simp [World.setCell, Array.getElem?_modify, h]
theorem set5 {w : World} {g : Nat} {T : TypeId} {x0 x1 x2 x3 x4 : Value} (h : w.heap[g]? = some (.cells #[x0, x1, x2, x3, x4] T (0, 0))) (a0 a1 a2 a3 a4 : Value) : (((((w.setCell ⟨g, 0, none⟩ a0).setCell ⟨g, 1, none⟩ a1).setCell ⟨g, 2, none⟩ a2).setCell ⟨g, 3, none⟩ a3).setCell ⟨g, 4, none⟩ a4).heap[g]? = some (.cells #[a0, a1, a2, a3, a4] T (0, 0)) := by
  simp [World.setCell, Array.getElem?_modify, h]
theorem set8 {w : World} {g : Nat} {T : TypeId} {x0 x1 x2 x3 x4 x5 x6 x7 : Value} (h : w.heap[g]? = some (.cells #[x0, x1, x2, x3, x4, x5, x6, x7] T (0, 0))) (a0 a1 a2 a3 a4 a5 a6 a7 : Value) : ((((((((w.setCell ⟨g, 0, none⟩ a0).setCell ⟨g, 1, none⟩ a1).setCell ⟨g, 2, none⟩ a2).setCell ⟨g, 3, none⟩ a3).setCell ⟨g, 4, none⟩ a4).setCell ⟨g, 5, none⟩ a5).setCell ⟨g, 6, none⟩ a6).setCell ⟨g, 7, none⟩ a7).heap[g]? = some (.cells #[a0, a1, a2, a3, a4, a5, a6, a7] T (0, 0)) := by
  simp [World.setCell, Array.getElem?_modify, h]
end Go.Proofs.YtihcmifikbkbcaaGreatDoor

/- Draws leave a row that has grown. -/
namespace Go.Proofs.YtihcmifikbkbcaaGreatDoor
open Go.RowKit
theorem grown_below {a b c : World} {g : Nat} (h : a.grownBy b (some g)) (hb : Below b.heap.size b c) : a.grownBy c (some g) :=
  ⟨hb.os.trans h.os, hb.tape.trans h.tape, hb.output.trans h.output, Nat.le_trans h.size hb.size, fun k hk hne => (hb.block k (Nat.lt_of_lt_of_le hk h.size)).trans (h.block k hk hne)⟩
theorem grown_drew {a b : World} {row : Option Nat} (h : a.grownBy b row) : a.grownBy b.drew row := ⟨h.os, h.tape, h.output, h.size, h.block⟩
theorem grown_drewN' {a b : World} {row : Option Nat} (h : a.grownBy b row) (n : Nat) : a.grownBy (b.drewN n) row := ⟨h.os, h.tape, h.output, h.size, h.block⟩
end Go.Proofs.YtihcmifikbkbcaaGreatDoor

/- cmp.Compare of strings and ints, cmp.Or, exactly. -/
namespace Go.Proofs.YtihcmifikbkbcaaGreatDoor
set_option linter.unusedVariables false
open Go.RowKit
def cmpI (a b : Int) : Int := if a < b then -1 else if a = b then 0 else 1
theorem cmpI_lt {a b : Int} : cmpI a b < 0 ↔ a < b := by unfold cmpI; split <;> (try split) <;> omega
theorem cmpI_zero {a b : Int} : cmpI a b = 0 ↔ a = b := by unfold cmpI; split <;> (try split) <;> omega
theorem cmpI_swap (a b : Int) : cmpI b a = - cmpI a b := by unfold cmpI; split <;> (try split) <;> (try split) <;> (try split) <;> omega
/-- The first that is not 0. -/
def orL : List Int → Int
  | [] => 0
  | x :: l => if x = 0 then orL l else x
theorem same_below {w : World} {P : Program} {k : Nat} {args : Array Value} {R : Ending → Prop} (h : Calls P k args w fun e w' => R e ∧ w = w') : Calls P k args w fun e w' => R e ∧ Below w.heap.size w w' :=
  h.mono fun e w' ⟨h1, h2⟩ => ⟨h1, h2 ▸ Below.refl _ _⟩
set_option maxHeartbeats 400000 in
theorem cmpInt_any (a b : Int) (w : World) : Calls Tryz.prog 53 #[.int .i64 a, .int .i64 b] w fun e w' => e = .returned (.int .i64 (cmpI a b)) ∧ w = w' := by
  rcases Int.lt_trichotomy a b with h | h | h
  · have hv : Hid (cmpI a b = -1) := by show _ = _; unfold cmpI; rw [if_pos h]
    go_enter Tryz.func53, Tryz.ntmps53
    go_wp2
    go_ret
    exact ⟨ret_int hv.out.symm, rfl⟩
  · subst h
    have hv : Hid (cmpI a a = 0) := cmpI_zero.2 rfl
    go_enter Tryz.func53, Tryz.ntmps53
    go_wp2
    go_ret
    exact ⟨ret_int hv.out.symm, rfl⟩
  · have hv : Hid (cmpI a b = 1) := by show _ = _; unfold cmpI; rw [if_neg (by omega), if_neg (by omega)]
    go_enter Tryz.func53, Tryz.ntmps53
    go_wp2
    go_ret
    exact ⟨ret_int hv.out.symm, rfl⟩
theorem cmpInt_b (a b : Int) (w : World) : Calls Tryz.prog 53 #[.int .i64 a, .int .i64 b] w fun e w' => e = .returned (.int .i64 (cmpI a b)) ∧ Below w.heap.size w w' := same_below (cmpInt_any a b w)
theorem orL_drop_zero {zs : List Int} {i : Nat} (h : i < zs.length) (h0 : zs[i] = 0) : orL (zs.drop i) = orL (zs.drop (i + 1)) := by
  rw [List.drop_eq_getElem_cons h, orL, if_pos h0]
theorem orL_drop_ne {zs : List Int} {i : Nat} (h : i < zs.length) (h0 : zs[i] ≠ 0) : orL (zs.drop i) = zs[i] := by
  rw [List.drop_eq_getElem_cons h, orL, if_neg h0]
set_option maxHeartbeats 400000 in
theorem orL_any (A : Option Addr) (cap : Nat) (zs : List Int) (w : World) (hA : Ints w A zs) (hl : zs.length ≤ 1000000) :
    Calls Tryz.prog 52 #[.slice A zs.length cap] w fun e w' => e = .returned (.int .i64 (orL zs)) ∧ w = w' := by
  have HA := Lib.hid hA
  clear hA
  go_enter Tryz.func52, Tryz.ntmps52
  go_wp2
  go_loop [8] (fun t => ∃ i : Nat, i ≤ zs.length ∧ t = .int .i64 i ∧ Hid (orL zs = orL (zs.drop i))) (fun t => zs.length - (intOf t).toNat)
  case atStart => exact ⟨0, Nat.zero_le _, rfl, rfl⟩
  case round =>
    obtain ⟨i, hi, rfl, ho⟩ := hrel
    by_cases hlt : i < zs.length
    · obtain ⟨b, off, rfl, hc⟩ := HA.out i hlt
      have h1 := Lib.hid (orL_drop_zero hlt)
      have h2 := Lib.hid (orL_drop_ne hlt)
      generalize zs[i] = z at hc h1 h2
      by_cases hz : z = 0
      · have h3 := Lib.hid (ho.out.trans (h1.out hz))
        subst hz
        go_wp2
        go_round
        case rel => exact ⟨i + 1, by omega, by go_num, h3⟩
        case measure => simp [intOf]; omega
      · have hz' : (z != 0) = true := by simpa using hz
        have h3 := Lib.hid (ho.out.trans (h2.out hz))
        clear hz
        go_wp2
        go_ret
        exact ⟨ret_int h3.out.symm, rfl⟩
    · have h3 := Lib.hid (ho.out.trans (show orL (zs.drop i) = 0 by rw [List.drop_of_length_le (by omega)]; rfl))
      go_wp2
      go_ret
      exact ⟨ret_int h3.out.symm, rfl⟩
end Go.Proofs.YtihcmifikbkbcaaGreatDoor

/- A region that draws its order and holds stores beside calls and allocations: what each operation leaves. -/
namespace Go.Proofs.YtihcmifikbkbcaaGreatDoor
set_option linter.unusedVariables false
open Go.RowKit

def concWB (l : List Oper) (n N : Nat) : Bool :=
  decide (n < l.length) && Region.sinkB .any l.toArray n && Region.chainB .any l.toArray n && Region.seqB .any l.toArray (l.length - n) n (allTrue n l.length) &&
  ((List.range n).all fun i => match l[i]? with
    | some o => o.guard.isNone && (match o.dst with | some d => decide (d < N) && decide (writer l n d = some i) | none => true) &&
        (o.after.toList.all fun e => !Region.binds .any e || decide (e.on < i)) &&
        ((tmpsOf o).all fun s => match writer l n s with | some j => Region.waitsFor .any l.toArray i j | none => true)
    | none => false)
section
variable {P : Program} {l : List Oper} {n N : Nat} {a0 : Act} {φ : Nat → Value → World → Prop} {J : Nat → World → Prop} {E : World → World → Prop} {Q : Exit → Act → World → Prop}
theorem concWB_at (h : concWB l n N = true) {i : Nat} (hi : i < n) : ∃ o, l[i]? = some o ∧ o.guard = none ∧ (∀ d, o.dst = some d → d < N ∧ writer l n d = some i) ∧ (∀ e ∈ o.after, Region.binds .any e = true → e.on < i) ∧ ∀ s ∈ tmpsOf o, ∀ j, writer l n s = some j → Region.waitsFor .any l.toArray i j = true := by
  simp only [concWB, Bool.and_eq_true] at h
  have h1 := List.all_eq_true.1 h.2 i (List.mem_range.2 hi)
  cases ho : l[i]? with
  | none => rw [ho] at h1; cases h1
  | some o =>
    rw [ho] at h1
    simp only [Bool.and_eq_true] at h1
    obtain ⟨⟨⟨g1, g2⟩, g3⟩, g4⟩ := h1
    refine ⟨o, rfl, by simpa using g1, ?_, ?_, ?_⟩
    · intro d hd
      rw [hd] at g2
      simpa only [Bool.and_eq_true, decide_eq_true_eq] using g2
    · intro e he hb
      have := List.all_eq_true.1 g3 e (by simpa using he)
      simpa [hb] using this
    · intro s hs j hj
      have := List.all_eq_true.1 g4 s hs
      rw [hj] at this
      exact this
structure CInvW (l : List Oper) (n : Nat) (a0 : Act) (φ : Nat → Value → World → Prop) (J : Nat → World → Prop) (k : Nat) (listed : Array Bool) (a : Act) (w : World) : Prop where
  head : HeadInv .any l.toArray n listed
  world : J k w
  defers : a.defers = a0.defers
  size : a.tmps.size = a0.tmps.size
  other : ∀ s, writer l n s = none → a.tmps.getD s undef = a0.tmps.getD s undef
  done : ∀ i s, i < n → listed.getD i false = true → dstAt l i = some s → φ i (a.tmps.getD s undef) w
  stored : ∀ i, i < n → listed.getD i false = true → dstAt l i = none → φ i undef w
theorem CInvW.step (hB : concWB l n N = true) (hN : a0.tmps.size = N)
    (hmono : ∀ i x w w', i < n → E w w' → φ i x w → φ i x w') (hnone : ∀ i x w, i < n → dstAt l i = none → φ i x w → φ i undef w)
    (hstep : ∀ i o, i < n → l[i]? = some o → ∀ (a : Act) (w : World) (k : Nat), k < n → J k w → (∀ s ∈ tmpsOf o, known l n a0.tmps φ s (a.tmps.getD s undef) w) → OpV P o a.eval w fun v w' => φ i v w' ∧ J (k + 1) w' ∧ E w w')
    {k : Nat} (hk : k < n) {listed : Array Bool} {a : Act} {w : World} (h : CInvW l n a0 φ J k listed a w) {i : Nat} (hr : i ∈ Region.ready .any l.toArray listed) (hi : i < n) :
    wpOp P l.toArray Q i (fun a' w' => CInvW l n a0 φ J (k + 1) (listed.setIfInBounds i true) a' w') a w := by
  obtain ⟨o, ho, hg, hdw, haft, hdep⟩ := concWB_at hB hi
  have ho' : l.toArray[i]? = some o := by simpa using ho
  have hwant : Region.wanted o (yielded l.toArray a.tmps) = true := by simp [Region.wanted, hg]
  unfold wpOp
  rw [ho']
  simp only [hwant, if_true]
  left
  refine OpV.wp (hstep i o hi ho a w k hk h.world ?_) ?_
  · intro s hs
    unfold known
    cases hws : writer l n s with
    | none => exact h.other s hws
    | some j =>
      obtain ⟨hj, hjd⟩ := writer_dst hws
      obtain ⟨_, oi, hoi, hall⟩ := mem_ready.1 hr
      obtain ⟨oj, hoj, e, he, hb, hon⟩ := Region.waitsFor_spec (hdep s hs j hws)
      have : oj = oi := Option.some.inj (hoj.symm.trans hoi)
      subst this
      have hl := hall e he hb
      rw [hon] at hl
      exact h.done j s hj hl hjd
  · rintro v w' ⟨h1, h2, h3⟩
    cases hd : o.dst with
    | none =>
      have hdi : dstAt l i = none := by simp [dstAt, ho, hd]
      have hput : a.put none v = a := rfl
      rw [hput]
      refine ⟨h.head.set hr hi, h2, h.defers, h.size, h.other, ?_, ?_⟩
      · intro j s hj hl hjs
        have hne : i ≠ j := by rintro rfl; rw [hdi] at hjs; cases hjs
        rw [getD_set_ne false hne] at hl
        exact hmono j _ w w' hj h3 (h.done j s hj hl hjs)
      · intro j hj hl hjn
        by_cases e : i = j
        · subst e; exact hnone i v w' hi hdi h1
        · rw [getD_set_ne false e] at hl
          exact hmono j _ w w' hj h3 (h.stored j hj hl hjn)
    | some d =>
      obtain ⟨hdN, hw⟩ := hdw d hd
      have hda : d < a.tmps.size := by rw [h.size, hN]; exact hdN
      refine ⟨h.head.set hr hi, h2, h.defers, by simp [Act.put, h.size], ?_, ?_, ?_⟩
      · intro s hs
        rw [getD_put hda]
        have : s ≠ d := by rintro rfl; rw [hw] at hs; cases hs
        rw [if_neg this]
        exact h.other s hs
      · intro j s hj hl hjs
        rw [getD_put hda]
        by_cases e : s = d
        · subst e
          rw [if_pos rfl]
          have hw2 : writer l n s = some j := by
            obtain ⟨oj, hoj, _, hdwj, _⟩ := concWB_at hB hj
            have : oj.dst = some s := by simpa [dstAt, hoj] using hjs
            exact (hdwj s this).2
          rw [hw] at hw2
          injection hw2 with e2
          subst e2
          exact h1
        · rw [if_neg e]
          have hne : i ≠ j := by
            rintro rfl
            simp only [dstAt, ho, Option.bind_some, hd] at hjs
            injection hjs with e3
            exact e e3.symm
          rw [getD_set_ne false hne] at hl
          exact hmono j _ w w' hj h3 (h.done j s hj hl hjs)
      · intro j hj hl hjn
        have hne : i ≠ j := by
          rintro rfl
          simp only [dstAt, ho, Option.bind_some, hd] at hjn
          cases hjn
        rw [getD_set_ne false hne] at hl
        exact hmono j _ w w' hj h3 (h.stored j hj hl hjn)
theorem CInvW.fin (hB : concWB l n N = true) (hN : a0.tmps.size = N) {k : Nat} {listed : Array Bool} {a : Act} {w : World} (h : CInvW l n a0 φ J k listed a w) (hall : ∀ i, i < n → listed.getD i false = true) :
    ∃ x : Nat → Value, (∀ i, i < n → φ i (x i) w ∨ (dstAt l i = none ∧ φ i undef w)) ∧ a = putAll (l.take n) 0 x a0 := by
  refine ⟨fun i => a.tmps.getD ((dstAt l i).getD 0) undef, fun i hi => ?_, ?_⟩
  · cases hds : dstAt l i with
    | none => exact Or.inr ⟨rfl, h.stored i hi (hall i hi) hds⟩
    | some d => exact Or.inl (by show φ i (a.tmps.getD ((dstAt l i).getD 0) undef) w; rw [hds]; exact h.done i d hi (hall i hi) hds)
  · have hs := putAll_size (l.take n) 0 (fun i => a.tmps.getD ((dstAt l i).getD 0) undef) a0
    have htm : a.tmps = (putAll (l.take n) 0 (fun i => a.tmps.getD ((dstAt l i).getD 0) undef) a0).tmps := by
      apply Array.ext
      · rw [hs.1, h.size]
      · intro s h1 h2
        have hdt : ∀ j, dstAt (l.take n) j = some s → j < n ∧ dstAt l j = some s := fun j hj => by
          unfold dstAt at hj ⊢
          rw [List.getElem?_take] at hj
          split at hj
          · exact ⟨‹_›, hj⟩
          · cases hj
        have := putAll_get (l.take n) 0 (fun i => a.tmps.getD ((dstAt l i).getD 0) undef) a0 s (a.tmps.getD s undef) (by rw [← h.size]; exact h1)
          (fun j hj => by rw [Nat.zero_add, (hdt j hj).2]; rfl)
          (fun hno => by
            cases hw : writer l n s with
            | none => exact (h.other s hw).symm
            | some j =>
              obtain ⟨hj, hjd⟩ := writer_dst hw
              refine absurd ?_ (hno j)
              unfold dstAt at hjd ⊢
              rw [List.getElem?_take, if_pos hj]
              exact hjd)
        have e1 : a.tmps.getD s undef = a.tmps[s] := by simp [h1]
        rw [e1] at this
        rw [← this]
        generalize putAll (l.take n) 0 _ a0 = p at h2
        simp [h2]
    obtain ⟨tm, df⟩ := a
    have e2 := h.defers
    simp only at htm e2
    generalize hp : putAll (l.take n) 0 (fun i => tm.getD ((dstAt l i).getD 0) undef) a0 = p at htm hs ⊢
    obtain ⟨tm', df'⟩ := p
    simp only at htm hs
    rw [htm, e2, hs.2]

theorem wpAny_concW (hB : concWB l n N = true) (hN : a0.tmps.size = N)
    (hmono : ∀ i x w w', i < n → E w w' → φ i x w → φ i x w') (hnone : ∀ i x w, i < n → dstAt l i = none → φ i x w → φ i undef w)
    (hstep : ∀ i o, i < n → l[i]? = some o → ∀ (a : Act) (w : World) (k : Nat), k < n → J k w → (∀ s ∈ tmpsOf o, known l n a0.tmps φ s (a.tmps.getD s undef) w) → OpV P o a.eval w fun v w' => φ i v w' ∧ J (k + 1) w' ∧ E w w')
    (hend : ∀ (x : Nat → Value) (w' : World), J n w' → (∀ i, i < n → φ i (x i) w' ∨ (dstAt l i = none ∧ φ i undef w')) → wpList P l.toArray Q (l.drop n) (putAll (l.take n) 0 x a0) w') :
    ∀ (c : Nat) (listed : Array Bool) (a : Act) (w : World), c ≤ n → CInvW l n a0 φ J (n - c) listed a w → ((List.range n).countP fun j => !listed.getD j true) = c → wpAny P .any l.toArray Q (c + (l.length - n)) listed a w := by
  have hB' := hB
  simp only [concWB, Bool.and_eq_true, decide_eq_true_eq] at hB'
  obtain ⟨⟨⟨⟨hn, hsink⟩, hchain⟩, hseq⟩, _⟩ := hB'
  intro c
  induction c with
  | zero =>
    intro listed a w hcn h hc
    have hall : ∀ i, i < n → listed.getD i false = true := fun i hi => by
      have := List.countP_eq_zero.1 hc i (List.mem_range.2 hi)
      have hsz := h.head.size
      have his : i < listed.size := by rw [hsz]; simp; omega
      simp [his] at this ⊢
      exact this
    obtain ⟨x, hx, rfl⟩ := h.fin hB hN hall
    have he := allTrue_eq (n := n) (m := l.length) (by rw [h.head.size]; simp) hall (fun t h1 h2 => h.head.tail t h1 (by simpa using h2))
    have := wpAny_of_seq (P := P) (ops := l.toArray) (md := .any) (Q' := Q) (l.drop n) n listed (putAll (l.take n) 0 x a0) w (fun j => by simp [List.getElem?_drop]) (by rw [List.length_drop, he]; exact hseq) (hend x w h.world hx)
    rw [List.length_drop] at this
    rw [Nat.zero_add]
    exact this
  | succ c ih =>
    intro listed a w hcn h hc
    have hex : ∃ i, i < n ∧ listed.getD i true = false := by
      have : 0 < (List.range n).countP fun j => !listed.getD j true := by omega
      obtain ⟨i, hi, hl⟩ := List.countP_pos_iff.1 this
      exact ⟨i, List.mem_range.1 hi, by simpa using hl⟩
    have hne : Region.ready .any l.toArray listed ≠ [] := by
      have : ∀ m i, i < n → i ≤ m → listed.getD i true = false → ∃ k, k ∈ Region.ready .any l.toArray listed := by
        intro m
        induction m with
        | zero =>
          intro i hi hm hl
          obtain rfl : i = 0 := by omega
          obtain ⟨o, ho, _, _, haft, _⟩ := concWB_at hB hi
          refine ⟨0, mem_ready.2 ⟨hl, o, by simpa using ho, fun e he hb => ?_⟩⟩
          have := haft e he hb
          omega
        | succ m ihm =>
          intro i hi hm hl
          obtain ⟨o, ho, _, _, haft, _⟩ := concWB_at hB hi
          by_cases hd : ∀ e ∈ o.after, Region.binds .any e = true → listed.getD e.on false = true
          · exact ⟨i, mem_ready.2 ⟨hl, o, by simpa using ho, hd⟩⟩
          · obtain ⟨e, hd⟩ := Classical.not_forall.1 hd
            obtain ⟨he, hd⟩ := Classical.not_forall.1 hd
            obtain ⟨hb, hd⟩ := Classical.not_forall.1 hd
            have hlt := haft e he hb
            have hes : e.on < listed.size := by rw [h.head.size]; simp; omega
            exact ihm e.on (by omega) (by omega) (getD_in hes (by simpa using hd))
      obtain ⟨i, hi, hl⟩ := hex
      obtain ⟨k, hk⟩ := this i i hi (Nat.le_refl _) hl
      intro e
      rw [e] at hk
      cases hk
    rw [show c + 1 + (l.length - n) = (c + (l.length - n)) + 1 from by omega]
    refine ⟨fun e => absurd e hne, fun i hi => ?_⟩
    obtain ⟨k, hk, hkl⟩ := hex
    have hin : i < n := by
      rcases Nat.lt_or_ge i n with h' | h'
      · exact h'
      · exact absurd hi (tail_waits hsink hchain (by simpa using hn) h.head (n - k) k rfl hk hkl i h')
    refine wpOp_mono (fun a' w' h' => ih _ _ _ (by omega) (by rw [show n - (c + 1) + 1 = n - c from by omega] at h'; exact h') ?_) (CInvW.step hB hN hmono hnone hstep (by omega) h hi hin)
    have hl := (mem_ready.1 hi).1
    have := countP_set hin hl
    omega

/-- A region that draws its order, by what each operation leaves. -/
theorem wp_region_concW {id : Nat} {w : World} (n N : Nat) (φ : Nat → Value → World → Prop) (J : Nat → World → Prop) (E : World → World → Prop) (hm : P.follows .mixedOrders = true) (hB : concWB l n N = true) (hN : a0.tmps.size = N)
    (hJ : J 0 w.drew) (hmono : ∀ i x w w', i < n → E w w' → φ i x w → φ i x w') (hnone : ∀ i x w, i < n → dstAt l i = none → φ i x w → φ i undef w)
    (hstep : ∀ i o, i < n → l[i]? = some o → ∀ (a : Act) (w : World) (k : Nat), k < n → J k w → (∀ s ∈ tmpsOf o, known l n a0.tmps φ s (a.tmps.getD s undef) w) → OpV P o a.eval w fun v w' => φ i v w' ∧ J (k + 1) w' ∧ E w w')
    (hend : ∀ (x : Nat → Value) (w' : World), J n w' → (∀ i, i < n → φ i (x i) w' ∨ (dstAt l i = none ∧ φ i undef w')) → wpList P l.toArray Q (l.drop n) (putAll (l.take n) 0 x a0) w') :
    (Code.region id l.toArray true).wp P Q a0 w := by
  refine wp_region_any hm ?_
  have hn : n < l.length := by
    simp only [concWB, Bool.and_eq_true, decide_eq_true_eq] at hB
    exact hB.1.1.1.1
  have h0 : CInvW l n a0 φ J (n - n) (Array.replicate l.toArray.size false) a0 w.drew := by
    refine ⟨⟨by simp, fun j oj _ hl => (by rw [getD_replicate_false] at hl; cases hl), fun t _ ht => getD_in (by simpa using ht) (getD_replicate_false _ _)⟩, by rw [Nat.sub_self]; exact hJ, rfl, rfl, fun _ _ => rfl, fun i s _ hl => (by rw [getD_replicate_false] at hl; cases hl), fun i _ hl => by rw [getD_replicate_false] at hl; cases hl⟩
  have hc : ((List.range n).countP fun j => !(Array.replicate l.toArray.size false).getD j true) = n := by
    have : ((List.range n).countP fun j => !(Array.replicate l.toArray.size false).getD j true) = (List.range n).length := by
      rw [List.countP_eq_length]
      intro j hj
      have := List.mem_range.1 hj
      have h2 : j < l.length := by omega
      simp [h2]
    rw [this, List.length_range]
  have := wpAny_concW (Q := Q) hB hN hmono hnone hstep hend n _ _ _ (Nat.le_refl _) h0 hc
  rw [show n + (l.length - n) = l.toArray.size from by simp; omega] at this
  exact this
end
end Go.Proofs.YtihcmifikbkbcaaGreatDoor

/- A region that draws its order and holds a store that may run beside operations that the text has behind it: a state that looks at what has run and at the slots. -/
namespace Go.Proofs.YtihcmifikbkbcaaGreatDoor
set_option linter.unusedVariables false
open Go.RowKit
section
variable {P : Program} {l : List Oper} {n N : Nat} {a0 : Act} {φ : Nat → Value → World → Prop} {J : Array Bool → Act → World → Prop} {E : World → World → Prop} {Q : Exit → Act → World → Prop}
structure CInvV (l : List Oper) (n : Nat) (a0 : Act) (φ : Nat → Value → World → Prop) (J : Array Bool → Act → World → Prop) (listed : Array Bool) (a : Act) (w : World) : Prop where
  head : HeadInv .any l.toArray n listed
  world : J listed a w
  defers : a.defers = a0.defers
  size : a.tmps.size = a0.tmps.size
  other : ∀ s, writer l n s = none → a.tmps.getD s undef = a0.tmps.getD s undef
  done : ∀ i s, i < n → listed.getD i false = true → dstAt l i = some s → φ i (a.tmps.getD s undef) w
  stored : ∀ i, i < n → listed.getD i false = true → dstAt l i = none → φ i undef w
theorem CInvV.step (hB : concWB l n N = true) (hN : a0.tmps.size = N)
    (hmono : ∀ i x w w', i < n → E w w' → φ i x w → φ i x w') (hnone : ∀ i x w, i < n → dstAt l i = none → φ i x w → φ i undef w)
    (hstep : ∀ i o, i < n → l[i]? = some o → ∀ (a : Act) (w : World) (L : Array Bool), i ∈ Region.ready .any l.toArray L → a.tmps.size = a0.tmps.size → L.size = l.length → J L a w → (∀ s ∈ tmpsOf o, known l n a0.tmps φ s (a.tmps.getD s undef) w) → OpV P o a.eval w fun v w' => φ i v w' ∧ J (L.setIfInBounds i true) (a.put o.dst v) w' ∧ E w w')
    {listed : Array Bool} {a : Act} {w : World} (h : CInvV l n a0 φ J listed a w) {i : Nat} (hr : i ∈ Region.ready .any l.toArray listed) (hi : i < n) :
    wpOp P l.toArray Q i (fun a' w' => CInvV l n a0 φ J (listed.setIfInBounds i true) a' w') a w := by
  obtain ⟨o, ho, hg, hdw, haft, hdep⟩ := concWB_at hB hi
  have ho' : l.toArray[i]? = some o := by simpa using ho
  have hwant : Region.wanted o (yielded l.toArray a.tmps) = true := by simp [Region.wanted, hg]
  unfold wpOp
  rw [ho']
  simp only [hwant, if_true]
  left
  refine OpV.wp (hstep i o hi ho a w listed hr h.size (by rw [h.head.size]; simp) h.world ?_) ?_
  · intro s hs
    unfold known
    cases hws : writer l n s with
    | none => exact h.other s hws
    | some j =>
      obtain ⟨hj, hjd⟩ := writer_dst hws
      obtain ⟨_, oi, hoi, hall⟩ := mem_ready.1 hr
      obtain ⟨oj, hoj, e, he, hb, hon⟩ := Region.waitsFor_spec (hdep s hs j hws)
      have : oj = oi := Option.some.inj (hoj.symm.trans hoi)
      subst this
      have hl := hall e he hb
      rw [hon] at hl
      exact h.done j s hj hl hjd
  · rintro v w' ⟨h1, h2, h3⟩
    cases hd : o.dst with
    | none =>
      have hdi : dstAt l i = none := by simp [dstAt, ho, hd]
      have hput : a.put none v = a := rfl
      rw [hd, hput] at h2
      rw [hput]
      refine ⟨h.head.set hr hi, h2, h.defers, h.size, h.other, ?_, ?_⟩
      · intro j s hj hl hjs
        have hne : i ≠ j := by rintro rfl; rw [hdi] at hjs; cases hjs
        rw [getD_set_ne false hne] at hl
        exact hmono j _ w w' hj h3 (h.done j s hj hl hjs)
      · intro j hj hl hjn
        by_cases e : i = j
        · subst e; exact hnone i v w' hi hdi h1
        · rw [getD_set_ne false e] at hl
          exact hmono j _ w w' hj h3 (h.stored j hj hl hjn)
    | some d =>
      obtain ⟨hdN, hw⟩ := hdw d hd
      have hda : d < a.tmps.size := by rw [h.size, hN]; exact hdN
      rw [hd] at h2
      refine ⟨h.head.set hr hi, h2, h.defers, by simp [Act.put, h.size], ?_, ?_, ?_⟩
      · intro s hs
        rw [getD_put hda]
        have : s ≠ d := by rintro rfl; rw [hw] at hs; cases hs
        rw [if_neg this]
        exact h.other s hs
      · intro j s hj hl hjs
        rw [getD_put hda]
        by_cases e : s = d
        · subst e
          rw [if_pos rfl]
          have hw2 : writer l n s = some j := by
            obtain ⟨oj, hoj, _, hdwj, _⟩ := concWB_at hB hj
            have : oj.dst = some s := by simpa [dstAt, hoj] using hjs
            exact (hdwj s this).2
          rw [hw] at hw2
          injection hw2 with e2
          subst e2
          exact h1
        · rw [if_neg e]
          have hne : i ≠ j := by
            rintro rfl
            simp only [dstAt, ho, Option.bind_some, hd] at hjs
            injection hjs with e3
            exact e e3.symm
          rw [getD_set_ne false hne] at hl
          exact hmono j _ w w' hj h3 (h.done j s hj hl hjs)
      · intro j hj hl hjn
        have hne : i ≠ j := by
          rintro rfl
          simp only [dstAt, ho, Option.bind_some, hd] at hjn
          cases hjn
        rw [getD_set_ne false hne] at hl
        exact hmono j _ w w' hj h3 (h.stored j hj hl hjn)
theorem CInvV.fin (hB : concWB l n N = true) (hN : a0.tmps.size = N) {listed : Array Bool} {a : Act} {w : World} (h : CInvV l n a0 φ J listed a w) (hall : ∀ i, i < n → listed.getD i false = true) :
    ∃ x : Nat → Value, (∀ i, i < n → φ i (x i) w ∨ (dstAt l i = none ∧ φ i undef w)) ∧ (∀ i s, dstAt l i = some s → a.tmps.getD s undef = x i) ∧ a = putAll (l.take n) 0 x a0 := by
  refine ⟨fun i => a.tmps.getD ((dstAt l i).getD 0) undef, fun i hi => ?_, fun i s hs => (by show _ = a.tmps.getD ((dstAt l i).getD 0) undef; rw [hs]; rfl), ?_⟩
  · cases hds : dstAt l i with
    | none => exact Or.inr ⟨rfl, h.stored i hi (hall i hi) hds⟩
    | some d => exact Or.inl (by show φ i (a.tmps.getD ((dstAt l i).getD 0) undef) w; rw [hds]; exact h.done i d hi (hall i hi) hds)
  · have hs := putAll_size (l.take n) 0 (fun i => a.tmps.getD ((dstAt l i).getD 0) undef) a0
    have htm : a.tmps = (putAll (l.take n) 0 (fun i => a.tmps.getD ((dstAt l i).getD 0) undef) a0).tmps := by
      apply Array.ext
      · rw [hs.1, h.size]
      · intro s h1 h2
        have hdt : ∀ j, dstAt (l.take n) j = some s → j < n ∧ dstAt l j = some s := fun j hj => by
          unfold dstAt at hj ⊢
          rw [List.getElem?_take] at hj
          split at hj
          · exact ⟨‹_›, hj⟩
          · cases hj
        have := putAll_get (l.take n) 0 (fun i => a.tmps.getD ((dstAt l i).getD 0) undef) a0 s (a.tmps.getD s undef) (by rw [← h.size]; exact h1)
          (fun j hj => by rw [Nat.zero_add, (hdt j hj).2]; rfl)
          (fun hno => by
            cases hw : writer l n s with
            | none => exact (h.other s hw).symm
            | some j =>
              obtain ⟨hj, hjd⟩ := writer_dst hw
              refine absurd ?_ (hno j)
              unfold dstAt at hjd ⊢
              rw [List.getElem?_take, if_pos hj]
              exact hjd)
        have e1 : a.tmps.getD s undef = a.tmps[s] := by simp [h1]
        rw [e1] at this
        rw [← this]
        generalize putAll (l.take n) 0 _ a0 = p at h2
        simp [h2]
    obtain ⟨tm, df⟩ := a
    have e2 := h.defers
    simp only at htm e2
    generalize hp : putAll (l.take n) 0 (fun i => tm.getD ((dstAt l i).getD 0) undef) a0 = p at htm hs ⊢
    obtain ⟨tm', df'⟩ := p
    simp only at htm hs
    rw [htm, e2, hs.2]

theorem wpAny_concV (hB : concWB l n N = true) (hN : a0.tmps.size = N)
    (hmono : ∀ i x w w', i < n → E w w' → φ i x w → φ i x w') (hnone : ∀ i x w, i < n → dstAt l i = none → φ i x w → φ i undef w)
    (hstep : ∀ i o, i < n → l[i]? = some o → ∀ (a : Act) (w : World) (L : Array Bool), i ∈ Region.ready .any l.toArray L → a.tmps.size = a0.tmps.size → L.size = l.length → J L a w → (∀ s ∈ tmpsOf o, known l n a0.tmps φ s (a.tmps.getD s undef) w) → OpV P o a.eval w fun v w' => φ i v w' ∧ J (L.setIfInBounds i true) (a.put o.dst v) w' ∧ E w w')
    (hend : ∀ (x : Nat → Value) (w' : World) (L : Array Bool), (∀ i, i < n → L.getD i false = true) → J L (putAll (l.take n) 0 x a0) w' → (∀ i s, dstAt l i = some s → (putAll (l.take n) 0 x a0).tmps.getD s undef = x i) → (∀ i, i < n → φ i (x i) w' ∨ (dstAt l i = none ∧ φ i undef w')) → wpList P l.toArray Q (l.drop n) (putAll (l.take n) 0 x a0) w') :
    ∀ (c : Nat) (listed : Array Bool) (a : Act) (w : World), c ≤ n → CInvV l n a0 φ J listed a w → ((List.range n).countP fun j => !listed.getD j true) = c → wpAny P .any l.toArray Q (c + (l.length - n)) listed a w := by
  have hB' := hB
  simp only [concWB, Bool.and_eq_true, decide_eq_true_eq] at hB'
  obtain ⟨⟨⟨⟨hn, hsink⟩, hchain⟩, hseq⟩, _⟩ := hB'
  intro c
  induction c with
  | zero =>
    intro listed a w hcn h hc
    have hall : ∀ i, i < n → listed.getD i false = true := fun i hi => by
      have := List.countP_eq_zero.1 hc i (List.mem_range.2 hi)
      have hsz := h.head.size
      have his : i < listed.size := by rw [hsz]; simp; omega
      simp [his] at this ⊢
      exact this
    obtain ⟨x, hx, hg, rfl⟩ := h.fin hB hN hall
    have he := allTrue_eq (n := n) (m := l.length) (by rw [h.head.size]; simp) hall (fun t h1 h2 => h.head.tail t h1 (by simpa using h2))
    have := wpAny_of_seq (P := P) (ops := l.toArray) (md := .any) (Q' := Q) (l.drop n) n listed (putAll (l.take n) 0 x a0) w (fun j => by simp [List.getElem?_drop]) (by rw [List.length_drop, he]; exact hseq) (hend x w listed hall h.world hg hx)
    rw [List.length_drop] at this
    rw [Nat.zero_add]
    exact this
  | succ c ih =>
    intro listed a w hcn h hc
    have hex : ∃ i, i < n ∧ listed.getD i true = false := by
      have : 0 < (List.range n).countP fun j => !listed.getD j true := by omega
      obtain ⟨i, hi, hl⟩ := List.countP_pos_iff.1 this
      exact ⟨i, List.mem_range.1 hi, by simpa using hl⟩
    have hne : Region.ready .any l.toArray listed ≠ [] := by
      have : ∀ m i, i < n → i ≤ m → listed.getD i true = false → ∃ k, k ∈ Region.ready .any l.toArray listed := by
        intro m
        induction m with
        | zero =>
          intro i hi hm hl
          obtain rfl : i = 0 := by omega
          obtain ⟨o, ho, _, _, haft, _⟩ := concWB_at hB hi
          refine ⟨0, mem_ready.2 ⟨hl, o, by simpa using ho, fun e he hb => ?_⟩⟩
          have := haft e he hb
          omega
        | succ m ihm =>
          intro i hi hm hl
          obtain ⟨o, ho, _, _, haft, _⟩ := concWB_at hB hi
          by_cases hd : ∀ e ∈ o.after, Region.binds .any e = true → listed.getD e.on false = true
          · exact ⟨i, mem_ready.2 ⟨hl, o, by simpa using ho, hd⟩⟩
          · obtain ⟨e, hd⟩ := Classical.not_forall.1 hd
            obtain ⟨he, hd⟩ := Classical.not_forall.1 hd
            obtain ⟨hb, hd⟩ := Classical.not_forall.1 hd
            have hlt := haft e he hb
            have hes : e.on < listed.size := by rw [h.head.size]; simp; omega
            exact ihm e.on (by omega) (by omega) (getD_in hes (by simpa using hd))
      obtain ⟨i, hi, hl⟩ := hex
      obtain ⟨k, hk⟩ := this i i hi (Nat.le_refl _) hl
      intro e
      rw [e] at hk
      cases hk
    rw [show c + 1 + (l.length - n) = (c + (l.length - n)) + 1 from by omega]
    refine ⟨fun e => absurd e hne, fun i hi => ?_⟩
    obtain ⟨k, hk, hkl⟩ := hex
    have hin : i < n := by
      rcases Nat.lt_or_ge i n with h' | h'
      · exact h'
      · exact absurd hi (tail_waits hsink hchain (by simpa using hn) h.head (n - k) k rfl hk hkl i h')
    refine wpOp_mono (fun a' w' h' => ih _ _ _ (by omega) h' ?_) (CInvV.step hB hN hmono hnone hstep h hi hin)
    have hl := (mem_ready.1 hi).1
    have := countP_set hin hl
    omega

/-- A region that draws its order, by what each operation leaves. -/
theorem wp_region_concV {id : Nat} {w : World} (n N : Nat) (φ : Nat → Value → World → Prop) (J : Array Bool → Act → World → Prop) (E : World → World → Prop) (hm : P.follows .mixedOrders = true) (hB : concWB l n N = true) (hN : a0.tmps.size = N)
    (hJ : J (Array.replicate l.toArray.size false) a0 w.drew) (hmono : ∀ i x w w', i < n → E w w' → φ i x w → φ i x w') (hnone : ∀ i x w, i < n → dstAt l i = none → φ i x w → φ i undef w)
    (hstep : ∀ i o, i < n → l[i]? = some o → ∀ (a : Act) (w : World) (L : Array Bool), i ∈ Region.ready .any l.toArray L → a.tmps.size = a0.tmps.size → L.size = l.length → J L a w → (∀ s ∈ tmpsOf o, known l n a0.tmps φ s (a.tmps.getD s undef) w) → OpV P o a.eval w fun v w' => φ i v w' ∧ J (L.setIfInBounds i true) (a.put o.dst v) w' ∧ E w w')
    (hend : ∀ (x : Nat → Value) (w' : World) (L : Array Bool), (∀ i, i < n → L.getD i false = true) → J L (putAll (l.take n) 0 x a0) w' → (∀ i s, dstAt l i = some s → (putAll (l.take n) 0 x a0).tmps.getD s undef = x i) → (∀ i, i < n → φ i (x i) w' ∨ (dstAt l i = none ∧ φ i undef w')) → wpList P l.toArray Q (l.drop n) (putAll (l.take n) 0 x a0) w') :
    (Code.region id l.toArray true).wp P Q a0 w := by
  refine wp_region_any hm ?_
  have hn : n < l.length := by
    simp only [concWB, Bool.and_eq_true, decide_eq_true_eq] at hB
    exact hB.1.1.1.1
  have h0 : CInvV l n a0 φ J (Array.replicate l.toArray.size false) a0 w.drew := by
    refine ⟨⟨by simp, fun j oj _ hl => (by rw [getD_replicate_false] at hl; cases hl), fun t _ ht => getD_in (by simpa using ht) (getD_replicate_false _ _)⟩, hJ, rfl, rfl, fun _ _ => rfl, fun i s _ hl => (by rw [getD_replicate_false] at hl; cases hl), fun i _ hl => by rw [getD_replicate_false] at hl; cases hl⟩
  have hc : ((List.range n).countP fun j => !(Array.replicate l.toArray.size false).getD j true) = n := by
    have : ((List.range n).countP fun j => !(Array.replicate l.toArray.size false).getD j true) = (List.range n).length := by
      rw [List.countP_eq_length]
      intro j hj
      have := List.mem_range.1 hj
      have h2 : j < l.length := by omega
      simp [h2]
    rw [this, List.length_range]
  have := wpAny_concV (Q := Q) hB hN hmono hnone hstep hend n _ _ _ (Nat.le_refl _) h0 hc
  rw [show n + (l.length - n) = l.toArray.size from by simp; omega] at this
  exact this
end
end Go.Proofs.YtihcmifikbkbcaaGreatDoor

/- A region that draws its order and appends onto several rows of the call's own: the state of the rows, by what has run. -/
namespace Go.Proofs.YtihcmifikbkbcaaGreatDoor
set_option linter.unusedVariables false
open Go.RowKit
/-- An append: its place, its slot, the slice ahead of it, the cells ahead of it and behind it. -/
structure RowT where
  i : Nat
  s : Nat
  v : Value
  B : Nat
  T : TypeId
  k : Nat
  n : Nat
  xs : List Value
  m : Nat
  ys : List Value
def apart (u v : Value) : Prop := u.ownBlock = none ∨ v.ownBlock = none ∨ u.ownBlock ≠ v.ownBlock
theorem apart.symm {u v : Value} (h : apart u v) : apart v u := by
  rcases h with h | h | h
  · exact Or.inr (Or.inl h)
  · exact Or.inl h
  · exact Or.inr (Or.inr (fun e => h e.symm))
theorem apart.ne {u v : Value} (h : apart u v) : v.ownBlock = none ∨ v.ownBlock ≠ u.ownBlock := by
  rcases h with h | h | h
  · rw [h]
    cases hv : v.ownBlock with
    | none => exact Or.inl rfl
    | some g => exact Or.inr (by simp)
  · exact Or.inl h
  · exact Or.inr (fun e => h e.symm)
def RowT.val (t : RowT) (L : Array Bool) (a : Act) : Value := if L.getD t.i false = true then a.tmps.getD t.s undef else t.v
def RowT.own (t : RowT) (L : Array Bool) (a : Act) (w : World) : Prop := if L.getD t.i false = true then w.ownsRow t.B t.T t.k (a.tmps.getD t.s undef) t.m t.ys else w.ownsRow t.B t.T t.k t.v t.n t.xs
theorem RowT.own_val {t : RowT} {L : Array Bool} {a : Act} {w : World} (h : t.own L a w) : ∃ n xs, w.ownsRow t.B t.T t.k (t.val L a) n xs := by
  unfold RowT.own at h
  unfold RowT.val
  split at h
  · rename_i e; rw [if_pos e]; exact ⟨_, _, h⟩
  · rename_i e; rw [if_neg e]; exact ⟨_, _, h⟩
theorem RowT.own_kept {t : RowT} {L : Array Bool} {a : Act} {w w' : World} (h : t.own L a w) {row : Option Nat} (hg : w.grownBy w' row) (hne : (t.val L a).ownBlock = none ∨ (t.val L a).ownBlock ≠ row) : t.own L a w' := by
  unfold RowT.own at h ⊢
  unfold RowT.val at hne
  split at h
  · rename_i e; rw [if_pos e] at hne ⊢; exact World.ownsRow.kept h hg hne
  · rename_i e; rw [if_neg e] at hne ⊢; exact World.ownsRow.kept h hg hne
/-- The state of the rows. -/
structure RowsJ (W0 : World) (ts : List RowT) (L : Array Bool) (a : Act) (w : World) : Prop where
  size : W0.heap.size ≤ w.heap.size
  os : w.os = W0.os
  tape : w.tape = W0.tape
  output : w.output = W0.output
  keep : ∀ b, b < W0.heap.size → (∀ t ∈ ts, t.v.ownBlock ≠ some b) → w.heap[b]? = W0.heap[b]?
  own : ∀ t ∈ ts, t.own L a w
  apart : ts.Pairwise fun t u => apart (t.val L a) (u.val L a)
  lies : ∀ t ∈ ts, (t.val L a).ownBlock = t.v.ownBlock ∨ ∃ g, (t.val L a).ownBlock = some g ∧ W0.heap.size ≤ g
/-- What stays from one operation to the next. -/
def RowsE (W0 : World) (w w' : World) : Prop := w.heap.size ≤ w'.heap.size ∧ ∀ b, W0.heap.size ≤ b → b < w.heap.size → w'.heap[b]? = w.heap[b]?
theorem RowsE.of {W0 w w' : World} (h : Below w.heap.size w w') : RowsE W0 w w' := ⟨h.size, fun b _ hb => h.block b hb⟩
theorem getD_set_self {L : Array Bool} {i : Nat} (hi : i < L.size) : (L.setIfInBounds i true).getD i false = true := by simp [hi]
section
variable {W0 w w' : World} {ts : List RowT} {L : Array Bool} {a : Act}
theorem RowsJ.start (h1 : ∀ t ∈ ts, W0.ownsRow t.B t.T t.k t.v t.n t.xs) (h2 : ts.Pairwise fun t u => Proofs.YtihcmifikbkbcaaGreatDoor.apart t.v u.v) (m : Nat) (a : Act) : RowsJ W0 ts (Array.replicate m false) a W0.drew := by
  have hv : ∀ t : RowT, t.val (Array.replicate m false) a = t.v := fun t => by unfold RowT.val; rw [getD_replicate_false]; rfl
  refine ⟨Nat.le_refl _, rfl, rfl, rfl, fun b _ _ => rfl, fun t ht => ?_, ?_, fun t ht => Or.inl (by rw [hv])⟩
  · unfold RowT.own
    rw [getD_replicate_false]
    exact h1 t ht
  · refine h2.imp ?_
    intro t u h
    rw [hv, hv]
    exact h
/-- An operation that only makes memory. -/
theorem RowsJ.step (h : RowsJ W0 ts L a w) (hb : Below w.heap.size w w') {i d : Nat} (hi : ∀ t ∈ ts, t.i ≠ i ∧ t.s ≠ d) (v : Value) : RowsJ W0 ts (L.setIfInBounds i true) (a.put (some d) v) w' := by
  have hL : ∀ t ∈ ts, (L.setIfInBounds i true).getD t.i false = L.getD t.i false := fun t ht => getD_set_ne false (Ne.symm (hi t ht).1)
  have hT : ∀ t ∈ ts, (a.put (some d) v).tmps.getD t.s undef = a.tmps.getD t.s undef := fun t ht => by
    simp only [Act.put, Array.getD_eq_getD_getElem?, Array.getElem?_setIfInBounds]
    simp [Ne.symm (hi t ht).2]
  have hV : ∀ t ∈ ts, t.val (L.setIfInBounds i true) (a.put (some d) v) = t.val L a := fun t ht => by unfold RowT.val; rw [hL t ht, hT t ht]
  have hO : ∀ t ∈ ts, t.own L a w' → t.own (L.setIfInBounds i true) (a.put (some d) v) w' := fun t ht h => by unfold RowT.own at h ⊢; rw [hL t ht, hT t ht]; exact h
  have hg : w.grownBy w' none := ⟨hb.os, hb.tape, hb.output, hb.size, fun k hk _ => hb.block k hk⟩
  refine ⟨Nat.le_trans h.size hb.size, hb.os.trans h.os, hb.tape.trans h.tape, hb.output.trans h.output, fun b hb1 hb2 => (hb.block b (Nat.lt_of_lt_of_le hb1 h.size)).trans (h.keep b hb1 hb2), fun t ht => hO t ht (RowT.own_kept (h.own t ht) hg ?_), ?_, fun t ht => by rw [hV t ht]; exact h.lies t ht⟩
  · cases hv : (t.val L a).ownBlock with
    | none => exact Or.inl rfl
    | some g => exact Or.inr (by simp)
  · refine h.apart.imp_of_mem ?_
    intro t u ht hu hap
    rw [hV t ht, hV u hu]
    exact hap
/-- An append. -/
theorem RowsJ.put {d : Nat} (h : RowsJ W0 ts L a w) {t : RowT} (ht : t ∈ ts) (hd : d = t.s) (hlist : L.getD t.i false = false) (hsz : t.i < L.size) (hs : t.s < a.tmps.size)
    (hother : ∀ u ∈ ts, u ≠ t → u.i ≠ t.i ∧ u.s ≠ t.s) (v : Value) (ho : w'.ownsRow t.B t.T t.k v t.m t.ys) (hg : w.grownBy w' t.v.ownBlock) (hat : v.ownBlock = t.v.ownBlock ∨ v.ownBlock = some w.heap.size)
    (hnd : ts.Nodup) (hlt : ∀ g, t.v.ownBlock = some g → g < W0.heap.size) : RowsJ W0 ts (L.setIfInBounds t.i true) (a.put (some d) v) w' ∧ RowsE W0 w w' := by
  subst hd
  have hL : ∀ u ∈ ts, u ≠ t → (L.setIfInBounds t.i true).getD u.i false = L.getD u.i false := fun u hu hne => getD_set_ne false (Ne.symm (hother u hu hne).1)
  have hT : ∀ u ∈ ts, u ≠ t → (a.put (some t.s) v).tmps.getD u.s undef = a.tmps.getD u.s undef := fun u hu hne => by
    simp only [Act.put, Array.getD_eq_getD_getElem?, Array.getElem?_setIfInBounds]
    simp [Ne.symm (hother u hu hne).2]
  have hV : ∀ u ∈ ts, u ≠ t → u.val (L.setIfInBounds t.i true) (a.put (some t.s) v) = u.val L a := fun u hu hne => by unfold RowT.val; rw [hL u hu hne, hT u hu hne]
  have hVt0 : t.val L a = t.v := by unfold RowT.val; rw [hlist]; rfl
  have hLt : (L.setIfInBounds t.i true).getD t.i false = true := getD_set_self hsz
  have hTt : (a.put (some t.s) v).tmps.getD t.s undef = v := by rw [getD_put hs, if_pos rfl]
  have hVt : t.val (L.setIfInBounds t.i true) (a.put (some t.s) v) = v := by unfold RowT.val; rw [hLt, hTt]; rfl
  have hap : ∀ u ∈ ts, u ≠ t → Proofs.YtihcmifikbkbcaaGreatDoor.apart (u.val L a) t.v := by
    intro u hu hne
    have key : ∀ (l : List RowT), (l.Pairwise fun t u => Proofs.YtihcmifikbkbcaaGreatDoor.apart (t.val L a) (u.val L a)) → u ∈ l → t ∈ l → Proofs.YtihcmifikbkbcaaGreatDoor.apart (u.val L a) (t.val L a) := by
      intro l hp
      induction hp with
      | nil => intro h; cases h
      | cons hx _ ih =>
        intro hu ht
        rcases List.mem_cons.1 hu with hu | hu
        · rcases List.mem_cons.1 ht with ht | ht
          · exact absurd (hu.trans ht.symm) hne
          · rw [hu]; exact hx _ ht
        · rcases List.mem_cons.1 ht with ht | ht
          · rw [ht]; exact (hx _ hu).symm
          · exact ih hu ht
    have := key ts h.apart hu ht
    rwa [hVt0] at this
  refine ⟨⟨Nat.le_trans h.size hg.size, hg.os.trans h.os, hg.tape.trans h.tape, hg.output.trans h.output, fun b hb1 hb2 => (hg.block b (Nat.lt_of_lt_of_le hb1 h.size) (fun e => hb2 t ht e.symm)).trans (h.keep b hb1 hb2), fun u hu => ?_, ?_, fun u hu => ?_⟩, ⟨hg.size, fun b hb1 hb2 => hg.block b hb2 (fun e => by have := hlt b e.symm; omega)⟩⟩
  · by_cases hne : u = t
    · subst hne
      unfold RowT.own
      rw [hLt, hTt]
      exact ho
    · have := RowT.own_kept (h.own u hu) hg (hap u hu hne).symm.ne
      unfold RowT.own at this ⊢
      rw [hL u hu hne, hT u hu hne]
      exact this
  · have hval : ∀ u ∈ ts, u ≠ t → Proofs.YtihcmifikbkbcaaGreatDoor.apart (u.val (L.setIfInBounds t.i true) (a.put (some t.s) v)) (t.val (L.setIfInBounds t.i true) (a.put (some t.s) v)) := by
      intro u hu hne
      rw [hVt, hV u hu hne]
      rcases hat with hat | hat
      · rcases hap u hu hne with h1 | h1 | h1
        · exact Or.inl h1
        · exact Or.inr (Or.inl (hat.trans h1))
        · exact Or.inr (Or.inr (by rw [hat]; exact h1))
      · right; right
        rw [hat]
        intro c
        obtain ⟨n, xs, hn⟩ := RowT.own_val (h.own u hu)
        have := (World.ownsRow.lt hn _ c).2
        omega
    have key : ∀ (l : List RowT), (∀ u ∈ l, u ∈ ts) → l.Nodup → (l.Pairwise fun t u => Proofs.YtihcmifikbkbcaaGreatDoor.apart (t.val L a) (u.val L a)) → l.Pairwise fun x y => Proofs.YtihcmifikbkbcaaGreatDoor.apart (x.val (L.setIfInBounds t.i true) (a.put (some t.s) v)) (y.val (L.setIfInBounds t.i true) (a.put (some t.s) v)) := by
      intro l hl hnd hp
      induction hp with
      | nil => exact List.Pairwise.nil
      | @cons x l hx _ ih =>
        obtain ⟨hxl, hnd'⟩ := List.nodup_cons.1 hnd
        refine List.Pairwise.cons (fun y hy => ?_) (ih (fun u hu => hl u (List.mem_cons_of_mem _ hu)) hnd')
        have hxm := hl x List.mem_cons_self
        have hym := hl y (List.mem_cons_of_mem _ hy)
        by_cases e1 : x = t
        · have e2 : y ≠ t := fun e => hxl (by rw [e1, ← e]; exact hy)
          rw [e1]
          exact (hval y hym e2).symm
        · by_cases e2 : y = t
          · rw [e2]; exact hval x hxm e1
          · rw [hV x hxm e1, hV y hym e2]; exact hx y hy
    exact key ts (fun u hu => hu) hnd h.apart
  · by_cases hne : u = t
    · subst hne
      rw [hVt]
      rcases hat with hat | hat
      · exact Or.inl hat
      · exact Or.inr ⟨_, hat, h.size⟩
    · rw [hV u hu hne]; exact h.lies u hu
/-- An append of a whole slice at its operation. -/
theorem RowsJ.apps {P : Program} {o : Oper} (h : RowsJ W0 ts L a w) {t : RowT} (ht : t ∈ ts) (hd : o.dst = some t.s) (hlist : L.getD t.i false = false) (hsz : t.i < L.size) (hs : t.s < a.tmps.size)
    (hother : ∀ u ∈ ts, u ≠ t → u.i ≠ t.i ∧ u.s ≠ t.s) (hnd : ts.Nodup) (hlt : ∀ g, t.v.ownBlock = some g → g < W0.heap.size)
    (x y : Operand) (ty : TypeId) (hop : o.op = .call { callee := .builtin .append, args := #[x, y], argTypes := #[ty, ty] })
    (i : TypeInfo) (z : Value) (bytes : Nat) (hty : P.underlying ty = some (.slice t.T)) (hi : P.info? t.T = some i) (hz : i.zero = some z)
    (hsize : i.size = t.k) (hby : i.bytes = bytes) (hzs : z.cells.size = t.k) (hk : 0 < t.k) (hx : a.eval x = t.v)
    (ad : Addr) (m c : Nat) (news : List Value) (hy : a.eval y = .slice (some ad) m c) (hl : news.length = m * t.k) (hnews : ∀ j u, news[j]? = some u → w.cell? (ad.add j) = some u) (h1 : ∀ u ∈ news, u.oneCell' = true)
    (hm : t.m = t.n + m) (hys : t.ys = t.xs ++ news) (hn : t.n + m ≤ 4294967296) (hbytes : bytes ≤ 4096) (hB : t.B ≤ W0.heap.size) :
    OpV P o a.eval w fun v w' => RowsJ W0 ts (L.setIfInBounds t.i true) (a.put o.dst v) w' ∧ RowsE W0 w w' := by
  have hown : w.ownsRow t.B t.T t.k t.v t.n t.xs := by
    have := h.own t ht
    unfold RowT.own at this
    rw [hlist] at this
    exact this
  obtain ⟨v', w', hrun, o1, g1, -, at1⟩ := run_append_own_at (P := P) w t.B ty o.type t.T i z t.k bytes hty hi hz hsize hby hzs hk t.v t.n t.xs hown ad m c news hl hnews h1 (by simp only [maxLen]; omega) (by
      have : (t.n + m) * bytes ≤ 4294967296 * 4096 := Nat.mul_le_mul hn hbytes
      omega) (Nat.le_trans hB h.size)
  refine OpV.append x y ty _ _ v' hop hx hy hrun ?_
  rw [hd]
  exact h.put ht rfl hlist hsz hs hother v' (by rw [hm, hys]; exact o1) g1 at1 hnd hlt
/-- An append at its operation. -/
theorem RowsJ.app {P : Program} {o : Oper} (h : RowsJ W0 ts L a w) {t : RowT} (ht : t ∈ ts) (hd : o.dst = some t.s) (hlist : L.getD t.i false = false) (hsz : t.i < L.size) (hs : t.s < a.tmps.size)
    (hother : ∀ u ∈ ts, u ≠ t → u.i ≠ t.i ∧ u.s ≠ t.s) (hnd : ts.Nodup) (hlt : ∀ g, t.v.ownBlock = some g → g < W0.heap.size)
    (x y : Operand) (ty : TypeId) (hop : o.op = .call { callee := .builtin .append, args := #[x, y], argTypes := #[ty, ty] })
    (i : TypeInfo) (z : Value) (bytes : Nat) (hty : P.underlying ty = some (.slice t.T)) (hi : P.info? t.T = some i) (hz : i.zero = some z)
    (hsize : i.size = t.k) (hby : i.bytes = bytes) (hzs : z.cells.size = t.k) (hk : 0 < t.k) (hx : a.eval x = t.v)
    (b : Nat) (cs : Array Value) (T' : TypeId) (hy : a.eval y = .slice (some ⟨b, 0, none⟩) 1 1) (hb : w.heap[b]? = some (.cells cs T' (0, 0))) (hcs : cs.size = t.k) (h1 : ∀ u ∈ cs.toList, u.oneCell' = true)
    (hm : t.m = t.n + 1) (hys : t.ys = t.xs ++ cs.toList) (hn : t.n ≤ 4294967296) (hbytes : bytes ≤ 4096) (hB : t.B ≤ W0.heap.size) :
    OpV P o a.eval w fun v w' => RowsJ W0 ts (L.setIfInBounds t.i true) (a.put o.dst v) w' ∧ RowsE W0 w w' := by
  have hown : w.ownsRow t.B t.T t.k t.v t.n t.xs := by
    have := h.own t ht
    unfold RowT.own at this
    rw [hlist] at this
    exact this
  obtain ⟨v', w', hrun, o1, g1, -, at1⟩ := run_append_own_at (P := P) w t.B ty o.type t.T i z t.k bytes hty hi hz hsize hby hzs hk t.v t.n t.xs hown ⟨b, 0, none⟩ 1 1 cs.toList (by simpa using hcs) (fun j u hu => by
      rw [Addr.add_lit]
      simp only [World.cell?, hb]
      simp at hu ⊢
      exact hu) h1 (by simp only [maxLen]; omega) (by
      have : (t.n + 1) * bytes ≤ 4294967297 * 4096 := Nat.mul_le_mul (by omega) hbytes
      omega) (Nat.le_trans hB h.size)
  refine OpV.append x y ty _ _ v' hop hx hy hrun ?_
  rw [hd]
  exact h.put ht rfl hlist hsz hs hother v' (by rw [hm, hys]; exact o1) g1 at1 hnd hlt
end
theorem rows_ne {ts : List RowT} {li ls : List Nat} (hI : ts.map RowT.i = li) (hS : ts.map RowT.s = ls) {i d : Nat} (hi : i ∉ li) (hd : d ∉ ls) : ∀ t ∈ ts, t.i ≠ i ∧ t.s ≠ d := fun t ht =>
  ⟨fun e => hi (by rw [← hI, ← e]; exact List.mem_map_of_mem ht), fun e => hd (by rw [← hS, ← e]; exact List.mem_map_of_mem ht)⟩
theorem nodup_map_ne {α : Type} {f : α → Nat} {l : List α} (h : (l.map f).Nodup) {x y : α} (hx : x ∈ l) (hy : y ∈ l) (hne : x ≠ y) : f x ≠ f y := by
  induction l with
  | nil => cases hx
  | cons a l ih =>
    rw [List.map_cons, List.nodup_cons] at h
    rcases List.mem_cons.1 hx with e | hx'
    · rcases List.mem_cons.1 hy with e' | hy'
      · exact absurd (e.trans e'.symm) hne
      · intro c; apply h.1; rw [← e, c]; exact List.mem_map_of_mem hy'
    · rcases List.mem_cons.1 hy with e' | hy'
      · intro c; apply h.1; rw [← e', ← c]; exact List.mem_map_of_mem hx'
      · exact ih h.2 hx' hy'
theorem nodup_of_map {α : Type} {f : α → Nat} {l : List α} (h : (l.map f).Nodup) : l.Nodup := by
  induction l with
  | nil => exact List.nodup_nil
  | cons a l ih =>
    rw [List.map_cons, List.nodup_cons] at h
    exact List.nodup_cons.2 ⟨fun c => h.1 (List.mem_map_of_mem c), ih h.2⟩
theorem rows_other {ts : List RowT} {li ls : List Nat} (hI : ts.map RowT.i = li) (hS : ts.map RowT.s = ls) (h1 : li.Nodup) (h2 : ls.Nodup) {t : RowT} (ht : t ∈ ts) : ∀ u ∈ ts, u ≠ t → u.i ≠ t.i ∧ u.s ≠ t.s := fun u hu hne =>
  ⟨nodup_map_ne (by rw [hI]; exact h1) hu ht hne, nodup_map_ne (by rw [hS]; exact h2) hu ht hne⟩
theorem slotv {a : Act} {s : Nat} {v : Value} (h : a.tmps.getD s undef = v) : a.tmps[s]?.getD undef = v := by rw [← Array.getD_eq_getD_getElem?]; exact h
/-- A slice of one element, made for an append. -/
def TmpS (S : Nat) (v : Value) (cs : Array Value) (T : TypeId) (w : World) : Prop := ∃ b, v = .slice (some ⟨b, 0, none⟩) 1 1 ∧ S ≤ b ∧ w.heap[b]? = some (.cells cs T (0, 0))
theorem TmpS.mono {W0 w w' : World} {v : Value} {cs : Array Value} {T : TypeId} (e : RowsE W0 w w') (h : TmpS W0.heap.size v cs T w) : TmpS W0.heap.size v cs T w' := by
  obtain ⟨b, h1, h2, h3⟩ := h
  exact ⟨b, h1, h2, (e.2 b h2 (lt_of_heap h3)).trans h3⟩
theorem Orow.rowsE {D : Type} {W0 w w' : World} {T k : Nat} {f : D → Nat → Value} {v : Value} {ds : List D} (e : RowsE W0 w w') (h : Orow w W0.heap.size T k f v ds) : Orow w' W0.heap.size T k f v ds := by
  refine ⟨h.1, ?_⟩
  rcases h.2 with h | ⟨g, cap, cur, hv, hg, hh, r⟩
  · exact Or.inl h
  · exact Or.inr ⟨g, cap, cur, hv, hg, (e.2 g hg (lt_of_heap hh)).trans hh, r⟩
/-- Memory laid for good stays. -/
theorem RowsJ.inn {W0 w : World} {ts : List RowT} {L : Array Bool} {a : Act} {H : Frz} (h : RowsJ W0 ts L a w) (hH : H.In W0) (hn : ∀ t ∈ ts, ∀ g, t.v.ownBlock = some g → H g = none) : H.In w := fun b o e => by
  refine (h.keep b (hH.lt e) (fun t ht c => ?_)).trans (hH b o e)
  rw [hn t ht b c] at e
  cases e
theorem RowsJ.below {W0 w : World} {ts : List RowT} {L : Array Bool} {a : Act} {B : Nat} (h : RowsJ W0 ts L a w) (hB : B ≤ W0.heap.size) (hn : ∀ t ∈ ts, ∀ g, t.v.ownBlock = some g → B ≤ g) : Below B W0 w :=
  ⟨h.os, h.tape, h.output, h.size, fun b hb => h.keep b (by omega) (fun t ht c => by have := hn t ht b c; omega)⟩
theorem ready_not {l : Array Oper} {L : Array Bool} {i : Nat} (h : i ∈ Region.ready .any l L) (hs : i < L.size) : L.getD i false = false := by
  have := (mem_ready.1 h).1
  simp [hs] at this ⊢
  exact this
end Go.Proofs.YtihcmifikbkbcaaGreatDoor
