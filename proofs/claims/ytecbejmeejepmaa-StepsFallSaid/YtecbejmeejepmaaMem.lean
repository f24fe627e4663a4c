/- Memory that nobody writes any more (Frz), and the state of a law: its stream and what it has laid. -/
import Derived.Test.YtecbejmeejepmaaStream
import Derived.Lib.Hide
namespace Go.Proofs.Ytecbejmeejepmaa
set_option linter.unusedVariables false
open Go.RowKit

theorem lt_of_heap {w : World} {o : Obj} {n : Nat} (h : w.heap[n]? = some o) : n < w.heap.size := (Array.getElem?_eq_some_iff.1 h).1
theorem heap_at {w : World} {o : Obj} {n : Nat} (h : n = w.heap.size) : (w.alloc o).heap[n]? = some o := by subst h; exact heap_alloc_new _ _
theorem heap_lt {w : World} {o : Obj} {n : Nat} (h : n < w.heap.size) : (w.alloc o).heap[n]? = w.heap[n]? := Below.heap_alloc w o n h

/-- A part of memory, block by block. -/
def Frz : Type := Nat → Option Obj

/-- The world holds it. -/
def Frz.In (H : Frz) (w : World) : Prop := ∀ b o, H b = some o → w.heap[b]? = some o
def Frz.Le (H H' : Frz) : Prop := ∀ b o, H b = some o → H' b = some o
def Frz.empty : Frz := fun _ => none
def Frz.add (H : Frz) (n : Nat) (o : Obj) : Frz := fun b => if b = n then some o else H b
/-- All that is new from block n on. -/
def Frz.all (H : Frz) (w : World) (n : Nat) : Frz := fun b => if b < n then H b else w.heap[b]?

theorem Frz.Le.refl (H : Frz) : H.Le H := fun _ _ h => h
theorem Frz.Le.trans {H H' H'' : Frz} (h : H.Le H') (k : H'.Le H'') : H.Le H'' := fun b o e => k b o (h b o e)
theorem Frz.In.empty (w : World) : Frz.empty.In w := fun _ _ h => by cases h
theorem Frz.In.lt {H : Frz} {w : World} (h : H.In w) {b : Nat} {o : Obj} (e : H b = some o) : b < w.heap.size := lt_of_heap (h b o e)
theorem Frz.In.none_ {H : Frz} {w : World} (h : H.In w) {b : Nat} (hb : w.heap.size ≤ b) : H b = none := by
  cases e : H b with
  | none => rfl
  | some o => exact absurd (h.lt e) (by omega)
theorem Frz.In.le {H H' : Frz} {w : World} (h : H'.In w) (k : H.Le H') : H.In w := fun b o e => h b o (k b o e)
theorem Frz.In.below {H : Frz} {w w' : World} (h : H.In w) (hb : Below w.heap.size w w') : H.In w' := fun b o e => (hb.block b (h.lt e)).trans (h b o e)
theorem Frz.In.alloc {H : Frz} {w : World} (h : H.In w) (o : Obj) : H.In (w.alloc o) := fun b o' e => (heap_lt (h.lt e)).trans (h b o' e)
theorem Frz.In.drewN {H : Frz} {w : World} (h : H.In w) (n : Nat) : H.In (w.drewN n) := h
theorem Frz.In.grown {H : Frz} {w w' : World} (h : H.In w) {g : Nat} (hg : w.grownBy w' (some g)) (hn : H g = none) : H.In w' := fun b o e =>
  (hg.block b (h.lt e) (fun c => by injection c with c; subst c; rw [hn] at e; cases e)).trans (h b o e)
theorem Frz.In.grown' {H : Frz} {w w' : World} {row : Option Nat} (h : H.In w) (hg : w.grownBy w' row) (hn : ∀ g, row = some g → H g = none) : H.In w' := fun b o e =>
  (hg.block b (h.lt e) (fun c => by rw [hn b c.symm] at e; cases e)).trans (h b o e)
theorem Frz.In.setCell {H : Frz} {w : World} (h : H.In w) {p : Addr} (hn : H p.block = none) (v : Value) : H.In (w.setCell p v) := fun b o e =>
  (Below.heap_setCell w p v b (fun c => by rw [c, hn] at e; cases e)).trans (h b o e)
theorem Frz.le_add {H : Frz} {n : Nat} {o : Obj} (h : H n = none) : H.Le (H.add n o) := fun b o' e => by
  unfold Frz.add
  split
  · rename_i hb; subst hb; rw [h] at e; cases e
  · exact e
theorem Frz.add_at (H : Frz) (n : Nat) (o : Obj) : (H.add n o) n = some o := by unfold Frz.add; simp
theorem Frz.add_other {H : Frz} {n m : Nat} {o : Obj} (h : m ≠ n) : (H.add n o) m = H m := by unfold Frz.add; rw [if_neg h]
theorem Frz.In.add {H : Frz} {w : World} (h : H.In w) {n : Nat} {o : Obj} (e : w.heap[n]? = some o) : (H.add n o).In w := fun b o' k => by
  unfold Frz.add at k
  split at k
  · rename_i hb; subst hb; injection k with k; subst k; exact e
  · exact h b o' k
theorem Frz.In.all {H : Frz} {w : World} (h : H.In w) (n : Nat) : (H.all w n).In w := fun b o k => by
  unfold Frz.all at k
  split at k
  · exact h b o k
  · exact k
theorem Frz.le_all {H : Frz} {w w' : World} {n : Nat} (h : H.In w') (hn : w'.heap.size ≤ n) : H.Le (H.all w n) := fun b o e => by
  unfold Frz.all
  rw [if_pos (Nat.lt_of_lt_of_le (h.lt e) hn)]
  exact e
theorem Frz.all_lt {H : Frz} {w : World} {n b : Nat} (h : b < n) : (H.all w n) b = H b := by unfold Frz.all; rw [if_pos h]
theorem Frz.all_ge {H : Frz} {w : World} {n b : Nat} (h : n ≤ b) : (H.all w n) b = w.heap[b]? := by unfold Frz.all; rw [if_neg (by omega)]

/-- A cell of a frozen part. -/
def Frz.cell? (H : Frz) (a : Addr) : Option Value :=
  match H a.block with
  | some (.cells c _ _) => if a.spot.isSome then none else c[a.off]?
  | _ => none
theorem Frz.In.cell {H : Frz} {w : World} (h : H.In w) {a : Addr} {v : Value} (e : H.cell? a = some v) : w.cell? a = some v := by
  unfold Frz.cell? at e
  split at e
  · rename_i c t f hb
    simp only [World.cell?, h _ _ hb]
    exact e
  · cases e
theorem Frz.Le.cell {H H' : Frz} (h : H.Le H') {a : Addr} {v : Value} (e : H.cell? a = some v) : H'.cell? a = some v := by
  unfold Frz.cell? at e ⊢
  split at e
  · rename_i c t f hb
    rw [h _ _ hb]
    exact e
  · cases e
theorem Frz.cell_lt {H : Frz} {w : World} (h : H.In w) {a : Addr} {v : Value} (e : H.cell? a = some v) : a.block < w.heap.size := World.block_lt_of_cell? w a (h.cell e)

/-- The state of a law in world W: the stream at block bs has been asked at most K times; nothing that was there has turned; H is laid for good. -/
structure Lw (w : World) (bs K : Nat) (H : Frz) (W : World) : Prop where
  st : St W bs K
  bel : Below w.heap.size w W
  le : w.heap.size ≤ bs
  fin : H.In W
  apart : H bs = none

theorem Lw.new {w : World} {a : Option Addr} {len cap : Nat} {zs : List Int} (h : IsRow .i64 w a len cap zs) :
    Lw w w.heap.size 0 Frz.empty (w.alloc (.cells #[.slice a len cap, .int .i64 0] 25)) :=
  ⟨St.of_row h, (Below.refl _ _).alloc (Nat.le_refl _) _, Nat.le_refl _, Frz.In.empty _, rfl⟩
section
variable {w W W' : World} {bs K : Nat} {H : Frz}
theorem Lw.lt (h : Lw w bs K H W) : bs < W.heap.size := h.st.lt
theorem Lw.more (h : Lw w bs K H W) {K' : Nat} (hK : K ≤ K') : Lw w bs K' H W := ⟨h.st.more hK, h.bel, h.le, h.fin, h.apart⟩
/-- A call that only makes memory. -/
theorem Lw.call (h : Lw w bs K H W) (hb : Below W.heap.size W W') : Lw w bs K H W' :=
  ⟨h.st.below (hb.mono h.lt), h.bel.trans (hb.mono h.bel.size), h.le, h.fin.below hb, h.apart⟩
theorem Lw.alloc (h : Lw w bs K H W) (o : Obj) : Lw w bs K H (W.alloc o) := h.call ((Below.refl _ _).alloc (Nat.le_refl _) _)
theorem Lw.drewN (h : Lw w bs K H W) (n : Nat) : Lw w bs K H (W.drewN n) := h.call (below_drewN (Below.refl _ _) n)
/-- A block that is laid for good. -/
theorem Lw.keep (h : Lw w bs K H W) {n : Nat} {o : Obj} (e : W.heap[n]? = some o) (hn : n ≠ bs) : Lw w bs K (H.add n o) W :=
  ⟨h.st, h.bel, h.le, h.fin.add e, by rw [Frz.add_other (fun c => hn c.symm)]; exact h.apart⟩
/-- A store into a block of the law's own. -/
theorem Lw.setCell (h : Lw w bs K H W) {p : Addr} (hp : bs < p.block) (hH : H p.block = none) (v : Value) : Lw w bs K H (W.setCell p v) :=
  ⟨h.st.below ((Below.refl _ _).setCell hp v), h.bel.setCell (Nat.le_of_lt (Nat.lt_of_le_of_lt h.le hp)) v, h.le, h.fin.setCell hH v, h.apart⟩
/-- A new block that is laid for good. -/
theorem Lw.put (h : Lw w bs K H W) (o : Obj) : ∃ H', H.Le H' ∧ H' W.heap.size = some o ∧ Lw w bs K H' (W.alloc o) :=
  ⟨H.add W.heap.size o, Frz.le_add (h.fin.none_ (Nat.le_refl _)), Frz.add_at _ _ _, (h.alloc o).keep (heap_at rfl) (by have := h.lt; omega)⟩
theorem Lw.next (h : Lw w bs K H W) (n : Int) (hK : K ≤ 1099511627776) (hn : n ≤ 9223372036854775807) :
    Calls Try.prog 6 #[.pointer (some ⟨bs, 0, none⟩), .int .i64 n] W fun e W' =>
      ∃ r : Int, e = .returned (.int .i64 r) ∧ 0 ≤ r ∧ (1 ≤ n → r < n) ∧ (n < 1 → r = 0) ∧ Lw w bs (K + 1) H W' ∧ W.grownBy W' (some bs) ∧ W'.heap.size = W.heap.size :=
  (next_any n h.st hK hn).mono fun e W' ⟨r, h1, h2, h3, h4, h5, h6, h7⟩ =>
    ⟨r, h1, h2, h3, h4, ⟨h5, h.bel.grown h6 h.bel.size (fun k hk => by injection hk with hk; have := h.le; omega), h.le, h.fin.grown h6 h.apart, h.apart⟩, h6, h7⟩
end
end Go.Proofs.Ytecbejmeejepmaa
