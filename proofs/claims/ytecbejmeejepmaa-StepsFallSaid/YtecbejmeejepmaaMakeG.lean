/- Rows of structs in the making: the stream is asked, elements are put on, one cell is changed. -/
import Derived.Test.YtecbejmeejepmaaMake
import Derived.Test.YtecbejmeejepmaaOrow
import Derived.Test.YtecbejmeejepmaaLwMore
import Derived.Test.YtecbejmeejepmaaAppG
namespace Go.Proofs.Ytecbejmeejepmaa
set_option linter.unusedVariables false
open Go.RowKit
/-- A row in the making. -/
def RM {D : Type} (T k : Nat) (f : D → Nat → Value) (w : World) (bs K : Nat) (H : Frz) (B : Nat) (v : Value) (ds : List D) (wr : World) : Prop :=
  Lw w bs K H wr ∧ Orow wr B T k f v ds ∧ (∀ g, v.ownBlock = some g → H g = none) ∧ bs < B ∧ B ≤ wr.heap.size
theorem grown_alloc {w : World} (o : Obj) (row : Option Nat) : w.grownBy (w.alloc o) row := ⟨rfl, rfl, rfl, by simp, fun k hk _ => heap_lt hk⟩
section
variable {D : Type} {T k : Nat} {f : D → Nat → Value} {w wr W' : World} {bs K K' B : Nat} {H H' : Frz} {v v' : Value} {ds ds' : List D}
theorem RM.new (h : Lw w bs K H wr) : RM T k f w bs K H wr.heap.size (.slice none 0 0) [] wr := ⟨h, Orow.nil _ _ _ _ _, (fun g hg => by cases hg), h.lt, Nat.le_refl _⟩
theorem RM.lw (h : RM T k f w bs K H B v ds wr) : Lw w bs K H wr := h.1
theorem RM.row (h : RM T k f w bs K H B v ds wr) : Orow wr B T k f v ds := h.2.1
theorem RM.asked (h : RM T k f w bs K H B v ds wr) (L : Lw w bs K' H W') (g : wr.grownBy W' (some bs)) : RM T k f w bs K' H B v ds W' :=
  ⟨L, h.2.1.far g h.2.2.2.1, h.2.2.1, h.2.2.2.1, Nat.le_trans h.2.2.2.2 g.size⟩
theorem RM.more (h : RM T k f w bs K H B v ds wr) (hK : K ≤ K') : RM T k f w bs K' H B v ds wr := ⟨h.1.more hK, h.2⟩
theorem RM.call (h : RM T k f w bs K H B v ds wr) (hb : Below wr.heap.size wr W') : RM T k f w bs K H B v ds W' :=
  ⟨h.1.call hb, h.2.1.below hb, h.2.2.1, h.2.2.2.1, Nat.le_trans h.2.2.2.2 hb.size⟩
theorem RM.alloc (h : RM T k f w bs K H B v ds wr) (o : Obj) : RM T k f w bs K H B v ds (wr.alloc o) := h.call ((Below.refl _ _).alloc (Nat.le_refl _) _)
theorem RM.put (h : RM T k f w bs K H B v ds wr) (o : Obj) : ∃ H', H.Le H' ∧ H' wr.heap.size = some o ∧ RM T k f w bs K H' B v ds (wr.alloc o) := by
  refine ⟨H.add wr.heap.size o, Frz.le_add (h.1.fin.none_ (Nat.le_refl _)), Frz.add_at _ _ _, (h.1.alloc o).keep (heap_at rfl) (by have := h.1.lt; omega), (h.alloc o).2.1, ?_, (h.alloc o).2.2.2⟩
  intro g hg
  rw [Frz.add_other (by have := (h.2.1.lt hg).2; omega)]
  exact h.2.2.1 g hg
theorem RM.app (h : RM T k f w bs K H B v ds wr) (o : Orow W' B T k f v' ds') (g1 : wr.grownBy W' v.ownBlock) (at1 : v'.ownBlock = v.ownBlock ∨ ∃ g, v'.ownBlock = some g ∧ wr.heap.size < g) : RM T k f w bs K H B v' ds' W' := by
  have hown : ∀ q, v.ownBlock = some q → bs < q ∧ H q = none := fun q hq => ⟨by have := (h.2.1.lt hq).1; have := h.2.2.2.1; omega, h.2.2.1 q hq⟩
  refine ⟨h.1.grown g1 hown, o, ?_, h.2.2.2.1, Nat.le_trans h.2.2.2.2 g1.size⟩
  intro q hq
  rcases at1 with at1 | ⟨g, at1, hg⟩
  · exact (hown q (by rw [← at1]; exact hq)).2
  · rw [at1] at hq
    injection hq with hq
    exact h.1.fin.none_ (by omega)
/-- One cell of an element changed. -/
theorem RM.upd {go capg : Nat} (h : RM T k f w bs K H B (.slice (some ⟨go, 0, none⟩) ds.length capg) ds wr) {p : Nat} (hp : p < ds.length) {j : Nat} (hj : j < k) (d' : D) {x : Value} (hx : f d' j = x) (ho : ∀ m, m < k → m ≠ j → f d' m = f ds[p] m) :
    wr.cell? ⟨go, p * k + j, none⟩ = some (f ds[p] j) ∧ wr.frozen? ⟨go, p * k + j, none⟩ = false ∧ RM T k f w bs K H B (.slice (some ⟨go, 0, none⟩) ds.length capg) (ds.set p d') (wr.setCell ⟨go, p * k + j, none⟩ x) := by
  have hne : ds ≠ [] := by intro e; rw [e] at hp; simp at hp
  obtain ⟨g', cap', rest, hv, hle', hB', hlt, hm', hblk, hr⟩ := h.2.1.form hne
  injection hv with e1 _ e2
  injection e1 with e1
  injection e1 with e1
  subst e1 e2
  have hnone : H go = none := h.2.2.1 go rfl
  refine ⟨hblk.cell p j hp hj, hblk.frozen _, h.1.setCell (p := ⟨go, p * k + j, none⟩) (by show bs < go; have := h.2.2.2.1; omega) hnone _, ?_, h.2.2.1, h.2.2.2.1, by have := h.2.2.2.2; simpa [World.setCell] using this⟩
  have := Orow.of_blk (B := B) (hblk.upd p j hp hj hx ho) hB' hm' (by simpa using hle') (by simpa using hr)
  simpa using this
end
end Go.Proofs.Ytecbejmeejepmaa
