/- append of one element, with word of where the new slice lies; rows of ints. -/
import Derived.Test.YtadfoaopamlnpaaApp
import Derived.Test.YtadfoaopamlnpaaSortI
import Derived.Test.YtadfoaopamlnpaaShareP
import Derived.Maps.AppendAt
namespace Go.Proofs.Ytadfoaopamlnpaa
set_option linter.unusedVariables false
open Go.RowKit

theorem wpList_append1_at {P : Program} {wr : World} {ops : Array Oper} {rest : List Oper} {o : Oper} {a : Act} {Q : Exit → Act → World → Prop} (hgd : o.guard = none) (s x : Operand) (t : TypeId)
    (ho : o.op = .call { callee := .builtin .append, args := #[s, x], argTypes := #[t, t] })
    (B : Nat) (e : TypeId) (i : TypeInfo) (z : Value) (size bytes : Nat) (ht : P.underlying t = some (.slice e)) (hi : P.info? e = some i) (hz : i.zero = some z)
    (hsize : i.size = size) (hby : i.bytes = bytes) (hzs : z.cells.size = size) (hsz : 0 < size)
    (v : Value) (n : Nat) (xs : List Value) (hs : a.eval s = v) (hown : wr.ownsRow B e size v n xs)
    (cs : Array Value) (T : TypeId) (hx : a.eval x = .slice (some ⟨wr.heap.size, 0, none⟩) 1 1) (hcs : cs.size = size) (h1 : ∀ u ∈ cs.toList, u.oneCell' = true)
    (hn : n ≤ 4294967296) (hbytes : bytes ≤ 4096) (hB : B ≤ wr.heap.size)
    (h : ∀ v' w', w'.ownsRow B e size v' (n + 1) (xs ++ cs.toList) → wr.grownBy w' v.ownBlock → Below B wr w' → (v'.ownBlock = v.ownBlock ∨ ∃ g, v'.ownBlock = some g ∧ wr.heap.size < g) → wpList P ops Q rest (a.put o.dst v') w') :
    wpList P ops Q (o :: rest) a (wr.alloc (.cells cs T)) := by
  refine wpList_append_own_at _ hgd s x t ho B e i z size bytes ht hi hz hsize hby hzs hsz v n xs hs (hown.alloc _) ⟨wr.heap.size, 0, none⟩ 1 1 cs.toList hx (by simpa using hcs) ?_ h1 (by simp only [maxLen]; omega) ?_ (by simp; omega) ?_
  · intro j u hu
    have hj : j < cs.size := by have := (List.getElem?_eq_some_iff.1 hu).1; simpa using this
    rw [Addr.add_lit, World.cell?_alloc_new]
    simp at hu ⊢
    exact hu
  · have : (n + 1) * bytes ≤ 4294967297 * 4096 := Nat.mul_le_mul (by omega) hbytes
    omega
  · intro v' w' ho' hg' _ hat
    have hg := grown_alloc_left hg'
    refine h v' w' ho' hg (own_below hown hB hg) ?_
    rcases hat with hat | hat
    · exact Or.inl hat
    · exact Or.inr ⟨_, hat, by simp⟩

theorem infoInt : (Try.prog.info? 3).map (fun i => (i.zero, i.size, i.bytes)) = some (some (.int .i64 0), 1, 8) := by kernel_rfl

/-- A slice of ints of the call's own. -/
def IRow (w : World) (B : Nat) (v : Value) (zs : List Int) : Prop := w.ownsRow B 3 1 v zs.length (zs.map (Value.int .i64))
theorem IRow.own {w : World} {B : Nat} {v : Value} {zs : List Int} (h : IRow w B v zs) : w.ownsRow B 3 1 v zs.length (zs.map (Value.int .i64)) := h
theorem IRow.nil (w : World) (B : Nat) : IRow w B (.slice none 0 0) [] := World.ownsRow_nil _ _ _ _
theorem IRow.form {w : World} {B : Nat} {v : Value} {zs : List Int} (h : IRow w B v zs) (h0 : zs ≠ []) :
    ∃ g cap rest, v = .slice (some ⟨g, 0, none⟩) zs.length cap ∧ zs.length ≤ cap ∧ B ≤ g ∧ g < w.heap.size ∧ cap ≤ maxLen ∧ IBlk w g zs rest ∧ rest.length = cap - zs.length := by
  rcases h.2 with ⟨_, hl⟩ | ⟨g, cap, cur, hv, hB, hh, hle, hm, hs, ht⟩
  · exact absurd (List.eq_nil_of_length_eq_zero hl) h0
  · refine ⟨g, cap, cur.toList.drop zs.length, hv, hle, hB, lt_of_heap hh, hm, ?_, by simp [hs]⟩
    unfold IBlk
    rw [hh]
    rw [Nat.mul_one] at ht
    rw [← ht, List.take_append_drop]
theorem IRow.of_blk {w : World} {B g cap : Nat} {zs : List Int} {rest : List Value} (h : IBlk w g zs rest) (hB : B ≤ g) (hc : cap ≤ maxLen) (hle : zs.length ≤ cap) (hr : rest.length = cap - zs.length) : IRow w B (.slice (some ⟨g, 0, none⟩) zs.length cap) zs :=
  ⟨by simp, Or.inr ⟨g, cap, _, rfl, hB, h, hle, hc, by simp [hr]; omega, by simp⟩⟩
theorem IRow.kept {w w' : World} {B : Nat} {v : Value} {zs : List Int} (h : IRow w B v zs) {row : Option Nat} (hg : w.grownBy w' row) (hne : v.ownBlock = none ∨ v.ownBlock ≠ row) : IRow w' B v zs := World.ownsRow.kept h hg hne
theorem IRow.ints {w : World} {B : Nat} {v : Value} {zs : List Int} (h : IRow w B v zs) : ∃ A cap, v = .slice A zs.length cap ∧ Ints w A zs ∧ zs.length ≤ cap ∧ (∀ b off, A = some ⟨b, off, none⟩ → B ≤ b ∧ b < w.heap.size) := by
  by_cases h0 : zs = []
  · subst h0
    rcases h.2 with ⟨hv, hl⟩ | ⟨g, cap, cur, hv, hB, hh, hle, hm, hs, ht⟩
    · exact ⟨none, 0, hv, fun i hi => absurd hi (by simp), Nat.le_refl _, fun b off c => by cases c⟩
    · exact ⟨_, cap, hv, fun i hi => absurd hi (by simp), Nat.zero_le _, fun b off c => by injection c with c; injection c with c1; subst c1; exact ⟨hB, lt_of_heap hh⟩⟩
  · obtain ⟨g, cap, rest, hv, hle, hB, hlt, hm, hI, _⟩ := h.form h0
    refine ⟨_, cap, hv, fun i hi => ⟨g, 0, rfl, ?_⟩, hle, fun b off c => by injection c with c; injection c with c1; subst c1; exact ⟨hB, hlt⟩⟩
    rw [Nat.zero_add]
    exact hI.cell i hi
end Go.Proofs.Ytadfoaopamlnpaa
