/- Slices of elements of several cells: read in memory that is laid for good; made by appends. -/
import Derived.Test.YtecbejmeejepmaaApp
import Derived.Test.YtecbejmeejepmaaPick
import Derived.Maps.AppendAt
namespace Go.Proofs.Ytecbejmeejepmaa
set_option linter.unusedVariables false
open Go.RowKit

section
variable {D : Type}

/-- The slice at A reads as ds, k cells an element. -/
def Rw (H : Frz) (A : Option Addr) (k : Nat) (f : D → Nat → Value) (ds : List D) : Prop :=
  ∀ i (h : i < ds.length), ∃ b off, A = some ⟨b, off, none⟩ ∧ ∀ j, j < k → H.cell? ⟨b, off + i * k + j, none⟩ = some (f ds[i] j)
theorem Rw.le {H H' : Frz} {A : Option Addr} {k : Nat} {f : D → Nat → Value} {ds : List D} (h : Rw H A k f ds) (hl : H.Le H') : Rw H' A k f ds := fun i hi => by
  obtain ⟨b, off, e, hc⟩ := h i hi
  exact ⟨b, off, e, fun j hj => hl.cell (hc j hj)⟩
theorem Rw.nil {H : Frz} {A : Option Addr} {k : Nat} {f : D → Nat → Value} : Rw H A k f ([] : List D) := fun i hi => absurd hi (by simp)
theorem Rw.at_ {H : Frz} {A : Option Addr} {k : Nat} {f : D → Nat → Value} {ds : List D} (h : Rw H A k f ds) {W : World} (hH : H.In W) {i : Nat} (hi : i < ds.length) (hk : 0 < k) :
    ∃ b off, A = some ⟨b, off, none⟩ ∧ b < W.heap.size ∧ ∀ j, j < k → W.cell? ⟨b, off + i * k + j, none⟩ = some (f ds[i] j) := by
  obtain ⟨b, off, e, hc⟩ := h i hi
  exact ⟨b, off, e, Frz.cell_lt hH (hc 0 hk), fun j hj => hH.cell (hc j hj)⟩
/-- The cells of a list of elements. -/
def cellsOf (k : Nat) (f : D → Nat → Value) (ds : List D) : List Value := ds.flatMap fun d => (List.range k).map (f d)
theorem cellsOf_snoc (k : Nat) (f : D → Nat → Value) (ds : List D) (d : D) : cellsOf k f (ds ++ [d]) = cellsOf k f ds ++ (List.range k).map (f d) := by simp [cellsOf]
theorem cellsOf_len (k : Nat) (f : D → Nat → Value) (ds : List D) : (cellsOf k f ds).length = ds.length * k := by
  induction ds with
  | nil => simp [cellsOf]
  | cons d ds ih =>
    simp only [cellsOf, List.flatMap_cons, List.length_append, List.length_map, List.length_range, List.length_cons] at ih ⊢
    rw [ih, Nat.succ_mul]; omega
theorem cellsOf_get (k : Nat) (f : D → Nat → Value) (ds : List D) (i j : Nat) (hi : i < ds.length) (hj : j < k) : (cellsOf k f ds)[i * k + j]? = some (f ds[i] j) := by
  induction ds generalizing i with
  | nil => simp at hi
  | cons d ds ih =>
    have e : cellsOf k f (d :: ds) = (List.range k).map (f d) ++ cellsOf k f ds := by simp [cellsOf]
    rw [e]
    cases i with
    | zero => rw [List.getElem?_append_left (by simp; omega)]; simp [hj]
    | succ i =>
      rw [List.getElem?_append_right (by simp; rw [Nat.succ_mul]; omega)]
      have : (i + 1) * k + j - ((List.range k).map (f d)).length = i * k + j := by simp; rw [Nat.succ_mul]; omega
      rw [this]
      simpa using ih i (by simpa using hi)

/-- A slice of the call's own that holds ds. -/
def Orow (w : World) (B : Nat) (T k : Nat) (f : D → Nat → Value) (v : Value) (ds : List D) : Prop := w.ownsRow B T k v ds.length (cellsOf k f ds)
section
variable {w w' : World} {B T k : Nat} {f : D → Nat → Value} {v v' : Value} {ds : List D}
theorem Orow.own (h : Orow w B T k f v ds) : w.ownsRow B T k v ds.length (cellsOf k f ds) := h
theorem Orow.nil (w : World) (B T k : Nat) (f : D → Nat → Value) : Orow w B T k f (.slice none 0 0) [] := World.ownsRow_nil _ _ _ _
theorem Orow.lt (h : Orow w B T k f v ds) {g : Nat} (e : v.ownBlock = some g) : B ≤ g ∧ g < w.heap.size := World.ownsRow.lt h g e
theorem Orow.kept (h : Orow w B T k f v ds) {row : Option Nat} (hg : w.grownBy w' row) (hne : v.ownBlock = none ∨ v.ownBlock ≠ row) : Orow w' B T k f v ds := World.ownsRow.kept h hg hne
theorem Orow.far (h : Orow w B T k f v ds) {g : Nat} (hg : w.grownBy w' (some g)) (hne : g < B) : Orow w' B T k f v ds := h.kept hg (by
  cases e : v.ownBlock with
  | none => exact Or.inl rfl
  | some q => right; intro c; injection c with c; have := (h.lt e).1; omega)
theorem Orow.below (h : Orow w B T k f v ds) (hb : Below w.heap.size w w') : Orow w' B T k f v ds :=
  h.kept (row := none) ⟨hb.os, hb.tape, hb.output, hb.size, fun i hi _ => hb.block i hi⟩ (by cases e : v.ownBlock <;> simp)
theorem Orow.mono {B' : Nat} (h : Orow w B T k f v ds) (hB : B' ≤ B) : Orow w B' T k f v ds := by
  refine ⟨h.1, ?_⟩
  rcases h.2 with h | ⟨g, cap, cur, hv, hg, r⟩
  · exact Or.inl h
  · exact Or.inr ⟨g, cap, cur, hv, by omega, r⟩
theorem Orow.snoc {n : Nat} {d : D} {cs : List Value} (h : w'.ownsRow B T k v' (ds.length + 1) (cellsOf k f ds ++ cs)) (hc : (List.range k).map (f d) = cs) : Orow w' B T k f v' (ds ++ [d]) := by
  unfold Orow
  rw [cellsOf_snoc, hc]
  simpa using h
theorem Orow.slice (h : Orow w B T k f v ds) : ∃ A cap, v = .slice A ds.length cap ∧ ds.length ≤ cap := by
  rcases h.2 with ⟨rfl, hn⟩ | ⟨g, cap, cur, rfl, hB, hh, hle, hm, hs, ht⟩
  · exact ⟨none, 0, by rw [hn], by omega⟩
  · exact ⟨_, cap, rfl, hle⟩
/-- Laid for good: it reads as ds. -/
theorem Orow.freeze (h : Orow w B T k f v ds) (H : Frz) :
    ∃ (A : Option Addr) (cap : Nat) (H' : Frz), v = .slice A ds.length cap ∧ ds.length ≤ cap ∧ (H.In w → H'.In w) ∧ ((∀ g, v.ownBlock = some g → H g = none) → H.Le H') ∧ Rw H' A k f ds ∧ (∀ b, b < B → H' b = H b) ∧ (∀ b, w.heap.size ≤ b → H' b = H b) := by
  rcases h.2 with ⟨rfl, hn⟩ | ⟨g, cap, cur, rfl, hB, hh, hle, hm, hs, ht⟩
  · have : ds = [] := List.eq_nil_of_length_eq_zero hn
    subst this
    exact ⟨none, 0, H, rfl, Nat.le_refl _, id, fun _ => Frz.Le.refl _, Rw.nil, fun _ _ => rfl, fun _ _ => rfl⟩
  · refine ⟨some ⟨g, 0, none⟩, cap, H.add g (.cells cur T (0, 0)), rfl, hle, fun hI => hI.add hh, fun hN => Frz.le_add (hN g rfl), ?_, fun b hb => Frz.add_other (by omega), fun b hb => Frz.add_other (by have := lt_of_heap hh; omega)⟩
    intro i hi
    refine ⟨g, 0, rfl, fun j hj => ?_⟩
    have hx := cellsOf_get k f ds i j hi hj
    rw [← ht] at hx
    have hlt : i * k + j < ds.length * k := by
      have : (i + 1) * k ≤ ds.length * k := Nat.mul_le_mul_right _ hi
      rw [Nat.succ_mul] at this; omega
    rw [List.getElem?_take_of_lt hlt] at hx
    unfold Frz.cell?
    rw [show (⟨g, 0 + i * k + j, none⟩ : Addr).block = g from rfl, Frz.add_at]
    simpa using hx
end

/-- 'v = append(v, x)', x an element of k cells laid in a block of its own just before. -/
theorem wpList_app {P : Program} {wr : World} {ops : Array Oper} {rest : List Oper} {o : Oper} {a : Act} {Q : Exit → Act → World → Prop} (hgd : o.guard = none) (s x : Operand) (t : TypeId)
    (ho : o.op = .call { callee := .builtin .append, args := #[s, x], argTypes := #[t, t] })
    (B : Nat) (e : TypeId) (i : TypeInfo) (z : Value) (k bytes : Nat) (ht : P.underlying t = some (.slice e)) (hi : P.info? e = some i) (hz : i.zero = some z)
    (hsize : i.size = k) (hby : i.bytes = bytes) (hzs : z.cells.size = k) (hsz : 0 < k)
    (f : D → Nat → Value) (v : Value) (ds : List D) (hs : a.eval s = v) (hown : Orow wr B e k f v ds)
    (d : D) (cs : Array Value) (T : TypeId) (hx : a.eval x = .slice (some ⟨wr.heap.size, 0, none⟩) 1 1) (hcs : (List.range k).map (f d) = cs.toList) (h1 : ∀ u ∈ cs.toList, u.oneCell' = true)
    (hn : ds.length ≤ 4294967296) (hbytes : bytes ≤ 4096) (hB : B ≤ wr.heap.size)
    (h : ∀ v' w', Orow w' B e k f v' (ds ++ [d]) → wr.grownBy w' v.ownBlock → Below B wr w' → wpList P ops Q rest (a.put o.dst v') w') :
    wpList P ops Q (o :: rest) a (wr.alloc (.cells cs T)) := by
  refine wpList_append1 hgd s x t ho B e i z k bytes ht hi hz hsize hby hzs hsz v ds.length _ hs hown.own cs T hx ?_ h1 hn hbytes hB ?_
  · have := congrArg List.length hcs; simpa using this.symm
  · intro v' w' o1 g1 b1
    exact h v' w' (Orow.snoc (n := 0) o1 hcs) g1 b1
/-- The same, with word of where the new slice lies. -/
theorem wpList_app_at {P : Program} {wr : World} {ops : Array Oper} {rest : List Oper} {o : Oper} {a : Act} {Q : Exit → Act → World → Prop} (hgd : o.guard = none) (s x : Operand) (t : TypeId)
    (ho : o.op = .call { callee := .builtin .append, args := #[s, x], argTypes := #[t, t] })
    (B : Nat) (e : TypeId) (i : TypeInfo) (z : Value) (k bytes : Nat) (ht : P.underlying t = some (.slice e)) (hi : P.info? e = some i) (hz : i.zero = some z)
    (hsize : i.size = k) (hby : i.bytes = bytes) (hzs : z.cells.size = k) (hsz : 0 < k)
    (f : D → Nat → Value) (v : Value) (ds : List D) (hs : a.eval s = v) (hown : Orow wr B e k f v ds)
    (d : D) (cs : Array Value) (T : TypeId) (hx : a.eval x = .slice (some ⟨wr.heap.size, 0, none⟩) 1 1) (hcs : (List.range k).map (f d) = cs.toList) (h1 : ∀ u ∈ cs.toList, u.oneCell' = true)
    (hn : ds.length ≤ 4294967296) (hbytes : bytes ≤ 4096) (hB : B ≤ wr.heap.size)
    (h : ∀ v' w', Orow w' B e k f v' (ds ++ [d]) → wr.grownBy w' v.ownBlock → Below B wr w' → (v'.ownBlock = v.ownBlock ∨ ∃ g, v'.ownBlock = some g ∧ wr.heap.size < g) → wpList P ops Q rest (a.put o.dst v') w') :
    wpList P ops Q (o :: rest) a (wr.alloc (.cells cs T)) := by
  have hck : cs.size = k := by have := congrArg List.length hcs; simpa using this.symm
  refine wpList_append_own_at _ hgd s x t ho B e i z k bytes ht hi hz hsize hby hzs hsz v ds.length _ hs (hown.own.alloc _) ⟨wr.heap.size, 0, none⟩ 1 1 cs.toList hx (by simpa using hck) ?_ h1 (by simp only [maxLen]; omega) ?_ (by simp; omega) ?_
  · intro j u hu
    have hj : j < cs.size := by have := (List.getElem?_eq_some_iff.1 hu).1; simpa using this
    rw [Addr.add_lit, World.cell?_alloc_new]
    simp at hu ⊢
    exact hu
  · have : (ds.length + 1) * bytes ≤ 4294967297 * 4096 := Nat.mul_le_mul (by omega) hbytes
    omega
  · intro v' w' ho' hg' _ hat
    have hg := grown_alloc_left hg'
    refine h v' w' (Orow.snoc (n := 0) ho' hcs) hg (own_below hown.own hB hg) ?_
    rcases hat with hat | hat
    · exact Or.inl hat
    · exact Or.inr ⟨_, hat, by simp⟩
/-- The same, x laid in whatever block. -/
theorem wpList_app_any {P : Program} {wr : World} {ops : Array Oper} {rest : List Oper} {o : Oper} {a : Act} {Q : Exit → Act → World → Prop} (hgd : o.guard = none) (s x : Operand) (t : TypeId)
    (ho : o.op = .call { callee := .builtin .append, args := #[s, x], argTypes := #[t, t] })
    (B : Nat) (e : TypeId) (i : TypeInfo) (z : Value) (k bytes : Nat) (ht : P.underlying t = some (.slice e)) (hi : P.info? e = some i) (hz : i.zero = some z)
    (hsize : i.size = k) (hby : i.bytes = bytes) (hzs : z.cells.size = k) (hsz : 0 < k)
    (f : D → Nat → Value) (v : Value) (ds : List D) (hs : a.eval s = v) (hown : Orow wr B e k f v ds)
    (d : D) (q : Nat) (cs : Array Value) (T : TypeId) (hx : a.eval x = .slice (some ⟨q, 0, none⟩) 1 1) (hq : wr.heap[q]? = some (.cells cs T (0, 0))) (hcs : (List.range k).map (f d) = cs.toList) (h1 : ∀ u ∈ cs.toList, u.oneCell' = true)
    (hn : ds.length ≤ 4294967296) (hbytes : bytes ≤ 4096) (hB : B ≤ wr.heap.size)
    (h : ∀ v' w', Orow w' B e k f v' (ds ++ [d]) → wr.grownBy w' v.ownBlock → Below B wr w' → (v'.ownBlock = v.ownBlock ∨ v'.ownBlock = some wr.heap.size) → wpList P ops Q rest (a.put o.dst v') w') :
    wpList P ops Q (o :: rest) a wr := by
  have hck : cs.size = k := by have := congrArg List.length hcs; simpa using this.symm
  refine wpList_append_own_at _ hgd s x t ho B e i z k bytes ht hi hz hsize hby hzs hsz v ds.length _ hs hown.own ⟨q, 0, none⟩ 1 1 cs.toList hx (by simpa using hck) ?_ h1 (by simp only [maxLen]; omega) ?_ hB ?_
  · intro j u hu
    have hj : j < cs.size := by have := (List.getElem?_eq_some_iff.1 hu).1; simpa using this
    rw [Addr.add_lit]
    simp only [World.cell?, hq]
    simp at hu ⊢
    exact hu
  · have : (ds.length + 1) * bytes ≤ 4294967297 * 4096 := Nat.mul_le_mul (by omega) hbytes
    omega
  · intro v' w' ho' hg' _ hat
    exact h v' w' (Orow.snoc (n := 0) ho' hcs) hg' (own_below hown.own hB hg') hat
end
end Go.Proofs.Ytecbejmeejepmaa
