/- Texts of this claim, put together: BoxV, BestP, BestC, Best, BestB. -/
import Derived.Test.YtihcmifikbkbcaaGreatPA
import Derived.Deep.MidRow
import Derived.Test.YtihcmifikbkbcaaGreatPI
/- A drawn region that allocates a struct variable and stores a call's result into it while other operations may run beside the store: the state, whatever has run. -/
namespace Go.Proofs.YtihcmifikbkbcaaGreat
set_option linter.unusedVariables false
open Go.RowKit
theorem OpV.load_mid {P : Program} {o : Oper} {a : Act} {w : World} {R : Value → World → Prop} (ty : TypeId) (x : Operand) (ho : o.op = .load ty x) (b off : Nat) (hx : a.eval x = .pointer (some ⟨b, off, none⟩)) (cs : List Value) (d : TypeDesc) (hc : w.rangeAt b off cs)
    (hu : P.underlying ty = some d) (hd : d.isRow = true) (hi : (P.info? ty).map (·.size) = some cs.length) (h : R (.agg cs.toArray) w) : OpV P o a.eval w R := by
  unfold OpV execOp
  simp only [ho, hx, Instr.loadAt, Instr.sureAddr, Sem.run_bind, Sem.run_pure, Result.andThen_ok, run_loadVar_mid w b off ty cs d hc hu hd hi]
  exact h
theorem setCells_at (b : Nat) (T : TypeId) (f : Nat × Nat) : ∀ (vs : List Value) (o : Nat) (w : World) (c : Array Value), w.heap[b]? = some (.cells c T f) → o + vs.length ≤ c.size →
    ∃ c' : Array Value, (w.setCells b o vs).heap[b]? = some (.cells c' T f) ∧ c'.size = c.size ∧ ∀ j, c'[j]? = if o ≤ j ∧ j < o + vs.length then vs[j - o]? else c[j]?
  | [], o, w, c, h, _ => ⟨c, h, rfl, fun j => by rw [if_neg (by rintro ⟨h1, h2⟩; have : ([] : List Value).length = 0 := rfl; omega)]⟩
  | v :: vs, o, w, c, h, hl => by
    have h1 : (w.setCell ⟨b, o, none⟩ v).heap[b]? = some (.cells (c.setIfInBounds o v) T f) := by
      simp [World.setCell, Array.getElem?_modify, h]
    have hl' : o + 1 + vs.length ≤ c.size := by simp at hl; omega
    obtain ⟨c', h2, h3, h4⟩ := setCells_at b T f vs (o + 1) _ _ h1 (by simpa using hl')
    refine ⟨c', h2, by rw [h3]; simp, fun j => ?_⟩
    rw [h4 j]
    by_cases hj : o = j
    · subst hj
      rw [if_neg (by omega), if_pos (by simp), Array.getElem?_setIfInBounds]
      simp
      omega
    · by_cases hj2 : o + 1 ≤ j ∧ j < o + 1 + vs.length
      · rw [if_pos hj2, if_pos (by simp; omega), show j - o = (j - (o + 1)) + 1 from by omega]
        simp
      · rw [if_neg hj2, if_neg (by simp; omega), Array.getElem?_setIfInBounds, if_neg hj]
theorem setCells_whole {w : World} {b : Nat} {T : TypeId} {f : Nat × Nat} {c cs : Array Value} (h : w.heap[b]? = some (.cells c T f)) (hs : cs.size = c.size) : (w.setCells b 0 cs.toList).heap[b]? = some (.cells cs T f) := by
  obtain ⟨c', h1, h2, h3⟩ := setCells_at b T f cs.toList 0 w c h (by simp [hs])
  rw [h1]
  congr 2
  apply Array.ext
  · rw [h2, hs]
  · intro j hj1 hj2
    have := h3 j
    rw [if_pos (by simp; omega)] at this
    simp at this
    rw [Array.getElem?_eq_getElem hj1, Array.getElem?_eq_getElem hj2] at this
    exact Option.some.inj this
theorem setCells_grown (b : Nat) : ∀ (vs : List Value) (o : Nat) (w : World), w.grownBy (w.setCells b o vs) (some b) ∧ (w.setCells b o vs).heap.size = w.heap.size
  | [], o, w => ⟨World.grownBy.refl _ _, rfl⟩
  | v :: vs, o, w => by
    obtain ⟨h1, h2⟩ := setCells_grown b vs (o + 1) (w.setCell ⟨b, o, none⟩ v)
    have h3 : (w.setCell ⟨b, o, none⟩ v).heap.size = w.heap.size := by simp [World.setCell]
    refine ⟨⟨h1.os, h1.tape, h1.output, Nat.le_trans (Nat.le_of_eq h3.symm) h1.size, fun k hk hne => ?_⟩, h2.trans h3⟩
    exact (h1.block k (by omega) hne).trans (Below.heap_setCell w _ _ k (fun e => hne (by rw [e])))
/-- A whole struct is stored into a block. -/
theorem OpV.store_whole {P : Program} {o : Oper} {a : Act} {w : World} {R : Value → World → Prop} (ty : TypeId) (x y : Operand) (ho : o.op = .store ty x y) (b : Nat) (hx : a.eval x = .pointer (some ⟨b, 0, none⟩)) (cs : Array Value) (hy : a.eval y = .agg cs)
    {c : Array Value} {T : TypeId} (hb : w.heap[b]? = some (.cells c T (0, 0))) (hs : cs.size = c.size) (hi : (P.info? ty).map (·.size) = some cs.size) (h1 : cs.all (·.oneCell') = true)
    (h : ∀ w', w.grownBy w' (some b) → w'.heap.size = w.heap.size → w'.heap[b]? = some (.cells cs T (0, 0)) → R undef w') : OpV P o a.eval w R := by
  have ht : w.there b 0 cs.size := fun j hj => by
    constructor
    · have : w.cell? ⟨b, 0 + j, none⟩ = c[j]? := by simp [World.cell?, hb]
      rw [this, Array.getElem?_eq_getElem (by omega)]
      rfl
    · simp [World.frozen?, hb]
  unfold OpV execOp
  simp only [ho, hx, hy, Instr.storeAt, Instr.sureAddr, Sem.run_bind, Sem.run_pure, Result.andThen_ok, run_storeVar_mid w b 0 ty cs ht hi h1]
  obtain ⟨g1, g2⟩ := setCells_grown b cs.toList 0 w
  exact h _ g1 g2 (setCells_whole hb hs)
def isT (T : TypeId) (o : Obj) : Prop := ∃ cs fr, o = .cells cs T fr
/-- Only blocks of the struct's type are written. -/
def ET (T : TypeId) (w w' : World) : Prop := w.heap.size ≤ w'.heap.size ∧ (∀ (p : Nat) (o : Obj), w.heap[p]? = some o → ¬ isT T o → w'.heap[p]? = some o) ∧ (∀ (p : Nat) (cs : Array Value), w.heap[p]? = some (.cells cs T (0, 0)) → ∃ cs' : Array Value, w'.heap[p]? = some (.cells cs' T (0, 0)) ∧ cs'.size = cs.size)
section
variable {T : TypeId} {w w' : World}
theorem ET.of (h : Below w.heap.size w w') : ET T w w' := ⟨h.size, fun p o e _ => (h.block p (lt_of_heap e)).trans e, fun p cs e => ⟨cs, (h.block p (lt_of_heap e)).trans e, rfl⟩⟩
theorem ET.store {b : Nat} {c cs : Array Value} (hb : w.heap[b]? = some (.cells c T (0, 0))) (hs : cs.size = c.size) (hg : w.grownBy w' (some b)) (hn : w'.heap[b]? = some (.cells cs T (0, 0))) : ET T w w' := by
  refine ⟨hg.size, fun p o e hno => ?_, fun p c2 e => ?_⟩
  · by_cases hp : p = b
    · subst hp
      exact absurd ⟨c, (0, 0), Option.some.inj (e.symm.trans hb)⟩ hno
    · exact (hg.block p (lt_of_heap e) (fun c => hp (by injection c))).trans e
  · by_cases hp : p = b
    · subst hp
      have := Option.some.inj (e.symm.trans hb)
      injection this with h1
      exact ⟨cs, hn, by rw [hs, h1]⟩
    · exact ⟨c2, (hg.block p (lt_of_heap e) (fun c => hp (by injection c))).trans e, rfl⟩
theorem ET.row {D : Type} {B U k : Nat} {f : D → Nat → Value} {v : Value} {ds : List D} (h : ET T w w') (hU : U ≠ T) (ho : Orow w B U k f v ds) : Orow w' B U k f v ds := by
  refine ⟨ho.1, ?_⟩
  rcases ho.2 with h1 | ⟨g, cap, cur, hv, hg, hh, r⟩
  · exact Or.inl h1
  · refine Or.inr ⟨g, cap, cur, hv, hg, h.2.1 g _ hh ?_, r⟩
    rintro ⟨cs, fr, e⟩
    injection e with _ e2
    exact hU e2
/-- Memory laid for good that holds no struct of this type. -/
def NT (T : TypeId) (H : Frz) : Prop := ∀ p o, H p = some o → ¬ isT T o
theorem ET.inn {H : Frz} (h : ET T w w') (hn : NT T H) (hi : H.In w) : H.In w' := fun b o e => h.2.1 b o (hi b o e) (hn b o e)
theorem NT.empty (T : TypeId) : NT T Frz.empty := fun _ _ h => by cases h
theorem NT.add {H : Frz} (h : NT T H) {n : Nat} {o : Obj} (ho : ¬ isT T o) : NT T (H.add n o) := fun p o' e => by
  unfold Frz.add at e
  split at e
  · injection e with e; subst e; exact ho
  · exact h p o' e
end
theorem not_isT {T U : TypeId} {cs : Array Value} {fr : Nat × Nat} (h : U ≠ T) : ¬ isT T (.cells cs U fr) := by
  rintro ⟨cs', fr', e⟩
  injection e with _ e2
  exact h e2
/-- A row laid for good, alone. -/
theorem Orow.alone {D : Type} {w : World} {B U k : Nat} {f : D → Nat → Value} {v : Value} {ds : List D} (h : Orow w B U k f v ds) (T : TypeId) (hU : U ≠ T) :
    ∃ (A : Option Addr) (cap : Nat) (H' : Frz), v = .slice A ds.length cap ∧ ds.length ≤ cap ∧ H'.In w ∧ Rw H' A k f ds ∧ NT T H' ∧ (∀ b, b < B → H' b = none) := by
  rcases h.2 with ⟨rfl, hn⟩ | ⟨g, cap, cur, rfl, hB, hh, hle, hm, hs, ht⟩
  · have : ds = [] := List.eq_nil_of_length_eq_zero hn
    subst this
    exact ⟨none, 0, Frz.empty, rfl, Nat.le_refl _, Frz.In.empty _, Rw.nil, NT.empty T, fun _ _ => rfl⟩
  · refine ⟨some ⟨g, 0, none⟩, cap, Frz.empty.add g (.cells cur U (0, 0)), rfl, hle, (Frz.In.empty _).add hh, ?_, NT.add (NT.empty T) (not_isT hU), fun b hb => by rw [Frz.add_other (by omega)]; rfl⟩
    intro i hi
    refine ⟨g, 0, rfl, fun j hj => ?_⟩
    have hx := cellsOf_get k f ds i j hi hj
    rw [← ht] at hx
    have hlt : i * k + j < ds.length * k := by
      have : (i + 1) * k ≤ ds.length * k := Nat.mul_le_mul_right _ hi
      rw [Nat.succ_mul] at this; omega
    rw [List.getElem?_take_of_lt hlt] at hx
    unfold Frz.cell?
    rw [show (⟨g, 0 + i * k + j, none⟩ : Addr).block = g from rfl, Frz.add_at]
    simpa using hx
/-- The state: the struct variable at slot sa is written once operation js has run. -/
structure BoxJ (T : TypeId) (ia sa js : Nat) (H : Frz) (W0 : World) (G : Array Value → World → Prop) (L : Array Bool) (a : Act) (w : World) : Prop where
  inn : H.In w
  bel : Below W0.heap.size W0 w
  st : L.getD js false = true → L.getD ia false = true ∧ ∃ (b : Nat) (cs : Array Value), a.tmps.getD sa undef = .pointer (some ⟨b, 0, none⟩) ∧ W0.heap.size ≤ b ∧ w.heap[b]? = some (.cells cs T (0, 0)) ∧ G cs w
section
variable {T : TypeId} {ia sa js : Nat} {H : Frz} {W0 : World} {G : Array Value → World → Prop} {L : Array Bool} {a : Act} {w w' : World}
theorem BoxJ.start (hH : H.In W0) (m : Nat) (a : Act) : BoxJ T ia sa js H W0 G (Array.replicate m false) a W0.drew :=
  ⟨hH, (Below.refl _ _).drew, fun h => by rw [getD_replicate_false] at h; cases h⟩
theorem BoxJ.step (h : BoxJ T ia sa js H W0 G L a w) (hG : ∀ cs, Below w.heap.size w w' → G cs w → G cs w') (hb : Below w.heap.size w w') {i d : Nat} (hi : i ≠ js) (hi2 : i ≠ ia) (hd : d ≠ sa) (v : Value) : BoxJ T ia sa js H W0 G (L.setIfInBounds i true) (a.put (some d) v) w' := by
  refine ⟨h.inn.below hb, h.bel.trans (hb.mono h.bel.size), fun hl => ?_⟩
  rw [getD_set_ne false hi] at hl
  obtain ⟨h1, b, cs, h2, h3, h4, h5⟩ := h.st hl
  refine ⟨by rw [getD_set_ne false hi2]; exact h1, b, cs, ?_, h3, (hb.block b (lt_of_heap h4)).trans h4, hG cs hb h5⟩
  simp only [Act.put, Array.getD_eq_getD_getElem?, Array.getElem?_setIfInBounds]
  rw [if_neg hd, ← Array.getD_eq_getD_getElem?]
  exact h2
theorem BoxJ.new (h : BoxJ T ia sa js H W0 G L a w) (hb : Below w.heap.size w w') (hia : L.getD ia true = false) (hne : ia ≠ js) (v : Value) : BoxJ T ia sa js H W0 G (L.setIfInBounds ia true) (a.put (some sa) v) w' := by
  refine ⟨h.inn.below hb, h.bel.trans (hb.mono h.bel.size), fun hl => ?_⟩
  rw [getD_set_ne false hne] at hl
  obtain ⟨h1, -⟩ := h.st hl
  simp only [Array.getD_eq_getD_getElem?] at h1 hia
  cases e : L[ia]? with
  | none => rw [e] at h1; cases h1
  | some x => rw [e] at h1 hia; simp at h1 hia; rw [h1] at hia; cases hia
theorem BoxJ.store (h : BoxJ T ia sa js H W0 G L a w) {b : Nat} {cs : Array Value} (hp : a.tmps.getD sa undef = .pointer (some ⟨b, 0, none⟩)) (hb0 : W0.heap.size ≤ b) (hia : L.getD ia false = true) (hne : js ≠ ia) (hno : H b = none)
    (hg : w.grownBy w' (some b)) (hn : w'.heap[b]? = some (.cells cs T (0, 0))) (hG : G cs w') (v : Value) : BoxJ T ia sa js H W0 G (L.setIfInBounds js true) (a.put none v) w' :=
  ⟨h.inn.grown hg hno, h.bel.grown hg h.bel.size (fun q hq => by injection hq with hq; omega), fun _ => ⟨by rw [getD_set_ne false hne]; exact hia, b, cs, hp, hb0, hn, hG⟩⟩
end
/-- The variable's pointer, once it is there. -/
def BoxP (T : TypeId) (S n : Nat) (v : Value) (w : World) : Prop := ∃ (b : Nat) (cs : Array Value), v = .pointer (some ⟨b, 0, none⟩) ∧ S ≤ b ∧ w.heap[b]? = some (.cells cs T (0, 0)) ∧ cs.size = n
theorem BoxP.mono {T : TypeId} {S n : Nat} {v : Value} {w w' : World} (e : ET T w w') (h : BoxP T S n v w) : BoxP T S n v w' := by
  obtain ⟨b, cs, h1, h2, h3, h4⟩ := h
  obtain ⟨cs', h5, h6⟩ := e.2.2 b cs h3
  exact ⟨b, cs', h1, h2, h5, h6.trans h4⟩
end Go.Proofs.YtihcmifikbkbcaaGreat

/- Choices of offers, plain: which are made by masks, which is best. -/
namespace Go.Proofs.YtihcmifikbkbcaaGreat
set_option linter.unusedVariables false
/-- The members of a list at the bits of a number. -/
def selM : Nat → List Nat → List Nat
  | _, [] => []
  | m, i :: U => if m % 2 = 1 then i :: selM (m / 2) U else selM (m / 2) U
theorem selM_zero : ∀ U, selM 0 U = []
  | [] => rfl
  | i :: U => by show (if 0 % 2 = 1 then _ else selM (0 / 2) U) = []; rw [if_neg (by omega)]; exact selM_zero U
theorem selM_sub : ∀ (m : Nat) (U : List Nat), (selM m U).Sublist U
  | _, [] => List.Sublist.refl _
  | m, i :: U => by
    unfold selM
    split
    · exact (selM_sub _ U).cons_cons i
    · exact (selM_sub _ U).cons i
theorem selM_len (m : Nat) (U : List Nat) : (selM m U).length ≤ U.length := (selM_sub m U).length_le
theorem selM_take : ∀ (m : Nat) (U : List Nat) (k : Nat) (hk : k < U.length), selM m (U.take (k + 1)) = selM m (U.take k) ++ (if m / 2 ^ k % 2 = 1 then [U[k]] else [])
  | _, [], k, hk => by simp at hk
  | m, i :: U, 0, _ => by simp [selM]
  | m, i :: U, k + 1, hk => by
    have h := selM_take (m / 2) U k (by simpa using hk)
    have e : m / 2 / 2 ^ k = m / 2 ^ (k + 1) := by rw [Nat.div_div_eq_div_mul, Nat.pow_succ, Nat.mul_comm]
    rw [e] at h
    simp only [List.take_succ_cons, selM, List.getElem_cons_succ]
    rw [h]
    split <;> simp
/-- The number whose bits are where something is so. -/
def maskF (p : Nat → Bool) : List Nat → Nat
  | [] => 0
  | i :: U => (if p i = true then 1 else 0) + 2 * maskF p U
theorem maskF_lt (p : Nat → Bool) : ∀ U : List Nat, maskF p U < 2 ^ U.length
  | [] => by simp [maskF]
  | i :: U => by
    have := maskF_lt p U
    simp only [maskF, List.length_cons, Nat.pow_succ]
    split <;> omega
theorem selM_mask (p : Nat → Bool) : ∀ U : List Nat, selM (maskF p U) U = U.filter p
  | [] => rfl
  | i :: U => by
    have h := selM_mask p U
    unfold selM maskF
    by_cases hp : p i = true
    · rw [if_pos hp, if_pos (by omega), show (1 + 2 * maskF p U) / 2 = maskF p U from by omega, h, List.filter_cons_of_pos hp]
    · rw [if_neg hp, if_neg (by omega), show (0 + 2 * maskF p U) / 2 = maskF p U from by omega, h, List.filter_cons_of_neg (by simpa using hp)]
/-- A sublist of a list without repetitions is what of it is in the sublist. -/
theorem filter_sub {l U : List Nat} (h : l.Sublist U) (hn : U.Nodup) : U.filter (fun i => decide (i ∈ l)) = l := by
  induction h with
  | slnil => rfl
  | @cons l U a h ih =>
    have ha : a ∉ l := fun c => (List.nodup_cons.1 hn).1 (h.subset c)
    rw [List.filter_cons_of_neg (by simpa using ha)]
    exact ih (List.nodup_cons.1 hn).2
  | @cons_cons l U a h ih =>
    have ha := (List.nodup_cons.1 hn).1
    rw [List.filter_cons_of_pos (by simp)]
    congr 1
    rw [← ih (List.nodup_cons.1 hn).2]
    apply List.filter_congr
    intro x hx
    have : x ≠ a := fun c => ha (c ▸ hx)
    rw [ih (List.nodup_cons.1 hn).2]
    simp [this]
/-- The offers at places. -/
def selO (ds : List OfD) (l : List Nat) : List OfD := l.filterMap fun i => ds[i]?
theorem selO_snoc {ds : List OfD} {l : List Nat} {i : Nat} (hi : i < ds.length) : selO ds (l ++ [i]) = selO ds l ++ [ds[i]] := by
  unfold selO
  rw [List.filterMap_append]
  simp [hi]
theorem selO_mem {ds : List OfD} {l : List Nat} : ∀ d ∈ selO ds l, d ∈ ds := by
  intro d hd
  obtain ⟨i, _, hi⟩ := List.mem_filterMap.1 hd
  exact List.mem_of_getElem? hi
theorem selO_len {ds : List OfD} {l : List Nat} (h : ∀ i ∈ l, i < ds.length) : (selO ds l).length = l.length := by
  induction l with
  | nil => rfl
  | cons i l ih =>
    have hi := h i (by simp)
    unfold selO at ih ⊢
    rw [List.filterMap_cons, List.getElem?_eq_getElem hi]
    simp [ih (fun j hj => h j (by simp [hj]))]
theorem selO_at {ds : List OfD} {l : List Nat} (h : ∀ i ∈ l, i < ds.length) {k : Nat} (hk : k < l.length) (hk2 : k < (selO ds l).length) : (selO ds l)[k] = ds[l[k]]'(h _ (List.getElem_mem hk)) := by
  induction l generalizing k with
  | nil => simp at hk
  | cons i l ih =>
    have hi := h i (by simp)
    have e : selO ds (i :: l) = ds[i] :: selO ds l := by unfold selO; rw [List.filterMap_cons, List.getElem?_eq_getElem hi]
    cases k with
    | zero => simp [e]
    | succ k =>
      have hk' : k < l.length := by simpa using hk
      have := ih (fun j hj => h j (by simp [hj])) hk' (by rw [selO_len (fun j hj => h j (by simp [hj]))]; exact hk')
      simpa [e] using this
/-- The offers that can be used. -/
def fitAt (ds : List OfD) (xs : List ItD) (ship at_ : Int) (i : Nat) : Bool := match ds[i]? with | some d => !badF xs ship at_ d | none => false
def usF (ds : List OfD) (xs : List ItD) (ship at_ : Int) : List Nat := (List.range ds.length).filter (fitAt ds xs ship at_)
theorem usF_nodup (ds : List OfD) (xs : List ItD) (ship at_ : Int) : (usF ds xs ship at_).Nodup := List.filter_sublist.nodup List.nodup_range
theorem usF_lt {ds : List OfD} {xs : List ItD} {ship at_ : Int} {i : Nat} (h : i ∈ usF ds xs ship at_) : i < ds.length := List.mem_range.1 (List.mem_filter.1 h).1
theorem usF_len (ds : List OfD) (xs : List ItD) (ship at_ : Int) : (usF ds xs ship at_).length ≤ ds.length := by
  have := List.length_filter_le (fitAt ds xs ship at_) (List.range ds.length)
  unfold usF
  simpa using this
def totO (ds : List OfD) (xs : List ItD) (ship : Int) (l : List Nat) : Nat := totS (endS (selO ds l) xs ship)
def togO (ds : List OfD) (l : List Nat) : Bool := togetherB (selO ds l)
/-- Not beaten: cheaper, or as cheap with no more. -/
def noMore (a b : Nat × Nat) : Prop := a.1 < b.1 ∨ (a.1 = b.1 ∧ a.2 ≤ b.2)
theorem noMore.refl (a : Nat × Nat) : noMore a a := Or.inr ⟨rfl, Nat.le_refl _⟩
theorem noMore.trans {a b c : Nat × Nat} (h : noMore a b) (k : noMore b c) : noMore a c := by
  unfold noMore at *
  omega
/-- What is known of the best choice when the masks below m have been seen. -/
structure BestS (ds : List OfD) (xs : List ItD) (ship : Int) (U : List Nat) (m : Nat) (best : List Nat) : Prop where
  mem : ∃ mb, mb < m ∧ best = selM mb U
  tog : togO ds best = true
  least : ∀ m', m' < m → togO ds (selM m' U) = true → noMore (totO ds xs ship best, best.length) (totO ds xs ship (selM m' U), (selM m' U).length)
theorem BestS.start (ds : List OfD) (xs : List ItD) (ship : Int) (U : List Nat) : BestS ds xs ship U 1 [] := by
  refine ⟨⟨0, by omega, (selM_zero U).symm⟩, rfl, fun m' hm _ => ?_⟩
  have : m' = 0 := by omega
  subst this
  rw [selM_zero]
  exact noMore.refl _
section
variable {ds : List OfD} {xs : List ItD} {ship : Int} {U : List Nat} {m : Nat} {best : List Nat}
theorem BestS.skip (h : BestS ds xs ship U m best) (ht : togO ds (selM m U) = false) : BestS ds xs ship U (m + 1) best := by
  obtain ⟨mb, h1, h2⟩ := h.mem
  refine ⟨⟨mb, by omega, h2⟩, h.tog, fun m' hm ht' => ?_⟩
  rcases Nat.lt_succ_iff_lt_or_eq.1 hm with c | c
  · exact h.least m' c ht'
  · subst c; rw [ht] at ht'; cases ht'
theorem BestS.keep (h : BestS ds xs ship U m best) (hle : noMore (totO ds xs ship best, best.length) (totO ds xs ship (selM m U), (selM m U).length)) : BestS ds xs ship U (m + 1) best := by
  obtain ⟨mb, h1, h2⟩ := h.mem
  refine ⟨⟨mb, by omega, h2⟩, h.tog, fun m' hm ht' => ?_⟩
  rcases Nat.lt_succ_iff_lt_or_eq.1 hm with c | c
  · exact h.least m' c ht'
  · subst c; exact hle
theorem BestS.take (h : BestS ds xs ship U m best) (ht : togO ds (selM m U) = true) (hle : noMore (totO ds xs ship (selM m U), (selM m U).length) (totO ds xs ship best, best.length)) : BestS ds xs ship U (m + 1) (selM m U) := by
  refine ⟨⟨m, by omega, rfl⟩, ht, fun m' hm ht' => ?_⟩
  rcases Nat.lt_succ_iff_lt_or_eq.1 hm with c | c
  · exact hle.trans (h.least m' c ht')
  · subst c; exact noMore.refl _
end
/-- What the comparison of two choices says. -/
theorem orL_less {a b c d : Nat} {r : Int} (h : orL [cmpI a b, cmpI c d, r] < 0) : noMore (a, c) (b, d) := by
  unfold orL at h
  split at h
  · rename_i e
    have e1 := cmpI_zero.1 e
    unfold orL at h
    split at h
    · rename_i e2
      have e3 := cmpI_zero.1 e2
      exact Or.inr ⟨by omega, by show c ≤ d; omega⟩
    · have := cmpI_lt.1 h
      exact Or.inr ⟨by show a = b; omega, by show c ≤ d; omega⟩
  · have := cmpI_lt.1 h
    exact Or.inl (by show a < b; omega)
theorem orL_more {a b c d : Nat} {r : Int} (h : ¬ orL [cmpI a b, cmpI c d, r] < 0) : noMore (b, d) (a, c) := by
  unfold noMore
  by_cases h1 : b < a
  · exact Or.inl h1
  · by_cases h2 : (a : Int) = b
    · by_cases h3 : (c : Int) < d
      · exfalso
        apply h
        have e1 : cmpI (a : Int) b = 0 := cmpI_zero.2 h2
        have e2 : cmpI (c : Int) d < 0 := cmpI_lt.2 h3
        unfold orL
        rw [if_pos e1]
        unfold orL
        rw [if_neg (by omega)]
        exact e2
      · exact Or.inr ⟨by show b = a; omega, by show d ≤ c; omega⟩
    · exfalso
      apply h
      have e2 : cmpI (a : Int) b < 0 := cmpI_lt.2 (by omega)
      unfold orL
      rw [if_neg (by omega)]
      exact e2
theorem selO_take {ds : List OfD} {l : List Nat} (h : ∀ i ∈ l, i < ds.length) (k : Nat) : (selO ds l).take k = selO ds (l.take k) := by
  induction l generalizing k with
  | nil => simp [selO]
  | cons i l ih =>
    have hi := h i (by simp)
    have e : ∀ l', selO ds (i :: l') = ds[i] :: selO ds l' := fun l' => by unfold selO; rw [List.filterMap_cons, List.getElem?_eq_getElem hi]
    cases k with
    | zero => simp [selO]
    | succ k => rw [e, List.take_succ_cons, List.take_succ_cons, e, ih (fun j hj => h j (by simp [hj]))]
/-- Places in order. -/
def Places (ds : List OfD) (l : List Nat) : Prop := l.Sublist (List.range ds.length)
theorem Places.lt {ds : List OfD} {l : List Nat} (h : Places ds l) : ∀ i ∈ l, i < ds.length := fun i hi => List.mem_range.1 (h.subset hi)
theorem Places.inc {ds : List OfD} {l : List Nat} (h : Places ds l) : l.Pairwise (· < ·) := List.Pairwise.sublist h List.pairwise_lt_range
theorem Places.us {ds : List OfD} {xs : List ItD} {ship at_ : Int} {l : List Nat} (h : l.Sublist (usF ds xs ship at_)) : Places ds l := h.trans List.filter_sublist
theorem offersB_sel {ds : List OfD} {l : List Nat} (h : offersB ds = true) (hl : Places ds l) : offersB (selO ds l) = true := by
  unfold offersB at h ⊢
  simp only [Bool.and_eq_true, decide_eq_true_eq] at h ⊢
  have hlen := selO_len hl.lt
  have hll : l.length ≤ ds.length := by have := hl.length_le; simpa using this
  refine ⟨by omega, ?_⟩
  rw [List.all_eq_true]
  intro k hk
  have hk2 := List.mem_range.1 hk
  have hkl : k < l.length := by omega
  have hi := hl.lt _ (List.getElem_mem hkl)
  have ho := allR_at h.2 hi
  rw [offAt_at hi] at ho
  rw [offAt_at hk2, selO_at hl.lt hkl hk2]
  unfold offB at ho ⊢
  have hany : anyF (sameOf (ds[l[k]]).key) ((selO ds l).take k) = false := by
    simp only [Bool.and_eq_true] at ho
    have h0 : anyF (sameOf (ds[l[k]]).key) (ds.take l[k]) = false := by
      have := ho.1.1.1.1.1.1.1.1.1.1.2
      simpa using this
    unfold anyF at h0 ⊢
    rw [List.any_eq_false] at h0 ⊢
    intro x hx
    apply h0
    rw [selO_take hl.lt] at hx
    obtain ⟨j, hj, hjx⟩ := List.mem_filterMap.1 hx
    obtain ⟨q, hq, rfl⟩ := List.getElem_of_mem hj
    rw [List.getElem_take] at hjx
    have hql : q < k := by have := List.length_take_le k l; omega
    have hlt := List.pairwise_iff_getElem.1 hl.inc q k (by omega) hkl hql
    obtain ⟨hd, rfl⟩ := List.getElem?_eq_some_iff.1 hjx
    exact List.mem_take_iff_getElem.2 ⟨l[q], by omega, rfl⟩
  rw [hany]
  simp only [Bool.and_eq_true] at ho ⊢
  obtain ⟨⟨⟨⟨⟨⟨⟨⟨⟨⟨⟨h1, h2⟩, h3⟩, h4⟩, h5⟩, h6⟩, h7⟩, h8⟩, h9⟩, h10⟩, h11⟩, h12⟩ := ho
  exact ⟨⟨⟨⟨⟨⟨⟨⟨⟨⟨⟨h1, rfl⟩, h3⟩, h4⟩, h5⟩, h6⟩, h7⟩, h8⟩, h9⟩, h10⟩, h11⟩, h12⟩
theorem fit_of_mem {ds : List OfD} {xs : List ItD} {ship at_ : Int} {i : Nat} (h : i ∈ usF ds xs ship at_) : badF xs ship at_ (ds[i]'(usF_lt h)) = false := by
  have h2 := (List.mem_filter.1 h).2
  unfold fitAt at h2
  rw [List.getElem?_eq_getElem (usF_lt h)] at h2
  simpa using h2
/-- A choice of what can be used, of offers that go together, can be applied. -/
theorem priceOk_sel {ds : List OfD} {xs : List ItD} {ship at_ : Int} {l : List Nat} (h : checkB ds xs ship at_ = true) (hl : l.Sublist (usF ds xs ship at_)) (ht : togO ds l = true) : priceOk (selO ds l) xs ship at_ = true := by
  have hp := Places.us hl
  unfold checkB at h
  simp only [Bool.and_eq_true] at h
  unfold priceOk checkB
  rw [offersB_sel h.1.1 hp, h.1.2, h.2, show togetherB (selO ds l) = true from ht]
  have : anyF (badF xs ship at_) (selO ds l) = false := by
    unfold anyF
    rw [List.any_eq_false]
    intro d hd
    obtain ⟨i, hi, hid⟩ := List.mem_filterMap.1 hd
    have hu := hl.subset hi
    rw [List.getElem?_eq_getElem (usF_lt hu)] at hid
    injection hid with hid
    rw [← hid, fit_of_mem hu]
    decide
  rw [this]
  rfl
/-- What can be applied is a choice of what can be used. -/
theorem sub_of_ok {ds : List OfD} {xs : List ItD} {ship at_ : Int} {l : List Nat} (hl : Places ds l) (h : priceOk (selO ds l) xs ship at_ = true) : l.Sublist (usF ds xs ship at_) ∧ togO ds l = true := by
  unfold priceOk at h
  simp only [Bool.and_eq_true] at h
  refine ⟨?_, h.1.2⟩
  have hb : anyF (badF xs ship at_) (selO ds l) = false := by simpa using h.2
  unfold anyF at hb
  rw [List.any_eq_false] at hb
  have hf : l.filter (fitAt ds xs ship at_) = l := by
    rw [List.filter_eq_self]
    intro i hi
    have hlt := hl.lt i hi
    unfold fitAt
    rw [List.getElem?_eq_getElem hlt]
    have := hb ds[i] (List.mem_filterMap.2 ⟨i, hi, List.getElem?_eq_getElem hlt⟩)
    simpa using this
  have := hl.filter (fitAt ds xs ship at_)
  rw [hf] at this
  exact this
/-- The best choice is not beaten. -/
theorem best_law {ds : List OfD} {xs : List ItD} {ship at_ : Int} {best l : List Nat} (h : BestS ds xs ship (usF ds xs ship at_) (2 ^ (usF ds xs ship at_).length) best) (hl : Places ds l) (hk : priceOk (selO ds l) xs ship at_ = true) :
    noMore (totO ds xs ship best, best.length) (totO ds xs ship l, l.length) := by
  obtain ⟨h1, h2⟩ := sub_of_ok hl hk
  have e := filter_sub h1 (usF_nodup _ _ _ _)
  rw [← selM_mask] at e
  have := h.least _ (maskF_lt (fun i => decide (i ∈ l)) (usF ds xs ship at_)) (by rw [e]; exact h2)
  rw [e] at this
  exact this
end Go.Proofs.YtihcmifikbkbcaaGreat

/- Comparing choices, and prices that are the same. -/
namespace Go.Proofs.YtihcmifikbkbcaaGreat
set_option linter.unusedVariables false
open Go.RowKit
set_option maxHeartbeats 2000000 in
theorem compareN_any (H : Frz) (A : Option Addr) (cap : Nat) (l : List Nat) (A2 : Option Addr) (cap2 : Nat) (l2 : List Nat) (w : World) (hH : H.In w) (hR : Rw H A 1 fN l) (hR2 : Rw H A2 1 fN l2) (hl : l.length ≤ 1000000) (hl2 : l2.length ≤ 1000000) :
    Calls Tryz.prog 36 #[.slice A l.length cap, .slice A2 l2.length cap2] w fun e w' => ∃ r : Int, e = .returned (.int .i64 r) ∧ w' = w := by
  have HR := Lib.hid hR
  have HR2 := Lib.hid hR2
  have HIN := Lib.hid hH
  clear hR hR2 hH
  go_enter Tryz.func36, Tryz.ntmps36
  go_wp2_with fail
  go_loop [11] (fun t => ∃ i : Nat, i ≤ l.length ∧ t = .int .i64 i) (fun t => l.length - (intOf t).toNat)
  case atStart => exact ⟨0, by omega, rfl⟩
  case round =>
    obtain ⟨i, hi, rfl⟩ := hrel
    by_cases hlt : i < l.length
    · obtain ⟨b, off, hA, hbl, hc0⟩ := HR.out.at_ HIN.out hlt (by omega)
      have c0 : w.cell? ⟨b, off + i, none⟩ = some (.int .i64 (l[i] : Nat)) := by simpa [fN] using hc0 0 (by omega)
      subst hA
      clear hc0
      have hlt2 : (i : Int) < l.length := by omega
      generalize l[i] = x at *
      by_cases hlt3 : i < l2.length
      · obtain ⟨b2, off2, hA2, hbl2, hd0⟩ := HR2.out.at_ HIN.out hlt3 (by omega)
        have d0 : w.cell? ⟨b2, off2 + i, none⟩ = some (.int .i64 (l2[i] : Nat)) := by simpa [fN] using hd0 0 (by omega)
        subst hA2
        clear hd0
        have hlt4 : ¬ (l2.length : Int) ≤ (i : Int) := by omega
        have hlt5 : (i : Int) < l2.length := by omega
        generalize l2[i] = y at *
        go_wp2_with fail
        refine (cmpInt_any _ _ _).mono ?_
        rintro e w' ⟨rfl, hw⟩
        obtain rfl := hw.symm
        generalize cmpI (x : Int) (y : Int) = q
        by_cases hq : q = 0
        · subst hq
          go_wp2_with fail
          go_round
          case rel => exact ⟨i + 1, by omega, by go_num⟩
          case measure => simp [intOf]; omega
        · have hq2 : (q != 0) = true := by simpa using hq
          go_wp2_with fail
          go_ret
          first | exact ⟨⟨_, rfl⟩, rfl⟩ | exact ⟨_, rfl, rfl⟩
      · have hlt4 : (l2.length : Int) ≤ (i : Int) := by omega
        go_wp2_with fail
        go_ret
        first | exact ⟨⟨_, rfl⟩, rfl⟩ | exact ⟨_, rfl, rfl⟩
    · have hlt2 : ¬ (i : Int) < l.length := by omega
      by_cases hll : (l.length : Int) < l2.length
      · go_wp2_with fail
        go_ret
        first | exact ⟨⟨_, rfl⟩, rfl⟩ | exact ⟨_, rfl, rfl⟩
      · go_wp2_with fail
        go_ret
        first | exact ⟨⟨_, rfl⟩, rfl⟩ | exact ⟨_, rfl, rfl⟩
set_option maxHeartbeats 2000000 in
theorem equalN_any (H : Frz) (A : Option Addr) (cap : Nat) (l : List Nat) (A2 : Option Addr) (cap2 : Nat) (w : World) (hH : H.In w) (hR : Rw H A 1 fN l) (hR2 : Rw H A2 1 fN l) (hl : l.length ≤ 1000000) :
    Calls Tryz.prog 37 #[.slice A l.length cap, .slice A2 l.length cap2] w fun e w' => e = .returned (.bool true) ∧ Below w.heap.size w w' := by
  have HR := Lib.hid hR
  have HR2 := Lib.hid hR2
  have HIN := Lib.hid hH
  have k0 : ((l.length : Int) != (l.length : Int)) = false := by simp
  clear hR hR2 hH
  go_enter Tryz.func37, Tryz.ntmps37
  go_wp2_with fail
  clear k0
  go_loopw [5, 13] (fun _ t wr => ∃ i : Nat, i ≤ l.length ∧ t = .int .i64 i ∧ Hid (Below w.heap.size w wr)) (fun _ t _ => l.length - (intOf t).toNat)
  case atStart => exact ⟨0, by omega, rfl, Below.refl _ _⟩
  case round =>
    obtain ⟨i, hi, rfl, hb⟩ := hrel
    by_cases hlt : i < l.length
    · obtain ⟨b, off, hA, hbl, hc0⟩ := HR.out.at_ (HIN.out.below hb.out) hlt (by omega)
      obtain ⟨b2, off2, hA2, hbl2, hd0⟩ := HR2.out.at_ (HIN.out.below hb.out) hlt (by omega)
      have c0 : wr.cell? ⟨b, off + i, none⟩ = some (.int .i64 (l[i] : Nat)) := by simpa [fN] using hc0 0 (by omega)
      have d0 : wr.cell? ⟨b2, off2 + i, none⟩ = some (.int .i64 (l[i] : Nat)) := by simpa [fN] using hd0 0 (by omega)
      subst hA hA2
      clear hc0 hd0
      have hlt2 : (i : Int) < l.length := by omega
      generalize l[i] = x at *
      go_wp2_with fail
      go_quiet (fail)
      have HB1 := Lib.hid (fun n => below_drewN hb.out n)
      go_wp2_with fail
      go_roundw
      case rel => exact ⟨i + 1, by omega, by go_num, Lib.hid (HB1.out _)⟩
      case measure => simp [intOf]; omega
    · have hie : i = l.length := by omega
      subst hie
      go_wp2_with fail
      go_ret
      exact ⟨rfl, hb.out⟩
set_option maxHeartbeats 2000000 in
theorem equalTk_any (H : Frz) (A : Option Addr) (cap : Nat) (l : List (ByteArray × Nat)) (A2 : Option Addr) (cap2 : Nat) (w : World) (hH : H.In w) (hR : Rw H A 2 fTk l) (hR2 : Rw H A2 2 fTk l) (hl : l.length ≤ 1000000) :
    Calls Tryz.prog 38 #[.slice A l.length cap, .slice A2 l.length cap2] w fun e w' => e = .returned (.bool true) ∧ Below w.heap.size w w' := by
  have HR := Lib.hid hR
  have HR2 := Lib.hid hR2
  have HIN := Lib.hid hH
  have k0 : ((l.length : Int) != (l.length : Int)) = false := by simp
  clear hR hR2 hH
  go_enter Tryz.func38, Tryz.ntmps38
  go_wp2_with fail
  clear k0
  go_loopw [5, 13] (fun _ t wr => ∃ i : Nat, i ≤ l.length ∧ t = .int .i64 i ∧ Hid (Below w.heap.size w wr)) (fun _ t _ => l.length - (intOf t).toNat)
  case atStart => exact ⟨0, by omega, rfl, Below.refl _ _⟩
  case round =>
    obtain ⟨i, hi, rfl, hb⟩ := hrel
    by_cases hlt : i < l.length
    · obtain ⟨b, off, hA, hbl, hc0⟩ := HR.out.at_ (HIN.out.below hb.out) hlt (by omega)
      obtain ⟨b2, off2, hA2, hbl2, hd0⟩ := HR2.out.at_ (HIN.out.below hb.out) hlt (by omega)
      have c0 : wr.cell? ⟨b, off + i * 2, none⟩ = some (.string l[i].1) := hc0 0 (by omega)
      have c1 : wr.cell? ⟨b, off + i * 2 + 1, none⟩ = some (.int .i64 (l[i].2 : Nat)) := hc0 1 (by omega)
      have d0 : wr.cell? ⟨b2, off2 + i * 2, none⟩ = some (.string l[i].1) := hd0 0 (by omega)
      have d1 : wr.cell? ⟨b2, off2 + i * 2 + 1, none⟩ = some (.int .i64 (l[i].2 : Nat)) := hd0 1 (by omega)
      subst hA hA2
      clear hc0 hd0
      have hlt2 : (i : Int) < l.length := by omega
      generalize l[i].1 = x at *
      generalize l[i].2 = y at *
      go_wp2_with fail
      go_quiet (fail)
      have HB1 := Lib.hid (fun n => below_drewN hb.out n)
      go_wp2_with fail
      go_roundw
      case rel => exact ⟨i + 1, by omega, by go_num, Lib.hid (HB1.out _)⟩
      case measure => simp [intOf]; omega
    · have hie : i = l.length := by omega
      subst hie
      go_wp2_with fail
      go_ret
      exact ⟨rfl, hb.out⟩
/-- A price, laid for good. -/
def PricedF (H : Frz) (ds : List OfD) (xs : List ItD) (ship : Int) (v : Value) : Prop :=
  ∃ (Al : Option Addr) (cl : Nat) (Ac : Option Addr) (cc : Nat), v = .agg #[.slice Al (endS ds xs ship).left.length cl, .int .i64 ((endS ds xs ship).ship : Nat), .slice Ac (endT ds xs ship).length cc, .int .i64 (totS (endS ds xs ship) : Nat)] ∧
    Rw H Al 1 fN (endS ds xs ship).left ∧ Rw H Ac 2 fTk (endT ds xs ship)
theorem PricedF.le {H H' : Frz} {ds : List OfD} {xs : List ItD} {ship : Int} {v : Value} (h : PricedF H ds xs ship v) (l : H.Le H') : PricedF H' ds xs ship v := by
  obtain ⟨Al, cl, Ac, cc, e, h1, h2⟩ := h
  exact ⟨Al, cl, Ac, cc, e, h1.le l, h2.le l⟩
theorem PricedIn.freeze {B : Nat} {ds : List OfD} {xs : List ItD} {ship : Int} {v : Value} {w : World} (h : PricedIn B ds xs ship v w) {H : Frz} (hH : H.In w) (hno : ∀ b, B ≤ b → H b = none) :
    ∃ H', H.Le H' ∧ H'.In w ∧ PricedF H' ds xs ship v ∧ (∀ b, b < B → H' b = H b) := by
  obtain ⟨vl, vc, rfl, hOl, hOc, hap⟩ := h
  obtain ⟨Al, capl, H6, hvl, hlel, q1, q2, hRl, q3⟩ := Orow.freezeN hOl H
  obtain ⟨Ac, capc, H7, hvc, hlecc, r1, r2, hRc, r3⟩ := Orow.freezeN hOc H6
  have h56 := q2 (fun g hg => hno g (Orow.lt hOl hg).1)
  have h67 := r2 (fun g hg => by
    rw [q3 g (fun e => ?_)]
    · exact hno g (Orow.lt hOc hg).1
    · rcases hap with h | h | h
      · rw [h] at e; cases e
      · rw [h] at hg; cases hg
      · exact h (e.trans hg.symm))
  refine ⟨H7, h56.trans h67, r1 (q1 hH), ⟨Al, capl, Ac, capc, by rw [hvl, hvc], hRl.le h67, hRc⟩, fun b hb => ?_⟩
  rw [r3 b (fun e => by have := (Orow.lt hOc e).1; omega), q3 b (fun e => by have := (Orow.lt hOl e).1; omega)]
set_option maxHeartbeats 4000000 in
theorem samePriced_any (H : Frz) (ds : List OfD) (xs : List ItD) (ship : Int) (v v2 : Value) (w : World) (hH : H.In w) (h1 : PricedF H ds xs ship v) (h2 : PricedF H ds xs ship v2) (hl : (endS ds xs ship).left.length ≤ 1000) (hl2 : (endT ds xs ship).length ≤ 1000) :
    Calls Tryz.prog 14 #[v, v2] w fun e w' => e = .returned (.bool true) ∧ Below w.heap.size w w' := by
  obtain ⟨Al, cl, Ac, cc, rfl, hRl, hRc⟩ := h1
  obtain ⟨Al2, cl2, Ac2, cc2, rfl, hRl2, hRc2⟩ := h2
  generalize endS ds xs ship = sE at *
  generalize endT ds xs ship = tk at *
  generalize totS sE = tot at *
  generalize sE.left = lE at *
  generalize sE.ship = sh at *
  have HB0 := Lib.hid (new2 (w := w) (.cells #[.slice Al lE.length cl, .int .i64 (sh : Nat), .slice Ac tk.length cc, .int .i64 (tot : Nat)] 35) (.cells #[.slice Al2 lE.length cl2, .int .i64 (sh : Nat), .slice Ac2 tk.length cc2, .int .i64 (tot : Nat)] 35))
  have hx : ((w.alloc (.cells #[.slice Al lE.length cl, .int .i64 (sh : Nat), .slice Ac tk.length cc, .int .i64 (tot : Nat)] 35)).alloc (.cells #[.slice Al2 lE.length cl2, .int .i64 (sh : Nat), .slice Ac2 tk.length cc2, .int .i64 (tot : Nat)] 35)).heap[w.heap.size]? = _ := (heap_lt (by simp)).trans (heap_alloc_new _ _)
  have hy : ((w.alloc (.cells #[.slice Al lE.length cl, .int .i64 (sh : Nat), .slice Ac tk.length cc, .int .i64 (tot : Nat)] 35)).alloc (.cells #[.slice Al2 lE.length cl2, .int .i64 (sh : Nat), .slice Ac2 tk.length cc2, .int .i64 (tot : Nat)] 35)).heap[w.heap.size + 1]? = some (.cells #[.slice Al2 lE.length cl2, .int .i64 (sh : Nat), .slice Ac2 tk.length cc2, .int .i64 (tot : Nat)] 35 (0, 0)) := by
    have := heap_alloc_new (w.alloc (.cells #[.slice Al lE.length cl, .int .i64 (sh : Nat), .slice Ac tk.length cc, .int .i64 (tot : Nat)] 35)) (.cells #[.slice Al2 lE.length cl2, .int .i64 (sh : Nat), .slice Ac2 tk.length cc2, .int .i64 (tot : Nat)] 35)
    simpa using this
  have HX := Lib.hid hx
  have HY := Lib.hid hy
  have HIN := Lib.hid ((hH.alloc (.cells #[.slice Al lE.length cl, .int .i64 (sh : Nat), .slice Ac tk.length cc, .int .i64 (tot : Nat)] 35)).alloc (.cells #[.slice Al2 lE.length cl2, .int .i64 (sh : Nat), .slice Ac2 tk.length cc2, .int .i64 (tot : Nat)] 35))
  have HE1 := Lib.hid (fun W (hW : H.In W) => equalN_any H Al cl lE Al2 cl2 W hW hRl hRl2 (by omega))
  have HE2 := Lib.hid (fun W (hW : H.In W) => equalTk_any H Ac cc tk Ac2 cc2 W hW hRc hRc2 (by omega))
  clear hx hy hH hRl hRl2 hRc hRc2
  go_enter Tryz.func14, Tryz.ntmps14
  go_upto_region 1 with (fail)
  generalize (w.alloc (.cells #[.slice Al lE.length cl, .int .i64 (sh : Nat), .slice Ac tk.length cc, .int .i64 (tot : Nat)] 35)).alloc (.cells #[.slice Al2 lE.length cl2, .int .i64 (sh : Nat), .slice Ac2 tk.length cc2, .int .i64 (tot : Nat)] 35) = W0 at *
  have x0 := cell_h HX.out 0 (v := .slice Al lE.length cl) rfl
  have y0 := cell_h HY.out 0 (v := .slice Al2 lE.length cl2) rfl
  go_wp2_with fail
  refine (HE1.out _ HIN.out).mono ?_
  rintro e W1 ⟨rfl, hb1⟩
  have HB1 := Lib.hid (HB0.out.trans (hb1.mono HB0.out.size))
  have HIN1 := Lib.hid (HIN.out.below hb1)
  have HX1 := Lib.hid ((hb1.block _ (lt_of_heap HX.out)).trans HX.out)
  have HY1 := Lib.hid ((hb1.block _ (lt_of_heap HY.out)).trans HY.out)
  clear hb1 x0 y0 HB0 HIN HX HY HE1
  have x1 := cell_h HX1.out 1 (v := .int .i64 (sh : Nat)) rfl
  have y1 := cell_h HY1.out 1 (v := .int .i64 (sh : Nat)) rfl
  have x2 := cell_h HX1.out 2 (v := .slice Ac tk.length cc) rfl
  have y2 := cell_h HY1.out 2 (v := .slice Ac2 tk.length cc2) rfl
  have k1 : ((sh : Int) == (sh : Int)) = true := by simp
  go_wp2_with fail
  refine (HE2.out _ HIN1.out).mono ?_
  rintro e W2 ⟨rfl, hb2⟩
  have HB2 := Lib.hid (HB1.out.trans (hb2.mono HB1.out.size))
  have x3 := cell_h ((hb2.block _ (lt_of_heap HX1.out)).trans HX1.out) 3 (v := .int .i64 (tot : Nat)) rfl
  have y3 := cell_h ((hb2.block _ (lt_of_heap HY1.out)).trans HY1.out) 3 (v := .int .i64 (tot : Nat)) rfl
  clear hb2 x1 y1 x2 y2 k1 HB1 HIN1 HX1 HY1 HE2
  have k2 : ((tot : Int) == (tot : Int)) = true := by simp
  go_wp2_with fail
  go_ret
  exact ⟨rfl, HB2.out⟩
end Go.Proofs.YtihcmifikbkbcaaGreat

/- The best choice of offers. -/
namespace Go.Proofs.YtihcmifikbkbcaaGreat
set_option linter.unusedVariables false
open Go.RowKit
theorem OpV.loadm {P : Program} {o : Oper} {a : Act} {w : World} {R : Value → World → Prop} (ty : TypeId) (x : Operand) (ho : o.op = .load ty x) (b off : Nat) (hx : a.eval x = .pointer (some ⟨b, off, none⟩)) (cs : List Value) (d : TypeDesc) (hc : w.rangeAt b off cs)
    (hu : P.underlying ty = some d) (hd : d.isRow = true) (hi : (P.info? ty).map (·.size) = some cs.length) (h : R (.agg cs.toArray) w) : OpV P o a.eval w R := by
  unfold OpV execOp
  simp only [ho, hx, Instr.loadAt, Instr.sureAddr, Sem.run_bind, Sem.run_pure, Result.andThen_ok, run_loadVar_mid w b off ty cs d hc hu hd hi]
  exact h
theorem bit_fin : ∀ x : Fin 128, (bits .and .i64 ((x.val : Nat) : Int) 1 == 1) = decide (x.val % 2 = 1) := by decide +kernel
theorem bit_at {m k : Nat} (h : m < 128) : (bits .and .i64 ((m : Int) / 2 ^ k) 1 == 1) = decide (m / 2 ^ k % 2 = 1) := by
  have e : ((m : Int) / 2 ^ k) = ((m / 2 ^ k : Nat) : Int) := by simp
  rw [e]
  have := Nat.div_le_self m (2 ^ k)
  exact bit_fin ⟨m / 2 ^ k, by omega⟩
theorem shlN_val {n : Nat} (h : 2 ^ n ≤ 1152921504606846976) : wrap64 ((2 : Int) ^ n) = ((2 ^ n : Nat) : Int) := by
  have e : ((2 : Int) ^ n) = ((2 ^ n : Nat) : Int) := by simp
  rw [e]
  generalize 2 ^ n = m at h
  exact IntWalk.wrap64_in _ (by omega)
/-- What is so outside the inner loop. -/
structure BeO (H : Frz) (w : World) (pb : Nat) (c : Array Value) (wr : World) : Prop where
  inn : H.In wr
  bel : Below w.heap.size w wr
  blk : wr.heap[pb]? = some (.cells c 35 (0, 0))
  no : H pb = none
  ge : w.heap.size + 2 ≤ pb
  res : wr.heap[w.heap.size + 1]? = some (.cells #[.slice none 0 0, .int .i64 0, .slice none 0 0, .int .i64 0] 35 (0, 0))
  rno : H (w.heap.size + 1) = none
/-- .. and inside. -/
structure BeI (H : Frz) (w : World) (pb : Nat) (c : Array Value) (B : Nat) (ds : List OfD) (l : List Nat) (v16 v17 : Value) (wr : World) : Prop where
  o : BeO H w pb c wr
  r16 : Orow wr B 3 1 fN v16 l
  r17 : Orow wr B 50 12 fOf v17 (selO ds l)
  ap : apart v16 v17
  lo : ∀ b, B ≤ b → H b = none
  pB : pb < B
  hB : B ≤ wr.heap.size
section
variable {H : Frz} {w wr W' W0 W9 : World} {pb B : Nat} {c : Array Value} {ds : List OfD} {l : List Nat} {v16 v17 : Value}
theorem BeO.call (h : BeO H w pb c wr) (hb : Below wr.heap.size wr W') : BeO H w pb c W' := ⟨h.inn.below hb, h.bel.trans (hb.mono h.bel.size), (hb.block _ (lt_of_heap h.blk)).trans h.blk, h.no, h.ge, (hb.block _ (lt_of_heap h.res)).trans h.res, h.rno⟩
theorem BeO.laid {H' : Frz} (h : BeO H w pb c wr) (hi : H'.In wr) (hn : H' pb = none) (hr : H' (w.heap.size + 1) = none) : BeO H' w pb c wr := ⟨hi, h.bel, h.blk, hn, h.ge, h.res, hr⟩
theorem BeO.set {a0 a1 a2 a3 : Value} (h : BeO H w pb #[a0, a1, a2, a3] wr) : wr.cell? ⟨pb, 0, none⟩ = some a0 ∧ wr.cell? ⟨pb, 1, none⟩ = some a1 ∧ wr.cell? ⟨pb, 2, none⟩ = some a2 ∧ wr.cell? ⟨pb, 3, none⟩ = some a3 ∧
    wr.frozen? ⟨pb, 0, none⟩ = false ∧ wr.frozen? ⟨pb, 1, none⟩ = false ∧ wr.frozen? ⟨pb, 2, none⟩ = false ∧ wr.frozen? ⟨pb, 3, none⟩ = false ∧
    ∀ v0 v1 v2 v3 : Value, BeO H w pb #[v0, v1, v2, v3] (((((wr.setCell ⟨pb, 0, none⟩ v0).setCell ⟨pb, 1, none⟩ v1).setCell ⟨pb, 2, none⟩ v2).setCell ⟨pb, 3, none⟩ v3).drew) := by
  have hb := h.blk
  refine ⟨cell_h hb 0 rfl, cell_h hb 1 rfl, cell_h hb 2 rfl, cell_h hb 3 rfl, froz_h hb 0, froz_h hb 1, froz_h hb 2, froz_h hb 3, fun v0 v1 v2 v3 => ?_⟩
  obtain ⟨hg, hh⟩ := set4 hb v0 v1 v2 v3
  have hge := h.ge
  have hin := Frz.In.grown h.inn hg h.no
  exact ⟨hin, (h.bel.grown hg h.bel.size (fun q hq => by injection hq with hq; omega)).drew, hh, h.no, h.ge, (hg.block _ (lt_of_heap h.res) (fun e => by injection e with e; omega)).trans h.res, h.rno⟩
def tsBe (v16 v17 : Value) (B n : Nat) (x16 x17 y16 y17 : List Value) : List RowT := [⟨3, 74, v16, B, 3, 1, n, x16, n + 1, y16⟩, ⟨10, 81, v17, B, 50, 12, n, x17, n + 1, y17⟩]
theorem BeI.next (h : BeI H w pb c B ds l v16 v17 W0) (hl : (selO ds l).length = l.length) {i : Nat} (hi : i < ds.length) {L : Array Bool} {a : Act}
    (hW : RowsJ W0 (tsBe v16 v17 B l.length (cellsOf 1 fN l) (cellsOf 12 fOf (selO ds l)) (cellsOf 1 fN l ++ [.int .i64 i]) (cellsOf 12 fOf (selO ds l ++ [ds[i]]))) L a W9) (h3 : L.getD 3 false = true) (h10 : L.getD 10 false = true) {z16 z17 : Value} (e16 : a.tmps.getD 74 undef = z16) (e17 : a.tmps.getD 81 undef = z17) :
    BeI H w pb c B ds (l ++ [i]) z16 z17 W9 := by
  have hge : ∀ t ∈ tsBe v16 v17 B l.length (cellsOf 1 fN l) (cellsOf 12 fOf (selO ds l)) (cellsOf 1 fN l ++ [.int .i64 i]) (cellsOf 12 fOf (selO ds l ++ [ds[i]])), ∀ b, t.v.ownBlock = some b → B ≤ b := by
    intro t ht b hb
    simp only [tsBe, List.mem_cons, List.not_mem_nil, or_false] at ht
    rcases ht with rfl | rfl
    · exact (Orow.lt h.r16 hb).1
    · exact (Orow.lt h.r17 hb).1
  have o1 := hW.own ⟨3, 74, v16, B, 3, 1, l.length, cellsOf 1 fN l, l.length + 1, cellsOf 1 fN l ++ [.int .i64 i]⟩ (by simp [tsBe])
  have o2 := hW.own ⟨10, 81, v17, B, 50, 12, l.length, cellsOf 12 fOf (selO ds l), l.length + 1, cellsOf 12 fOf (selO ds l ++ [ds[i]])⟩ (by simp [tsBe])
  unfold RowT.own at o1 o2
  simp only [h3, h10, e16, e17, if_true] at o1 o2
  have ap := hW.apart
  simp only [tsBe, List.pairwise_cons, List.mem_cons, List.not_mem_nil, or_false] at ap
  have a1 := ap.1 _ rfl
  simp only [RowT.val, h3, h10, e16, e17, if_true] at a1
  have hpB := h.pB
  have hge0 := h.o.ge
  have hbel : Below B W0 W9 := hW.below h.hB hge
  refine ⟨⟨hW.inn h.o.inn (fun t ht b hb => h.lo b (hge t ht b hb)), h.o.bel.trans (hbel.mono (by omega)), (hW.keep pb (lt_of_heap h.o.blk) (fun t ht e => by have := hge t ht pb e; omega)).trans h.o.blk, h.o.no, h.o.ge, (hW.keep _ (lt_of_heap h.o.res) (fun t ht e => by have := hge t ht _ e; omega)).trans h.o.res, h.o.rno⟩, ?_, ?_, a1, h.lo, h.pB, Nat.le_trans h.hB hW.size⟩
  · show World.ownsRow _ _ _ _ _ _ _
    rw [cellsOf_snoc, show (l ++ [i]).length = l.length + 1 from by simp]
    exact o1
  · show World.ownsRow _ _ _ _ _ _ _
    rw [selO_snoc hi, show (selO ds l ++ [ds[i]]).length = l.length + 1 from by rw [List.length_append, hl]; rfl]
    exact o2
end
theorem results_tmp_row_tmp {P : Program} {fn : Func} {r p u : Tmp} {ty : TypeId} (h : fn.results = #[.tmp r, .cell p ty, .tmp u]) (tmps : Array Value) (w : World) (g : Nat) (t : TypeId) (cs : Array Value) (fr : Nat × Nat) (d : TypeDesc)
    (hp : tmps.getD p undef = .pointer (some ⟨g, 0, none⟩)) (hg : w.heap[g]? = some (.cells cs t fr))
    (hu : P.underlying ty = some d) (hd : (match d with | .struct _ | .array _ _ => true | _ => false) = true) (hi : (P.info? ty).map (·.size) = some cs.size) :
    (results fn tmps).run P w = .ok (.tuple #[tmps.getD r undef, .agg cs, tmps.getD u undef]) w := by
  have hp' : tmps[p]?.getD undef = .pointer (some ⟨g, 0, none⟩) := by rw [← Array.getD_eq_getD_getElem?]; exact hp
  simp only [results, h]
  simp [Result.andThen, hp', asAddr, run_loadVar_row w g t ty cs fr d hg hu hd hi]
theorem PricedF.tot {H : Frz} {ds : List OfD} {xs : List ItD} {ship : Int} {a b c : Value} {t : Nat} (h : PricedF H ds xs ship (.agg #[a, b, c, .int .i64 (t : Int)])) : t = totS (endS ds xs ship) := by
  obtain ⟨Al, cl, Ac, cc, e, _, _⟩ := h
  have e2 := congrArg (fun v => match v with | .agg cs => cs[3]? | _ => none) e
  simp at e2
  omega
/-- What Best tells. -/
def BestPost (ds : List OfD) (xs : List ItD) (ship at_ : Int) (w : World) (e : Ending) (w' : World) : Prop :=
  ((∃ c : Int, c ≠ 0 ∧ e = .returned (.tuple #[.slice none 0 0, zeroPr, .int .i64 c])) ∨ (checkB ds xs ship at_ = true ∧ ∃ (best : List Nat) (A : Option Addr) (cap : Nat) (v : Value) (H' : Frz), e = .returned (.tuple #[.slice A best.length cap, v, .int .i64 0]) ∧ best.length ≤ cap ∧ H'.In w' ∧ Rw H' A 1 fN best ∧ PricedF H' (selO ds best) xs ship v ∧ BestS ds xs ship (usF ds xs ship at_) (2 ^ (usF ds xs ship at_).length) best)) ∧ Below w.heap.size w w'
def φBe (S : Nat) (v16 v17 : Value) (A : Option Addr) (n cap : Nat) (i : Nat) (b off : Nat) (d : OfD) (j : Nat) (v : Value) (w : World) : Prop :=
  match j with
  | 0 => v = v16
  | 1 => v = .int .i64 i
  | 2 => TmpS S v #[.int .i64 i] 3 w
  | 3 => True
  | 4 => v = v17
  | 5 => v = .slice A n cap
  | 6 => v = .int .i64 i
  | 7 => v = .pointer (some ⟨b, off + i * 12, none⟩)
  | 8 => v = .agg #[.string d.key, .int .i64 d.kind, .int .i64 d.a, .int .i64 d.b, .slice d.ta d.tags.length d.tc, .int .i64 d.least, .int .i64 d.most, .string d.group, .bool d.alone, .int .i64 d.order, .int .i64 d.first, .int .i64 d.last]
  | 9 => TmpS S v #[.string d.key, .int .i64 d.kind, .int .i64 d.a, .int .i64 d.b, .slice d.ta d.tags.length d.tc, .int .i64 d.least, .int .i64 d.most, .string d.group, .bool d.alone, .int .i64 d.order, .int .i64 d.first, .int .i64 d.last] 50 w
  | 10 => True
  | _ => True
theorem φBe_mono {W0 : World} {v16 v17 : Value} {A : Option Addr} {n cap : Nat} {i : Nat} {b off : Nat} {d : OfD} (j : Nat) (x : Value) (w w' : World) (e : RowsE W0 w w') (h : φBe W0.heap.size v16 v17 A n cap i b off d j x w) : φBe W0.heap.size v16 v17 A n cap i b off d j x w' := by
  match j, h with
  | 0, h => exact h
  | 1, h => exact h
  | 2, h => exact TmpS.mono e h
  | 3, h => exact h
  | 4, h => exact h
  | 5, h => exact h
  | 6, h => exact h
  | 7, h => exact h
  | 8, h => exact h
  | 9, h => exact TmpS.mono e h
  | 10, h => exact h
  | j + 11, h => exact trivial
set_option maxHeartbeats 8000000 in
set_option maxRecDepth 100000 in
theorem Best_any (H : Frz) (A B : Option Addr) (cap capb : Nat) (ds : List OfD) (xs : List ItD) (ship at_ : Int) (w : World) (hH : H.In w) (hR : Rw H A 12 fOf ds) (hds : ∀ d ∈ ds, OfIn H d) (hl : ds.length ≤ 7) (hcap : ds.length ≤ cap)
    (hRx : Rw H B 4 fIt xs) (hxs : ∀ x ∈ xs, ItIn H x) (hxl : xs.length ≤ 19) (hcapb : xs.length ≤ capb) :
    Calls Tryz.prog 12 #[.slice A ds.length cap, .agg #[.slice B xs.length capb, .int .i64 ship], .int .i64 at_] w (BestPost ds xs ship at_ w) := by
  obtain ⟨i0, hi0, hz0, hz1, hz2⟩ := info_parts infoInt
  obtain ⟨io, hio, ho0, ho1, ho2⟩ := info_parts infoOf
  obtain ⟨H1, hle, hb1, hr1, hin1, hrz⟩ : ∃ H1 : Frz, H.Le H1 ∧ H1 w.heap.size = some (.cells #[.slice B xs.length capb, .int .i64 ship] 30 (0, 0)) ∧ H1 (w.heap.size + 1) = none ∧ H1.In ((w.alloc (.cells #[.slice B xs.length capb, .int .i64 ship] 30)).alloc (.cells #[.slice none 0 0, .int .i64 0, .slice none 0 0, .int .i64 0] 35)) ∧ ((w.alloc (.cells #[.slice B xs.length capb, .int .i64 ship] 30)).alloc (.cells #[.slice none 0 0, .int .i64 0, .slice none 0 0, .int .i64 0] 35)).heap[w.heap.size + 1]? = some (.cells #[.slice none 0 0, .int .i64 0, .slice none 0 0, .int .i64 0] 35 (0, 0)) := by
    obtain ⟨Ha, la, ea, ia⟩ := hH.put (.cells #[.slice B xs.length capb, .int .i64 ship] 30)
    have e2 : (w.alloc (.cells #[.slice B xs.length capb, .int .i64 ship] 30)).heap.size = w.heap.size + 1 := by simp
    have e3 := heap_alloc_new (w.alloc (.cells #[.slice B xs.length capb, .int .i64 ship] 30)) (.cells #[.slice none 0 0, .int .i64 0, .slice none 0 0, .int .i64 0] 35)
    rw [e2] at e3
    exact ⟨Ha, la, ea, ia.none_ (by omega), ia.alloc _, e3⟩
  have HB0 : Hid (Below w.heap.size w ((w.alloc (.cells #[.slice B xs.length capb, .int .i64 ship] 30)).alloc (.cells #[.slice none 0 0, .int .i64 0, .slice none 0 0, .int .i64 0] 35))) := new2 _ _
  have HDS : Hid (∀ d ∈ ds, OfIn H1 d) := fun d hd => (hds d hd).le hle
  have HXS : Hid (∀ x ∈ xs, ItIn H1 x) := fun x hx => (hxs x hx).le hle
  have HR := Lib.hid (hR.le hle)
  have HRX := Lib.hid (hRx.le hle)
  have HIN := Lib.hid hin1
  have HB1 := Lib.hid hb1
  have HR1 := Lib.hid hr1
  have HRZ := Lib.hid hrz
  have HC := Lib.hid (fun W (hW : H1.In W) => checkAll_any H1 A B cap capb ds xs ship at_ W hW HR.out HDS.out (by omega) hcap HRX.out HXS.out (by omega) hcapb)
  have HCK := Lib.hid (fun h => checkB_ok (ds := ds) (xs := xs) (ship := ship) (at_ := at_) h)
  have HWS : Hid (((w.alloc (.cells #[.slice B xs.length capb, .int .i64 ship] 30)).alloc (.cells #[.slice none 0 0, .int .i64 0, .slice none 0 0, .int .i64 0] 35)).heap.size = w.heap.size + 2) := by show _ = _; simp
  have HNO1 : Hid (∀ b, w.heap.size + 2 ≤ b → H1 b = none) := fun b hb => hin1.none_ (by rw [HWS.out]; exact hb)
  clear hH hR hds hRx hxs hle hb1 hr1 hin1 hrz
  go_enter Tryz.func12, Tryz.ntmps12
  go_upto_region 1 with (fail)
  generalize (w.alloc (.cells #[.slice B xs.length capb, .int .i64 ship] 30)).alloc (.cells #[.slice none 0 0, .int .i64 0, .slice none 0 0, .int .i64 0] 35) = W0 at *
  have hk := HIN.out _ _ HB1.out
  have b0 := cell_h hk 0 (v := .slice B xs.length capb) rfl
  have b1 := cell_h hk 1 (v := .int .i64 ship) rfl
  clear hk
  go_wp2_with fail
  refine (HC.out _ HIN.out).mono ?_
  rintro e W1 ⟨n, rfl, hn, hbW⟩
  have HBB := Lib.hid (HB0.out.trans (hbW.mono HB0.out.size))
  have HIN1 := Lib.hid (HIN.out.below hbW)
  have HS1 : Hid (w.heap.size + 2 ≤ W1.heap.size) := by show _ ≤ _; have := hbW.size; have := HWS.out; omega
  have HRZ1 := Lib.hid ((hbW.block _ (lt_of_heap HRZ.out)).trans HRZ.out)
  clear hbW HB0 HIN b0 b1 HWS HC HRZ
  cases hq : checkB ds xs ship at_ with
  | false =>
    rw [hq] at hn
    have hn0 : (n != 0) = true := by simp; intro c; have := hn.1 c; cases this
    have hn1 : n ≠ 0 := by simpa using hn0
    have hr4 := HRZ1.out
    have r0 := cell_h hr4 0 (v := .slice none 0 0) rfl
    have r1 := cell_h hr4 1 (v := .int .i64 0) rfl
    have r2 := cell_h hr4 2 (v := .slice none 0 0) rfl
    have r3 := cell_h hr4 3 (v := .int .i64 0) rfl
    have f0 := froz_h hr4 0
    have f1 := froz_h hr4 1
    have f2 := froz_h hr4 2
    have f3 := froz_h hr4 3
    clear hn hr4
    go_wp2_with fail
    (try simp only [Exit.inBlock, Exit.then])
    obtain ⟨hg9, hh9⟩ := set4 HRZ1.out (.slice none 0 0) (.int .i64 0) (.slice none 0 0) (.int .i64 0)
    refine bodyPost_ret (results_tmp_row_tmp rfl _ _ (w.heap.size + 1) 35 _ (0, 0) _ rfl hh9 Tryz.underlying35 rfl (by kernel_rfl)) rfl ?_
    exact ⟨Or.inl ⟨n, hn1, rfl⟩, HBB.out.grown hg9 HBB.out.size (fun q hq => by injection hq with hq; omega)⟩
  | true =>
    have hn1 : n = 0 := hn.2 hq
    subst hn1
    obtain ⟨hok, hbd, hs0, hs1⟩ := HCK.out hq
    have HQ := Lib.hid hq
    have HPB := Lib.hid hbd
    have HOF := Lib.hid hok
    clear hn hok hbd hq
    have HUS : Hid (∀ i, i ≤ ds.length → ((List.range i).filter (fitAt ds xs ship at_)).length ≤ i) := fun i hi => by
      have := List.length_filter_le (fitAt ds xs ship at_) (List.range i)
      simpa using this
    have J0 : Hid (Orow W1 W1.heap.size 3 1 fN (.slice none 0 0) ((List.range 0).filter (fitAt ds xs ship at_))) := Orow.nil _ _ _ _ _
    have JB0 : Hid (Below W1.heap.size W1 W1) := Below.refl _ _
    go_wp2_with fail
    go_loopw [10, 31] (fun v t wr => ∃ i : Nat, i ≤ ds.length ∧ t = .int .i64 i ∧ Hid (Orow wr W1.heap.size 3 1 fN v ((List.range i).filter (fitAt ds xs ship at_))) ∧ Hid (Below W1.heap.size W1 wr)) (fun _ t _ => ds.length - (intOf t).toNat)
    case atStart => exact ⟨0, by omega, rfl, J0, JB0⟩
    case round =>
      clear J0 JB0
      obtain ⟨i, hi, rfl, J, JB⟩ := hrel
      have HINr := Lib.hid (HIN1.out.below JB.out)
      by_cases hlt : i < ds.length
      · obtain ⟨b, off, hA, _, hc⟩ := HR.out.at_ HINr.out hlt (by omega)
        subst hA
        have c0 : wr.cell? ⟨b, off + i * 12, none⟩ = some (.string ds[i].key) := hc 0 (by omega)
        have c1 : wr.cell? ⟨b, off + i * 12 + 1, none⟩ = some (.int .i64 ds[i].kind) := hc 1 (by omega)
        have c2 : wr.cell? ⟨b, off + i * 12 + 2, none⟩ = some (.int .i64 ds[i].a) := hc 2 (by omega)
        have c3 : wr.cell? ⟨b, off + i * 12 + 3, none⟩ = some (.int .i64 ds[i].b) := hc 3 (by omega)
        have c4 : wr.cell? ⟨b, off + i * 12 + 4, none⟩ = some (.slice ds[i].ta ds[i].tags.length ds[i].tc) := hc 4 (by omega)
        have c5 : wr.cell? ⟨b, off + i * 12 + 5, none⟩ = some (.int .i64 ds[i].least) := hc 5 (by omega)
        have c6 : wr.cell? ⟨b, off + i * 12 + 6, none⟩ = some (.int .i64 ds[i].most) := hc 6 (by omega)
        have c7 : wr.cell? ⟨b, off + i * 12 + 7, none⟩ = some (.string ds[i].group) := hc 7 (by omega)
        have c8 : wr.cell? ⟨b, off + i * 12 + 8, none⟩ = some (.bool ds[i].alone) := hc 8 (by omega)
        have c9 : wr.cell? ⟨b, off + i * 12 + 9, none⟩ = some (.int .i64 ds[i].order) := hc 9 (by omega)
        have c10 : wr.cell? ⟨b, off + i * 12 + 10, none⟩ = some (.int .i64 ds[i].first) := hc 10 (by omega)
        have c11 : wr.cell? ⟨b, off + i * 12 + 11, none⟩ = some (.int .i64 ds[i].last) := hc 11 (by omega)
        have HDD := Lib.hid (HDS.out _ (List.getElem_mem hlt))
        have HFA : Hid (fitAt ds xs ship at_ i = !badF xs ship at_ ds[i]) := by show _ = _; unfold fitAt; rw [List.getElem?_eq_getElem hlt]
        have HFS : Hid ((List.range (i + 1)).filter (fitAt ds xs ship at_) = (List.range i).filter (fitAt ds xs ship at_) ++ (if fitAt ds xs ship at_ i = true then [i] else [])) := by
          show _ = _
          rw [List.range_succ, List.filter_append]
          congr 1
          cases h : fitAt ds xs ship at_ i <;> simp [h]
        have hul := HUS.out i hi
        have hlt2 : (i : Int) < ds.length := by omega
        clear hc
        generalize ds[i] = d at *
        generalize hu1 : (List.range (i + 1)).filter (fitAt ds xs ship at_) = u1 at HFS
        have HU1 := Lib.hid hu1
        clear hu1
        generalize (List.range i).filter (fitAt ds xs ship at_) = u0 at *
        have J2 := Lib.hid (Orow.below J.out (new1 (.cells #[.string d.key, .int .i64 d.kind, .int .i64 d.a, .int .i64 d.b, .slice d.ta d.tags.length d.tc, .int .i64 d.least, .int .i64 d.most, .string d.group, .bool d.alone, .int .i64 d.order, .int .i64 d.first, .int .i64 d.last] 50)))
        have JB2 := Lib.hid (JB.out.trans ((new1 (w := wr) (.cells #[.string d.key, .int .i64 d.kind, .int .i64 d.a, .int .i64 d.b, .slice d.ta d.tags.length d.tc, .int .i64 d.least, .int .i64 d.most, .string d.group, .bool d.alone, .int .i64 d.order, .int .i64 d.first, .int .i64 d.last] 50)).mono JB.out.size))
        have C7 := Lib.hid (heap_alloc_new wr (.cells #[.string d.key, .int .i64 d.kind, .int .i64 d.a, .int .i64 d.b, .slice d.ta d.tags.length d.tc, .int .i64 d.least, .int .i64 d.most, .string d.group, .bool d.alone, .int .i64 d.order, .int .i64 d.first, .int .i64 d.last] 50))
        have HI2 := Lib.hid (HINr.out.alloc (.cells #[.string d.key, .int .i64 d.kind, .int .i64 d.a, .int .i64 d.b, .slice d.ta d.tags.length d.tc, .int .i64 d.least, .int .i64 d.most, .string d.group, .bool d.alone, .int .i64 d.order, .int .i64 d.first, .int .i64 d.last] 50))
        clear J JB HINr
        go_upto_region 8 with (fail)
        generalize wr.alloc (.cells #[.string d.key, .int .i64 d.kind, .int .i64 d.a, .int .i64 d.b, .slice d.ta d.tags.length d.tc, .int .i64 d.least, .int .i64 d.most, .string d.group, .bool d.alone, .int .i64 d.order, .int .i64 d.first, .int .i64 d.last] 50) = W2 at *
        generalize wr.heap.size = gd at *
        clear c0 c1 c2 c3 c4 c5 c6 c7 c8 c9 c10 c11
        have y0 := cell_h C7.out 0 (v := .string d.key) rfl
        have y1 := cell_h C7.out 1 (v := .int .i64 d.kind) rfl
        have y2 := cell_h C7.out 2 (v := .int .i64 d.a) rfl
        have y3 := cell_h C7.out 3 (v := .int .i64 d.b) rfl
        have y4 := cell_h C7.out 4 (v := .slice d.ta d.tags.length d.tc) rfl
        have y5 := cell_h C7.out 5 (v := .int .i64 d.least) rfl
        have y6 := cell_h C7.out 6 (v := .int .i64 d.most) rfl
        have y7 := cell_h C7.out 7 (v := .string d.group) rfl
        have y8 := cell_h C7.out 8 (v := .bool d.alone) rfl
        have y9 := cell_h C7.out 9 (v := .int .i64 d.order) rfl
        have y10 := cell_h C7.out 10 (v := .int .i64 d.first) rfl
        have y11 := cell_h C7.out 11 (v := .int .i64 d.last) rfl
        have hk := HI2.out _ _ HB1.out
        have b0 := cell_h hk 0 (v := .slice B xs.length capb) rfl
        have b1 := cell_h hk 1 (v := .int .i64 ship) rfl
        have HF := Lib.hid (fits_any H1 d B capb xs ship at_ W2 HI2.out HDD.out HRX.out HXS.out HPB.out (by omega))
        clear hk
        go_wp2_with fail
        refine HF.out.mono ?_
        rintro e W3 ⟨rfl, hb3⟩
        have J3 := Lib.hid (Orow.below J2.out hb3)
        have JB3 := Lib.hid (JB2.out.trans (hb3.mono JB2.out.size))
        clear hb3 J2 JB2 HF b0 b1 y0 y1 y2 y3 y4 y5 y6 y7 y8 y9 y10 y11 C7 HI2
        have HBF : Hid (badF xs ship at_ d = (fitsN d xs ship at_ != 0)) := rfl
        generalize fitsN d xs ship at_ = q at *
        by_cases hq0 : q = 0
        · subst hq0
          have hfa : fitAt ds xs ship at_ i = true := by rw [HFA.out, HBF.out]; rfl
          have HU2 := Lib.hid HFS.out
          rw [hfa, if_pos rfl] at HU2
          clear hfa HFS HFA HBF
          have hsz3 := JB3.out.size
          go_upto_region 10 with (at_builtin; refine wpList_app rfl _ _ 22 rfl W1.heap.size 3 i0 (.int .i64 0) 1 8 Tryz.underlying22 hi0 hz0 hz1 hz2 rfl (by decide) fN _ u0 rfl J3.out i #[.int .i64 i] 3 rfl rfl (by simp [Value.oneCell']) (by omega) (by omega) hsz3 ?_; intro v4 W4 ho4 hg4 hb4)
          have J4 := Lib.hid ho4
          have JB4 := Lib.hid (JB3.out.trans hb4)
          clear ho4 hg4 hb4
          rw [← HU2.out] at J4
          go_wp2_with fail
          go_roundw
          case rel => exact ⟨i + 1, by omega, by go_num, by rw [HU1.out]; exact J4, JB4⟩
          case measure => simp [intOf]; omega
        · have hq1 : (q == 0) = false := by simpa using hq0
          have hfa : ¬ fitAt ds xs ship at_ i = true := by rw [HFA.out, HBF.out]; simp [hq0]
          have HU2 := Lib.hid HFS.out
          rw [if_neg hfa, List.append_nil] at HU2
          rw [← HU2.out] at J3
          clear hfa HFS HFA HBF
          go_wp2_with fail
          go_roundw
          case rel => exact ⟨i + 1, by omega, by go_num, by rw [HU1.out]; exact J3, JB3⟩
          case measure => simp [intOf]; omega
      · have hie : i = ds.length := by omega
        subst hie
        have hJ := J.out
        have hul := usF_len ds xs ship at_
        have HUD : Hid ((List.range ds.length).filter (fitAt ds xs ship at_) = usF ds xs ship at_) := rfl
        rw [HUD.out] at hJ
        clear J
        obtain ⟨AU, capU, H2, hvu, hleu, q1, q2, hRU, q3⟩ := Orow.freezeN hJ H1
        have hno1 : ∀ b, W1.heap.size ≤ b → H1 b = none := fun b hb => HNO1.out b (by have := HS1.out; omega)
        have hl12 := q2 (fun g hg => hno1 g (Orow.lt hJ hg).1)
        have HIN2 := Lib.hid (q1 HINr.out)
        have HR2 : Hid (H2 (w.heap.size + 1) = none) := (q3 _ (fun e => by have := (Orow.lt hJ e).1; have := HS1.out; omega)).trans HR1.out
        have HRZ2 := Lib.hid ((JB.out.block _ (lt_of_heap HRZ1.out)).trans HRZ1.out)
        have HBK2 := Lib.hid (hl12 _ _ HB1.out)
        have HDS2 : Hid (∀ d ∈ ds, OfIn H2 d ∧ OfOk d) := fun d hd => ⟨(HDS.out d hd).le hl12, HOF.out d hd⟩
        have HDR2 := Lib.hid (HR.out.le hl12)
        have HXS2 : Hid (∀ x ∈ xs, ItIn H2 x) := fun x hx => (HXS.out x hx).le hl12
        have HRX2 := Lib.hid (HRX.out.le hl12)
        have HRU := Lib.hid hRU
        have HUSL : Hid (∀ i ∈ usF ds xs ship at_, i < ds.length) := fun i hi => usF_lt hi
        have HBR := Lib.hid (HBB.out.trans (JB.out.mono HBB.out.size))
        have HSr : Hid (w.heap.size + 2 ≤ wr.heap.size) := by show _ ≤ _; have := JB.out.size; have := HS1.out; omega
        subst hvu
        clear hJ q1 q2 q3 hno1 hl12 hRU hleu HINr JB HIN1 HBB HR HDS HRX HXS HB1 HR1 HUS HUD HS1 HRZ1
        generalize hU : usF ds xs ship at_ = U at *
        have HUE := Lib.hid hU
        clear hU
        have hk := HIN2.out _ _ HBK2.out
        have b0 := cell_h hk 0 (v := .slice B xs.length capb) rfl
        have b1 := cell_h hk 1 (v := .int .i64 ship) rfl
        clear hk
        have hu10 : ¬ (10 : Int) < (U.length : Int) := by omega
        have HP0 := Lib.hid (price_in H2 none 0 [] B capb xs ship wr HIN2.out Rw.nil (by intro d hd; cases hd) (by simp) HRX2.out HXS2.out HPB.out (by omega) hs0 hs1)
        go_wp2_with fail
        refine HP0.out.mono ?_
        rintro e W2 ⟨⟨v, rfl, hpr⟩, hb2⟩
        obtain ⟨H3, hl23, hin3, hpf, hn3⟩ := PricedIn.freeze hpr (HIN2.out.below hb2) (fun b hb => HIN2.out.none_ hb)
        obtain ⟨Al, cl, Ac, cc, rfl, hRl, hRc⟩ := hpf
        have HBR2 := Lib.hid (HBR.out.trans (hb2.mono HBR.out.size))
        have hrno3 : H3 (w.heap.size + 1) = none := (hn3 _ (by have := HSr.out; omega)).trans HR2.out
        have hrz3 := (hb2.block _ (lt_of_heap HRZ2.out)).trans HRZ2.out
        have hno3 : H3 W2.heap.size = none := hin3.none_ (Nat.le_refl _)
        have hge2 : w.heap.size ≤ W2.heap.size := HBR2.out.size
        have hgr2 : w.heap.size + 2 ≤ W2.heap.size := by have := HSr.out; have := hb2.size; omega
        have J0 : Hid (BeO H3 w W2.heap.size #[.slice Al (endS [] xs ship).left.length cl, .int .i64 ((endS [] xs ship).ship : Nat), .slice Ac (endT [] xs ship).length cc, .int .i64 (totS (endS [] xs ship) : Nat)] (W2.alloc (.cells #[.slice Al (endS [] xs ship).left.length cl, .int .i64 ((endS [] xs ship).ship : Nat), .slice Ac (endT [] xs ship).length cc, .int .i64 (totS (endS [] xs ship) : Nat)] 35))) :=
          ⟨hin3.alloc _, HBR2.out.trans ((new1 _).mono hge2), heap_alloc_new _ _, hno3, hgr2, (heap_lt (lt_of_heap hrz3)).trans hrz3, hrno3⟩
        have J1 : Hid (PricedF H3 (selO ds []) xs ship (.agg #[.slice Al (endS [] xs ship).left.length cl, .int .i64 ((endS [] xs ship).ship : Nat), .slice Ac (endT [] xs ship).length cc, .int .i64 (totS (endS [] xs ship) : Nat)])) := ⟨Al, cl, Ac, cc, rfl, hRl, hRc⟩
        have J2 := Lib.hid (BestS.start ds xs ship U)
        have HL23 := Lib.hid hl23
        clear hpr hb2 hl23 hin3 hn3 hRl hRc hno3 HP0 b0 b1 HBR HBR2 HIN2 hrno3 hrz3 HRZ2
        generalize (endS [] xs ship).left = lE at *
        generalize (endS [] xs ship).ship = sh at *
        generalize (endT [] xs ship) = tk at *
        generalize totS (endS [] xs ship) = tot at *
        go_upto_region 15 with (fail)
        generalize hW0 : W2.alloc (.cells #[.slice Al lE.length cl, .int .i64 (sh : Nat), .slice Ac tk.length cc, .int .i64 (tot : Nat)] 35) = W3 at *
        generalize W2.heap.size = pb at *
        go_wp2_with fail
        obtain ⟨NN, hNN⟩ : ∃ NN, NN = 2 ^ U.length := ⟨_, rfl⟩
        have hN1 : 1 ≤ NN := by rw [hNN]; exact Nat.one_le_two_pow
        have hN2 : NN ≤ 128 := by rw [hNN]; exact Nat.pow_le_pow_right (by omega) (show U.length ≤ 7 by omega)
        have hsh : wrap64 ((2 : Int) ^ U.length) = (NN : Int) := by rw [hNN]; exact shlN_val (by rw [← hNN]; omega)
        have HNN := Lib.hid hNN
        have HSH := Lib.hid hsh
        clear hNN hW0 hsh
        go_loopw [13, 15] (fun vb t wr => ∃ (m : Nat) (best : List Nat) (Ab : Option Addr) (cb : Nat) (H' : Frz) (c : Array Value), 1 ≤ m ∧ m ≤ NN ∧ t = .int .i64 m ∧ vb = .slice Ab best.length cb ∧ Hid (H2.Le H') ∧ Hid (BeO H' w pb c wr) ∧ Hid (Rw H' Ab 1 fN best) ∧ best.length ≤ cb ∧ Hid (PricedF H' (selO ds best) xs ship (.agg c)) ∧ Hid (BestS ds xs ship U m best)) (fun _ t _ => NN - (intOf t).toNat)
        case atStart => exact ⟨1, [], none, 0, H3, _, by omega, by omega, rfl, rfl, HL23, J0, Rw.nil, Nat.le_refl _, J1, J2⟩
        case round =>
          clear J0 J1 J2 HL23
          obtain ⟨m, best, Ab, cb, H4, c, hm1, hm2, rfl, rfl, HL24, J, JR, hcb, JP, JS⟩ := hrel
          by_cases hlt : m < NN
          · have hlt2 : (m : Int) < (NN : Int) := by omega
            have hsh := HSH.out
            go_upto_region 20 with (fail)
            clear hsh
            have HUT : Hid (∀ k, k ≤ U.length → (selM m (U.take k)).length ≤ k ∧ ∀ i ∈ selM m (U.take k), i < ds.length) := fun k hk => by
              refine ⟨Nat.le_trans (selM_len _ _) (by rw [List.length_take]; omega), fun i hi => HUSL.out i ?_⟩
              exact (List.take_sublist k U).subset ((selM_sub _ _).subset hi)
            have HSZr : Hid (w.heap.size + 2 ≤ wr.heap.size) := by show _ ≤ _; have := lt_of_heap J.out.blk; omega
            have J0 : Hid (BeI H4 w pb c wr.heap.size ds (selM m (U.take 0)) (.slice none 0 0) (.slice none 0 0) wr) := by
              show BeI _ _ _ _ _ _ _ _ _ _
              rw [show selM m (U.take 0) = [] from by rw [List.take_zero]; rfl]
              exact ⟨J.out, Orow.nil _ _ _ _ _, Orow.nil _ _ _ _ _, Or.inl rfl, fun b hb => J.out.inn.none_ hb, lt_of_heap J.out.blk, Nat.le_refl _⟩
            clear J
            generalize hBB : wr.heap.size = BB at *
            clear hBB
            go_wp2_with fail
            go_loopw [16, 17, 61] (fun v16 v17 t wq => ∃ k : Nat, k ≤ U.length ∧ t = .int .i64 k ∧ Hid (BeI H4 w pb c BB ds (selM m (U.take k)) v16 v17 wq)) (fun _ _ t _ => U.length - (intOf t).toNat)
            case atStart => exact ⟨0, by omega, rfl, J0⟩
            case round =>
              clear J0
              obtain ⟨k, hk, rfl, J⟩ := hrel
              by_cases hlk : k < U.length
              · obtain ⟨bU, offU, hAU, _, hcU⟩ := HRU.out.at_ (J.out.o.inn.le HL24.out) hlk (by omega)
                subst hAU
                have u0 : _ := hcU 0 (by omega)
                have HST := Lib.hid (selM_take m U k hlk)
                have HUK := Lib.hid (HUSL.out _ (List.getElem_mem hlk))
                have hlk2 : (k : Int) < U.length := by omega
                have ⟨hll, hlm⟩ := HUT.out k hk
                have HSL := Lib.hid (selO_len hlm)
                clear hcU hlm
                generalize U[k] = i at *
                simp only [fN, Nat.mul_one, Nat.add_zero] at u0
                generalize hl1 : selM m (U.take (k + 1)) = l1 at HST
                have HL1 := Lib.hid hl1
                clear hl1
                generalize selM m (U.take k) = l at *
                go_upto_region 23 with (fail)
                clear u0
                have hbit := bit_at (m := m) (k := k) (by omega)
                by_cases hbt : m / 2 ^ k % 2 = 1
                · rw [decide_eq_true hbt] at hbit
                  have HST2 : Hid (l1 = l ++ [i]) := by have := HST.out; rw [if_pos hbt] at this; exact this
                  clear hbt HST
                  go_upto_region 24 with (fail)
                  clear hbit
                  obtain ⟨b, off, hA, _, hc⟩ := HDR2.out.at_ (J.out.o.inn.le HL24.out) HUK.out (by omega)
                  subst hA
                  obtain ⟨d, hd⟩ : ∃ d, d = ds[i]'HUK.out := ⟨_, rfl⟩
                  have HDH : Hid (∀ W, H4.In W → W.rangeAt b (off + i * 12) [.string d.key, .int .i64 d.kind, .int .i64 d.a, .int .i64 d.b, .slice d.ta d.tags.length d.tc, .int .i64 d.least, .int .i64 d.most, .string d.group, .bool d.alone, .int .i64 d.order, .int .i64 d.first, .int .i64 d.last]) := fun W hW => by
                    obtain ⟨b', off', hA', _, hc'⟩ := HDR2.out.at_ (hW.le HL24.out) HUK.out (by omega)
                    simp only [Option.some.injEq, Addr.mk.injEq] at hA'
                    obtain ⟨rfl, rfl, _⟩ := hA'
                    intro j v hv
                    have hj : j < 12 := by have := (List.getElem?_eq_some_iff.1 hv).1; simpa using this
                    have := hc' j hj
                    rw [this, ← hd]
                    have hcs : j = 0 ∨ j = 1 ∨ j = 2 ∨ j = 3 ∨ j = 4 ∨ j = 5 ∨ j = 6 ∨ j = 7 ∨ j = 8 ∨ j = 9 ∨ j = 10 ∨ j = 11 := by omega
                    rcases hcs with rfl | rfl | rfl | rfl | rfl | rfl | rfl | rfl | rfl | rfl | rfl | rfl <;> exact hv
                  have hilt : (i : Int) < ds.length := by have := HUK.out; omega
                  clear hc
                  have hBwr := J.out.hB
                  generalize u16 = v16 at *
                  generalize u17 = v17 at *
                  have R16 := J.out.r16.own
                  have R17 := J.out.r17.own
                  rw [HSL.out] at R17
                  obtain ⟨x16, hx16⟩ : ∃ x, x = cellsOf 1 fN l := ⟨_, rfl⟩
                  obtain ⟨x17, hx17⟩ : ∃ x, x = cellsOf 12 fOf (selO ds l) := ⟨_, rfl⟩
                  rw [← hx16] at R16
                  rw [← hx17] at R17
                  have HPI : Hid (∀ (L : Array Bool) (a : Act) (W9 : World) (z16 z17 : Value), RowsJ wr (tsBe v16 v17 BB l.length x16 x17 (x16 ++ [.int .i64 i]) (x17 ++ [.string d.key, .int .i64 d.kind, .int .i64 d.a, .int .i64 d.b, .slice d.ta d.tags.length d.tc, .int .i64 d.least, .int .i64 d.most, .string d.group, .bool d.alone, .int .i64 d.order, .int .i64 d.first, .int .i64 d.last])) L a W9 → L.getD 3 false = true → L.getD 10 false = true → a.tmps.getD 74 undef = z16 → a.tmps.getD 81 undef = z17 → BeI H4 w pb c BB ds (l ++ [i]) z16 z17 W9) := fun L a W9 z16 z17 h1 h2 h3 h4 h5 => by
                    rw [hx16, hx17, show cellsOf 12 fOf (selO ds l) ++ [.string d.key, .int .i64 d.kind, .int .i64 d.a, .int .i64 d.b, .slice d.ta d.tags.length d.tc, .int .i64 d.least, .int .i64 d.most, .string d.group, .bool d.alone, .int .i64 d.order, .int .i64 d.first, .int .i64 d.last] = cellsOf 12 fOf (selO ds l ++ [ds[i]'HUK.out]) from by rw [cellsOf_snoc, ← hd]; rfl] at h1
                    exact J.out.next HSL.out HUK.out h1 h2 h3 h4 h5
                  clear hd
                  have HROWS : Hid (∀ t ∈ tsBe v16 v17 BB l.length x16 x17 (x16 ++ [.int .i64 i]) (x17 ++ [.string d.key, .int .i64 d.kind, .int .i64 d.a, .int .i64 d.b, .slice d.ta d.tags.length d.tc, .int .i64 d.least, .int .i64 d.most, .string d.group, .bool d.alone, .int .i64 d.order, .int .i64 d.first, .int .i64 d.last]), wr.ownsRow t.B t.T t.k t.v t.n t.xs) := by
                    intro t ht
                    simp only [tsBe, List.mem_cons, List.not_mem_nil, or_false] at ht
                    rcases ht with rfl | rfl
                    · exact R16
                    · exact R17
                  have HAPT : Hid ((tsBe v16 v17 BB l.length x16 x17 (x16 ++ [.int .i64 i]) (x17 ++ [.string d.key, .int .i64 d.kind, .int .i64 d.a, .int .i64 d.b, .slice d.ta d.tags.length d.tc, .int .i64 d.least, .int .i64 d.most, .string d.group, .bool d.alone, .int .i64 d.order, .int .i64 d.first, .int .i64 d.last])).Pairwise fun t u => apart t.v u.v) := by
                    show List.Pairwise _ _
                    simp only [tsBe, List.pairwise_cons, List.mem_cons, List.not_mem_nil, or_false]
                    refine ⟨?_, ?_, List.Pairwise.nil⟩
                    · rintro t rfl
                      exact J.out.ap
                    · rintro t h; cases h
                  have HLT0 : Hid (∀ g, v16.ownBlock = some g → g < wr.heap.size) := fun g hg => (World.ownsRow.lt R16 g hg).2
                  have HLT1 : Hid (∀ g, v17.ownBlock = some g → g < wr.heap.size) := fun g hg => (World.ownsRow.lt R17 g hg).2
                  have HGE : Hid (∀ t ∈ tsBe v16 v17 BB l.length x16 x17 (x16 ++ [.int .i64 i]) (x17 ++ [.string d.key, .int .i64 d.kind, .int .i64 d.a, .int .i64 d.b, .slice d.ta d.tags.length d.tc, .int .i64 d.least, .int .i64 d.most, .string d.group, .bool d.alone, .int .i64 d.order, .int .i64 d.first, .int .i64 d.last]), ∀ g, t.v.ownBlock = some g → BB ≤ g) := by
                    intro t ht g hg
                    simp only [tsBe, List.mem_cons, List.not_mem_nil, or_false] at ht
                    rcases ht with rfl | rfl
                    · exact (World.ownsRow.lt R16 g hg).1
                    · exact (World.ownsRow.lt R17 g hg).1
                  have HSZ : Hid (BB ≤ wr.heap.size) := hBwr
                  have HCC : Hid (∀ W L a, RowsJ wr (tsBe v16 v17 BB l.length x16 x17 (x16 ++ [.int .i64 i]) (x17 ++ [.string d.key, .int .i64 d.kind, .int .i64 d.a, .int .i64 d.b, .slice d.ta d.tags.length d.tc, .int .i64 d.least, .int .i64 d.most, .string d.group, .bool d.alone, .int .i64 d.order, .int .i64 d.first, .int .i64 d.last])) L a W → W.rangeAt b (off + i * 12) [.string d.key, .int .i64 d.kind, .int .i64 d.a, .int .i64 d.b, .slice d.ta d.tags.length d.tc, .int .i64 d.least, .int .i64 d.most, .string d.group, .bool d.alone, .int .i64 d.order, .int .i64 d.first, .int .i64 d.last]) := fun W L a h =>
                    HDH.out W (h.inn J.out.o.inn (fun t ht g hg => J.out.lo g (HGE.out t ht g hg)))
                  clear R16 R17
                  generalize wr = W0 at *
                  refine wp_region_concV 11 109 (φBe W0.heap.size v16 v17 (some ⟨b, off, none⟩) ds.length cap i b off d) (RowsJ W0 (tsBe v16 v17 BB l.length x16 x17 (x16 ++ [.int .i64 i]) (x17 ++ [.string d.key, .int .i64 d.kind, .int .i64 d.a, .int .i64 d.b, .slice d.ta d.tags.length d.tc, .int .i64 d.least, .int .i64 d.most, .string d.group, .bool d.alone, .int .i64 d.order, .int .i64 d.first, .int .i64 d.last]))) (RowsE W0) (by kernel_rfl) (by kernel_rfl) (by rfl) (RowsJ.start HROWS.out HAPT.out _ _) (fun i x w w' _ e h => φBe_mono i x w w' e h) (fun i x w hi e _ => absurd e (by have hcs : i = 0 ∨ i = 1 ∨ i = 2 ∨ i = 3 ∨ i = 4 ∨ i = 5 ∨ i = 6 ∨ i = 7 ∨ i = 8 ∨ i = 9 ∨ i = 10 := (by omega); rcases hcs with rfl | rfl | rfl | rfl | rfl | rfl | rfl | rfl | rfl | rfl | rfl <;> decide)) ?_ ?_
                  · intro n o hn ho a W2 L hr hsN hLs hJ hkn
                    replace hsN : a.tmps.size = 109 := hsN
                    have hcs : n = 0 ∨ n = 1 ∨ n = 2 ∨ n = 3 ∨ n = 4 ∨ n = 5 ∨ n = 6 ∨ n = 7 ∨ n = 8 ∨ n = 9 ∨ n = 10 := by omega
                    rcases hcs with rfl | rfl | rfl | rfl | rfl | rfl | rfl | rfl | rfl | rfl | rfl
                    · obtain rfl := Option.some.inj ho
                      refine OpV.mono (R := fun v w' => φBe W0.heap.size v16 v17 (some ⟨b, off, none⟩) ds.length cap i b off d 0 v w' ∧ Below W2.heap.size W2 w') ?_ (fun v w' h => ⟨h.1, hJ.step h.2 (rows_ne (li := [3, 10]) (ls := [74, 81]) rfl rfl (by decide) (by decide)) v, RowsE.of h.2⟩)
                      exact ⟨hkn 16 (by decide), Below.refl _ _⟩
                    · obtain rfl := Option.some.inj ho
                      refine OpV.mono (R := fun v w' => φBe W0.heap.size v16 v17 (some ⟨b, off, none⟩) ds.length cap i b off d 1 v w' ∧ Below W2.heap.size W2 w') ?_ (fun v w' h => ⟨h.1, hJ.step h.2 (rows_ne (li := [3, 10]) (ls := [74, 81]) rfl rfl (by decide) (by decide)) v, RowsE.of h.2⟩)
                      exact ⟨hkn 19 (by decide), Below.refl _ _⟩
                    · obtain rfl := Option.some.inj ho
                      refine OpV.mono (R := fun v w' => φBe W0.heap.size v16 v17 (some ⟨b, off, none⟩) ds.length cap i b off d 2 v w' ∧ Below W2.heap.size W2 w') ?_ (fun v w' h => ⟨h.1, hJ.step h.2 (rows_ne (li := [3, 10]) (ls := [74, 81]) rfl rfl (by decide) (by decide)) v, RowsE.of h.2⟩)
                      have h0 := slotv (hkn 72 (by decide) : a.tmps.getD 72 undef = .int .i64 (i : Nat))
                      clear hkn ho
                      simp only [OpV, execOp]
                      simp [go_sem, h0]
                      exact ⟨⟨W2.heap.size, rfl, hJ.size, heap_alloc_new _ _⟩, new1 _⟩
                    · obtain rfl := Option.some.inj ho
                      have h1 := slotv (hkn 71 (by decide) : a.tmps.getD 71 undef = v16)
                      obtain ⟨b, h2, hb0, hh⟩ : TmpS W0.heap.size (a.tmps.getD 73 undef) #[.int .i64 i] 3 W2 := hkn 73 (by decide)
                      replace h2 := slotv h2
                      refine OpV.mono (hJ.app (t := ⟨3, 74, v16, BB, 3, 1, l.length, x16, l.length + 1, x16 ++ [.int .i64 i]⟩) (by simp [tsBe]) rfl (ready_not hr (by show (3 : Nat) < L.size; rw [hLs]; decide)) (by show (3 : Nat) < L.size; rw [hLs]; decide) (by show (74 : Nat) < a.tmps.size; rw [hsN]; decide) (rows_other (li := [3, 10]) (ls := [74, 81]) rfl rfl (by decide) (by decide) (by simp [tsBe])) (nodup_of_map (f := RowT.i) (show ([3, 10] : List Nat).Nodup by decide)) (HLT0.out) (.tmp 71) (.tmp 73) 22 rfl i0 (.int .i64 0) 8 Tryz.underlying22 hi0 hz0 hz1 hz2 rfl (show (0 : Nat) < 1 by decide) (by simpa [Act.eval, tsBe] using h1) b #[.int .i64 i] 3 (by simpa [Act.eval] using h2) hh rfl (by simp [Value.oneCell']) rfl rfl (by show l.length ≤ _; omega) (by decide) (by have := HSZ.out; show BB ≤ _; omega)) (fun v w' h => ⟨trivial, h.1, h.2⟩)
                    · obtain rfl := Option.some.inj ho
                      refine OpV.mono (R := fun v w' => φBe W0.heap.size v16 v17 (some ⟨b, off, none⟩) ds.length cap i b off d 4 v w' ∧ Below W2.heap.size W2 w') ?_ (fun v w' h => ⟨h.1, hJ.step h.2 (rows_ne (li := [3, 10]) (ls := [74, 81]) rfl rfl (by decide) (by decide)) v, RowsE.of h.2⟩)
                      exact ⟨hkn 17 (by decide), Below.refl _ _⟩
                    · obtain rfl := Option.some.inj ho
                      refine OpV.mono (R := fun v w' => φBe W0.heap.size v16 v17 (some ⟨b, off, none⟩) ds.length cap i b off d 5 v w' ∧ Below W2.heap.size W2 w') ?_ (fun v w' h => ⟨h.1, hJ.step h.2 (rows_ne (li := [3, 10]) (ls := [74, 81]) rfl rfl (by decide) (by decide)) v, RowsE.of h.2⟩)
                      exact ⟨hkn 0 (by decide), Below.refl _ _⟩
                    · obtain rfl := Option.some.inj ho
                      refine OpV.mono (R := fun v w' => φBe W0.heap.size v16 v17 (some ⟨b, off, none⟩) ds.length cap i b off d 6 v w' ∧ Below W2.heap.size W2 w') ?_ (fun v w' h => ⟨h.1, hJ.step h.2 (rows_ne (li := [3, 10]) (ls := [74, 81]) rfl rfl (by decide) (by decide)) v, RowsE.of h.2⟩)
                      exact ⟨hkn 19 (by decide), Below.refl _ _⟩
                    · obtain rfl := Option.some.inj ho
                      refine OpV.mono (R := fun v w' => φBe W0.heap.size v16 v17 (some ⟨b, off, none⟩) ds.length cap i b off d 7 v w' ∧ Below W2.heap.size W2 w') ?_ (fun v w' h => ⟨h.1, hJ.step h.2 (rows_ne (li := [3, 10]) (ls := [74, 81]) rfl rfl (by decide) (by decide)) v, RowsE.of h.2⟩)
                      have h0 := slotv (hkn 76 (by decide) : a.tmps.getD 76 undef = .slice (some ⟨b, off, none⟩) ds.length cap)
                      have h1 := slotv (hkn 77 (by decide) : a.tmps.getD 77 undef = .int .i64 (i : Nat))
                      clear hkn ho
                      simp only [OpV, execOp]
                      simp [go_sem, h0, h1, hilt]
                      exact ⟨rfl, Below.refl _ _⟩
                    · obtain rfl := Option.some.inj ho
                      refine OpV.mono (R := fun v w' => φBe W0.heap.size v16 v17 (some ⟨b, off, none⟩) ds.length cap i b off d 8 v w' ∧ Below W2.heap.size W2 w') ?_ (fun v w' h => ⟨h.1, hJ.step h.2 (rows_ne (li := [3, 10]) (ls := [74, 81]) rfl rfl (by decide) (by decide)) v, RowsE.of h.2⟩)
                      have h0 := slotv (hkn 78 (by decide) : a.tmps.getD 78 undef = .pointer (some ⟨b, off + i * 12, none⟩))
                      exact OpV.loadm 50 (.tmp 78) rfl b (off + i * 12) (by simpa [Act.eval] using h0) [.string d.key, .int .i64 d.kind, .int .i64 d.a, .int .i64 d.b, .slice d.ta d.tags.length d.tc, .int .i64 d.least, .int .i64 d.most, .string d.group, .bool d.alone, .int .i64 d.order, .int .i64 d.first, .int .i64 d.last] _ (HCC.out W2 _ _ hJ) Tryz.underlying50 rfl (by kernel_rfl) ⟨rfl, Below.refl _ _⟩
                    · obtain rfl := Option.some.inj ho
                      refine OpV.mono (R := fun v w' => φBe W0.heap.size v16 v17 (some ⟨b, off, none⟩) ds.length cap i b off d 9 v w' ∧ Below W2.heap.size W2 w') ?_ (fun v w' h => ⟨h.1, hJ.step h.2 (rows_ne (li := [3, 10]) (ls := [74, 81]) rfl rfl (by decide) (by decide)) v, RowsE.of h.2⟩)
                      have h0 := slotv (hkn 79 (by decide) : a.tmps.getD 79 undef = .agg #[.string d.key, .int .i64 d.kind, .int .i64 d.a, .int .i64 d.b, .slice d.ta d.tags.length d.tc, .int .i64 d.least, .int .i64 d.most, .string d.group, .bool d.alone, .int .i64 d.order, .int .i64 d.first, .int .i64 d.last])
                      clear hkn ho
                      simp only [OpV, execOp]
                      simp [go_sem, h0]
                      exact ⟨⟨W2.heap.size, rfl, hJ.size, heap_alloc_new _ _⟩, new1 _⟩
                    · obtain rfl := Option.some.inj ho
                      have h1 := slotv (hkn 75 (by decide) : a.tmps.getD 75 undef = v17)
                      obtain ⟨b, h2, hb0, hh⟩ : TmpS W0.heap.size (a.tmps.getD 80 undef) #[.string d.key, .int .i64 d.kind, .int .i64 d.a, .int .i64 d.b, .slice d.ta d.tags.length d.tc, .int .i64 d.least, .int .i64 d.most, .string d.group, .bool d.alone, .int .i64 d.order, .int .i64 d.first, .int .i64 d.last] 50 W2 := hkn 80 (by decide)
                      replace h2 := slotv h2
                      refine OpV.mono (hJ.app (t := ⟨10, 81, v17, BB, 50, 12, l.length, x17, l.length + 1, x17 ++ [.string d.key, .int .i64 d.kind, .int .i64 d.a, .int .i64 d.b, .slice d.ta d.tags.length d.tc, .int .i64 d.least, .int .i64 d.most, .string d.group, .bool d.alone, .int .i64 d.order, .int .i64 d.first, .int .i64 d.last]⟩) (by simp [tsBe]) rfl (ready_not hr (by show (10 : Nat) < L.size; rw [hLs]; decide)) (by show (10 : Nat) < L.size; rw [hLs]; decide) (by show (81 : Nat) < a.tmps.size; rw [hsN]; decide) (rows_other (li := [3, 10]) (ls := [74, 81]) rfl rfl (by decide) (by decide) (by simp [tsBe])) (nodup_of_map (f := RowT.i) (show ([3, 10] : List Nat).Nodup by decide)) (HLT1.out) (.tmp 75) (.tmp 80) 26 rfl io (.agg #[.string ⟨#[]⟩, .int .i64 0, .int .i64 0, .int .i64 0, .slice none 0 0, .int .i64 0, .int .i64 0, .string ⟨#[]⟩, .bool false, .int .i64 0, .int .i64 0, .int .i64 0]) 128 Tryz.underlying26 hio ho0 ho1 ho2 rfl (show (0 : Nat) < 12 by decide) (by simpa [Act.eval, tsBe] using h1) b #[.string d.key, .int .i64 d.kind, .int .i64 d.a, .int .i64 d.b, .slice d.ta d.tags.length d.tc, .int .i64 d.least, .int .i64 d.most, .string d.group, .bool d.alone, .int .i64 d.order, .int .i64 d.first, .int .i64 d.last] 50 (by simpa [Act.eval] using h2) hh rfl (by simp [Value.oneCell']) rfl rfl (by show l.length ≤ _; omega) (by decide) (by have := HSZ.out; show BB ≤ _; omega)) (fun v w' h => ⟨trivial, h.1, h.2⟩)
                  · intro yv W9 L9 hL9 hW9 hgt hφ
                    have hN := HPI.out _ _ _ _ _ hW9 (hL9 3 (by decide)) (hL9 10 (by decide)) (hgt 3 74 rfl) (hgt 10 81 rfl)
                    have J3 := Lib.hid hN
                    clear hW9 hgt hφ hL9 HROWS HAPT HLT0 HLT1 HGE HCC HDH HPI J hx16 hx17 hN
                    simp only [List.drop_succ_cons, List.drop_zero, List.take_succ_cons, List.take_zero, putAll, Nat.reduceAdd]
                    generalize yv 3 = z16 at J3 ⊢
                    generalize yv 10 = z17 at J3 ⊢
                    go_wp2_with fail
                    go_roundw
                    case rel => exact ⟨k + 1, by omega, by go_num, by rw [HL1.out, HST2.out]; exact J3⟩
                    case measure => simp [intOf]; omega
                · rw [decide_eq_false hbt] at hbit
                  have HST2 : Hid (l1 = l) := by have := HST.out; rw [if_neg hbt, List.append_nil] at this; exact this
                  clear hbt HST
                  go_wp2_with fail
                  go_roundw
                  case rel => exact ⟨k + 1, by omega, by go_num, by rw [HL1.out, HST2.out]; exact J⟩
                  case measure => simp [intOf]; omega
              · have hke : k = U.length := by omega
                subst hke
                have hJ := J.out
                have hbl : best.length ≤ U.length := by obtain ⟨mb, _, e⟩ := JS.out.mem; rw [e]; exact selM_len _ _
                have ⟨hll, hlm⟩ := HUT.out U.length (Nat.le_refl _)
                rw [List.take_length] at hJ hll hlm
                have HMP : Hid (∃ mb, mb < m + 1 ∧ selM m U = selM mb U) := ⟨m, by omega, rfl⟩
                have HSK := Lib.hid (fun h => JS.out.skip (m := m) h)
                have HKP := Lib.hid (fun h => JS.out.keep (m := m) h)
                have HTK := Lib.hid (fun h h2 => JS.out.take (m := m) h h2)
                have HSL := Lib.hid (selO_len hlm)
                clear J hlm
                generalize selM m U = l at *
                obtain ⟨A16, c16, H5, hv16, hle16, p1, p2, hR16, p3⟩ := Orow.freezeN hJ.r16 H4
                obtain ⟨A17, c17, H6, hv17, hle17, q1, q2, hR17, q3⟩ := Orow.freezeN hJ.r17 H5
                have h45 := p2 (fun g hg => hJ.lo g (Orow.lt hJ.r16 hg).1)
                have h56 := q2 (fun g hg => by
                  rw [p3 g (fun e => ?_)]
                  · exact hJ.lo g (Orow.lt hJ.r17 hg).1
                  · rcases hJ.ap with h | h | h
                    · rw [h] at e; cases e
                    · rw [h] at hg; cases hg
                    · exact h (e.trans hg.symm))
                have hno6 : H6 pb = none := by
                  have := hJ.pB
                  rw [q3 pb (fun e => by have := (Orow.lt hJ.r17 e).1; omega), p3 pb (fun e => by have := (Orow.lt hJ.r16 e).1; omega)]
                  exact hJ.o.no
                have hrn6 : H6 (w.heap.size + 1) = none := by
                  have := hJ.pB
                  rw [q3 _ (fun e => by have := (Orow.lt hJ.r17 e).1; omega), p3 _ (fun e => by have := (Orow.lt hJ.r16 e).1; omega)]
                  exact hJ.o.rno
                have J6 := Lib.hid (hJ.o.laid (q1 (p1 hJ.o.inn)) hno6 hrn6)
                have h46 := h45.trans h56
                have HL26 := Lib.hid (HL24.out.trans h46)
                have JR6 := Lib.hid (JR.out.le h46)
                have JP6 := Lib.hid (JP.out.le h46)
                have HR16 := Lib.hid (hR16.le h56)
                have HR17 := Lib.hid hR17
                have HD6 : Hid (∀ d ∈ selO ds l, OfIn H6 d ∧ OfOk d) := fun d hd => ⟨(HDS2.out d (selO_mem d hd)).1.le HL26.out, (HDS2.out d (selO_mem d hd)).2⟩
                have HTO := Lib.hid (fun W (hW : H6.In W) => together_any H6 A17 c17 (selO ds l) W hW HR17.out (fun d hd => (HD6.out d hd).1) (by have := HSL.out; omega))
                have HTG : Hid (togO ds l = togetherB (selO ds l)) := rfl
                subst hv16 hv17
                clear hJ p1 p2 hR16 p3 q1 q2 hR17 q3 h45 h56 h46 hno6 hrn6 HL24 JR JP JS HUT hle17
                rw [HSL.out] at HTO
                rw [HSL.out]
                go_wp2_with fail
                refine (HTO.out _ J6.out.inn).mono ?_
                rintro e W4 ⟨rfl, hb4⟩
                have J7 := Lib.hid (J6.out.call hb4)
                clear hb4 J6 HTO
                generalize togetherB (selO ds l) = tg at *
                cases tg with
                | false =>
                  have JS2 := Lib.hid (HSK.out HTG.out)
                  go_wp2_with fail
                  go_roundw
                  case rel => exact ⟨m + 1, best, Ab, cb, H6, c, by omega, by omega, by go_num, rfl, HL26, J7, JR6, hcb, JP6, JS2⟩
                  case measure => simp [intOf]; omega
                | true =>
                  have HTG2 : Hid (togO ds l = true) := HTG.out
                  obtain ⟨Al2, cl2, Ac2, cc2, hce, hRl2, hRc2⟩ := JP6.out
                  have hce2 := Value.agg.inj hce
                  subst hce2
                  clear hce hRl2 hRc2 HTG HSK
                  have HP0 := Lib.hid (price_in H6 A17 c17 (selO ds l) B capb xs ship W4 J7.out.inn HR17.out HD6.out (by have := HSL.out; omega) (HRX2.out.le HL26.out) (fun x hx => (HXS2.out x hx).le HL26.out) HPB.out (by omega) hs0 hs1)
                  rw [HSL.out] at HP0
                  have HIW4 := Lib.hid (J7.out.inn)
                  have hk := J7.out.inn _ _ (HL26.out _ _ HBK2.out)
                  have b0 := cell_h hk 0 (v := .slice B xs.length capb) rfl
                  have b1 := cell_h hk 1 (v := .int .i64 ship) rfl
                  clear hk
                  go_wp2_with fail
                  refine HP0.out.mono ?_
                  rintro e W5 ⟨⟨v, rfl, hpr⟩, hb5⟩
                  obtain ⟨H7, hl67, hin7, hpf, hn7⟩ := PricedIn.freeze hpr (J7.out.inn.below hb5) (fun b hb => J7.out.inn.none_ hb)
                  obtain ⟨Al, cl, Ac, cc, rfl, hRl, hRc⟩ := hpf
                  have J8 := Lib.hid ((J7.out.call hb5).laid hin7 (by rw [hn7 pb (lt_of_heap J7.out.blk)]; exact J7.out.no) (by rw [hn7 _ (lt_of_heap J7.out.res)]; exact J7.out.rno))
                  have HPF : Hid (PricedF H7 (selO ds l) xs ship (.agg #[.slice Al (endS (selO ds l) xs ship).left.length cl, .int .i64 ((endS (selO ds l) xs ship).ship : Nat), .slice Ac (endT (selO ds l) xs ship).length cc, .int .i64 (totS (endS (selO ds l) xs ship) : Nat)])) := ⟨Al, cl, Ac, cc, rfl, hRl, hRc⟩
                  have HTO : Hid (totS (endS (selO ds l) xs ship) = totO ds xs ship l) := rfl
                  have HTB : Hid (totS (endS (selO ds best) xs ship) = totO ds xs ship best) := rfl
                  have HL67 := Lib.hid hl67
                  clear hpr hb5 hin7 hl67 hn7 hRl hRc HP0 b0 b1 J7 HIW4
                  generalize (endS (selO ds l) xs ship).left = lE2 at *
                  generalize (endS (selO ds l) xs ship).ship = sh2 at *
                  generalize (endT (selO ds l) xs ship) = tk2 at *
                  generalize totS (endS (selO ds l) xs ship) = tot2 at *
                  generalize (endS (selO ds best) xs ship).left = lE1 at *
                  generalize (endS (selO ds best) xs ship).ship = sh1 at *
                  generalize (endT (selO ds best) xs ship) = tk1 at *
                  generalize totS (endS (selO ds best) xs ship) = tot1 at *
                  go_upto_region 28 with (fail)
                  have J9 := Lib.hid (J8.out.call (new1 (.cells #[.slice Al lE2.length cl, .int .i64 (sh2 : Nat), .slice Ac tk2.length cc, .int .i64 (tot2 : Nat)] 35)))
                  have HNP := Lib.hid (heap_alloc_new W5 (.cells #[.slice Al lE2.length cl, .int .i64 (sh2 : Nat), .slice Ac tk2.length cc, .int .i64 (tot2 : Nat)] 35))
                  have hnp : W5.heap.size ≠ pb := by have := lt_of_heap J8.out.blk; omega
                  clear J8
                  generalize W5.alloc (.cells #[.slice Al lE2.length cl, .int .i64 (sh2 : Nat), .slice Ac tk2.length cc, .int .i64 (tot2 : Nat)] 35) = W6 at *
                  generalize W5.heap.size = np at *
                  have n3 : W6.cell? ⟨np, 3, none⟩ = some (.int .i64 (tot2 : Nat)) := cell_h HNP.out 3 rfl
                  have p3 : W6.cell? ⟨pb, 3, none⟩ = some (.int .i64 (tot1 : Nat)) := cell_h J9.out.blk 3 rfl
                  go_wp2_with fail
                  refine (cmpInt_any _ _ _).mono ?_
                  rintro e w' ⟨rfl, hw⟩
                  subst hw
                  clear n3 p3
                  go_wp2_with fail
                  refine (cmpInt_any _ _ _).mono ?_
                  rintro e w' ⟨rfl, hw⟩
                  subst hw
                  have HCN := Lib.hid (compareN_any H7 A16 c16 l Ab cb best W6 J9.out.inn (HR16.out.le HL67.out) (JR6.out.le HL67.out) (by have := HSL.out; omega) (by omega))
                  go_wp2_with fail
                  refine HCN.out.mono ?_
                  rintro e w' ⟨r, rfl, hw⟩
                  subst hw
                  go_upto_region 29 with (fail)
                  have hOr := orL_any (some ⟨w'.heap.size, 0, none⟩) 3 [cmpI (tot2 : Int) (tot1 : Int), cmpI (l.length : Int) (best.length : Int), r] (w'.alloc (.cells #[.int .i64 (cmpI (tot2 : Int) (tot1 : Int)), .int .i64 (cmpI (l.length : Int) (best.length : Int)), .int .i64 r] 3)) (Ints.of_row (heap_alloc_new _ _) rfl) (by simp)
                  have J10 := Lib.hid (J9.out.call (new1 (.cells #[.int .i64 (cmpI (tot2 : Int) (tot1 : Int)), .int .i64 (cmpI (l.length : Int) (best.length : Int)), .int .i64 r] 3)))
                  have HNP1 := Lib.hid ((heap_lt (lt_of_heap HNP.out)).trans HNP.out : (w'.alloc (.cells #[.int .i64 (cmpI (tot2 : Int) (tot1 : Int)), .int .i64 (cmpI (l.length : Int) (best.length : Int)), .int .i64 r] 3)).heap[np]? = _)
                  refine Calls.mono hOr ?_
                  clear hOr HCN J9 HNP
                  rintro e W7 ⟨rfl, hw⟩
                  subst hw
                  have HLS := Lib.hid (fun h => orL_less (a := tot2) (b := tot1) (c := l.length) (d := best.length) (r := r) h)
                  have HMR := Lib.hid (fun h => orL_more (a := tot2) (b := tot1) (c := l.length) (d := best.length) (r := r) h)
                  generalize orL [cmpI (tot2 : Int) (tot1 : Int), cmpI (l.length : Int) (best.length : Int), r] = q at *
                  generalize w'.alloc (.cells #[.int .i64 (cmpI (tot2 : Int) (tot1 : Int)), .int .i64 (cmpI (l.length : Int) (best.length : Int)), .int .i64 r] 3) = W8 at *
                  have JR7 := Lib.hid (JR6.out.le HL67.out)
                  have JP7 := Lib.hid (JP6.out.le HL67.out)
                  have HL27 := Lib.hid (HL26.out.trans HL67.out)
                  clear JR6 JP6
                  by_cases hq : q < 0
                  · have hlm := HLS.out hq
                    rw [HTO.out, HTB.out] at hlm
                    have JS2 := Lib.hid (HTK.out HTG2.out hlm)
                    have HR16b := Lib.hid (HR16.out.le HL67.out)
                    obtain ⟨p0, p1, p2, p3, f0, f1, f2, f3, hset⟩ := J10.out.set
                    have HSET := Lib.hid hset
                    have n0 : W8.cell? ⟨np, 0, none⟩ = some (.slice Al lE2.length cl) := cell_h HNP1.out 0 rfl
                    have n1 : W8.cell? ⟨np, 1, none⟩ = some (.int .i64 (sh2 : Nat)) := cell_h HNP1.out 1 rfl
                    have n2 : W8.cell? ⟨np, 2, none⟩ = some (.slice Ac tk2.length cc) := cell_h HNP1.out 2 rfl
                    have n3 : W8.cell? ⟨np, 3, none⟩ = some (.int .i64 (tot2 : Nat)) := cell_h HNP1.out 3 rfl
                    clear hset hlm HTK HKP HLS HMR J10 HNP1
                    go_upto_region 29 with (fail)
                    go_region
                    have J11 := Lib.hid (HSET.out (.slice Al lE2.length cl) (.int .i64 (sh2 : Nat)) (.slice Ac tk2.length cc) (.int .i64 (tot2 : Nat)))
                    generalize World.drew _ = W9 at J11 ⊢
                    clear p0 p1 p2 p3 f0 f1 f2 f3 n0 n1 n2 n3 HSET
                    (try simp only [Exit.inBlock, Exit.then])
                    go_wp2_with fail
                    go_roundw
                    case rel => exact ⟨m + 1, l, A16, c16, H7, _, by omega, by omega, by go_num, rfl, HL27, J11, HR16b, hle16, HPF, JS2⟩
                    case measure => simp [intOf]; omega
                  · have hlm := HMR.out hq
                    rw [HTO.out, HTB.out] at hlm
                    have JS2 := Lib.hid (HKP.out hlm)
                    clear hlm HTK HKP HLS HMR HNP1
                    go_wp2_with fail
                    go_roundw
                    case rel => exact ⟨m + 1, best, Ab, cb, H7, _, by omega, by omega, by go_num, rfl, HL27, J10, JR7, hcb, JP7, JS2⟩
                    case measure => simp [intOf]; omega
          · have hme : m = NN := by omega
            subst hme
            have JS2 := JS.out
            rw [HNN.out, ← HUE.out] at JS2
            have JSF := Lib.hid JS2
            have hJ := J.out
            obtain ⟨Al, cl, Ac, cc, hce, hRl, hRc⟩ := JP.out
            have hce2 := Value.agg.inj hce
            subst hce2
            clear hce hRl hRc JS JS2 J
            have hlt2 : ¬ (m : Int) < (m : Int) := by omega
            have hsh := HSH.out
            go_upto_region 30 with (fail)
            clear hsh
            have hr := hJ.res
            have p0 := cell_h hJ.blk 0 (v := .slice Al (endS (selO ds best) xs ship).left.length cl) rfl
            have p1 := cell_h hJ.blk 1 (v := .int .i64 ((endS (selO ds best) xs ship).ship : Nat)) rfl
            have p2 := cell_h hJ.blk 2 (v := .slice Ac (endT (selO ds best) xs ship).length cc) rfl
            have p3 := cell_h hJ.blk 3 (v := .int .i64 (totS (endS (selO ds best) xs ship) : Nat)) rfl
            have f0 := froz_h hr 0
            have f1 := froz_h hr 1
            have f2 := froz_h hr 2
            have f3 := froz_h hr 3
            have r0 := cell_h hr 0 (v := .slice none 0 0) rfl
            have r1 := cell_h hr 1 (v := .int .i64 0) rfl
            have r2 := cell_h hr 2 (v := .slice none 0 0) rfl
            have r3 := cell_h hr 3 (v := .int .i64 0) rfl
            have HRB := Lib.hid hr
            have HJ := Lib.hid hJ
            have hpr : ¬ pb = w.heap.size + 1 := by omega
            have hpr2 : ¬ w.heap.size + 1 = pb := by omega
            clear hr hJ
            go_region
            obtain ⟨hg9, hh9⟩ := set4 HRB.out (.slice Al (endS (selO ds best) xs ship).left.length cl) (.int .i64 ((endS (selO ds best) xs ship).ship : Nat)) (.slice Ac (endT (selO ds best) xs ship).length cc) (.int .i64 (totS (endS (selO ds best) xs ship) : Nat))
            have hbel9 := (HJ.out.bel.grown hg9 HJ.out.bel.size (fun q hq => by injection hq with hq; omega)).drew
            have HB9 := Lib.hid hbel9
            have hin9 := Lib.hid (Frz.In.grown HJ.out.inn hg9 HJ.out.rno)
            (try simp only [Exit.then])
            clear p0 p1 p2 p3 f0 f1 f2 f3 r0 r1 r2 r3
            go_wp2_with fail
            (try simp only [Exit.then])
            refine bodyPost_ret (results_tmp_row_tmp rfl _ _ (w.heap.size + 1) 35 _ (0, 0) _ rfl hh9 Tryz.underlying35 rfl (by kernel_rfl)) rfl ?_
            exact ⟨Or.inr ⟨HQ.out, best, Ab, cb, _, H4, rfl, hcb, hin9.out, JR.out, JP.out, JSF.out⟩, HB9.out⟩
end Go.Proofs.YtihcmifikbkbcaaGreat

/- Chosen offers; what Price tells, in a drawn region. -/
namespace Go.Proofs.YtihcmifikbkbcaaGreat
set_option linter.unusedVariables false
open Go.RowKit
theorem Orow.in_ {D : Type} {w w' : World} {B T k : Nat} {f : D → Nat → Value} {v : Value} {ds : List D} (h : Orow w B T k f v ds) (hb : Below w.heap.size w w') : Orow w' B T k f v ds := h.below hb
set_option maxHeartbeats 8000000 in
set_option maxRecDepth 100000 in
theorem chosen_any (H : Frz) (sb : Nat) (A : Option Addr) (cap : Nat) (ds : List OfD) (l : List Nat) (A2 : Option Addr) (cap2 : Nat) (w : World) (hH : H.In w) (hs : H sb = some (.cells #[.slice A ds.length cap] 26 (0, 0)))
    (hR : Rw H A 12 fOf ds) (hR2 : Rw H A2 1 fN l) (hlt : ∀ i ∈ l, i < ds.length) (hl : l.length ≤ 1000) (hdl : ds.length ≤ 1000) :
    Calls Tryz.prog 13 #[.slice A2 l.length cap2, .pointer (some ⟨sb, 0, none⟩)] w fun e w' => (∃ v, e = .returned v ∧ Orow w' w.heap.size 50 12 fOf v (selO ds l)) ∧ Below w.heap.size w w' := by
  obtain ⟨io, hio, ho0, ho1, ho2⟩ := info_parts infoOf
  have HR := Lib.hid hR
  have HR2 := Lib.hid hR2
  have HIN := Lib.hid hH
  have HS := Lib.hid hs
  have HLT := Lib.hid hlt
  have J0 : Hid (Orow w w.heap.size 50 12 fOf (.slice none 0 0) (selO ds (l.take 0))) := by
    show Orow _ _ _ _ _ _ _
    rw [List.take_zero]
    exact Orow.nil _ _ _ _ _
  have HB0 : Hid (Below w.heap.size w w) := Below.refl _ _
  clear hR hR2 hH hs hlt
  go_enter Tryz.func13, Tryz.ntmps13
  go_wp2_with fail
  go_loopw [4, 9] (fun v t wr => ∃ k : Nat, k ≤ l.length ∧ t = .int .i64 k ∧ Hid (Orow wr w.heap.size 50 12 fOf v (selO ds (l.take k))) ∧ Hid (Below w.heap.size w wr)) (fun _ t _ => l.length - (intOf t).toNat)
  case atStart => exact ⟨0, by omega, rfl, J0, HB0⟩
  case round =>
    clear J0 HB0
    obtain ⟨k, hk, rfl, J, JB⟩ := hrel
    by_cases hlk : k < l.length
    · obtain ⟨b2, off2, hA2, _, hc2⟩ := HR2.out.at_ (HIN.out.below JB.out) hlk (by omega)
      have c := hc2 0 (by omega)
      have hki := HLT.out _ (List.getElem_mem hlk)
      have htk : l.take (k + 1) = l.take k ++ [l[k]] := List.take_succ_eq_append_getElem hlk
      have HSE : Hid (selO ds (l.take (k + 1)) = selO ds (l.take k) ++ [ds[l[k]]'hki]) := by show _ = _; rw [htk]; exact selO_snoc hki
      have hsl : (selO ds (l.take k)).length ≤ 1000 := by
        rw [selO_len (fun i hi => HLT.out i (List.mem_of_mem_take hi)), List.length_take]; omega
      simp only [fN, Nat.mul_one, Nat.add_zero] at c
      subst hA2
      clear hc2 htk
      generalize l[k] = i at *
      obtain ⟨b, off, hA, _, hc⟩ := HR.out.at_ (HIN.out.below JB.out) hki (by omega)
      subst hA
      have c0 : wr.cell? ⟨b, off + i * 12, none⟩ = some (.string ds[i].key) := hc 0 (by omega)
      have c1 : wr.cell? ⟨b, off + i * 12 + 1, none⟩ = some (.int .i64 ds[i].kind) := hc 1 (by omega)
      have c2 : wr.cell? ⟨b, off + i * 12 + 2, none⟩ = some (.int .i64 ds[i].a) := hc 2 (by omega)
      have c3 : wr.cell? ⟨b, off + i * 12 + 3, none⟩ = some (.int .i64 ds[i].b) := hc 3 (by omega)
      have c4 : wr.cell? ⟨b, off + i * 12 + 4, none⟩ = some (.slice ds[i].ta ds[i].tags.length ds[i].tc) := hc 4 (by omega)
      have c5 : wr.cell? ⟨b, off + i * 12 + 5, none⟩ = some (.int .i64 ds[i].least) := hc 5 (by omega)
      have c6 : wr.cell? ⟨b, off + i * 12 + 6, none⟩ = some (.int .i64 ds[i].most) := hc 6 (by omega)
      have c7 : wr.cell? ⟨b, off + i * 12 + 7, none⟩ = some (.string ds[i].group) := hc 7 (by omega)
      have c8 : wr.cell? ⟨b, off + i * 12 + 8, none⟩ = some (.bool ds[i].alone) := hc 8 (by omega)
      have c9 : wr.cell? ⟨b, off + i * 12 + 9, none⟩ = some (.int .i64 ds[i].order) := hc 9 (by omega)
      have c10 : wr.cell? ⟨b, off + i * 12 + 10, none⟩ = some (.int .i64 ds[i].first) := hc 10 (by omega)
      have c11 : wr.cell? ⟨b, off + i * 12 + 11, none⟩ = some (.int .i64 ds[i].last) := hc 11 (by omega)
      have s0 := cell_h (HIN.out.below JB.out _ _ HS.out) 0 (v := .slice (some ⟨b, off, none⟩) ds.length cap) rfl
      have hki2 : (i : Int) < ds.length := by omega
      have hlk2 : (k : Int) < l.length := by omega
      clear hc
      generalize ds[i] = d at *
      generalize ho1 : selO ds (l.take (k + 1)) = o1 at *
      have HO1 := Lib.hid ho1
      clear ho1
      generalize selO ds (l.take k) = o0 at *
      have hsz := JB.out.size
      go_upto_region 6 with (at_builtin; refine wpList_app rfl _ _ 26 rfl w.heap.size 50 io (.agg #[.string ⟨#[]⟩, .int .i64 0, .int .i64 0, .int .i64 0, .slice none 0 0, .int .i64 0, .int .i64 0, .string ⟨#[]⟩, .bool false, .int .i64 0, .int .i64 0, .int .i64 0]) 12 128 Tryz.underlying26 hio ho0 ho1 ho2 rfl (by decide) fOf _ o0 rfl J.out d #[.string d.key, .int .i64 d.kind, .int .i64 d.a, .int .i64 d.b, .slice d.ta d.tags.length d.tc, .int .i64 d.least, .int .i64 d.most, .string d.group, .bool d.alone, .int .i64 d.order, .int .i64 d.first, .int .i64 d.last] 50 rfl rfl (by simp [Value.oneCell']) (by omega) (by omega) hsz ?_; intro v4 W4 ho4 hg4 hb4)
      have J4 := Lib.hid ho4
      have JB4 := Lib.hid (JB.out.trans hb4)
      clear ho4 hg4 hb4
      rw [← HSE.out] at J4
      go_wp2_with fail
      go_roundw
      case rel => exact ⟨k + 1, by omega, by go_num, by rw [HO1.out]; exact J4, JB4⟩
      case measure => simp [intOf]; omega
    · have hke : k = l.length := by omega
      subst hke
      rw [List.take_length] at J
      go_wp2_with fail
      go_ret
      exact ⟨⟨_, rfl, J.out⟩, JB.out⟩
theorem priceOk_check {ds : List OfD} {xs : List ItD} {ship at_ : Int} (h : priceOk ds xs ship at_ = true) : checkB ds xs ship at_ = true := by
  unfold priceOk at h
  simp only [Bool.and_eq_true] at h
  exact h.1.1
/-- What is so of a price. -/
theorem end_law {ds : List OfD} {xs : List ItD} {ship at_ : Int} (h : priceOk ds xs ship at_ = true) :
    leL (endS ds xs ship).left (startS xs ship.toNat).left ∧ (endS ds xs ship).left.sum + (endS ds xs ship).ship + ((endT ds xs ship).map Prod.snd).sum = (startS xs ship.toNat).left.sum + ship.toNat ∧ (endT ds xs ship).length = ds.length := by
  obtain ⟨hok, hbd, hs0, hs1⟩ := checkB_ok (priceOk_check h)
  have h1 := applyAll_le (xs := xs) (os := ordO ds) (s := startS xs ship.toNat) (by simp [startS]) (fun o ho hk => ((hok o ((ordO_perm ds).mem_iff.1 ho)).k1 hk).2)
  refine ⟨h1.1, h1.2, ?_⟩
  unfold endT
  rw [takenAll_len]
  exact (ordO_perm ds).length_eq
def EndOk (ds : List OfD) (xs : List ItD) (ship : Int) : Prop := (endS ds xs ship).left.length ≤ 1000 ∧ (endT ds xs ship).length ≤ 1000
theorem EndOk.of {ds : List OfD} {xs : List ItD} {ship at_ : Int} (h : priceOk ds xs ship at_ = true) (hd : ds.length ≤ 1000) (hx : xs.length ≤ 1000) : EndOk ds xs ship := by
  obtain ⟨h1, h2, h3⟩ := end_law h
  have h4 := h1.len
  have h6 : (startS xs ship.toNat).left.length = xs.length := by simp [startS]
  exact ⟨by omega, by omega⟩
theorem same_ok (H : Frz) (ds : List OfD) (xs : List ItD) (ship : Int) (v v2 : Value) (w : World) (hH : H.In w) (h1 : PricedF H ds xs ship v) (h2 : PricedF H ds xs ship v2) (h : EndOk ds xs ship) :
    Calls Tryz.prog 14 #[v, v2] w fun e w' => e = .returned (.bool true) ∧ Below w.heap.size w w' := samePriced_any H ds xs ship v v2 w hH h1 h2 h.1 h.2
theorem PricedF.form {H : Frz} {ds : List OfD} {xs : List ItD} {ship : Int} {cs : Array Value} (h : PricedF H ds xs ship (.agg cs)) : ∃ a b c : Value, cs = #[a, b, c, .int .i64 (totS (endS ds xs ship) : Nat)] := by
  obtain ⟨Al, cl, Ac, cc, e, -, -⟩ := h
  exact ⟨_, _, _, Value.agg.inj e⟩
/-- Two parts of a world's memory, put together. -/
def Frz.or (H1 H2 : Frz) : Frz := fun b => match H1 b with | some o => some o | none => H2 b
theorem Frz.or_in {H1 H2 : Frz} {w : World} (h1 : H1.In w) (h2 : H2.In w) : (H1.or H2).In w := fun b o e => by
  unfold Frz.or at e
  cases hb : H1 b with
  | some o' => rw [hb] at e; injection e with e; subst e; exact h1 b _ hb
  | none => rw [hb] at e; exact h2 b o e
theorem Frz.le_or_left (H1 H2 : Frz) : H1.Le (H1.or H2) := fun b o e => by unfold Frz.or; rw [e]
theorem Frz.le_or_right {H1 H2 : Frz} {w : World} (h1 : H1.In w) (h2 : H2.In w) : H2.Le (H1.or H2) := fun b o e => by
  unfold Frz.or
  cases hb : H1 b with
  | some o' => exact (h1 b _ hb).symm.trans (h2 b o e)
  | none => exact e
theorem Frz.or_none {H1 H2 : Frz} {b : Nat} (h1 : H1 b = none) (h2 : H2 b = none) : (H1.or H2) b = none := by unfold Frz.or; rw [h1]; exact h2
theorem NT.or {T : TypeId} {H1 H2 : Frz} (h1 : NT T H1) (h2 : NT T H2) : NT T (H1.or H2) := fun p o e => by
  unfold Frz.or at e
  cases hb : H1 p with
  | some o' => rw [hb] at e; injection e with e; subst e; exact h1 p _ hb
  | none => rw [hb] at e; exact h2 p o e
theorem PricedIn.alone {B : Nat} {ds : List OfD} {xs : List ItD} {ship : Int} {v : Value} {w : World} (h : PricedIn B ds xs ship v w) :
    ∃ H', NT 35 H' ∧ H'.In w ∧ (∀ b, b < B → H' b = none) ∧ PricedF H' ds xs ship v := by
  obtain ⟨vl, vc, rfl, hOl, hOc, hap⟩ := h
  obtain ⟨Al, cl, Hl, rfl, -, i1, r1, n1, z1⟩ := Orow.alone hOl 35 (by decide)
  obtain ⟨Ac, cc, Hc, rfl, -, i2, r2, n2, z2⟩ := Orow.alone hOc 35 (by decide)
  exact ⟨Hl.or Hc, n1.or n2, Frz.or_in i1 i2, fun b hb => Frz.or_none (z1 b hb) (z2 b hb), Al, cl, Ac, cc, rfl, r1.le (Frz.le_or_left _ _), r2.le (Frz.le_or_right i1 i2)⟩
/-- What Price tells, where other operations may run beside. -/
def PrRes (B : Nat) (ds : List OfD) (xs : List ItD) (ship : Int) (ok : Bool) (u : Value) (w : World) : Prop :=
  (ok = false ∧ u = zeroPr) ∨ (ok = true ∧ ∃ H', NT 35 H' ∧ H'.In w ∧ (∀ b, b < B → H' b = none) ∧ PricedF H' ds xs ship u)
theorem PrRes.mono {B : Nat} {ds : List OfD} {xs : List ItD} {ship : Int} {ok : Bool} {u : Value} {w w' : World} (e : ET 35 w w') (h : PrRes B ds xs ship ok u w) : PrRes B ds xs ship ok u w' := by
  rcases h with h | ⟨h1, H', h2, h3, h4, h5⟩
  · exact Or.inl h
  · exact Or.inr ⟨h1, H', h2, e.inn h2 h3, h4, h5⟩
theorem PrRes.cells {B : Nat} {ds : List OfD} {xs : List ItD} {ship : Int} {ok : Bool} {u : Value} {w : World} (h : PrRes B ds xs ship ok u w) : ∃ cs : Array Value, u = .agg cs ∧ cs.size = 4 ∧ cs.all (·.oneCell') = true := by
  rcases h with ⟨-, rfl⟩ | ⟨-, H', -, -, -, Al, cl, Ac, cc, rfl, -, -⟩
  · exact ⟨_, rfl, rfl, by simp [Value.oneCell']⟩
  · exact ⟨_, rfl, rfl, by simp [Value.oneCell']⟩
def ErRes (ok : Bool) (v : Value) : Prop := ∃ c : Int, v = .int .i64 c ∧ (c = 0 ↔ ok = true)
def TupRes (B : Nat) (ds : List OfD) (xs : List ItD) (ship : Int) (ok : Bool) (v : Value) (w : World) : Prop := ∃ u x, v = .tuple #[u, x] ∧ PrRes B ds xs ship ok u w ∧ ErRes ok x
theorem TupRes.mono {B : Nat} {ds : List OfD} {xs : List ItD} {ship : Int} {ok : Bool} {v : Value} {w w' : World} (e : ET 35 w w') (h : TupRes B ds xs ship ok v w) : TupRes B ds xs ship ok v w' := by
  obtain ⟨u, x, h1, h2, h3⟩ := h
  exact ⟨u, x, h1, h2.mono e, h3⟩
theorem price_res (H : Frz) (A B : Option Addr) (cap capb : Nat) (ds : List OfD) (xs : List ItD) (ship at_ : Int) (w : World) (hH : H.In w) (hR : Rw H A 12 fOf ds) (hds : ∀ d ∈ ds, OfIn H d) (hl : ds.length ≤ 12) (hcap : ds.length ≤ cap)
    (hRx : Rw H B 4 fIt xs) (hxs : ∀ x ∈ xs, ItIn H x) (hxl : xs.length ≤ 19) (hcapb : xs.length ≤ capb) (B0 : Nat) (hB0 : B0 ≤ w.heap.size) :
    Calls Tryz.prog 9 #[.slice A ds.length cap, .agg #[.slice B xs.length capb, .int .i64 ship], .int .i64 at_] w fun e w' => ∃ v, e = .returned v ∧ TupRes B0 ds xs ship (priceOk ds xs ship at_) v w' ∧ Below w.heap.size w w' := by
  refine (Price_any H A B cap capb ds xs ship at_ w hH hR hds hl hcap hRx hxs hxl hcapb).mono ?_
  rintro e w' ⟨⟨h1, c, hc, rfl⟩ | ⟨h1, v, rfl, hv⟩, hb⟩
  · exact ⟨_, rfl, ⟨_, _, rfl, Or.inl ⟨h1, rfl⟩, c, rfl, by rw [h1]; simp [hc]⟩, hb⟩
  · obtain ⟨H', k1, k2, k3, k4⟩ := hv.alone
    exact ⟨_, rfl, ⟨_, _, rfl, Or.inr ⟨h1, H', k1, k2, fun b hb => k3 b (by omega), k4⟩, 0, rfl, by rw [h1]; simp⟩, hb⟩
def φBo (B0 : Nat) (fv av bv tv : Value) (ds : List OfD) (xs : List ItD) (ship : Int) (ok : Bool) (i : Nat) (v : Value) (w : World) : Prop :=
  match i with
  | 0 => v = fv
  | 1 => v = av
  | 2 => Orow w B0 50 12 fOf v ds
  | 3 => v = bv
  | 4 => v = tv
  | 5 => TupRes B0 ds xs ship ok v w
  | 6 => TupRes B0 ds xs ship ok v w
  | 7 => PrRes B0 ds xs ship ok v w
  | 8 => ErRes ok v
  | 9 => BoxP 35 B0 4 v w
  | _ => True
theorem φBo_mono {B0 : Nat} {fv av bv tv : Value} {ds : List OfD} {xs : List ItD} {ship : Int} {ok : Bool} (i : Nat) (x : Value) (w w' : World) (e : ET 35 w w') (h : φBo B0 fv av bv tv ds xs ship ok i x w) : φBo B0 fv av bv tv ds xs ship ok i x w' := by
  match i, h with
  | 0, h => exact h
  | 1, h => exact h
  | 2, h => exact e.row (by decide) h
  | 3, h => exact h
  | 4, h => exact h
  | 5, h => exact TupRes.mono e h
  | 6, h => exact TupRes.mono e h
  | 7, h => exact PrRes.mono e h
  | 8, h => exact h
  | 9, h => exact BoxP.mono e h
  | i + 10, h => exact trivial
end Go.Proofs.YtihcmifikbkbcaaGreat
