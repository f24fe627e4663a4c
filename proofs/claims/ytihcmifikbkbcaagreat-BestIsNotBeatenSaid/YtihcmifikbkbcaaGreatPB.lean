/- Texts of this claim, put together: Mp, StabP, ShareP, PriceP, FreeP. -/
import Derived.Test.YtihcmifikbkbcaaGreatPA
import Derived.Maps.OwnSet
import Derived.WalkKit
import Derived.Lib.SlicesS
/- Maps of the call's own, at any element: what a key has, said by a function from keys to values. -/
namespace Go.Proofs.YtihcmifikbkbcaaGreat
set_option linter.unusedVariables false
open Go.RowKit

/-- An element, read as itself. -/
def heldR (v : Value) : Option (DataW Value × List MemPlace) := some (.held v, [])
/-- Block b is a map of at most n entries; the key l has m l. -/
def Mp (P : Program) (k : TypeId) (w : World) (b n : Nat) (m : Lit → Option Value) : Prop :=
  ∃ D : DataW Value, w.ownsMap P k heldR b n D ∧ ∀ l, WideAt.IsKeyLit l → Maps.has D l = (m l).isSome ∧ ∀ v, m l = some v → ∀ z, D.atKey l z = .held v
def mpSet (m : Lit → Option Value) (l : Lit) (v : Value) : Lit → Option Value := fun x => if x.sameKey l then some v else m x
def mpDel (m : Lit → Option Value) (l : Lit) : Lit → Option Value := fun x => if x.sameKey l then none else m x
def mpNew : Lit → Option Value := fun _ => none
section
variable {P : Program} {k e t : TypeId} {w w' : World} {b n : Nat} {m : Lit → Option Value} {key : Value} {kl : Lit}
theorem Mp.made (P : Program) (k : TypeId) (w : World) : Mp P k (w.alloc (.map #[] 0)) w.heap.size 0 mpNew :=
  ⟨_, World.ownsMap_made w P k heldR, fun l _ => ⟨rfl, fun v h => by cases h⟩⟩
theorem Mp.mono {n' : Nat} (h : Mp P k w b n m) (hn : n ≤ n') : Mp P k w b n' m := by
  obtain ⟨D, ho, hd⟩ := h
  exact ⟨D, ho.mono hn, hd⟩
theorem Mp.lt (h : Mp P k w b n m) : b < w.heap.size := by
  obtain ⟨D, ho, hd⟩ := h
  exact ho.lt
theorem Mp.kept {row : Option Nat} (h : Mp P k w b n m) (hg : w.grownBy w' row) (hne : some b ≠ row) : Mp P k w' b n m := by
  obtain ⟨D, ho, hd⟩ := h
  exact ⟨D, ho.kept hg hne, hd⟩
theorem Mp.below (h : Mp P k w b n m) (hb : Below w.heap.size w w') : Mp P k w' b n m :=
  h.kept (row := none) ⟨hb.os, hb.tape, hb.output, hb.size, fun i hi _ => hb.block i hi⟩ (by simp)
theorem Mp.block (h : Mp P k w b n m) (hb : w'.heap[b]? = w.heap[b]?) : Mp P k w' b n m := by
  obtain ⟨D, ⟨es, clock, h1, h2⟩, hd⟩ := h
  exact ⟨D, ⟨es, clock, hb.trans h1, h2⟩, hd⟩
theorem Mp.alloc (h : Mp P k w b n m) (o : Obj) : Mp P k (w.alloc o) b n m := h.below ((Below.refl _ _).alloc (Nat.le_refl _) _)
theorem Mp.setCell (h : Mp P k w b n m) {a : Addr} (ha : b ≠ a.block) (u : Value) : Mp P k (w.setCell a u) b n m := by
  obtain ⟨D, ho, hd⟩ := h
  exact ⟨D, ho.setCell ha u, hd⟩
theorem Mp.obj (h : Mp P k w b n m) : ∃ o, w.heap[b]? = some o ∧ ∀ w' : World, w'.heap[b]? = some o → Mp P k w' b n m := by
  obtain ⟨D, ⟨es, clock, h1, h2⟩, hd⟩ := h
  exact ⟨_, h1, fun w' h' => ⟨D, ⟨es, clock, h', h2⟩, hd⟩⟩
/-- 'v, ok := m[k]' and 'm[k]': the key is there. -/
theorem Mp.look_some (h : Mp P k w b n m) (K : Maps.Keyed P k) (ht : P.underlying t = some (.map k e)) {z : Value} (hz : (zeroValue e).run P w = .ok z w) (hkey : keyOf P k key = some kl) {v : Value} (hv : m kl = some v) (c : Bool) :
    (Instr.lookup t (.map (some b)) key c).run P w = .ok (if c then .tuple #[v, .bool true] else v) w := by
  obtain ⟨D, ⟨es, clock, hb, F, _, rfl⟩, hd⟩ := h
  have hk : WideAt.IsKeyLit kl := K.key hkey
  obtain ⟨h1, h2⟩ := hd kl hk
  rcases Maps.fit_look c K ht hz hb F hkey with ⟨hrun, _, hat⟩ | ⟨e0, y, _, _, hrun, hRv, hat, _⟩
  · rw [Maps.has_false_of_atKey hat, hv] at h1
    cases h1
  · have := h2 v hv (.held v)
    rw [hat] at this
    unfold heldR at hRv
    injection hRv with hRv
    rw [← hRv] at this
    injection this with this
    rw [← this]
    exact hrun
theorem Mp.look_none (h : Mp P k w b n m) (K : Maps.Keyed P k) (ht : P.underlying t = some (.map k e)) {z : Value} (hz : (zeroValue e).run P w = .ok z w) (hkey : keyOf P k key = some kl) (hv : m kl = none) (c : Bool) :
    (Instr.lookup t (.map (some b)) key c).run P w = .ok (if c then .tuple #[z, .bool false] else z) w := by
  obtain ⟨D, ⟨es, clock, hb, F, _, rfl⟩, hd⟩ := h
  have hk : WideAt.IsKeyLit kl := K.key hkey
  obtain ⟨h1, h2⟩ := hd kl hk
  rcases Maps.fit_look c K ht hz hb F hkey with ⟨hrun, _, hat⟩ | ⟨e0, y, _, _, hrun, hRv, hat, _⟩
  · exact hrun
  · rw [Maps.has_true_of_atKey hat, hv] at h1
    cases h1
/-- Both at once. -/
theorem Mp.look (h : Mp P k w b n m) (K : Maps.Keyed P k) (ht : P.underlying t = some (.map k e)) {z : Value} (hz : (zeroValue e).run P w = .ok z w) (hkey : keyOf P k key = some kl) (c : Bool) :
    (Instr.lookup t (.map (some b)) key c).run P w = .ok (if c then .tuple #[(m kl).getD z, .bool (m kl).isSome] else (m kl).getD z) w := by
  cases hv : m kl with
  | none => exact h.look_none K ht hz hkey hv c
  | some v => exact h.look_some K ht hz hkey hv c
/-- 'm[k] = v'. -/
theorem Mp.update (h : Mp P k w b n m) (K : Maps.Keyed P k) (ht : P.underlying t = some (.map k e)) (hn : n < maxLen) (hkey : keyOf P k key = some kl) (val : Value) :
    ∃ w', (Instr.mapUpdate t (.map (some b)) key val).run P w = .ok () w' ∧ Mp P k w' b (n + 1) (mpSet m kl val) ∧ w.grownBy w' (some b) ∧ w'.heap.size = w.heap.size := by
  obtain ⟨D, ho, hd⟩ := h
  have hk : WideAt.IsKeyLit kl := K.key hkey
  obtain ⟨w', hrun, ho', ht'⟩ := ho.store K ht hn hkey (show heldR val = some (.held val, []) from rfl)
  refine ⟨w', hrun, ⟨_, ho', fun l hl => ?_⟩, ht'.grown, ?_⟩
  · by_cases hs : l = kl
    · subst hs
      have e1 : mpSet m l val l = some val := by unfold mpSet; rw [WideAt.sameKey_self hk]; rfl
      rw [e1]
      refine ⟨by rw [Maps.has_put_same ho.isMap hk]; rfl, fun v hv z => ?_⟩
      injection hv with hv
      rw [Maps.atKey_put_same ho.isMap hk, hv]
    · have e1 : mpSet m kl val l = m l := by
        unfold mpSet
        rw [if_neg]
        intro c
        exact hs (WideAt.sameKey_eq c)
      rw [e1, Maps.has_put_other hs]
      refine ⟨(hd l hl).1, fun v hv z => ?_⟩
      rw [Maps.atKey_put_other hs]
      exact (hd l hl).2 v hv z
  · obtain ⟨es, clock, es', clock', hb, rfl⟩ := ht'
    simp [ChangeMaps.setBlock]
/-- 'delete(m, k)'. -/
theorem Mp.drop (h : Mp P k w b n m) (K : Maps.Keyed P k) (ht : P.underlying t = some (.map k e)) (hkey : keyOf P k key = some kl) (ty : TypeId) :
    ∃ w', (Builtin.delete_ #[t, k] ty #[.map (some b), key]).run P w = .ok (.tuple #[]) w' ∧ Mp P k w' b n (mpDel m kl) ∧ w.grownBy w' (some b) ∧ w'.heap.size = w.heap.size := by
  obtain ⟨D, ho, hd⟩ := h
  have hk : WideAt.IsKeyLit kl := K.key hkey
  obtain ⟨w', hrun, ho', ht'⟩ := ho.drop K ht hkey ty
  refine ⟨w', hrun, ⟨_, ho', fun l hl => ?_⟩, ht'.grown, ?_⟩
  · by_cases hs : l = kl
    · subst hs
      have e1 : mpDel m l l = none := by unfold mpDel; rw [WideAt.sameKey_self hk]; rfl
      rw [e1]
      exact ⟨by rw [Maps.has_del_same]; rfl, fun v hv z => by cases hv⟩
    · have e1 : mpDel m kl l = m l := by
        unfold mpDel
        rw [if_neg]
        intro c
        exact hs (WideAt.sameKey_eq c)
      rw [e1, Maps.has_del_other hs]
      refine ⟨(hd l hl).1, fun v hv z => ?_⟩
      rw [Maps.atKey_del_other hs]
      exact (hd l hl).2 v hv z
  · obtain ⟨es, clock, es', clock', hb, rfl⟩ := ht'
    simp [ChangeMaps.setBlock]
end
/-- 'm[k] = v' at the operation. -/
theorem wpList_mp_set {P : Program} (w : World) {ops : Array Oper} {rest : List Oper} {o : Oper} {a : Act} {Q : Exit → Act → World → Prop}
    (hg : o.guard = none) (mo x v : Operand) (t : TypeId) (hop : o.op = Op.mapUpdate t mo x v)
    (k e : TypeId) (K : Maps.Keyed P k) (ht : P.underlying t = some (.map k e)) (b n : Nat) (m : Lit → Option Value)
    (hm : a.eval mo = .map (some b)) (hown : Mp P k w b n m) (hn : n < maxLen) (key val : Value) (kl : Lit) (hx : a.eval x = key) (hv : a.eval v = val) (hkey : keyOf P k key = some kl)
    (hK : ∀ w', Mp P k w' b (n + 1) (mpSet m kl val) → w.grownBy w' (some b) → w'.heap.size = w.heap.size → wpList P ops Q rest (a.put o.dst undef) w') :
    wpList P ops Q (o :: rest) a w := by
  refine wpList_plain hg fun K' hK' => ?_
  obtain ⟨w', hrun, r1, r2, r3⟩ := hown.update K ht hn hkey val
  unfold Oper.wp
  simp [execOp, hop, hm, hx, hv, hrun, Result.andThen]
  exact hK' _ _ (hK w' r1 r2 r3)
/-- 'm[k]' at the operation. -/
theorem wpList_mp_get {P : Program} (w : World) {ops : Array Oper} {rest : List Oper} {o : Oper} {a : Act} {Q : Exit → Act → World → Prop}
    (hg : o.guard = none) (mo x : Operand) (t : TypeId) (hop : o.op = Op.lookup t mo x false)
    (k e : TypeId) (K : Maps.Keyed P k) (ht : P.underlying t = some (.map k e)) (z : Value) (hz : (zeroValue e).run P w = .ok z w) (b n : Nat) (m : Lit → Option Value)
    (hm : a.eval mo = .map (some b)) (hown : Mp P k w b n m) (key : Value) (kl : Lit) (hx : a.eval x = key) (hkey : keyOf P k key = some kl)
    (hK : wpList P ops Q rest (a.put o.dst ((m kl).getD z)) w) :
    wpList P ops Q (o :: rest) a w := by
  refine wpList_plain hg fun K' hK' => ?_
  have hrun := hown.look K ht hz hkey false
  unfold Oper.wp
  simp [execOp, hop, hm, hx, hrun, Result.andThen]
  exact hK' _ _ hK
/-- 'v, ok := m[k]' at the operation. -/
theorem wpList_mp_ok {P : Program} (w : World) {ops : Array Oper} {rest : List Oper} {o : Oper} {a : Act} {Q : Exit → Act → World → Prop}
    (hg : o.guard = none) (mo x : Operand) (t : TypeId) (hop : o.op = Op.lookup t mo x true)
    (k e : TypeId) (K : Maps.Keyed P k) (ht : P.underlying t = some (.map k e)) (z : Value) (hz : (zeroValue e).run P w = .ok z w) (b n : Nat) (m : Lit → Option Value)
    (hm : a.eval mo = .map (some b)) (hown : Mp P k w b n m) (key : Value) (kl : Lit) (hx : a.eval x = key) (hkey : keyOf P k key = some kl)
    (hK : wpList P ops Q rest (a.put o.dst (.tuple #[(m kl).getD z, .bool (m kl).isSome])) w) :
    wpList P ops Q (o :: rest) a w := by
  refine wpList_plain hg fun K' hK' => ?_
  have hrun := hown.look K ht hz hkey true
  unfold Oper.wp
  simp [execOp, hop, hm, hx, hrun, Result.andThen]
  exact hK' _ _ hK
/-- .. the key is there; or it is not. -/
theorem wpList_mp_yes {P : Program} (w : World) {ops : Array Oper} {rest : List Oper} {o : Oper} {a : Act} {Q : Exit → Act → World → Prop}
    (hg : o.guard = none) (mo x : Operand) (t : TypeId) (hop : o.op = Op.lookup t mo x true)
    (k e : TypeId) (K : Maps.Keyed P k) (ht : P.underlying t = some (.map k e)) (z : Value) (hz : (zeroValue e).run P w = .ok z w) (b n : Nat) (m : Lit → Option Value)
    (hm : a.eval mo = .map (some b)) (hown : Mp P k w b n m) (key : Value) (kl : Lit) (hx : a.eval x = key) (hkey : keyOf P k key = some kl) (v : Value) (hv : m kl = some v)
    (hK : wpList P ops Q rest (a.put o.dst (.tuple #[v, .bool true])) w) :
    wpList P ops Q (o :: rest) a w :=
  wpList_mp_ok w hg mo x t hop k e K ht z hz b n m hm hown key kl hx hkey (by rw [hv]; exact hK)
theorem wpList_mp_no {P : Program} (w : World) {ops : Array Oper} {rest : List Oper} {o : Oper} {a : Act} {Q : Exit → Act → World → Prop}
    (hg : o.guard = none) (mo x : Operand) (t : TypeId) (hop : o.op = Op.lookup t mo x true)
    (k e : TypeId) (K : Maps.Keyed P k) (ht : P.underlying t = some (.map k e)) (z : Value) (hz : (zeroValue e).run P w = .ok z w) (b n : Nat) (m : Lit → Option Value)
    (hm : a.eval mo = .map (some b)) (hown : Mp P k w b n m) (key : Value) (kl : Lit) (hx : a.eval x = key) (hkey : keyOf P k key = some kl) (hv : m kl = none)
    (hK : wpList P ops Q rest (a.put o.dst (.tuple #[z, .bool false])) w) :
    wpList P ops Q (o :: rest) a w :=
  wpList_mp_ok w hg mo x t hop k e K ht z hz b n m hm hown key kl hx hkey (by rw [hv]; exact hK)
end Go.Proofs.YtihcmifikbkbcaaGreat

/- SortStableFunc's work on lists, plain: what its loops make of a list; all of it are exchanges. -/
namespace Go.Proofs.YtihcmifikbkbcaaGreat
set_option linter.unusedVariables false
section
variable {D : Type}
def CbIs (cb : Bool) (p : Prop) : Prop := cb = true ↔ p
/-- Two elements are exchanged. -/
def swp (l : List D) (i j : Nat) : List D :=
  match l[i]?, l[j]? with
  | some a, some b => (l.set i b).set j a
  | _, _ => l
theorem swp_at {l : List D} {i j : Nat} (hi : i < l.length) (hj : j < l.length) : swp l i j = (l.set i l[j]).set j l[i] := by
  unfold swp
  rw [List.getElem?_eq_getElem hi, List.getElem?_eq_getElem hj]
theorem swp_len (l : List D) (i j : Nat) : (swp l i j).length = l.length := by
  unfold swp
  split <;> simp
theorem swp_perm (l : List D) (i j : Nat) : (swp l i j).Perm l := by
  by_cases hi : i < l.length
  · by_cases hj : j < l.length
    · rw [swp_at hi hj]
      exact List.set_set_perm hi hj
    · unfold swp
      rw [List.getElem?_eq_getElem hi, List.getElem?_eq_none (by omega : l.length ≤ j)]
  · unfold swp
    rw [List.getElem?_eq_none (by omega : l.length ≤ i)]
/-- Is the element at i less than that at j. -/
def ltAt (lt : D → D → Bool) (l : List D) (i j : Nat) : Bool :=
  match l[i]?, l[j]? with
  | some a, some b => lt a b
  | _, _ => false
theorem ltAt_at {lt : D → D → Bool} {l : List D} {i j : Nat} (hi : i < l.length) (hj : j < l.length) : ltAt lt l i j = lt l[i] l[j] := by
  unfold ltAt
  rw [List.getElem?_eq_getElem hi, List.getElem?_eq_getElem hj]
/-- n steps upwards from i. -/
def upF (f : Nat → List D → List D) : Nat → Nat → List D → List D
  | 0, _, l => l
  | n + 1, i, l => upF f n (i + 1) (f i l)
/-- n steps downwards from i. -/
def dnF (f : Nat → List D → List D) : Nat → Nat → List D → List D
  | 0, _, l => l
  | n + 1, i, l => dnF f n (i - 1) (f i l)
/-- A binary search. -/
def bsF (p : Nat → Bool) : Nat → Nat → Nat → Nat
  | 0, i, _ => i
  | n + 1, i, j => if i < j then (if p ((i + j) / 2) = true then bsF p n ((i + j) / 2 + 1) j else bsF p n i ((i + j) / 2)) else i
theorem bsF_end (p : Nat → Bool) (n : Nat) {i j : Nat} (h : j ≤ i) : bsF p n i j = i := by
  cases n with
  | zero => rfl
  | succ n => unfold bsF; rw [if_neg (by omega)]
theorem bsF_yes {p : Nat → Bool} {n i j : Nat} (h : i < j) (hp : p ((i + j) / 2) = true) : bsF p (n + 1) i j = bsF p n ((i + j) / 2 + 1) j := by
  rw [bsF, if_pos h, if_pos hp]
theorem bsF_no {p : Nat → Bool} {n i j : Nat} (h : i < j) (hp : p ((i + j) / 2) = false) : bsF p (n + 1) i j = bsF p n i ((i + j) / 2) := by
  rw [bsF, if_pos h, if_neg (by rw [hp]; simp)]
theorem bsF_in (p : Nat → Bool) : ∀ (n : Nat) {i j : Nat}, i ≤ j → i ≤ bsF p n i j ∧ bsF p n i j ≤ j
  | 0, i, j, h => ⟨Nat.le_refl _, h⟩
  | n + 1, i, j, h => by
    unfold bsF
    split
    · split
      · have := bsF_in p n (i := (i + j) / 2 + 1) (j := j) (by omega)
        omega
      · have := bsF_in p n (i := i) (j := (i + j) / 2) (by omega)
        omega
    · omega
/-- The element at j goes down to its place, not below a. -/
def insJ (lt : D → D → Bool) (a : Nat) : Nat → List D → List D
  | 0, l => l
  | j + 1, l => if a < j + 1 ∧ ltAt lt l (j + 1) j = true then insJ lt a j (swp l (j + 1) j) else l
theorem insJ_end {lt : D → D → Bool} {a j : Nat} {l : List D} (h : j ≤ a) : insJ lt a j l = l := by
  cases j with
  | zero => rfl
  | succ j => rw [insJ, if_neg (fun hh => absurd hh.1 (by omega))]
def insB (lt : D → D → Bool) (a b : Nat) (l : List D) : List D := upF (insJ lt a) (b - (a + 1)) (a + 1) l
/-- Two stretches of n are exchanged. -/
def swR (a b n : Nat) (l : List D) : List D := upF (fun i l => swp l (a + i) (b + i)) n 0 l
def rotF (m : Nat) : Nat → Nat → Nat → List D → List D
  | 0, _, _, l => l
  | n + 1, i, j, l => if i = j then swR (m - i) m i l else if j < i then rotF m n (i - j) j (swR (m - i) m j l) else rotF m n i (j - i) (swR (m - i) (m + j - i) i l)
theorem rotF_eq {m n i : Nat} {l : List D} : rotF m (n + 1) i i l = swR (m - i) m i l := by rw [rotF, if_pos rfl]
theorem rotF_gt {m n i j : Nat} {l : List D} (h : j < i) : rotF m (n + 1) i j l = rotF m n (i - j) j (swR (m - i) m j l) := by rw [rotF, if_neg (by omega), if_pos h]
theorem rotF_lt {m n i j : Nat} {l : List D} (h : i < j) : rotF m (n + 1) i j l = rotF m n i (j - i) (swR (m - i) (m + j - i) i l) := by rw [rotF, if_neg (by omega), if_neg (by omega)]
def upS (n k : Nat) (l : List D) : List D := upF (fun k l => swp l k (k + 1)) n k l
def dnS (n k : Nat) (l : List D) : List D := dnF (fun k l => swp l k (k - 1)) n k l
def symI1 (lt : D → D → Bool) (a m b : Nat) (l : List D) : Nat := bsF (fun h => ltAt lt l h a) (b - m) m b
def symI2 (lt : D → D → Bool) (a m b : Nat) (l : List D) : Nat := bsF (fun h => !ltAt lt l m h) (m - a) a m
def symS0 (a m b : Nat) : Nat := if (a + b) / 2 < m then (a + b) / 2 + m - b else a
def symR0 (a m b : Nat) : Nat := if (a + b) / 2 < m then (a + b) / 2 else m
def symSt (lt : D → D → Bool) (a m b : Nat) (l : List D) : Nat := bsF (fun c => !ltAt lt l ((a + b) / 2 + m - 1 - c) c) (symR0 a m b - symS0 a m b) (symS0 a m b) (symR0 a m b)
def symL1 (st m en : Nat) (l : List D) : List D := if st < m ∧ m < en then rotF m (m - st + (en - m)) (m - st) (en - m) l else l
def symF (lt : D → D → Bool) : Nat → Nat → Nat → Nat → List D → List D
  | 0, _, _, _, l => l
  | n + 1, a, m, b, l =>
    if m - a = 1 then upS (symI1 lt a m b l - 1 - a) a l
    else if b - m = 1 then dnS (m - symI2 lt a m b l) m l
    else
      let st := symSt lt a m b l
      let en := (a + b) / 2 + m - st
      let l1 := symL1 st m en l
      let l2 := if a < st ∧ st < (a + b) / 2 then symF lt n a st ((a + b) / 2) l1 else l1
      if (a + b) / 2 < en ∧ en < b then symF lt n ((a + b) / 2) en b l2 else l2
def st1 (lt : D → D → Bool) (n : Nat) : Nat → Nat → List D → List D
  | 0, _, l => l
  | f + 1, a, l => if a + 20 ≤ n then st1 lt n f (a + 20) (insB lt a (a + 20) l) else insB lt a n l
def st2 (lt : D → D → Bool) (n bs : Nat) : Nat → Nat → List D → List D
  | 0, _, l => l
  | f + 1, a, l => if a + 2 * bs ≤ n then st2 lt n bs f (a + 2 * bs) (symF lt (2 * bs) a (a + bs) (a + 2 * bs) l) else if a + bs < n then symF lt (n - a) a (a + bs) n l else l
def st3 (lt : D → D → Bool) (n : Nat) : Nat → Nat → List D → List D
  | 0, _, l => l
  | f + 1, bs, l => if bs < n then st3 lt n f (2 * bs) (st2 lt n bs (n + 1) 0 l) else l
/-- What SortStableFunc makes of a list. -/
def stabF (lt : D → D → Bool) (l : List D) : List D := st3 lt l.length (l.length + 1) 20 (st1 lt l.length (l.length + 1) 0 l)
theorem upF_perm {f : Nat → List D → List D} (h : ∀ i l, (f i l).Perm l) : ∀ (n i : Nat) (l : List D), (upF f n i l).Perm l
  | 0, _, l => .refl _
  | n + 1, i, l => (upF_perm h n (i + 1) _).trans (h i l)
theorem dnF_perm {f : Nat → List D → List D} (h : ∀ i l, (f i l).Perm l) : ∀ (n i : Nat) (l : List D), (dnF f n i l).Perm l
  | 0, _, l => .refl _
  | n + 1, i, l => (dnF_perm h n (i - 1) _).trans (h i l)
theorem insJ_perm (lt : D → D → Bool) (a : Nat) : ∀ (j : Nat) (l : List D), (insJ lt a j l).Perm l
  | 0, l => .refl _
  | j + 1, l => by
    unfold insJ
    split
    · exact (insJ_perm lt a j _).trans (swp_perm _ _ _)
    · exact .refl _
theorem insB_perm (lt : D → D → Bool) (a b : Nat) (l : List D) : (insB lt a b l).Perm l := upF_perm (insJ_perm lt a) _ _ _
theorem swR_perm (a b n : Nat) (l : List D) : (swR a b n l).Perm l := upF_perm (fun i l => swp_perm l _ _) _ _ _
theorem upS_perm (n k : Nat) (l : List D) : (upS n k l).Perm l := upF_perm (fun i l => swp_perm l _ _) _ _ _
theorem dnS_perm (n k : Nat) (l : List D) : (dnS n k l).Perm l := dnF_perm (fun i l => swp_perm l _ _) _ _ _
theorem rotF_perm (m : Nat) : ∀ (n i j : Nat) (l : List D), (rotF m n i j l).Perm l
  | 0, _, _, l => .refl _
  | n + 1, i, j, l => by
    unfold rotF
    split
    · exact swR_perm _ _ _ _
    · split
      · exact (rotF_perm m n _ _ _).trans (swR_perm _ _ _ _)
      · exact (rotF_perm m n _ _ _).trans (swR_perm _ _ _ _)
theorem symL1_perm (st m en : Nat) (l : List D) : (symL1 st m en l).Perm l := by
  unfold symL1
  split
  · exact rotF_perm _ _ _ _ _
  · exact .refl _
theorem symF_perm (lt : D → D → Bool) : ∀ (n a m b : Nat) (l : List D), (symF lt n a m b l).Perm l
  | 0, _, _, _, l => .refl _
  | n + 1, a, m, b, l => by
    unfold symF
    split
    · exact upS_perm _ _ _
    · split
      · exact dnS_perm _ _ _
      · have h1 := symL1_perm (symSt lt a m b l) m ((a + b) / 2 + m - symSt lt a m b l) l
        dsimp only
        generalize symL1 (symSt lt a m b l) m ((a + b) / 2 + m - symSt lt a m b l) l = l1 at h1
        have h2 : (if a < symSt lt a m b l ∧ symSt lt a m b l < (a + b) / 2 then symF lt n a (symSt lt a m b l) ((a + b) / 2) l1 else l1).Perm l := by
          split
          · exact (symF_perm lt n _ _ _ _).trans h1
          · exact h1
        split
        · exact (symF_perm lt n _ _ _ _).trans h2
        · exact h2
theorem st1_perm (lt : D → D → Bool) (n : Nat) : ∀ (f a : Nat) (l : List D), (st1 lt n f a l).Perm l
  | 0, _, l => .refl _
  | f + 1, a, l => by
    unfold st1
    split
    · exact (st1_perm lt n f _ _).trans (insB_perm _ _ _ _)
    · exact insB_perm _ _ _ _
theorem st2_perm (lt : D → D → Bool) (n bs : Nat) : ∀ (f a : Nat) (l : List D), (st2 lt n bs f a l).Perm l
  | 0, _, l => .refl _
  | f + 1, a, l => by
    unfold st2
    split
    · exact (st2_perm lt n bs f _ _).trans (symF_perm _ _ _ _ _ _)
    · split
      · exact symF_perm _ _ _ _ _ _
      · exact .refl _
theorem st3_perm (lt : D → D → Bool) (n : Nat) : ∀ (f bs : Nat) (l : List D), (st3 lt n f bs l).Perm l
  | 0, _, l => .refl _
  | f + 1, bs, l => by
    unfold st3
    split
    · exact (st3_perm lt n f _ _).trans (st2_perm _ _ _ _ _ _)
    · exact .refl _
theorem stabF_perm (lt : D → D → Bool) (l : List D) : (stabF lt l).Perm l := (st3_perm _ _ _ _ _).trans (st1_perm _ _ _ _ _)
theorem stabF_nil (lt : D → D → Bool) : stabF lt [] = [] := List.Perm.eq_nil (stabF_perm lt [])
end
end Go.Proofs.YtihcmifikbkbcaaGreat

/- Plain facts on dividing an amount by weights: no program in sight. -/
namespace Hb

/-- What each weight gets at least. -/
def parts (c s : Nat) (ws : List Nat) : List Nat := ws.map fun z => c * z / s

theorem parts_length (c s : Nat) (ws : List Nat) : (parts c s ws).length = ws.length := by simp [parts]

theorem parts_le (c s : Nat) (ws : List Nat) : (parts c s ws).sum * s ≤ c * ws.sum := by
  induction ws with
  | nil => simp [parts]
  | cons z ws ih =>
    simp only [parts, List.map_cons, List.sum_cons] at ih ⊢
    rw [Nat.add_mul, Nat.mul_add]
    have := Nat.div_mul_le_self (c * z) s
    omega
theorem parts_gt (c s : Nat) (hs : 0 < s) (ws : List Nat) : c * ws.sum ≤ ((parts c s ws).sum + ws.length) * s := by
  induction ws with
  | nil => simp [parts]
  | cons z ws ih =>
    simp only [parts, List.map_cons, List.sum_cons, List.length_cons] at ih ⊢
    rw [Nat.mul_add]
    have h1 := Nat.div_add_mod' (c * z) s
    have h2 := Nat.mod_lt (c * z) hs
    have h3 : c * z ≤ (c * z / s + 1) * s := by rw [Nat.succ_mul]; omega
    have e : (c * z / s + (List.map (fun z => c * z / s) ws).sum + (ws.length + 1)) * s = (c * z / s + 1) * s + ((List.map (fun z => c * z / s) ws).sum + ws.length) * s := by
      rw [← Nat.add_mul]; congr 1; omega
    rw [e]
    omega
theorem parts_sum (c : Nat) (ws : List Nat) (hs : 0 < ws.sum) : (parts c ws.sum ws).sum ≤ c ∧ c ≤ (parts c ws.sum ws).sum + ws.length :=
  ⟨Nat.le_of_mul_le_mul_right (parts_le c ws.sum ws) hs, Nat.le_of_mul_le_mul_right (parts_gt c ws.sum hs ws) hs⟩
theorem parts_each {c s z : Nat} (hz : z ≤ s) : c * z / s ≤ c := by
  apply Nat.div_le_of_le_mul
  rw [Nat.mul_comm s c]
  exact Nat.mul_le_mul_left _ hz
theorem mem_le_sum {ws : List Nat} {z : Nat} (h : z ∈ ws) : z ≤ ws.sum := by
  induction ws with
  | nil => cases h
  | cons a ws ih =>
    rw [List.sum_cons]
    rcases List.mem_cons.1 h with rfl | h
    · omega
    · have := ih h; omega
theorem sum_le {ws : List Nat} {b : Nat} (h : ∀ z ∈ ws, z ≤ b) : ws.sum ≤ ws.length * b := by
  induction ws with
  | nil => simp
  | cons a ws ih =>
    have h1 := ih fun z hz => h z (List.mem_cons_of_mem _ hz)
    have h2 := h a List.mem_cons_self
    rw [List.sum_cons, List.length_cons, Nat.succ_mul]
    omega
theorem sum_set {ws : List Nat} {i : Nat} (h : i < ws.length) : (ws.set i (ws[i] + 1)).sum = ws.sum + 1 := by
  induction ws generalizing i with
  | nil => simp at h
  | cons a ws ih =>
    cases i with
    | zero => simp; omega
    | succ i =>
      simp only [List.set_cons_succ, List.getElem_cons_succ, List.sum_cons]
      rw [ih (by simpa using h)]
      omega
theorem sum_take_succ {ws : List Nat} {k : Nat} (h : k < ws.length) : (ws.take (k + 1)).sum = (ws.take k).sum + ws[k] := by
  rw [List.take_succ_eq_append_getElem h, List.sum_append]; simp
theorem sum_take_le (ws : List Nat) (k : Nat) : (ws.take k).sum ≤ ws.sum := by
  have : (ws.take k).sum + (ws.drop k).sum = ws.sum := by rw [← List.sum_append, List.take_append_drop]
  omega
theorem sum_cast (ws : List Nat) : (ws.map fun z : Nat => (z : Int)).sum = (ws.sum : Int) := by
  induction ws with
  | nil => rfl
  | cons a ws ih => simp [ih]
end Hb

/- Prices, plain: shares of an amount, what offers take of items. -/
namespace Go.Proofs.YtihcmifikbkbcaaGreat
set_option linter.unusedVariables false

/-- Pointwise not more. -/
def leL : List Nat → List Nat → Prop
  | [], [] => True
  | x :: xs, y :: ys => x ≤ y ∧ leL xs ys
  | _, _ => False
def subL : List Nat → List Nat → List Nat
  | x :: xs, y :: ys => (x - y) :: subL xs ys
  | xs, _ => xs
theorem leL.len : ∀ {xs ys : List Nat}, leL xs ys → xs.length = ys.length
  | [], [], _ => rfl
  | x :: xs, y :: ys, h => by simp [leL.len h.2]
theorem leL.refl : ∀ (xs : List Nat), leL xs xs
  | [] => trivial
  | x :: xs => ⟨Nat.le_refl _, leL.refl xs⟩
theorem leL.trans : ∀ {xs ys zs : List Nat}, leL xs ys → leL ys zs → leL xs zs
  | [], [], [], _, _ => trivial
  | x :: xs, y :: ys, z :: zs, h, k => ⟨Nat.le_trans h.1 k.1, leL.trans h.2 k.2⟩
theorem leL.sum : ∀ {xs ys : List Nat}, leL xs ys → xs.sum ≤ ys.sum
  | [], [], _ => Nat.le_refl _
  | x :: xs, y :: ys, h => by have := leL.sum h.2; have := h.1; simp; omega
theorem leL.at_ : ∀ {xs ys : List Nat}, leL xs ys → ∀ (i : Nat) (hi : i < xs.length) (hj : i < ys.length), xs[i] ≤ ys[i]
  | x :: xs, y :: ys, h, 0, _, _ => h.1
  | x :: xs, y :: ys, h, i + 1, hi, hj => leL.at_ h.2 i (by simpa using hi) (by simpa using hj)
theorem leL_of : ∀ {xs ys : List Nat}, xs.length = ys.length → (∀ i (hi : i < xs.length) (hj : i < ys.length), xs[i] ≤ ys[i]) → leL xs ys
  | [], [], _, _ => trivial
  | x :: xs, y :: ys, h, k => ⟨k 0 (by simp) (by simp), leL_of (by simpa using h) (fun i hi hj => k (i + 1) (by simpa using hi) (by simpa using hj))⟩
  | [], y :: ys, h, _ => by simp at h
  | x :: xs, [], h, _ => by simp at h
theorem subL_sum : ∀ {xs ys : List Nat}, leL ys xs → (subL xs ys).sum + ys.sum = xs.sum
  | [], [], _ => rfl
  | x :: xs, y :: ys, h => by have := subL_sum h.2; have := h.1; simp [subL]; omega
theorem subL_le : ∀ {xs ys : List Nat}, leL ys xs → leL (subL xs ys) xs
  | [], [], _ => trivial
  | x :: xs, y :: ys, h => ⟨by omega, subL_le h.2⟩
theorem subL_len {xs ys : List Nat} (h : leL ys xs) : (subL xs ys).length = xs.length := (subL_le h).len
theorem subL_at : ∀ {xs ys : List Nat} {i : Nat} (h : leL ys xs) (hi : i < (subL xs ys).length) (hx : i < xs.length) (hy : i < ys.length), (subL xs ys)[i] = xs[i] - ys[i]
  | x :: xs, y :: ys, 0, h, hi, hx, hy => rfl
  | x :: xs, y :: ys, i + 1, h, hi, hx, hy => subL_at (xs := xs) (ys := ys) (i := i) h.2 (by simpa [subL] using hi) (by simpa using hx) (by simpa using hy)

/- Shares. -/
/-- What is left over at each weight. -/
def rests (c s : Nat) (ws : List Nat) : List Nat := ws.map fun z => c * z % s
theorem rests_len (c s : Nat) (ws : List Nat) : (rests c s ws).length = ws.length := by simp [rests]
theorem rests_lt (c s : Nat) (ws : List Nat) (hs : 0 < s) : ∀ r ∈ rests c s ws, r < s := by
  intro r hr
  obtain ⟨z, _, rfl⟩ := List.mem_map.1 hr
  exact Nat.mod_lt _ hs
theorem rests_sum (c s : Nat) (ws : List Nat) : (Hb.parts c s ws).sum * s + (rests c s ws).sum = c * ws.sum := by
  induction ws with
  | nil => simp [Hb.parts, rests]
  | cons z ws ih =>
    simp only [Hb.parts, rests, List.map_cons, List.sum_cons] at ih ⊢
    rw [Nat.add_mul, Nat.mul_add]
    have := Nat.div_add_mod' (c * z) s
    omega
/-- Which of two places comes first. -/
def ltR (rs : List Nat) (a b : Nat) : Bool := decide (rs.getD b 0 < rs.getD a 0)
def ordR (rs : List Nat) : List Nat := isort (ltR rs) (List.range rs.length)
theorem ordR_perm (rs : List Nat) : (ordR rs).Perm (List.range rs.length) := isort_perm _ _
theorem ordR_len (rs : List Nat) : (ordR rs).length = rs.length := by have := (ordR_perm rs).length_eq; simpa using this
theorem ordR_lt {rs : List Nat} {i : Nat} (h : i ∈ ordR rs) : i < rs.length := by have := (ordR_perm rs).mem_iff.1 h; simpa using this
theorem ordR_nodup (rs : List Nat) : (ordR rs).Nodup := (ordR_perm rs).nodup_iff.2 List.nodup_range
theorem ordR_sorted (rs : List Nat) : (ordR rs).Pairwise fun a b => rs.getD b 0 ≤ rs.getD a 0 := by
  refine (isort_sorted (lt := ltR rs) ?_ ?_ _).imp ?_
  · intro a b h
    simp only [ltR, decide_eq_true_eq, decide_eq_false_iff_not] at h ⊢
    omega
  · intro a b c h k
    simp only [ltR, decide_eq_false_iff_not] at h k ⊢
    omega
  · intro a b h
    simp only [ltR, decide_eq_false_iff_not] at h
    omega
theorem map_range_getD (rs : List Nat) : (List.range rs.length).map (fun i => rs.getD i 0) = rs := by
  apply List.ext_getElem
  · simp
  · intro i h1 h2
    simp at h1
    simp [h1]
theorem ordR_sum (rs : List Nat) : ((ordR rs).map fun i => rs.getD i 0).sum = rs.sum := by
  have h := (ordR_perm rs).map (fun i => rs.getD i 0)
  rw [map_range_getD] at h
  exact h.sum_nat
theorem pos_of_sorted {l : List Nat} {k s : Nat} (hp : l.Pairwise fun a b => b ≤ a) (hs : l.sum = k * s) (hl : ∀ x ∈ l, x < s) : ∀ x ∈ l.take k, 0 < x := by
  intro x hx
  rcases Nat.eq_zero_or_pos x with h0 | h0
  · exfalso
    obtain ⟨i, hi, hxi⟩ := List.getElem_of_mem hx
    have hik : i < k := by have := List.length_take_le k l; omega
    have hil : i < l.length := by have := List.length_take_le' k l; omega
    have hxi2 : l[i] = 0 := by rw [← h0, ← hxi]; simp
    have hz : ∀ y ∈ l.drop i, y = 0 := by
      intro y hy
      obtain ⟨j, hj, rfl⟩ := List.getElem_of_mem hy
      rw [List.getElem_drop]
      rcases Nat.eq_zero_or_pos j with e | e
      · subst e; simpa using hxi2
      · have := List.pairwise_iff_getElem.1 hp i (i + j) hil (by simp at hj; omega) (by omega)
        rw [hxi2] at this
        omega
    have hsum0 : ∀ m : List Nat, (∀ y ∈ m, y = 0) → m.sum = 0 := by
      intro m hm
      induction m with
      | nil => rfl
      | cons a m ih => simp [hm a (by simp), ih (fun y hy => hm y (by simp [hy]))]
    have hd0 : (l.drop i).sum = 0 := hsum0 _ hz
    have ht : (l.take i).sum + (l.drop i).sum = l.sum := by rw [← List.sum_append_nat, List.take_append_drop]
    have hb : ∀ m : List Nat, (∀ y ∈ m, y < s) → m.sum ≤ m.length * (s - 1) := by
      intro m hm
      induction m with
      | nil => simp
      | cons a m ih =>
        have h1 := ih (fun y hy => hm y (by simp [hy]))
        have h2 := hm a (by simp)
        simp only [List.sum_cons, List.length_cons, Nat.succ_mul]
        omega
    have hb1 := hb (l.take i) (fun y hy => hl y (List.mem_of_mem_take hy))
    have hs0 : 0 < s := by have := hl _ (List.getElem_mem hil); omega
    have hlen : (l.take i).length = i := by simp; omega
    rw [hlen] at hb1
    have h3 : i * (s - 1) ≤ i * s := Nat.mul_le_mul_left _ (by omega)
    have h4 : (i + 1) * s ≤ k * s := Nat.mul_le_mul_right _ (by omega)
    rw [Nat.succ_mul] at h4
    omega
  · exact h0
/-- One more at each of some places. -/
def incs (l : List Nat) (out : List Nat) : List Nat := l.foldl (fun o i => o.set i (o.getD i 0 + 1)) out
theorem incs_nil (out : List Nat) : incs [] out = out := rfl
theorem incs_snoc (l : List Nat) (i : Nat) (out : List Nat) : incs (l ++ [i]) out = (incs l out).set i ((incs l out).getD i 0 + 1) := by simp [incs]
theorem incs_len (l : List Nat) (out : List Nat) : (incs l out).length = out.length := by
  unfold incs
  induction l generalizing out with
  | nil => rfl
  | cons i l ih => rw [List.foldl_cons, ih]; simp
theorem incs_sum (l : List Nat) (out : List Nat) (h : ∀ i ∈ l, i < out.length) : (incs l out).sum = out.sum + l.length := by
  unfold incs
  induction l generalizing out with
  | nil => rfl
  | cons i l ih =>
    have hi : i < out.length := h i (by simp)
    rw [List.foldl_cons, ih _ (fun j hj => by simp; exact h j (by simp [hj]))]
    have : out.getD i 0 = out[i] := by simp [hi]
    rw [this, Hb.sum_set hi]
    simp
    omega
theorem incs_at (l : List Nat) (out : List Nat) (hn : l.Nodup) (i : Nat) : (incs l out).getD i 0 = if i ∈ l ∧ i < out.length then out.getD i 0 + 1 else out.getD i 0 := by
  unfold incs
  induction l generalizing out with
  | nil => simp
  | cons j l ih =>
    rw [List.foldl_cons, ih _ (List.nodup_cons.1 hn).2]
    have hj := (List.nodup_cons.1 hn).1
    by_cases e : i = j
    · subst e
      rw [if_neg (fun h => hj h.1)]
      by_cases hl : i < out.length
      · rw [if_pos ⟨by simp, hl⟩]
        simp [hl]
      · rw [if_neg (fun h => hl h.2)]
        simp only [List.getD_eq_getElem?_getD]
        rw [List.getElem?_eq_none (by simp; omega), List.getElem?_eq_none (by omega)]
    · have e1 : (out.set j (out.getD j 0 + 1)).getD i 0 = out.getD i 0 := by
        simp only [List.getD_eq_getElem?_getD]
        rw [List.getElem?_set_ne (Ne.symm e)]
      rw [e1]
      simp [e]
/-- An amount divided by weights. -/
def leftF (c : Nat) (ws : List Nat) : Nat := c - (Hb.parts c ws.sum ws).sum
def shareF (c : Nat) (ws : List Nat) : List Nat := incs ((ordR (rests c ws.sum ws)).take (leftF c ws)) (Hb.parts c ws.sum ws)
theorem leftF_le {c : Nat} {ws : List Nat} (hs : 0 < ws.sum) : leftF c ws ≤ ws.length := by
  have := Hb.parts_sum c ws hs
  unfold leftF
  omega
theorem shareF_len (c : Nat) (ws : List Nat) : (shareF c ws).length = ws.length := by unfold shareF; rw [incs_len, Hb.parts_length]
theorem shareF_sum {c : Nat} {ws : List Nat} (hs : 0 < ws.sum) : (shareF c ws).sum = c := by
  unfold shareF
  rw [incs_sum]
  · rw [List.length_take, ordR_len, rests_len]
    have := leftF_le (c := c) hs
    have := Hb.parts_sum c ws hs
    unfold leftF at *
    omega
  · intro i hi
    have := ordR_lt (List.mem_of_mem_take hi)
    rw [rests_len] at this
    rw [Hb.parts_length]
    exact this
theorem shareF_le {c : Nat} {ws : List Nat} (hs : 0 < ws.sum) (hc : c ≤ ws.sum) : leL (shareF c ws) ws := by
  apply leL_of (shareF_len _ _)
  intro i hi hj
  have hnd : ((ordR (rests c ws.sum ws)).take (leftF c ws)).Nodup := (List.take_sublist _ _).nodup (ordR_nodup _)
  have h1 := incs_at ((ordR (rests c ws.sum ws)).take (leftF c ws)) (Hb.parts c ws.sum ws) hnd i
  have hp : (Hb.parts c ws.sum ws).getD i 0 = c * ws[i] / ws.sum := by simp [Hb.parts, hj]
  have e : (shareF c ws)[i] = (shareF c ws).getD i 0 := by simp [hi]
  rw [e]
  unfold shareF
  rw [h1, hp]
  have hle : c * ws[i] / ws.sum ≤ ws[i] := by
    apply Nat.div_le_of_le_mul
    exact Nat.mul_le_mul_right _ hc
  by_cases hm : i ∈ (ordR (rests c ws.sum ws)).take (leftF c ws) ∧ i < (Hb.parts c ws.sum ws).length
  · rw [if_pos hm]
    have hsorted : ((ordR (rests c ws.sum ws)).map fun j => (rests c ws.sum ws).getD j 0).Pairwise fun a b => b ≤ a := List.pairwise_map.2 (ordR_sorted _)
    have hsum : ((ordR (rests c ws.sum ws)).map fun j => (rests c ws.sum ws).getD j 0).sum = leftF c ws * ws.sum := by
      rw [ordR_sum]
      have h2 := rests_sum c ws.sum ws
      have h3 := Hb.parts_sum c ws hs
      unfold leftF
      rw [Nat.sub_mul]
      omega
    have hlt : ∀ x ∈ (ordR (rests c ws.sum ws)).map (fun j => (rests c ws.sum ws).getD j 0), x < ws.sum := by
      intro x hx
      obtain ⟨j, hj2, rfl⟩ := List.mem_map.1 hx
      have hj3 := ordR_lt hj2
      have := rests_lt c ws.sum ws hs _ (List.getElem_mem hj3)
      simpa [hj3] using this
    have hpos := pos_of_sorted hsorted hsum hlt
    have hr : 0 < (rests c ws.sum ws).getD i 0 := by
      apply hpos
      rw [← List.map_take]
      exact List.mem_map.2 ⟨i, hm.1, rfl⟩
    have hr2 : (rests c ws.sum ws).getD i 0 = c * ws[i] % ws.sum := by simp [rests, hj]
    rw [hr2] at hr
    have hd := Nat.div_add_mod' (c * ws[i]) ws.sum
    have hcm : c * ws[i] ≤ ws.sum * ws[i] := Nat.mul_le_mul_right _ hc
    rcases Nat.lt_or_ge (c * ws[i] / ws.sum) ws[i] with h | h
    · omega
    · exfalso
      have : ws[i] * ws.sum ≤ c * ws[i] / ws.sum * ws.sum := Nat.mul_le_mul_right _ h
      rw [Nat.mul_comm ws[i]] at this
      omega
  · rw [if_neg hm]
    exact hle
/-- Amounts held to a greatest sum. -/
def mostF (l : List Nat) (g : Nat) : List Nat := if g = 0 ∨ l.sum ≤ g then l else shareF g l
theorem mostF_le (l : List Nat) (g : Nat) : leL (mostF l g) l := by
  unfold mostF
  split
  · exact leL.refl _
  · exact shareF_le (by omega) (by omega)
/- Offers and baskets. -/
structure OfD where
  key : ByteArray
  kind : Int
  a : Int
  b : Int
  ta : Option Addr
  tc : Nat
  tags : List ByteArray
  least : Int
  most : Int
  group : ByteArray
  alone : Bool
  order : Int
  first : Int
  last : Int
structure ItD where
  key : ByteArray
  cents : Int
  many : Int
  ta : Option Addr
  tc : Nat
  tags : List ByteArray
def hasS (l : List ByteArray) (s : ByteArray) : Bool := Lib.containsS l s
def matB (o : OfD) (x : ItD) : Bool := o.tags.isEmpty || o.tags.any (hasS x.tags)
/-- What a percentage takes, ahead of the greatest sum. -/
def perW (o : OfD) : List ItD → List Nat → List Nat
  | x :: xs, n :: ns => (if matB o x = true then n * o.a.toNat / 100 else 0) :: perW o xs ns
  | _, _ => []
/-- The weights of an amount. -/
def amtW (o : OfD) : List ItD → List Nat → List Nat
  | x :: xs, n :: ns => (if matB o x = true then n else 0) :: amtW o xs ns
  | _, _ => []
theorem perW_len (o : OfD) : ∀ {xs : List ItD} {ns : List Nat}, xs.length = ns.length → (perW o xs ns).length = ns.length
  | [], [], _ => rfl
  | x :: xs, n :: ns, h => by simp [perW, perW_len o (by simpa using h)]
  | [], n :: ns, h => by simp at h
  | x :: xs, [], h => by simp at h
theorem amtW_len (o : OfD) : ∀ {xs : List ItD} {ns : List Nat}, xs.length = ns.length → (amtW o xs ns).length = ns.length
  | [], [], _ => rfl
  | x :: xs, n :: ns, h => by simp [amtW, amtW_len o (by simpa using h)]
  | [], n :: ns, h => by simp at h
  | x :: xs, [], h => by simp at h
theorem perW_at (o : OfD) : ∀ {xs : List ItD} {ns : List Nat} (h : xs.length = ns.length) (i : Nat) (hi : i < ns.length), (perW o xs ns)[i]'(by rw [perW_len o h]; exact hi) = if matB o (xs[i]'(by rw [h]; exact hi)) = true then ns[i] * o.a.toNat / 100 else 0
  | [], [], _, i, hi => by simp at hi
  | [], n :: ns, h, _, _ => by simp at h
  | x :: xs, [], h, _, _ => by simp at h
  | x :: xs, n :: ns, h, 0, _ => rfl
  | x :: xs, n :: ns, h, i + 1, hi => by
    have := perW_at o (xs := xs) (ns := ns) (by simpa using h) i (by simpa using hi)
    simpa [perW] using this
theorem amtW_at (o : OfD) : ∀ {xs : List ItD} {ns : List Nat} (h : xs.length = ns.length) (i : Nat) (hi : i < ns.length), (amtW o xs ns)[i]'(by rw [amtW_len o h]; exact hi) = if matB o (xs[i]'(by rw [h]; exact hi)) = true then ns[i] else 0
  | [], [], _, i, hi => by simp at hi
  | [], n :: ns, h, _, _ => by simp at h
  | x :: xs, [], h, _, _ => by simp at h
  | x :: xs, n :: ns, h, 0, _ => rfl
  | x :: xs, n :: ns, h, i + 1, hi => by
    have := amtW_at o (xs := xs) (ns := ns) (by simpa using h) i (by simpa using hi)
    simpa [amtW] using this
theorem perW_le {o : OfD} (ha : o.a ≤ 100) : ∀ {xs : List ItD} {ns : List Nat}, xs.length = ns.length → leL (perW o xs ns) ns
  | [], [], _ => trivial
  | x :: xs, n :: ns, h => by
    refine ⟨?_, perW_le ha (by simpa using h)⟩
    split
    · apply Nat.div_le_of_le_mul
      rw [Nat.mul_comm]
      exact Nat.mul_le_mul_right _ (by omega)
    · omega
  | [], n :: ns, h => by simp at h
  | x :: xs, [], h => by simp at h
theorem amtW_le {o : OfD} : ∀ {xs : List ItD} {ns : List Nat}, xs.length = ns.length → leL (amtW o xs ns) ns
  | [], [], _ => trivial
  | x :: xs, n :: ns, h => by
    refine ⟨?_, amtW_le (by simpa using h)⟩
    split <;> omega
  | [], n :: ns, h => by simp at h
  | x :: xs, [], h => by simp at h
def capF (g n : Nat) : Nat := if g = 0 then n else min n g
theorem capF_le (g n : Nat) : capF g n ≤ n := by unfold capF; split <;> omega
def perF (o : OfD) (xs : List ItD) (ns : List Nat) : List Nat := mostF (perW o xs ns) o.most.toNat
def amtF (o : OfD) (xs : List ItD) (ns : List Nat) : List Nat :=
  if (amtW o xs ns).sum = 0 then amtW o xs ns else shareF (capF o.most.toNat (min o.a.toNat (amtW o xs ns).sum)) (amtW o xs ns)
theorem perF_le {o : OfD} (ha : o.a ≤ 100) {xs : List ItD} {ns : List Nat} (h : xs.length = ns.length) : leL (perF o xs ns) ns := (mostF_le _ _).trans (perW_le ha h)
theorem amtF_le {o : OfD} {xs : List ItD} {ns : List Nat} (h : xs.length = ns.length) : leL (amtF o xs ns) ns := by
  unfold amtF
  split
  · exact amtW_le h
  · refine (shareF_le (by omega) ?_).trans (amtW_le h)
    have := capF_le o.most.toNat (min o.a.toNat (amtW o xs ns).sum)
    omega
/- Free pieces. -/
structure PcD where
  item : Nat
  cents : Nat
/-- The pieces, from the item i on. -/
def pcs (o : OfD) : Nat → List ItD → List Nat → List PcD
  | i, x :: xs, n :: ns => (if matB o x = true then List.replicate x.many.toNat ⟨i, n / x.many.toNat⟩ else []) ++ pcs o (i + 1) xs ns
  | _, _, _ => []
/-- What pieces of an item cost. -/
def pcSum (i : Nat) (l : List PcD) : Nat := (l.map fun p => if p.item = i then p.cents else 0).sum
theorem pcSum_app (i : Nat) (a b : List PcD) : pcSum i (a ++ b) = pcSum i a + pcSum i b := by simp [pcSum]
theorem pcSum_perm {i : Nat} {a b : List PcD} (h : a.Perm b) : pcSum i a = pcSum i b := (h.map _).sum_nat
theorem pcSum_rep (i m k c : Nat) : pcSum i (List.replicate m ⟨k, c⟩) = if k = i then m * c else 0 := by
  unfold pcSum
  rw [List.map_replicate]
  split <;> simp
theorem pcs_at (o : OfD) : ∀ (k : Nat) (xs : List ItD) (ns : List Nat) (i : Nat), i < ns.length → pcSum (k + i) (pcs o k xs ns) ≤ ns.getD i 0 ∧ ∀ j, j < k → pcSum j (pcs o k xs ns) = 0
  | k, [], ns, i, hi => by cases ns <;> simp [pcs, pcSum]
  | k, x :: xs, [], i, hi => by simp at hi
  | k, x :: xs, n :: ns, i, hi => by
    have hz : ∀ j, j < k → pcSum j (if matB o x = true then List.replicate x.many.toNat ⟨k, n / x.many.toNat⟩ else []) = 0 := by
      intro j hj
      split
      · rw [pcSum_rep, if_neg (by omega)]
      · rfl
    have hrest : ∀ j, j < k + 1 → pcSum j (pcs o (k + 1) xs ns) = 0 := by
      intro j hj
      cases ns with
      | nil => cases xs <;> rfl
      | cons n' ns' => exact (pcs_at o (k + 1) xs (n' :: ns') 0 (by simp)).2 j hj
    refine ⟨?_, fun j hj => by unfold pcs; rw [pcSum_app, hz j hj, hrest j (by omega)]⟩
    unfold pcs
    rw [pcSum_app]
    cases i with
    | zero =>
      rw [hrest _ (by omega)]
      simp only [Nat.add_zero, List.getD_cons_zero]
      split
      · rw [pcSum_rep, if_pos rfl]
        exact Nat.mul_div_le _ _
      · simp [pcSum]
    | succ i =>
      have h1 := (pcs_at o (k + 1) xs ns i (by simpa using hi)).1
      have h2 : pcSum (k + (i + 1)) (if matB o x = true then List.replicate x.many.toNat ⟨k, n / x.many.toNat⟩ else []) = 0 := by
        split
        · rw [pcSum_rep, if_neg (by omega)]
        · rfl
      rw [h2, show k + (i + 1) = k + 1 + i from by omega]
      simpa using h1
theorem pcs_item (o : OfD) : ∀ (k : Nat) (xs : List ItD) (ns : List Nat), ∀ p ∈ pcs o k xs ns, p.item < k + ns.length ∧ p.cents ≤ ns.sum
  | k, [], ns, p, hp => by cases ns <;> simp [pcs] at hp
  | k, x :: xs, [], p, hp => by simp [pcs] at hp
  | k, x :: xs, n :: ns, p, hp => by
    unfold pcs at hp
    rcases List.mem_append.1 hp with hp | hp
    · split at hp
      · have := List.eq_of_mem_replicate hp
        subst this
        have := Nat.div_le_self n x.many.toNat
        simp
        omega
      · cases hp
    · have := pcs_item o (k + 1) xs ns p hp
      simp
      omega
theorem pcs_len (o : OfD) : ∀ (k : Nat) (xs : List ItD) (ns : List Nat), (∀ x ∈ xs, x.many ≤ 100) → (pcs o k xs ns).length ≤ 100 * xs.length
  | k, [], ns, h => by cases ns <;> simp [pcs]
  | k, x :: xs, [], h => by simp [pcs]
  | k, x :: xs, n :: ns, h => by
    have h1 := pcs_len o (k + 1) xs ns (fun y hy => h y (by simp [hy]))
    have h2 := h x (by simp)
    unfold pcs
    rw [List.length_append, List.length_cons]
    have : (if matB o x = true then List.replicate x.many.toNat (⟨k, n / x.many.toNat⟩ : PcD) else []).length ≤ 100 := by
      split
      · simp; omega
      · simp
    omega
/-- Pieces are put to their items. -/
def addP (l : List PcD) (out : List Nat) : List Nat := l.foldl (fun o p => o.set p.item (o.getD p.item 0 + p.cents)) out
theorem addP_snoc (l : List PcD) (p : PcD) (out : List Nat) : addP (l ++ [p]) out = (addP l out).set p.item ((addP l out).getD p.item 0 + p.cents) := by simp [addP]
theorem addP_len (l : List PcD) (out : List Nat) : (addP l out).length = out.length := by
  unfold addP
  induction l generalizing out with
  | nil => rfl
  | cons i l ih => rw [List.foldl_cons, ih]; simp
theorem addP_at (l : List PcD) (out : List Nat) (i : Nat) (hi : i < out.length) : (addP l out).getD i 0 = out.getD i 0 + pcSum i l := by
  unfold addP
  induction l generalizing out with
  | nil => simp [pcSum]
  | cons p l ih =>
    rw [List.foldl_cons, ih _ (by simpa using hi)]
    have e : pcSum i (p :: l) = (if p.item = i then p.cents else 0) + pcSum i l := by simp [pcSum]
    rw [e]
    by_cases h : p.item = i
    · subst h
      simp [hi]
      omega
    · rw [if_neg h]
      simp only [List.getD_eq_getElem?_getD]
      rw [List.getElem?_set_ne h]
      omega
/-- b pieces free to each a that are paid. -/
def freeL (a b : Nat) : Nat → List PcD → List Nat → List Nat
  | 0, _, out => out
  | k + 1, l, out => if a + b ≤ l.length then freeL a b k (l.drop (a + b)) (addP ((l.drop a).take b) out) else out
theorem freeL_len (a b : Nat) : ∀ (k : Nat) (l : List PcD) (out : List Nat), (freeL a b k l out).length = out.length
  | 0, _, out => rfl
  | k + 1, l, out => by
    unfold freeL
    split
    · rw [freeL_len, addP_len]
    · rfl
theorem freeL_at (a b : Nat) : ∀ (k : Nat) (l : List PcD) (out : List Nat) (i : Nat), i < out.length → (freeL a b k l out).getD i 0 ≤ out.getD i 0 + pcSum i l
  | 0, l, out, i, hi => by simp [freeL]
  | k + 1, l, out, i, hi => by
    unfold freeL
    split
    · have h1 := freeL_at a b k (l.drop (a + b)) (addP ((l.drop a).take b) out) i (by rw [addP_len]; exact hi)
      rw [addP_at _ _ _ hi] at h1
      have h2 : pcSum i l = pcSum i (l.take a) + (pcSum i ((l.drop a).take b) + pcSum i (l.drop (a + b))) := by
        rw [← List.drop_drop, ← pcSum_app, List.take_append_drop, ← pcSum_app, List.take_append_drop]
      omega
    · omega
def ltP (x y : PcD) : Bool := decide (y.cents < x.cents)
def freeW (o : OfD) (xs : List ItD) (ns : List Nat) : List Nat :=
  freeL o.a.toNat o.b.toNat (stabF ltP (pcs o 0 xs ns)).length (stabF ltP (pcs o 0 xs ns)) (List.replicate ns.length 0)
def freeF (o : OfD) (xs : List ItD) (ns : List Nat) : List Nat := mostF (freeW o xs ns) o.most.toNat
theorem freeW_le (o : OfD) (xs : List ItD) (ns : List Nat) : leL (freeW o xs ns) ns := by
  unfold freeW
  apply leL_of
  · rw [freeL_len]; simp
  · intro i hi hj
    have h1 := freeL_at o.a.toNat o.b.toNat (stabF ltP (pcs o 0 xs ns)).length (stabF ltP (pcs o 0 xs ns)) (List.replicate ns.length 0) i (by simpa using hj)
    rw [pcSum_perm (stabF_perm _ _)] at h1
    have h2 := (pcs_at o 0 xs ns i hj).1
    rw [Nat.zero_add] at h2
    have e1 : ∀ (m : List Nat) (h : i < m.length), m[i] = m.getD i 0 := fun m h => by simp [h]
    rw [e1 _ hi, e1 _ hj]
    have h3 : (List.replicate ns.length 0).getD i 0 = 0 := by simp [hj]
    omega
theorem freeF_le (o : OfD) (xs : List ItD) (ns : List Nat) : leL (freeF o xs ns) ns := (mostF_le _ _).trans (freeW_le o xs ns)
/- An offer applied. -/
def cutsF (o : OfD) (xs : List ItD) (ns : List Nat) : List Nat := if o.kind = 1 then perF o xs ns else if o.kind = 2 then amtF o xs ns else freeF o xs ns
def shipF (o : OfD) (ship : Nat) : Nat := capF o.most.toNat (min o.a.toNat ship)
/-- An offer's numbers are right. -/
def amountB (o : OfD) : Bool :=
  if o.kind = 1 then decide (1 ≤ o.a) && decide (o.a ≤ 100) && decide (o.b = 0)
  else if o.kind = 3 then decide (1 ≤ o.a) && decide (o.a ≤ 20) && (decide (1 ≤ o.b) && decide (o.b ≤ 20))
  else decide (1 ≤ o.a) && decide (o.a ≤ 1000000000000) && decide (o.b = 0)
structure PrS where
  left : List Nat
  ship : Nat
def applyS (o : OfD) (xs : List ItD) (s : PrS) : PrS := if o.kind = 4 then ⟨s.left, s.ship - shipF o s.ship⟩ else ⟨subL s.left (cutsF o xs s.left), s.ship⟩
def applyT (o : OfD) (xs : List ItD) (s : PrS) : Nat := if o.kind = 4 then shipF o s.ship else (cutsF o xs s.left).sum
theorem cutsF_le {o : OfD} {xs : List ItD} {ns : List Nat} (h : xs.length = ns.length) (ha : o.kind = 1 → o.a ≤ 100) : leL (cutsF o xs ns) ns := by
  unfold cutsF
  split
  · rename_i e; exact perF_le (ha e) h
  · split
    · exact amtF_le h
    · exact freeF_le _ _ _
theorem shipF_le (o : OfD) (n : Nat) : shipF o n ≤ n := by
  unfold shipF
  have := capF_le o.most.toNat (min o.a.toNat n)
  omega
theorem apply_len {o : OfD} {xs : List ItD} {s : PrS} (h : xs.length = s.left.length) (ha : o.kind = 1 → o.a ≤ 100) : leL (applyS o xs s).left s.left := by
  unfold applyS
  split
  · exact leL.refl _
  · exact subL_le (cutsF_le h ha)
theorem apply_sum {o : OfD} {xs : List ItD} {s : PrS} (h : xs.length = s.left.length) (ha : o.kind = 1 → o.a ≤ 100) : (applyS o xs s).left.sum + (applyS o xs s).ship + applyT o xs s = s.left.sum + s.ship := by
  unfold applyS applyT
  split
  · have := shipF_le o s.ship
    show s.left.sum + (s.ship - shipF o s.ship) + shipF o s.ship = _
    omega
  · have := subL_sum (cutsF_le (o := o) h ha)
    show (subL s.left (cutsF o xs s.left)).sum + s.ship + (cutsF o xs s.left).sum = _
    omega
/- Many offers. -/
def applyAll (xs : List ItD) : List OfD → PrS → PrS
  | [], s => s
  | o :: os, s => applyAll xs os (applyS o xs s)
def takenAll (xs : List ItD) : List OfD → PrS → List (ByteArray × Nat)
  | [], _ => []
  | o :: os, s => (o.key, applyT o xs s) :: takenAll xs os (applyS o xs s)
theorem applyAll_snoc (xs : List ItD) : ∀ (os : List OfD) (o : OfD) (s : PrS), applyAll xs (os ++ [o]) s = applyS o xs (applyAll xs os s)
  | [], o, s => rfl
  | p :: os, o, s => applyAll_snoc xs os o _
theorem takenAll_snoc (xs : List ItD) : ∀ (os : List OfD) (o : OfD) (s : PrS), takenAll xs (os ++ [o]) s = takenAll xs os s ++ [(o.key, applyT o xs (applyAll xs os s))]
  | [], o, s => rfl
  | p :: os, o, s => by
    show _ :: takenAll xs (os ++ [o]) _ = _
    rw [takenAll_snoc]
    rfl
theorem takenAll_len (xs : List ItD) : ∀ (os : List OfD) (s : PrS), (takenAll xs os s).length = os.length
  | [], s => rfl
  | p :: os, s => by simp [takenAll, takenAll_len xs os]
theorem applyAll_le {xs : List ItD} : ∀ {os : List OfD} {s : PrS}, xs.length = s.left.length → (∀ o ∈ os, o.kind = 1 → o.a ≤ 100) → leL (applyAll xs os s).left s.left ∧ (applyAll xs os s).left.sum + (applyAll xs os s).ship + ((takenAll xs os s).map Prod.snd).sum = s.left.sum + s.ship
  | [], s, h, ha => ⟨leL.refl _, rfl⟩
  | o :: os, s, h, ha => by
    have h1 := apply_len (o := o) h (ha o (by simp))
    have h2 := apply_sum (o := o) h (ha o (by simp))
    have h3 := applyAll_le (os := os) (s := applyS o xs s) (by rw [h1.len]; exact h) (fun p hp => ha p (by simp [hp]))
    refine ⟨h3.1.trans h1, ?_⟩
    have := h3.2
    simp only [takenAll, List.map_cons, List.sum_cons, applyAll]
    omega
def startS (xs : List ItD) (ship : Nat) : PrS := ⟨xs.map fun x => (x.cents * x.many).toNat, ship⟩
end Go.Proofs.YtihcmifikbkbcaaGreat

/- Free pieces, plain: what the loops make. -/
namespace Go.Proofs.YtihcmifikbkbcaaGreat
set_option linter.unusedVariables false
theorem pcs_take (o : OfD) : ∀ (k : Nat) (xs : List ItD) (ns : List Nat) (i : Nat) (hx : i < xs.length) (hn : i < ns.length),
    pcs o k (xs.take (i + 1)) (ns.take (i + 1)) = pcs o k (xs.take i) (ns.take i) ++ (if matB o xs[i] = true then List.replicate xs[i].many.toNat ⟨k + i, ns[i] / xs[i].many.toNat⟩ else [])
  | k, [], ns, i, hx, hn => by simp at hx
  | k, x :: xs, [], i, hx, hn => by simp at hn
  | k, x :: xs, n :: ns, 0, hx, hn => by simp [pcs]
  | k, x :: xs, n :: ns, i + 1, hx, hn => by
    have h := pcs_take o (k + 1) xs ns i (by simpa using hx) (by simpa using hn)
    simp only [List.take_succ_cons, pcs, List.getElem_cons_succ]
    rw [h, List.append_assoc]
    rw [show k + 1 + i = k + (i + 1) from by omega]
theorem addP_bd {l : List PcD} {out : List Nat} {K M : Nat} (h : ∀ z ∈ out, z ≤ K) (hl : ∀ p ∈ l, p.cents ≤ M) : ∀ z ∈ addP l out, z ≤ K + M * l.length := by
  unfold addP
  induction l generalizing out K with
  | nil => simpa using h
  | cons p l ih =>
    rw [List.foldl_cons]
    have hM := hl p (by simp)
    have := ih (out := out.set p.item (out.getD p.item 0 + p.cents)) (K := K + M) (fun z hz => by
      rcases List.mem_or_eq_of_mem_set hz with hz | hz
      · have := h z hz; omega
      · rw [hz]
        have : out.getD p.item 0 ≤ K := by
          by_cases hi : p.item < out.length
          · have := h _ (List.getElem_mem hi)
            simpa [hi] using this
          · simp [List.getElem?_eq_none (by omega : out.length ≤ p.item)]
        omega) (fun q hq => hl q (by simp [hq]))
    intro z hz
    have := this z hz
    rw [List.length_cons, Nat.mul_succ]
    omega
theorem freeL_end {a b k : Nat} {l : List PcD} {out : List Nat} (h : l.length < a + b) : freeL a b k l out = out := by
  cases k with
  | zero => rfl
  | succ k => rw [freeL, if_neg (by omega)]
theorem freeL_go {a b k : Nat} {l : List PcD} {out : List Nat} (h : a + b ≤ l.length) : freeL a b (k + 1) l out = freeL a b k (l.drop (a + b)) (addP ((l.drop a).take b) out) := by rw [freeL, if_pos h]
def cmpP (x y : PcD) : Int := if y.cents < x.cents then -1 else if y.cents = x.cents then 0 else 1
theorem cmpP_lt : (fun x y => decide (cmpP x y < 0)) = ltP := by
  funext x y
  unfold cmpP ltP
  congr 1
  apply propext
  split
  · simp; assumption
  · split <;> simp <;> omega
end Go.Proofs.YtihcmifikbkbcaaGreat
