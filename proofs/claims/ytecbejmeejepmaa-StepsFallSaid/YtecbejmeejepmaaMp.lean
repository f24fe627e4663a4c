/- Maps of the call's own, at any element: what a key has, said by a function from keys to values. -/
import Derived.Test.YtecbejmeejepmaaMem
import Derived.Maps.OwnSet
namespace Go.Proofs.Ytecbejmeejepmaa
set_option linter.unusedVariables false
open Go.RowKit

/-- An element, read as itself. -/
def heldR (v : Value) : Option (DataW Value × List MemPlace) := some (.held v, [])
/-- Block b is a map of at most n entries; the key l has m l. -/
def Mp (P : Program) (k : TypeId) (w : World) (b n : Nat) (m : Lit → Option Value) : Prop :=
  ∃ D : DataW Value, w.ownsMap P k heldR b n D ∧ ∀ l, WideAt.IsKeyLit l → Maps.has D l = (m l).isSome ∧ ∀ v, m l = some v → ∀ z, D.atKey l z = .held v
def mpSet (m : Lit → Option Value) (l : Lit) (v : Value) : Lit → Option Value := fun x => if x.sameKey l then some v else m x
def mpDel (m : Lit → Option Value) (l : Lit) : Lit → Option Value := fun x => if x.sameKey l then none else m x
def mpNew : Lit → Option Value := fun _ => none
section
variable {P : Program} {k e t : TypeId} {w w' : World} {b n : Nat} {m : Lit → Option Value} {key : Value} {kl : Lit}
theorem Mp.made (P : Program) (k : TypeId) (w : World) : Mp P k (w.alloc (.map #[] 0)) w.heap.size 0 mpNew :=
  ⟨_, World.ownsMap_made w P k heldR, fun l _ => ⟨rfl, fun v h => by cases h⟩⟩
theorem Mp.mono {n' : Nat} (h : Mp P k w b n m) (hn : n ≤ n') : Mp P k w b n' m := by
  obtain ⟨D, ho, hd⟩ := h
  exact ⟨D, ho.mono hn, hd⟩
theorem Mp.lt (h : Mp P k w b n m) : b < w.heap.size := by
  obtain ⟨D, ho, hd⟩ := h
  exact ho.lt
theorem Mp.kept {row : Option Nat} (h : Mp P k w b n m) (hg : w.grownBy w' row) (hne : some b ≠ row) : Mp P k w' b n m := by
  obtain ⟨D, ho, hd⟩ := h
  exact ⟨D, ho.kept hg hne, hd⟩
theorem Mp.below (h : Mp P k w b n m) (hb : Below w.heap.size w w') : Mp P k w' b n m :=
  h.kept (row := none) ⟨hb.os, hb.tape, hb.output, hb.size, fun i hi _ => hb.block i hi⟩ (by simp)
theorem Mp.block (h : Mp P k w b n m) (hb : w'.heap[b]? = w.heap[b]?) : Mp P k w' b n m := by
  obtain ⟨D, ⟨es, clock, h1, h2⟩, hd⟩ := h
  exact ⟨D, ⟨es, clock, hb.trans h1, h2⟩, hd⟩
theorem Mp.alloc (h : Mp P k w b n m) (o : Obj) : Mp P k (w.alloc o) b n m := h.below ((Below.refl _ _).alloc (Nat.le_refl _) _)
theorem Mp.setCell (h : Mp P k w b n m) {a : Addr} (ha : b ≠ a.block) (u : Value) : Mp P k (w.setCell a u) b n m := by
  obtain ⟨D, ho, hd⟩ := h
  exact ⟨D, ho.setCell ha u, hd⟩
theorem Mp.obj (h : Mp P k w b n m) : ∃ o, w.heap[b]? = some o ∧ ∀ w' : World, w'.heap[b]? = some o → Mp P k w' b n m := by
  obtain ⟨D, ⟨es, clock, h1, h2⟩, hd⟩ := h
  exact ⟨_, h1, fun w' h' => ⟨D, ⟨es, clock, h', h2⟩, hd⟩⟩
/-- 'v, ok := m[k]' and 'm[k]': the key is there. -/
theorem Mp.look_some (h : Mp P k w b n m) (K : Maps.Keyed P k) (ht : P.underlying t = some (.map k e)) {z : Value} (hz : (zeroValue e).run P w = .ok z w) (hkey : keyOf P k key = some kl) {v : Value} (hv : m kl = some v) (c : Bool) :
    (Instr.lookup t (.map (some b)) key c).run P w = .ok (if c then .tuple #[v, .bool true] else v) w := by
  obtain ⟨D, ⟨es, clock, hb, F, _, rfl⟩, hd⟩ := h
  have hk : WideAt.IsKeyLit kl := K.key hkey
  obtain ⟨h1, h2⟩ := hd kl hk
  rcases Maps.fit_look c K ht hz hb F hkey with ⟨hrun, _, hat⟩ | ⟨e0, y, _, _, hrun, hRv, hat, _⟩
  · rw [Maps.has_false_of_atKey hat, hv] at h1
    cases h1
  · have := h2 v hv (.held v)
    rw [hat] at this
    unfold heldR at hRv
    injection hRv with hRv
    rw [← hRv] at this
    injection this with this
    rw [← this]
    exact hrun
theorem Mp.look_none (h : Mp P k w b n m) (K : Maps.Keyed P k) (ht : P.underlying t = some (.map k e)) {z : Value} (hz : (zeroValue e).run P w = .ok z w) (hkey : keyOf P k key = some kl) (hv : m kl = none) (c : Bool) :
    (Instr.lookup t (.map (some b)) key c).run P w = .ok (if c then .tuple #[z, .bool false] else z) w := by
  obtain ⟨D, ⟨es, clock, hb, F, _, rfl⟩, hd⟩ := h
  have hk : WideAt.IsKeyLit kl := K.key hkey
  obtain ⟨h1, h2⟩ := hd kl hk
  rcases Maps.fit_look c K ht hz hb F hkey with ⟨hrun, _, hat⟩ | ⟨e0, y, _, _, hrun, hRv, hat, _⟩
  · exact hrun
  · rw [Maps.has_true_of_atKey hat, hv] at h1
    cases h1
/-- Both at once. -/
theorem Mp.look (h : Mp P k w b n m) (K : Maps.Keyed P k) (ht : P.underlying t = some (.map k e)) {z : Value} (hz : (zeroValue e).run P w = .ok z w) (hkey : keyOf P k key = some kl) (c : Bool) :
    (Instr.lookup t (.map (some b)) key c).run P w = .ok (if c then .tuple #[(m kl).getD z, .bool (m kl).isSome] else (m kl).getD z) w := by
  cases hv : m kl with
  | none => exact h.look_none K ht hz hkey hv c
  | some v => exact h.look_some K ht hz hkey hv c
/-- 'm[k] = v'. -/
theorem Mp.update (h : Mp P k w b n m) (K : Maps.Keyed P k) (ht : P.underlying t = some (.map k e)) (hn : n < maxLen) (hkey : keyOf P k key = some kl) (val : Value) :
    ∃ w', (Instr.mapUpdate t (.map (some b)) key val).run P w = .ok () w' ∧ Mp P k w' b (n + 1) (mpSet m kl val) ∧ w.grownBy w' (some b) ∧ w'.heap.size = w.heap.size := by
  obtain ⟨D, ho, hd⟩ := h
  have hk : WideAt.IsKeyLit kl := K.key hkey
  obtain ⟨w', hrun, ho', ht'⟩ := ho.store K ht hn hkey (show heldR val = some (.held val, []) from rfl)
  refine ⟨w', hrun, ⟨_, ho', fun l hl => ?_⟩, ht'.grown, ?_⟩
  · by_cases hs : l = kl
    · subst hs
      have e1 : mpSet m l val l = some val := by unfold mpSet; rw [WideAt.sameKey_self hk]; rfl
      rw [e1]
      refine ⟨by rw [Maps.has_put_same ho.isMap hk]; rfl, fun v hv z => ?_⟩
      injection hv with hv
      rw [Maps.atKey_put_same ho.isMap hk, hv]
    · have e1 : mpSet m kl val l = m l := by
        unfold mpSet
        rw [if_neg]
        intro c
        exact hs (WideAt.sameKey_eq c)
      rw [e1, Maps.has_put_other hs]
      refine ⟨(hd l hl).1, fun v hv z => ?_⟩
      rw [Maps.atKey_put_other hs]
      exact (hd l hl).2 v hv z
  · obtain ⟨es, clock, es', clock', hb, rfl⟩ := ht'
    simp [ChangeMaps.setBlock]
/-- 'delete(m, k)'. -/
theorem Mp.drop (h : Mp P k w b n m) (K : Maps.Keyed P k) (ht : P.underlying t = some (.map k e)) (hkey : keyOf P k key = some kl) (ty : TypeId) :
    ∃ w', (Builtin.delete_ #[t, k] ty #[.map (some b), key]).run P w = .ok (.tuple #[]) w' ∧ Mp P k w' b n (mpDel m kl) ∧ w.grownBy w' (some b) ∧ w'.heap.size = w.heap.size := by
  obtain ⟨D, ho, hd⟩ := h
  have hk : WideAt.IsKeyLit kl := K.key hkey
  obtain ⟨w', hrun, ho', ht'⟩ := ho.drop K ht hkey ty
  refine ⟨w', hrun, ⟨_, ho', fun l hl => ?_⟩, ht'.grown, ?_⟩
  · by_cases hs : l = kl
    · subst hs
      have e1 : mpDel m l l = none := by unfold mpDel; rw [WideAt.sameKey_self hk]; rfl
      rw [e1]
      exact ⟨by rw [Maps.has_del_same]; rfl, fun v hv z => by cases hv⟩
    · have e1 : mpDel m kl l = m l := by
        unfold mpDel
        rw [if_neg]
        intro c
        exact hs (WideAt.sameKey_eq c)
      rw [e1, Maps.has_del_other hs]
      refine ⟨(hd l hl).1, fun v hv z => ?_⟩
      rw [Maps.atKey_del_other hs]
      exact (hd l hl).2 v hv z
  · obtain ⟨es, clock, es', clock', hb, rfl⟩ := ht'
    simp [ChangeMaps.setBlock]
end
/-- 'm[k] = v' at the operation. -/
theorem wpList_mp_set {P : Program} (w : World) {ops : Array Oper} {rest : List Oper} {o : Oper} {a : Act} {Q : Exit → Act → World → Prop}
    (hg : o.guard = none) (mo x v : Operand) (t : TypeId) (hop : o.op = Op.mapUpdate t mo x v)
    (k e : TypeId) (K : Maps.Keyed P k) (ht : P.underlying t = some (.map k e)) (b n : Nat) (m : Lit → Option Value)
    (hm : a.eval mo = .map (some b)) (hown : Mp P k w b n m) (hn : n < maxLen) (key val : Value) (kl : Lit) (hx : a.eval x = key) (hv : a.eval v = val) (hkey : keyOf P k key = some kl)
    (hK : ∀ w', Mp P k w' b (n + 1) (mpSet m kl val) → w.grownBy w' (some b) → w'.heap.size = w.heap.size → wpList P ops Q rest (a.put o.dst undef) w') :
    wpList P ops Q (o :: rest) a w := by
  refine wpList_plain hg fun K' hK' => ?_
  obtain ⟨w', hrun, r1, r2, r3⟩ := hown.update K ht hn hkey val
  unfold Oper.wp
  simp [execOp, hop, hm, hx, hv, hrun, Result.andThen]
  exact hK' _ _ (hK w' r1 r2 r3)
/-- 'm[k]' at the operation. -/
theorem wpList_mp_get {P : Program} (w : World) {ops : Array Oper} {rest : List Oper} {o : Oper} {a : Act} {Q : Exit → Act → World → Prop}
    (hg : o.guard = none) (mo x : Operand) (t : TypeId) (hop : o.op = Op.lookup t mo x false)
    (k e : TypeId) (K : Maps.Keyed P k) (ht : P.underlying t = some (.map k e)) (z : Value) (hz : (zeroValue e).run P w = .ok z w) (b n : Nat) (m : Lit → Option Value)
    (hm : a.eval mo = .map (some b)) (hown : Mp P k w b n m) (key : Value) (kl : Lit) (hx : a.eval x = key) (hkey : keyOf P k key = some kl)
    (hK : wpList P ops Q rest (a.put o.dst ((m kl).getD z)) w) :
    wpList P ops Q (o :: rest) a w := by
  refine wpList_plain hg fun K' hK' => ?_
  have hrun := hown.look K ht hz hkey false
  unfold Oper.wp
  simp [execOp, hop, hm, hx, hrun, Result.andThen]
  exact hK' _ _ hK
/-- 'v, ok := m[k]' at the operation. -/
theorem wpList_mp_ok {P : Program} (w : World) {ops : Array Oper} {rest : List Oper} {o : Oper} {a : Act} {Q : Exit → Act → World → Prop}
    (hg : o.guard = none) (mo x : Operand) (t : TypeId) (hop : o.op = Op.lookup t mo x true)
    (k e : TypeId) (K : Maps.Keyed P k) (ht : P.underlying t = some (.map k e)) (z : Value) (hz : (zeroValue e).run P w = .ok z w) (b n : Nat) (m : Lit → Option Value)
    (hm : a.eval mo = .map (some b)) (hown : Mp P k w b n m) (key : Value) (kl : Lit) (hx : a.eval x = key) (hkey : keyOf P k key = some kl)
    (hK : wpList P ops Q rest (a.put o.dst (.tuple #[(m kl).getD z, .bool (m kl).isSome])) w) :
    wpList P ops Q (o :: rest) a w := by
  refine wpList_plain hg fun K' hK' => ?_
  have hrun := hown.look K ht hz hkey true
  unfold Oper.wp
  simp [execOp, hop, hm, hx, hrun, Result.andThen]
  exact hK' _ _ hK
/-- .. the key is there; or it is not. -/
theorem wpList_mp_yes {P : Program} (w : World) {ops : Array Oper} {rest : List Oper} {o : Oper} {a : Act} {Q : Exit → Act → World → Prop}
    (hg : o.guard = none) (mo x : Operand) (t : TypeId) (hop : o.op = Op.lookup t mo x true)
    (k e : TypeId) (K : Maps.Keyed P k) (ht : P.underlying t = some (.map k e)) (z : Value) (hz : (zeroValue e).run P w = .ok z w) (b n : Nat) (m : Lit → Option Value)
    (hm : a.eval mo = .map (some b)) (hown : Mp P k w b n m) (key : Value) (kl : Lit) (hx : a.eval x = key) (hkey : keyOf P k key = some kl) (v : Value) (hv : m kl = some v)
    (hK : wpList P ops Q rest (a.put o.dst (.tuple #[v, .bool true])) w) :
    wpList P ops Q (o :: rest) a w :=
  wpList_mp_ok w hg mo x t hop k e K ht z hz b n m hm hown key kl hx hkey (by rw [hv]; exact hK)
theorem wpList_mp_no {P : Program} (w : World) {ops : Array Oper} {rest : List Oper} {o : Oper} {a : Act} {Q : Exit → Act → World → Prop}
    (hg : o.guard = none) (mo x : Operand) (t : TypeId) (hop : o.op = Op.lookup t mo x true)
    (k e : TypeId) (K : Maps.Keyed P k) (ht : P.underlying t = some (.map k e)) (z : Value) (hz : (zeroValue e).run P w = .ok z w) (b n : Nat) (m : Lit → Option Value)
    (hm : a.eval mo = .map (some b)) (hown : Mp P k w b n m) (key : Value) (kl : Lit) (hx : a.eval x = key) (hkey : keyOf P k key = some kl) (hv : m kl = none)
    (hK : wpList P ops Q rest (a.put o.dst (.tuple #[z, .bool false])) w) :
    wpList P ops Q (o :: rest) a w :=
  wpList_mp_ok w hg mo x t hop k e K ht z hz b n m hm hown key kl hx hkey (by rw [hv]; exact hK)
end Go.Proofs.Ytecbejmeejepmaa
