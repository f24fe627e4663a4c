/- Texts of this claim, put together: Mp, KeyId, IdxFId, DelId, Once, Aud. -/
import Derived.Test.YtmlpfbffecdepaaGreatDoorGA
import Derived.Maps.OwnSet
import Derived.Test.YtmlpfbffecdepaaGreatDoorGE
import Derived.DeepKeys4
import Derived.StillTailTactics
import Derived.Deep.Cut
import Derived.Test.YtmlpfbffecdepaaGreatDoorGH
import Derived.Test.YtmlpfbffecdepaaGreatDoorGB
import Derived.Test.YtmlpfbffecdepaaGreatDoorGO
/- Maps of the call's own, at any element: what a key has, said by a function from keys to values. -/
namespace Go.Proofs.YtmlpfbffecdepaaGreatDoor
set_option linter.unusedVariables false
open Go.RowKit

/-- An element, read as itself. -/
def heldR (v : Value) : Option (DataW Value × List MemPlace) := some (.held v, [])
/-- Block b is a map of at most n entries; the key l has m l. -/
def Mp (P : Program) (k : TypeId) (w : World) (b n : Nat) (m : Lit → Option Value) : Prop :=
  ∃ D : DataW Value, w.ownsMap P k heldR b n D ∧ ∀ l, WideAt.IsKeyLit l → Maps.has D l = (m l).isSome ∧ ∀ v, m l = some v → ∀ z, D.atKey l z = .held v
def mpSet (m : Lit → Option Value) (l : Lit) (v : Value) : Lit → Option Value := fun x => if x.sameKey l then some v else m x
def mpDel (m : Lit → Option Value) (l : Lit) : Lit → Option Value := fun x => if x.sameKey l then none else m x
def mpNew : Lit → Option Value := fun _ => none
section
variable {P : Program} {k e t : TypeId} {w w' : World} {b n : Nat} {m : Lit → Option Value} {key : Value} {kl : Lit}
theorem Mp.made (P : Program) (k : TypeId) (w : World) : Mp P k (w.alloc (.map #[] 0)) w.heap.size 0 mpNew :=
  ⟨_, World.ownsMap_made w P k heldR, fun l _ => ⟨rfl, fun v h => by cases h⟩⟩
theorem Mp.mono {n' : Nat} (h : Mp P k w b n m) (hn : n ≤ n') : Mp P k w b n' m := by
  obtain ⟨D, ho, hd⟩ := h
  exact ⟨D, ho.mono hn, hd⟩
theorem Mp.lt (h : Mp P k w b n m) : b < w.heap.size := by
  obtain ⟨D, ho, hd⟩ := h
  exact ho.lt
theorem Mp.kept {row : Option Nat} (h : Mp P k w b n m) (hg : w.grownBy w' row) (hne : some b ≠ row) : Mp P k w' b n m := by
  obtain ⟨D, ho, hd⟩ := h
  exact ⟨D, ho.kept hg hne, hd⟩
theorem Mp.below (h : Mp P k w b n m) (hb : Below w.heap.size w w') : Mp P k w' b n m :=
  h.kept (row := none) ⟨hb.os, hb.tape, hb.output, hb.size, fun i hi _ => hb.block i hi⟩ (by simp)
theorem Mp.block (h : Mp P k w b n m) (hb : w'.heap[b]? = w.heap[b]?) : Mp P k w' b n m := by
  obtain ⟨D, ⟨es, clock, h1, h2⟩, hd⟩ := h
  exact ⟨D, ⟨es, clock, hb.trans h1, h2⟩, hd⟩
theorem Mp.alloc (h : Mp P k w b n m) (o : Obj) : Mp P k (w.alloc o) b n m := h.below ((Below.refl _ _).alloc (Nat.le_refl _) _)
theorem Mp.setCell (h : Mp P k w b n m) {a : Addr} (ha : b ≠ a.block) (u : Value) : Mp P k (w.setCell a u) b n m := by
  obtain ⟨D, ho, hd⟩ := h
  exact ⟨D, ho.setCell ha u, hd⟩
theorem Mp.obj (h : Mp P k w b n m) : ∃ o, w.heap[b]? = some o ∧ ∀ w' : World, w'.heap[b]? = some o → Mp P k w' b n m := by
  obtain ⟨D, ⟨es, clock, h1, h2⟩, hd⟩ := h
  exact ⟨_, h1, fun w' h' => ⟨D, ⟨es, clock, h', h2⟩, hd⟩⟩
/-- 'v, ok := m[k]' and 'm[k]': the key is there. -/
theorem Mp.look_some (h : Mp P k w b n m) (K : Maps.Keyed P k) (ht : P.underlying t = some (.map k e)) {z : Value} (hz : (zeroValue e).run P w = .ok z w) (hkey : keyOf P k key = some kl) {v : Value} (hv : m kl = some v) (c : Bool) :
    (Instr.lookup t (.map (some b)) key c).run P w = .ok (if c then .tuple #[v, .bool true] else v) w := by
  obtain ⟨D, ⟨es, clock, hb, F, _, rfl⟩, hd⟩ := h
  have hk : WideAt.IsKeyLit kl := K.key hkey
  obtain ⟨h1, h2⟩ := hd kl hk
  rcases Maps.fit_look c K ht hz hb F hkey with ⟨hrun, _, hat⟩ | ⟨e0, y, _, _, hrun, hRv, hat, _⟩
  · rw [Maps.has_false_of_atKey hat, hv] at h1
    cases h1
  · have := h2 v hv (.held v)
    rw [hat] at this
    unfold heldR at hRv
    injection hRv with hRv
    rw [← hRv] at this
    injection this with this
    rw [← this]
    exact hrun
theorem Mp.look_none (h : Mp P k w b n m) (K : Maps.Keyed P k) (ht : P.underlying t = some (.map k e)) {z : Value} (hz : (zeroValue e).run P w = .ok z w) (hkey : keyOf P k key = some kl) (hv : m kl = none) (c : Bool) :
    (Instr.lookup t (.map (some b)) key c).run P w = .ok (if c then .tuple #[z, .bool false] else z) w := by
  obtain ⟨D, ⟨es, clock, hb, F, _, rfl⟩, hd⟩ := h
  have hk : WideAt.IsKeyLit kl := K.key hkey
  obtain ⟨h1, h2⟩ := hd kl hk
  rcases Maps.fit_look c K ht hz hb F hkey with ⟨hrun, _, hat⟩ | ⟨e0, y, _, _, hrun, hRv, hat, _⟩
  · exact hrun
  · rw [Maps.has_true_of_atKey hat, hv] at h1
    cases h1
/-- Both at once. -/
theorem Mp.look (h : Mp P k w b n m) (K : Maps.Keyed P k) (ht : P.underlying t = some (.map k e)) {z : Value} (hz : (zeroValue e).run P w = .ok z w) (hkey : keyOf P k key = some kl) (c : Bool) :
    (Instr.lookup t (.map (some b)) key c).run P w = .ok (if c then .tuple #[(m kl).getD z, .bool (m kl).isSome] else (m kl).getD z) w := by
  cases hv : m kl with
  | none => exact h.look_none K ht hz hkey hv c
  | some v => exact h.look_some K ht hz hkey hv c
/-- 'm[k] = v'. -/
theorem Mp.update (h : Mp P k w b n m) (K : Maps.Keyed P k) (ht : P.underlying t = some (.map k e)) (hn : n < maxLen) (hkey : keyOf P k key = some kl) (val : Value) :
    ∃ w', (Instr.mapUpdate t (.map (some b)) key val).run P w = .ok () w' ∧ Mp P k w' b (n + 1) (mpSet m kl val) ∧ w.grownBy w' (some b) ∧ w'.heap.size = w.heap.size := by
  obtain ⟨D, ho, hd⟩ := h
  have hk : WideAt.IsKeyLit kl := K.key hkey
  obtain ⟨w', hrun, ho', ht'⟩ := ho.store K ht hn hkey (show heldR val = some (.held val, []) from rfl)
  refine ⟨w', hrun, ⟨_, ho', fun l hl => ?_⟩, ht'.grown, ?_⟩
  · by_cases hs : l = kl
    · subst hs
      have e1 : mpSet m l val l = some val := by unfold mpSet; rw [WideAt.sameKey_self hk]; rfl
      rw [e1]
      refine ⟨by rw [Maps.has_put_same ho.isMap hk]; rfl, fun v hv z => ?_⟩
      injection hv with hv
      rw [Maps.atKey_put_same ho.isMap hk, hv]
    · have e1 : mpSet m kl val l = m l := by
        unfold mpSet
        rw [if_neg]
        intro c
        exact hs (WideAt.sameKey_eq c)
      rw [e1, Maps.has_put_other hs]
      refine ⟨(hd l hl).1, fun v hv z => ?_⟩
      rw [Maps.atKey_put_other hs]
      exact (hd l hl).2 v hv z
  · obtain ⟨es, clock, es', clock', hb, rfl⟩ := ht'
    simp [ChangeMaps.setBlock]
/-- 'delete(m, k)'. -/
theorem Mp.drop (h : Mp P k w b n m) (K : Maps.Keyed P k) (ht : P.underlying t = some (.map k e)) (hkey : keyOf P k key = some kl) (ty : TypeId) :
    ∃ w', (Builtin.delete_ #[t, k] ty #[.map (some b), key]).run P w = .ok (.tuple #[]) w' ∧ Mp P k w' b n (mpDel m kl) ∧ w.grownBy w' (some b) ∧ w'.heap.size = w.heap.size := by
  obtain ⟨D, ho, hd⟩ := h
  have hk : WideAt.IsKeyLit kl := K.key hkey
  obtain ⟨w', hrun, ho', ht'⟩ := ho.drop K ht hkey ty
  refine ⟨w', hrun, ⟨_, ho', fun l hl => ?_⟩, ht'.grown, ?_⟩
  · by_cases hs : l = kl
    · subst hs
      have e1 : mpDel m l l = none := by unfold mpDel; rw [WideAt.sameKey_self hk]; rfl
      rw [e1]
      exact ⟨by rw [Maps.has_del_same]; rfl, fun v hv z => by cases hv⟩
    · have e1 : mpDel m kl l = m l := by
        unfold mpDel
        rw [if_neg]
        intro c
        exact hs (WideAt.sameKey_eq c)
      rw [e1, Maps.has_del_other hs]
      refine ⟨(hd l hl).1, fun v hv z => ?_⟩
      rw [Maps.atKey_del_other hs]
      exact (hd l hl).2 v hv z
  · obtain ⟨es, clock, es', clock', hb, rfl⟩ := ht'
    simp [ChangeMaps.setBlock]
end
/-- 'm[k] = v' at the operation. -/
theorem wpList_mp_set {P : Program} (w : World) {ops : Array Oper} {rest : List Oper} {o : Oper} {a : Act} {Q : Exit → Act → World → Prop}
    (hg : o.guard = none) (mo x v : Operand) (t : TypeId) (hop : o.op = Op.mapUpdate t mo x v)
    (k e : TypeId) (K : Maps.Keyed P k) (ht : P.underlying t = some (.map k e)) (b n : Nat) (m : Lit → Option Value)
    (hm : a.eval mo = .map (some b)) (hown : Mp P k w b n m) (hn : n < maxLen) (key val : Value) (kl : Lit) (hx : a.eval x = key) (hv : a.eval v = val) (hkey : keyOf P k key = some kl)
    (hK : ∀ w', Mp P k w' b (n + 1) (mpSet m kl val) → w.grownBy w' (some b) → w'.heap.size = w.heap.size → wpList P ops Q rest (a.put o.dst undef) w') :
    wpList P ops Q (o :: rest) a w := by
  refine wpList_plain hg fun K' hK' => ?_
  obtain ⟨w', hrun, r1, r2, r3⟩ := hown.update K ht hn hkey val
  unfold Oper.wp
  simp [execOp, hop, hm, hx, hv, hrun, Result.andThen]
  exact hK' _ _ (hK w' r1 r2 r3)
/-- 'm[k]' at the operation. -/
theorem wpList_mp_get {P : Program} (w : World) {ops : Array Oper} {rest : List Oper} {o : Oper} {a : Act} {Q : Exit → Act → World → Prop}
    (hg : o.guard = none) (mo x : Operand) (t : TypeId) (hop : o.op = Op.lookup t mo x false)
    (k e : TypeId) (K : Maps.Keyed P k) (ht : P.underlying t = some (.map k e)) (z : Value) (hz : (zeroValue e).run P w = .ok z w) (b n : Nat) (m : Lit → Option Value)
    (hm : a.eval mo = .map (some b)) (hown : Mp P k w b n m) (key : Value) (kl : Lit) (hx : a.eval x = key) (hkey : keyOf P k key = some kl)
    (hK : wpList P ops Q rest (a.put o.dst ((m kl).getD z)) w) :
    wpList P ops Q (o :: rest) a w := by
  refine wpList_plain hg fun K' hK' => ?_
  have hrun := hown.look K ht hz hkey false
  unfold Oper.wp
  simp [execOp, hop, hm, hx, hrun, Result.andThen]
  exact hK' _ _ hK
/-- 'v, ok := m[k]' at the operation. -/
theorem wpList_mp_ok {P : Program} (w : World) {ops : Array Oper} {rest : List Oper} {o : Oper} {a : Act} {Q : Exit → Act → World → Prop}
    (hg : o.guard = none) (mo x : Operand) (t : TypeId) (hop : o.op = Op.lookup t mo x true)
    (k e : TypeId) (K : Maps.Keyed P k) (ht : P.underlying t = some (.map k e)) (z : Value) (hz : (zeroValue e).run P w = .ok z w) (b n : Nat) (m : Lit → Option Value)
    (hm : a.eval mo = .map (some b)) (hown : Mp P k w b n m) (key : Value) (kl : Lit) (hx : a.eval x = key) (hkey : keyOf P k key = some kl)
    (hK : wpList P ops Q rest (a.put o.dst (.tuple #[(m kl).getD z, .bool (m kl).isSome])) w) :
    wpList P ops Q (o :: rest) a w := by
  refine wpList_plain hg fun K' hK' => ?_
  have hrun := hown.look K ht hz hkey true
  unfold Oper.wp
  simp [execOp, hop, hm, hx, hrun, Result.andThen]
  exact hK' _ _ hK
/-- .. the key is there; or it is not. -/
theorem wpList_mp_yes {P : Program} (w : World) {ops : Array Oper} {rest : List Oper} {o : Oper} {a : Act} {Q : Exit → Act → World → Prop}
    (hg : o.guard = none) (mo x : Operand) (t : TypeId) (hop : o.op = Op.lookup t mo x true)
    (k e : TypeId) (K : Maps.Keyed P k) (ht : P.underlying t = some (.map k e)) (z : Value) (hz : (zeroValue e).run P w = .ok z w) (b n : Nat) (m : Lit → Option Value)
    (hm : a.eval mo = .map (some b)) (hown : Mp P k w b n m) (key : Value) (kl : Lit) (hx : a.eval x = key) (hkey : keyOf P k key = some kl) (v : Value) (hv : m kl = some v)
    (hK : wpList P ops Q rest (a.put o.dst (.tuple #[v, .bool true])) w) :
    wpList P ops Q (o :: rest) a w :=
  wpList_mp_ok w hg mo x t hop k e K ht z hz b n m hm hown key kl hx hkey (by rw [hv]; exact hK)
theorem wpList_mp_no {P : Program} (w : World) {ops : Array Oper} {rest : List Oper} {o : Oper} {a : Act} {Q : Exit → Act → World → Prop}
    (hg : o.guard = none) (mo x : Operand) (t : TypeId) (hop : o.op = Op.lookup t mo x true)
    (k e : TypeId) (K : Maps.Keyed P k) (ht : P.underlying t = some (.map k e)) (z : Value) (hz : (zeroValue e).run P w = .ok z w) (b n : Nat) (m : Lit → Option Value)
    (hm : a.eval mo = .map (some b)) (hown : Mp P k w b n m) (key : Value) (kl : Lit) (hx : a.eval x = key) (hkey : keyOf P k key = some kl) (hv : m kl = none)
    (hK : wpList P ops Q rest (a.put o.dst (.tuple #[z, .bool false])) w) :
    wpList P ops Q (o :: rest) a w :=
  wpList_mp_ok w hg mo x t hop k e K ht z hz b n m hm hown key kl hx hkey (by rw [hv]; exact hK)
end Go.Proofs.YtmlpfbffecdepaaGreatDoor

/- Ids as keys of maps. -/
namespace Go.Proofs.YtmlpfbffecdepaaGreatDoor
set_option linter.unusedVariables false
open Go.RowKit
theorem laidOut_ : Go.laidOutB Tryz.prog = true := by kernel_rfl
theorem rowId_ : (32 : TypeId) < Tryz.prog.types.size := of_decide_eq_true (by kernel_rfl)
theorem ktId_ : Tryz.prog.keyTypeAt 2 32 = true := by kernel_rfl
set_option maxRecDepth 100000 in
theorem idLaw : WideMaps.KeyLaw Tryz.prog 32 := by
  refine deep_law (m := 2) (by omega) ktId_ (tiled_of_laidOut laidOut_ 2 _ ?_ ktId_) ?_
  · simp only [isVar, Bool.and_eq_true, decide_eq_true_eq]
    refine ⟨rowId_, ?_⟩
    rw [Tryz.underlying32]; rfl
  · rw [Tryz.underlying32]
theorem idKeyed : Maps.Keyed Tryz.prog 32 := Maps.Keyed.of_law idLaw
def klId (d : IdD) : Lit := .string (keyBytes [.int .i64 d.kind, .string d.text.data.toList])
/-- An id that Go can hold. -/
def FitId (d : IdD) : Prop := (-9223372036854775808 ≤ d.kind ∧ d.kind ≤ 9223372036854775807) ∧ d.text.size ≤ 1000000
theorem keyGen {P : Program} {k : TypeId} (hu : P.underlying k = some (.struct #[{ name := "Kind", type := 3, offset := 0, embedded := false, tag := "", pkgPath := "", byteOffset := 0 }, { name := "Text", type := 9, offset := 1, embedded := false, tag := "", pkgPath := "", byteOffset := 8 }])) (hk : P.keyType k = true) (c2 : P.cellsOf k = 2)
    (u1 : P.underlying 3 = some (.int .i64)) (u2 : P.underlying 9 = some .string) (c1 : P.cellsOf 3 = 1) (c0 : P.cellsOf 9 = 1) (hs : 0 < P.types.size) {d : IdD} (h : FitId d) : keyOf P k (.agg #[.int .i64 d.kind, .string d.text]) = some (klId d) := by
  obtain ⟨m, hm⟩ := Nat.exists_eq_succ_of_ne_zero (Nat.ne_of_gt hs)
  have h1 : (Lit.int .i64 d.kind).wf = true := by
    have := h.1
    simp [Lit.wf, IntKind.min, IntKind.max, IntKind.signed, IntKind.bits]
    omega
  have h2 : d.text.size ≤ maxLen := by have := h.2; unfold maxLen; omega
  simp [keyOf, hu, hk, Value.formed, Value.cells, hm, Program.keyLits, c2, c1, c0, u1, u2, h1, h2, klId]
theorem keyId {d : IdD} (h : FitId d) : keyOf Tryz.prog 32 (.agg #[.int .i64 d.kind, .string d.text]) = some (klId d) :=
  keyGen Tryz.underlying32 (by kernel_rfl) (by kernel_rfl) Tryz.underlying3 Tryz.underlying9 (by kernel_rfl) (by kernel_rfl) (Nat.lt_of_le_of_lt (Nat.zero_le _) rowId_) h
theorem klId_inj {a b : IdD} (ha : FitId a) (hb : FitId b) (h : klId a = klId b) : a = b := by
  have h1 := keyId ha
  rw [h] at h1
  have := idKeyed.inj h1 (keyId hb)
  simp at this
  cases a; cases b; simp_all
/-- The ids, each once. -/
def addOnce (acc : List IdD) (x : IdD) : List IdD := if acc.any (eqId x) = true then acc else acc ++ [x]
def onceF (ids : List IdD) : List IdD := ids.foldl addOnce []
theorem onceF_succ {ids : List IdD} {i : Nat} (h : i < ids.length) : onceF (ids.take (i + 1)) = addOnce (onceF (ids.take i)) ids[i] := by
  unfold onceF
  rw [List.take_succ_eq_append_getElem h, List.foldl_append]
  rfl
theorem onceF_mem : ∀ (ids acc : List IdD) (x : IdD), x ∈ ids.foldl addOnce acc → x ∈ acc ∨ x ∈ ids
  | [], acc, x, h => Or.inl h
  | y :: ids, acc, x, h => by
    rcases onceF_mem ids (addOnce acc y) x h with h | h
    · unfold addOnce at h
      split at h
      · exact Or.inl h
      · rcases List.mem_append.1 h with h | h
        · exact Or.inl h
        · simp at h; subst h; exact Or.inr (by simp)
    · exact Or.inr (List.mem_cons_of_mem _ h)
theorem onceF_sub {ids : List IdD} {x : IdD} (h : x ∈ onceF ids) : x ∈ ids := by
  rcases onceF_mem ids [] x h with h | h
  · cases h
  · exact h
theorem onceF_len : ∀ (ids acc : List IdD), (ids.foldl addOnce acc).length ≤ acc.length + ids.length
  | [], acc => by simp
  | y :: ids, acc => by
    have h1 := onceF_len ids (addOnce acc y)
    have h2 : (addOnce acc y).length ≤ acc.length + 1 := by unfold addOnce; split <;> simp
    rw [List.foldl_cons, List.length_cons]
    omega
def trueIf (b : Bool) : Option Value := if b = true then some (.bool true) else none
/-- The map of those that were seen. -/
def SeenIs (acc : List IdD) (m : Lit → Option Value) : Prop := ∀ d, FitId d → m (klId d) = trueIf (acc.any (eqId d))
theorem SeenIs.new : SeenIs [] mpNew := fun d _ => rfl
theorem SeenIs.set {acc : List IdD} {m : Lit → Option Value} (h : SeenIs acc m) {x : IdD} (hx : FitId x) : SeenIs (acc ++ [x]) (mpSet m (klId x) (.bool true)) := by
  intro d hd
  unfold mpSet
  by_cases c : d = x
  · subst c
    have e : (klId d).sameKey (klId d) = true := by simp [klId, Lit.sameKey]
    rw [if_pos e]
    simp [trueIf, eqId_self]
  · have e : ¬ (klId d).sameKey (klId x) = true := fun e => c (klId_inj hd hx (WideAt.sameKey_eq e))
    rw [if_neg e, h d hd]
    have : eqId d x = false := Bool.eq_false_iff.2 fun e => c (eqId_iff.1 e)
    simp [this]
theorem SeenIs.get {acc : List IdD} {m : Lit → Option Value} (h : SeenIs acc m) {x : IdD} (hx : FitId x) : (m (klId x)).getD (.bool false) = .bool (acc.any (eqId x)) := by
  rw [h x hx]
  unfold trueIf
  split <;> simp_all
theorem wpList_mpv {P : Program} (w : World) {ops : Array Oper} {rest : List Oper} {o : Oper} {a : Act} {Q : Exit → Act → World → Prop}
    (hg : o.guard = none) (mo x : Operand) (t : TypeId) (hop : o.op = Op.lookup t mo x false)
    (k e : TypeId) (K : Maps.Keyed P k) (ht : P.underlying t = some (.map k e)) (z : Value) (hz : (zeroValue e).run P w = .ok z w) (b n : Nat) (m : Lit → Option Value)
    (hm : a.eval mo = .map (some b)) (hown : Mp P k w b n m) (key : Value) (kl : Lit) (hx : a.eval x = key) (hkey : keyOf P k key = some kl) (v : Value) (hv : (m kl).getD z = v)
    (hK : wpList P ops Q rest (a.put o.dst v) w) :
    wpList P ops Q (o :: rest) a w :=
  wpList_mp_get w hg mo x t hop k e K ht z hz b n m hm hown key kl hx hkey (by rw [hv]; exact hK)
theorem zeroB_ (w : World) : (zeroValue 4).run Tryz.prog w = .ok (.bool false) w := by kernel_rfl
end Go.Proofs.YtmlpfbffecdepaaGreatDoor

/- IndexFunc and ContainsFunc at elements of 2 cells. -/
namespace Go.Proofs.YtmlpfbffecdepaaGreatDoor
set_option linter.unusedVariables false
open Go.RowKit

section
variable {D : Type}
set_option maxHeartbeats 1000000 in
theorem indexFunc_Id (H : Frz) (f : D → Nat → Value) (kf : Nat) (caps : List Value) (p : D → Bool) (ds : List D) (hp : ∀ (W : World) (d : D), d ∈ ds → H.In W → Calls Tryz.prog kf ((.agg #[f d 0, f d 1] : Value) :: caps).toArray W fun e W' => e = .returned (.bool (p d)) ∧ Below W.heap.size W W')
    (hcall : ∀ (a : Value) (W : World), (callFunc kf (a :: caps).toArray).run Tryz.prog W = .ok (.enter kf (a :: caps).toArray) W)
    (A : Option Addr) (cap : Nat) (w : World) (hH : H.In w) (hR : Rw H A 2 f ds) (hl : ds.length ≤ 1000000) :
    Calls Tryz.prog 75 #[.slice A ds.length cap, .func (.func kf) #[] caps.toArray] w fun e w' => e = .returned (.int .i64 (idxF p ds)) ∧ Below w.heap.size w w' := by
  have HP := Lib.hid hp
  have HR := Lib.hid hR
  have HH := Lib.hid hH
  clear hp hR hH
  go_enter Tryz.func75, Tryz.ntmps75
  go_wp2_with fail
  go_loopw [5, 8] (fun _ t wr => ∃ i : Nat, i ≤ ds.length ∧ t = .int .i64 i ∧ Hid ((ds.take i).any p = false) ∧ Hid (Below w.heap.size w wr)) (fun _ t _ => ds.length - (intOf t).toNat)
  case atStart => exact ⟨0, by omega, rfl, rfl, Below.refl _ _⟩
  case round =>
    obtain ⟨i, hi, rfl, hall, hb⟩ := hrel
    by_cases hlt : i < ds.length
    · obtain ⟨b, off, rfl, hbl, hc⟩ := HR.out.at_ (HH.out.below hb.out) hlt (by omega)
      have c0 : wr.cell? ⟨b, off + i * 2, none⟩ = some (f ds[i] 0) := hc 0 (by omega)
      have c1 : wr.cell? ⟨b, off + i * 2 + 1, none⟩ = some (f ds[i] 1) := hc 1 (by omega)
      have HC := Lib.hid (fun W hW => HP.out W ds[i] (List.getElem_mem hlt) hW)
      have ht := Lib.hid (idxF_found (p := p) hlt hall.out)
      have ht2 := Lib.hid (any_take_succ (p := p) hlt hall.out)
      clear hc
      generalize hpd : p ds[i] = q at HC ht ht2
      generalize f ds[i] 0 = x0 at c0 HC
      generalize f ds[i] 1 = x1 at c1 HC
      clear hpd
      go_wp2_with fail
      refine (HC.out _ (HH.out.below hb.out)).mono ?_
      rintro e w1 ⟨rfl, hb1⟩
      have hb2 := Lib.hid (hb.out.trans (hb1.mono hb.out.size))
      clear hb1 hb
      cases q with
      | true =>
        go_wp2_with fail
        go_ret
        exact ⟨ret_int (ht.out (by simp)).symm, hb2.out⟩
      | false =>
        go_wp2_with fail
        go_roundw
        case rel => exact ⟨i + 1, by omega, by go_num, ht2.out (by simp), hb2⟩
        case measure => simp [intOf]; omega
    · have hf := Lib.hid (idxF_none (p := p) (show ds.any p = false by have := hall.out; rwa [List.take_of_length_le (by omega)] at this))
      go_wp2_with fail
      go_ret
      exact ⟨ret_int hf.out.symm, hb.out⟩
end
end Go.Proofs.YtmlpfbffecdepaaGreatDoor

/- slices.DeleteFunc of ids. -/
namespace Go.Proofs.YtmlpfbffecdepaaGreatDoor
set_option linter.unusedVariables false
open Go.RowKit
set_option maxHeartbeats 4000000 in
set_option maxRecDepth 100000 in
theorem deleteFunc_Id (H : Frz) (kf : Nat) (caps : List Value) (p : IdD → Bool) (ds : List IdD)
    (hp : ∀ (W : World) (d : IdD), d ∈ ds → H.In W → Calls Tryz.prog kf ((.agg #[.int .i64 d.kind, .string d.text] : Value) :: caps).toArray W fun e W' => e = .returned (.bool (p d)) ∧ Below W.heap.size W W')
    (hcall : ∀ (a : Value) (W : World), (callFunc kf (a :: caps).toArray).run Tryz.prog W = .ok (.enter kf (a :: caps).toArray) W)
    (B : Nat) (v : Value) (w : World) (hH : H.In w) (hO : Orow w B 32 2 fId v ds) (hf : ∀ q, v.ownBlock = some q → H q = none) (hl : ds.length ≤ 100000) :
    Calls Tryz.prog 44 #[v, .func (.func kf) #[] caps.toArray] w fun e w' => (∃ v', e = .returned v' ∧ Orow w' B 32 2 fId v' (ds.filter fun d => !p d) ∧ (v'.ownBlock = v.ownBlock)) ∧ w.grownBy w' v.ownBlock := by
  obtain ⟨A, cap, H', hv, hle, p1, p2, hR, p3, p4⟩ := hO.freeze H
  subst hv
  have hin := p1 hH
  have hle2 := p2 hf
  have hp' : ∀ (W : World) (d : IdD), d ∈ ds → H'.In W → Calls Tryz.prog kf ((.agg #[fId d 0, fId d 1] : Value) :: caps).toArray W fun e W' => e = .returned (.bool (p d)) ∧ Below W.heap.size W W' := fun W d hd hW => hp W d hd (hle2.in_ hW)
  have HIX := Lib.hid (fun W (hW : H'.In W) => indexFunc_Id H' fId kf caps p ds hp' hcall A cap W hW hR (by omega))
  have HO := Lib.hid hO
  have HP := Lib.hid hp
  rcases idxF_cases p ds with ⟨e0, hno⟩ | ⟨i, hi, e0, hpi⟩
  · have HE := Lib.hid e0
    go_enter Tryz.func44, Tryz.ntmps44
    have HIN := Lib.hid hin
    clear hp hp' hO hf hR hH hin hle2 p1 p2 p3 p4 e0
    go_wp2_with fail
    refine (HIX.out w HIN.out).mono ?_
    rintro e w1 ⟨rfl, hb⟩
    rw [HE.out]
    have HF : Hid ((∃ v', Ending.returned (.slice A ds.length cap) = .returned v' ∧ Orow w1 B 32 2 fId v' (ds.filter fun d => !p d) ∧ (v'.ownBlock = (Value.slice A ds.length cap).ownBlock)) ∧ w.grownBy w1 (Value.slice A ds.length cap).ownBlock) := by
      refine ⟨⟨_, rfl, ?_, rfl⟩, ⟨hb.os, hb.tape, hb.output, hb.size, fun k hk _ => hb.block k hk⟩⟩
      rw [List.filter_eq_self.2 (fun d hd => by rw [hno d hd]; rfl)]
      exact HO.out.below hb
    clear hb
    go_wp2_with fail
    go_ret
    exact HF.out
  · have hbf : ∀ m (hm : m < i), p (ds[m]'(by omega)) = false := by
      intro m hm
      unfold idxF at e0
      cases e : ds.findIdx? p with
      | none =>
        rw [e] at e0
        have : (-1 : Int) = (i : Int) := e0
        omega
      | some k =>
        rw [e] at e0
        have e1 : k = i := by simp at e0; omega
        subst e1
        have := (List.findIdx?_eq_some_iff_getElem.1 e).2.2 m hm
        simpa using this
    have hD0 := Lib.hid (DelOk.start hi hbf hpi)
    have HE := Lib.hid e0
    have HIN := Lib.hid hin
    have HH := Lib.hid hH
    obtain ⟨g, cap2, rest, hv2, hlc, hBg, hg, hm, hk, hr⟩ := hO.form (fun c => by subst c; exact absurd hi (by simp))
    injection hv2 with e1 e2 e3
    subst e1 e3
    have hgn : H g = none := hf g rfl
    have HKB := Lib.hid hk
    have HRE := Lib.hid hr
    clear hp hp' hO hf hR hH hin hle2 p1 p2 p3 p4 e0 hbf hpi hk hr e2 HO
    have hm1 : ((i : Int) == -1) = false := by rw [beq_eq_false_iff_ne]; omega
    go_enter Tryz.func44, Tryz.ntmps44
    go_wp2_with fail
    refine (HIX.out w HIN.out).mono ?_
    rintro e w1 ⟨rfl, hb⟩
    rw [HE.out]
    have hK1 := Lib.hid (HKB.out.keep hb)
    have hG1 : Hid (w.grownBy w1 (some g)) := ⟨hb.os, hb.tape, hb.output, hb.size, fun k hk _ => hb.block k hk⟩
    clear hb HIX HIN HKB
    go_wp2_with fail
    clear HE
    go_loopw [5, 6, 7] (fun t5 t6 _ wr => ∃ (i j : Nat) (cur : List IdD), t5 = .int .i64 i ∧ t6 = .int .i64 j ∧ Hid (DelOk p ds cur i j) ∧ Hid (KBlk wr g 32 2 fId cur rest) ∧ Hid (w.grownBy wr (some g))) (fun _ t _ _ => ds.length - (intOf t).toNat)
    case atStart => exact ⟨i, i + 1, ds, rfl, by go_num, hD0, hK1, hG1⟩
    case round =>
      obtain ⟨i, j, cur, rfl, rfl, hD, hk, hG⟩ := hrel
      clear hD0 hK1 hG1
      by_cases hj : j < ds.length
      · have hjc : j < cur.length := by rw [hD.out.len]; exact hj
        have hcell := hk.out.cell j
        have c0 : wr.cell? ⟨g, j * 2, none⟩ = some (fId ds[j] 0) := by have := hk.out.cell j 0 hjc (by omega); rw [hD.out.at_ hj] at this; exact this
        have c1 : wr.cell? ⟨g, j * 2 + 1, none⟩ = some (fId ds[j] 1) := by have := hk.out.cell j 1 hjc (by omega); rw [hD.out.at_ hj] at this; exact this
        clear hcell
        have hlen : cur.length = ds.length := hD.out.len
        have hij := hD.out.le
        have di : decide ((j : Int) < (ds.length : Int)) = true := by simp; exact hj
        have HK := Lib.hid (fun h => hD.out.keep hj h)
        have HDr := Lib.hid (fun h => hD.out.drop hj h)
        have HC := Lib.hid (fun W hW => HP.out W ds[j] (List.getElem_mem hj) hW)
        generalize hd : ds[j] = d at *
        generalize hpd : p d = q at *
        clear hd hpd
        simp only [fId] at c0 c1
        have hcallj := hcall (.agg #[.int .i64 d.kind, .string d.text])
        have HIN9 := Lib.hid ((HH.out.grown hG.out hgn).alloc (.cells #[.int .i64 d.kind, .string d.text] 32))
        have hb9 : Below wr.heap.size wr (wr.alloc (.cells #[.int .i64 d.kind, .string d.text] 32)) := (Below.refl _ _).alloc (Nat.le_refl _) _
        have hk9 := Lib.hid (hk.out.keep hb9)
        have hG9 : Hid (w.grownBy (wr.alloc (.cells #[.int .i64 d.kind, .string d.text] 32)) (some g)) := hG.out.trans ⟨hb9.os, hb9.tape, hb9.output, hb9.size, fun k hk _ => hb9.block k hk⟩
        have HX9 : Hid ((wr.alloc (.cells #[.int .i64 d.kind, .string d.text] 32)).heap[wr.heap.size]? = some (.cells #[.int .i64 d.kind, .string d.text] 32)) := heap_alloc_new _ _
        clear hb9
        go_wp2_with fail
        refine (HC.out _ (HIN9.out)).mono ?_
        rintro e w2 ⟨rfl, hb⟩
        have hk2 := hk9.out.keep hb
        have hG2 : Hid (w.grownBy w2 (some g)) := hG9.out.trans ⟨hb.os, hb.tape, hb.output, hb.size, fun k hk _ => hb.block k hk⟩
        have hx := (hb.block _ (lt_of_heap HX9.out)).trans HX9.out
        have hin2 := HIN9.out.below hb
        have x0 : w2.cell? ⟨wr.heap.size, 0, none⟩ = some (.int .i64 d.kind) := cell_h hx 0 rfl
        have x1 : w2.cell? ⟨wr.heap.size, 1, none⟩ = some (.string d.text) := cell_h hx 1 rfl
        clear hb hx c0 c1 hk hG hk9 hG9 HX9 HIN9
        cases q with
        | true =>
          have hD2 := Lib.hid (HDr.out rfl)
          have HK2 := Lib.hid hk2
          clear HDr HK hk2 hin2 hcallj
          go_wp2_with fail
          go_roundw
          case rel => exact ⟨i, j + 1, cur, rfl, by go_num, hD2, HK2, hG2⟩
          case measure => simp [intOf]; omega
        | false =>
          have hic : i < cur.length := by omega
          have hD2 := Lib.hid (HK.out rfl)
          have HKP := Lib.hid (hk2.put i hic d)
          have HGP := Lib.hid (setK_grown (i * 2) ((List.range 2).map (fId d)) hG2.out)
          have r0 := hk2.cell i 0 hic (by omega)
          have s0 := hk2.frozen (i * 2)
          have r1 := hk2.cell i 1 hic (by omega)
          have s1 := hk2.frozen (i * 2 + 1)
          simp only [Nat.add_zero] at r0
          clear HDr HK hk2 hin2 hcallj hG2
          go_wp2_with fail
          go_roundw
          case rel => exact ⟨i + 1, j + 1, cur.set i d, by go_num, by go_num, hD2, HKP, HGP⟩
          case measure => simp [intOf]; omega
      · have hje : j = ds.length := by have := hD.out.lt; omega
        subst hje
        have hlen : cur.length = ds.length := hD.out.len
        have hij := hD.out.le
        have hdone := Lib.hid hD.out.done
        obtain ⟨z0, hz0⟩ : ∃ z : Value, z = .agg #[.int .i64 0, .string ⟨#[]⟩] := ⟨_, rfl⟩
        have hzs : z0.cells.size = 2 := by rw [hz0]; rfl
        have hm2 : i * 2 + (ds.length - i) * 2 = ds.length * 2 := by omega
        have hcl : ∀ ty, (Builtin.clear_ #[47] ty #[.slice (some ⟨g, i * 2, none⟩) (ds.length - i) (cap - i)]).run Tryz.prog wr = .ok (.tuple #[]) (setK wr g (i * 2) (Builtin.zeroCells z0.cells (ds.length - i)).toList) :=
          fun ty => run_clear_rows wr _ _ ty z0 Tryz.underlying47 (fun w => by rw [hz0]; kernel_rfl) 2 hzs (by omega) (by rw [hz0]; simp [Value.cells, Value.oneCell']) g (i * 2) _ _ (by omega) (fun q hq => by
            have h1 := hk.out.cell (i + q / 2) (q % 2) (by omega) (by omega)
            rw [show i * 2 + q = (i + q / 2) * 2 + q % 2 from by omega, h1]; rfl) (fun q hq => hk.out.frozen _)
        have hKC := Lib.hid (hk.out.cut (i := i) (by omega) (Builtin.zeroCells z0.cells (ds.length - i)).toList (by rw [Array.length_toList, size_zeroCells, hzs]; omega))
        have hGC := Lib.hid (setK_grown (i * 2) (Builtin.zeroCells z0.cells (ds.length - i)).toList hG.out)
        have hLC : Hid ((Builtin.zeroCells z0.cells (ds.length - i)).toList.length = (ds.length - i) * 2) := by show _ = _; rw [Array.length_toList, size_zeroCells, hzs]
        generalize setK wr g (i * 2) (Builtin.zeroCells z0.cells (ds.length - i)).toList = w9 at *
        have HF : Hid ((∃ v', Ending.returned (.slice (some ⟨g, 0, none⟩) i cap) = .returned v' ∧ Orow w9 B 32 2 fId v' (ds.filter fun d => !p d) ∧ (v'.ownBlock = (Value.slice (some ⟨g, 0, none⟩) ds.length cap).ownBlock)) ∧ w.grownBy w9 (Value.slice (some ⟨g, 0, none⟩) ds.length cap).ownBlock) := by
          refine ⟨⟨_, rfl, ?_, rfl⟩, hGC.out⟩
          have hli : (cur.take i).length = i := by rw [List.length_take]; omega
          have := Orow.of_blk (cap := cap) hKC.out hBg hm (by omega) (by rw [List.length_append, hLC.out, HRE.out, hli]; omega)
          rw [hli] at this
          rw [← hdone.out]
          exact this
        clear hD hk hG hKC hGC hLC hz0 hzs hm2 hdone
        go_wp2_with fail
        go_ret
        exact HF.out
end Go.Proofs.YtmlpfbffecdepaaGreatDoor

/- consent.once: ids, each once, as they stand. -/
namespace Go.Proofs.YtmlpfbffecdepaaGreatDoor
set_option linter.unusedVariables false
open Go.RowKit
theorem infoId_ : (Tryz.prog.info? 32).map (fun i => (i.zero, i.size, i.bytes)) = some (some (.agg #[.int .i64 0, .string ⟨#[]⟩]), 2, 24) := by kernel_rfl
/-- At the head of the loop. -/
structure ON (H : Frz) (w : World) (v : Value) (acc : List IdD) (n : Nat) (W : World) : Prop where
  ig : IG 32 2 fId H w.heap.size v acc w W
  map : ∃ m, Mp Tryz.prog 32 W w.heap.size n m ∧ SeenIs acc m
  ne : v.ownBlock ≠ some w.heap.size
theorem ON.below {H : Frz} {w W W' : World} {v : Value} {acc : List IdD} {n : Nat} (h : ON H w v acc n W) (hb : Below W.heap.size W W') : ON H w v acc n W' :=
  ⟨h.ig.below hb, by obtain ⟨m, h1, h2⟩ := h.map; exact ⟨m, h1.below hb, h2⟩, h.ne⟩
theorem ON.new {H : Frz} {w : World} (hH : H.In w) : ON H w (.slice none 0 0) [] 0 (w.alloc (.map #[] 0)) :=
  ⟨⟨hH.alloc _, Orow.nil _ _ _ _ _, (fun g hg => by cases hg), (Below.refl _ _).alloc (Nat.le_refl _) _, Nat.le_refl _, by simp⟩, ⟨_, Mp.made _ _ w, SeenIs.new⟩, by simp [Value.ownBlock]⟩
theorem ON.next {H : Frz} {w W : World} {v : Value} {acc : List IdD} {n : Nat} (h : ON H w v acc n W) : ON H w v acc (n + 1) W :=
  ⟨h.ig, by obtain ⟨m, h1, h2⟩ := h.map; exact ⟨m, h1.mono (by omega), h2⟩, h.ne⟩
/-- The map is written. -/
theorem ON.seen {H : Frz} {w W W' : World} {v : Value} {acc : List IdD} {n : Nat} (h : ON H w v acc n W) (hH : H w.heap.size = none) (hg : W.grownBy W' (some w.heap.size)) (hz : W'.heap.size = W.heap.size) :
    IG 32 2 fId H w.heap.size v acc w W' :=
  ⟨h.ig.inn.grown hg hH, h.ig.row.kept hg (by
    cases e : v.ownBlock with
    | none => exact Or.inl rfl
    | some q => right; rw [← e]; exact h.ne), h.ig.own, h.ig.bel.grown hg h.ig.bel.size (fun k hk => by injection hk with hk; omega), h.ig.hB, by rw [hz]; exact h.ig.le⟩
set_option maxHeartbeats 4000000 in
set_option maxRecDepth 100000 in
theorem once_any (H : Frz) (A : Option Addr) (cap : Nat) (ids : List IdD) (w : World) (hH : H.In w) (hR : Rw H A 2 fId ids) (hl : ids.length ≤ 1000000) (hf : ∀ x ∈ ids, FitId x) :
    Calls Tryz.prog 45 #[.slice A ids.length cap] w fun e w' => (∃ v, e = .returned v ∧ Orow w' w.heap.size 32 2 fId v (onceF ids)) ∧ Below w.heap.size w w' := by
  obtain ⟨i0, hi0, hz0, hz1, hz2⟩ := info_parts infoId_
  have HR := Lib.hid hR
  have HF := Lib.hid hf
  have HNO := Lib.hid (hH.none_ (Nat.le_refl w.heap.size))
  have HON := Lib.hid (ON.new (w := w) hH)
  clear hR hf hH
  go_enter Tryz.func45, Tryz.ntmps45
  have hmm := @run_makeMap Tryz.prog
  go_wp2_with fail
  clear hmm
  generalize w.alloc (.map #[] 0) = W0 at *
  go_loopw [3, 10] (fun v t wr => ∃ i : Nat, i ≤ ids.length ∧ t = .int .i64 i ∧ Hid (ON H w v (onceF (ids.take i)) i wr)) (fun _ t _ => ids.length - (intOf t).toNat)
  case atStart => exact ⟨0, by omega, rfl, HON⟩
  case round =>
    obtain ⟨i, hi, rfl, hon⟩ := hrel
    clear HON
    by_cases hlt : i < ids.length
    · obtain ⟨b, off, rfl, hbl, hc⟩ := HR.out.at_ hon.out.ig.inn hlt (by omega)
      have c0 : wr.cell? ⟨b, off + i * 2, none⟩ = some (.int .i64 ids[i].kind) := hc 0 (by omega)
      have c1 : wr.cell? ⟨b, off + i * 2 + 1, none⟩ = some (.string ids[i].text) := hc 1 (by omega)
      have HFX := Lib.hid (HF.out _ (List.getElem_mem hlt))
      have HSU := Lib.hid (onceF_succ hlt)
      have hlen : (onceF (ids.take i)).length ≤ i := by
        have := onceF_len (ids.take i) []
        rw [List.length_take] at this
        unfold onceF
        simp at this ⊢
        omega
      clear hc
      generalize ids[i] = x at *
      generalize onceF (ids.take i) = acc at *
      have HZ : Hid ((wr.alloc (.cells #[.int .i64 x.kind, .string x.text] 32)).heap[wr.heap.size]? = some (.cells #[.int .i64 x.kind, .string x.text] 32 (0, 0))) := heap_alloc_new _ _
      have HO1 := Lib.hid (hon.out.below (new1 (w := wr) (.cells #[.int .i64 x.kind, .string x.text] 32)))
      have hne : w.heap.size < wr.heap.size := by obtain ⟨m, h1, -⟩ := hon.out.map; exact h1.lt
      have HNE := Lib.hid hne
      have HLM : Hid (i < maxLen) := by show _ < _; unfold maxLen; omega
      clear hon hne
      go_upto_region 6 with (fail)
      clear c0 c1
      generalize wr.alloc (.cells #[.int .i64 x.kind, .string x.text] 32) = W1 at *
      generalize wr.heap.size = xb at *
      have x0 : W1.cell? ⟨xb, 0, none⟩ = some (.int .i64 x.kind) := cell_h HZ.out 0 rfl
      have x1 : W1.cell? ⟨xb, 1, none⟩ = some (.string x.text) := cell_h HZ.out 1 rfl
      obtain ⟨m, hm, hs⟩ := HO1.out.map
      have HM := Lib.hid hm
      have HS := Lib.hid hs
      have HK := Lib.hid (keyId HFX.out)
      have HG := Lib.hid (hs.get HFX.out)
      clear hm hs
      cases hq : acc.any (eqId x) with
      | true =>
        rw [hq] at HG
        have HAD : Hid (addOnce acc x = acc) := by show _ = _; unfold addOnce; rw [if_pos hq]
        clear hq
        go_wp2_with (at_lookup; refine wpList_mpv W1 rfl _ _ 132 rfl 32 4 idKeyed Tryz.underlying132 (.bool false) (zeroB_ _) w.heap.size i m rfl HM.out _ (klId x) rfl HK.out (.bool true) HG.out ?_)
        have HO2 : Hid (ON H w u3 (onceF (ids.take (i + 1))) (i + 1) W1) := by
          show ON _ _ _ _ _ _
          rw [HSU.out, HAD.out]
          exact HO1.out.next
        clear HO1 HSU HAD
        go_roundw
        case rel => exact ⟨i + 1, by omega, by go_num, HO2⟩
        case measure => simp [intOf]; omega
      | false =>
        rw [hq] at HG
        have HAD : Hid (addOnce acc x = acc ++ [x]) := by show _ = _; unfold addOnce; rw [if_neg (by rw [hq]; decide)]
        clear hq
        go_upto_region 8 with (first | (at_lookup; refine wpList_mpv W1 rfl _ _ 132 rfl 32 4 idKeyed Tryz.underlying132 (.bool false) (zeroB_ _) w.heap.size i m rfl HM.out _ (klId x) rfl HK.out (.bool false) HG.out ?_) | (at_mapUpdate; refine wpList_mp_set _ rfl _ _ _ 132 rfl 32 4 idKeyed Tryz.underlying132 w.heap.size i m rfl HM.out HLM.out _ (.bool true) _ rfl rfl HK.out ?_; intro w5 hM5 hg5 hz5; have HM5 := Lib.hid hM5; have HG5 := Lib.hid hg5; have HZ5 := Lib.hid hz5; clear hM5 hg5 hz5))
        have hz5 : w5.heap[xb]? = some (.cells #[.int .i64 x.kind, .string x.text] 32 (0, 0)) := (HG5.out.block xb (lt_of_heap HZ.out) (fun e => by have := HNE.out; injection e with e; omega)).trans HZ.out
        have y0 : w5.cell? ⟨xb, 0, none⟩ = some (.int .i64 x.kind) := cell_h hz5 0 rfl
        have y1 : w5.cell? ⟨xb, 1, none⟩ = some (.string x.text) := cell_h hz5 1 rfl
        have HIG := Lib.hid (HO1.out.seen HNO.out HG5.out HZ5.out)
        have HRow := Lib.hid HIG.out.row
        have hB9 := HIG.out.le
        have hpl : acc.length ≤ 4294967296 := by omega
        have HST := Lib.hid (fun v' W' o g1 at1 => HIG.out.app (v' := v') (W' := W') (ds' := acc ++ [x]) o g1 at1)
        have HFI : Hid (∀ v' W', Orow W' w.heap.size 32 2 fId v' (acc ++ [x]) → w5.grownBy W' u3.ownBlock → (v'.ownBlock = u3.ownBlock ∨ ∃ g, v'.ownBlock = some g ∧ w5.heap.size < g) → ON H w v' (onceF (ids.take (i + 1))) (i + 1) W') := by
          intro v' W' o g1 at1
          rw [HSU.out, HAD.out]
          refine ⟨HST.out v' W' o g1 at1, ⟨_, HM5.out.kept g1 (fun e => HO1.out.ne e.symm), HS.out.set HFX.out⟩, fun e => ?_⟩
          rcases at1 with h | ⟨g, h, hg⟩
          · exact HO1.out.ne (by rw [← h]; exact e)
          · rw [h] at e; injection e with e; omega
        clear x0 x1 hz5 HO1 HSU HAD HST HIG HM HS HG HK HG5 HM5 HZ5 HZ
        go_wp2_with (at_builtin; refine wpList_app_at rfl _ _ 47 rfl w.heap.size 32 i0 (.agg #[.int .i64 0, .string ⟨#[]⟩]) 2 24 Tryz.underlying47 hi0 hz0 hz1 hz2 rfl (by decide) fId _ acc rfl HRow.out x #[.int .i64 x.kind, .string x.text] 32 rfl rfl (by simp [Value.oneCell']) hpl (by omega) hB9 ?_; intro v1 WM o1 g1 b1 at1; have HF5 := Lib.hid (HFI.out _ _ o1 g1 at1); clear o1 g1 b1 at1 HRow HFI)
        go_roundw
        case rel => exact ⟨i + 1, by omega, by go_num, HF5⟩
        case measure => simp [intOf]; omega
    · have HE : Hid (ON H w u3 (onceF ids) i wr) := by
        have := hon.out
        rwa [List.take_of_length_le (by omega)] at this
      clear hon
      go_wp2_with fail
      go_ret
      exact ⟨⟨_, rfl, HE.out.ig.row⟩, HE.out.ig.bel⟩
end Go.Proofs.YtmlpfbffecdepaaGreatDoor

/- consent.Audience: it returns, and nothing that stands turns. -/
namespace Go.Proofs.YtmlpfbffecdepaaGreatDoor
set_option linter.unusedVariables false
open Go.RowKit
def φAu (qv lv idv atv av : Value) (sd : List StD) (t : TermD) (b : Bool) (purp : ByteArray) (may : Bool) (i : Nat) (v : Value) (w : World) : Prop :=
  match i with
  | 0 => v = qv
  | 1 => v = lv
  | 2 => v = idv
  | 3 => ∃ (A : Option Addr) (cap : Nat) (H' : Frz), v = .agg #[.string t.region, .int .i64 t.ch, .bool t.free, .int .i64 t.days, .int .i64 t.wait, .bool b, .string purp, .slice A sd.length cap] ∧ H'.In w ∧ Rw H' A 8 fSt sd ∧ sd.length ≤ cap
  | 4 => v = atv
  | 5 => v = av
  | 6 => v = .bool may
  | 7 => v = .bool (!may)
  | _ => True
theorem φAu_mono {qv lv idv atv av : Value} {sd : List StD} {t : TermD} {b : Bool} {purp : ByteArray} {may : Bool} (i : Nat) (x : Value) (w w' : World) (hi : i < 8) (e : Below w.heap.size w w') (h : φAu qv lv idv atv av sd t b purp may i x w) : φAu qv lv idv atv av sd t b purp may i x w' := by
  match i, h with
  | 0, h => exact h
  | 1, h => exact h
  | 2, h => exact h
  | 3, h => obtain ⟨A, cap, H', h1, h3, h4, h5⟩ := h; exact ⟨A, cap, H', h1, h3.below e, h4, h5⟩
  | 4, h => exact h
  | 5, h => exact h
  | 6, h => exact h
  | 7, h => exact h
  | i + 8, h => exact trivial
set_option maxHeartbeats 4000000 in
set_option maxRecDepth 100000 in
theorem audC_any (H : Frz) (qb sb ab : Nat) (A : Option Addr) (cap : Nat) (ps : List PurD) (A2 : Option Addr) (cap2 : Nat) (ss : List StD) (purp region : ByteArray) (ch at_ : Int)
    (hq : H qb = some (.cells #[.slice A ps.length cap, .string purp, .string region, .int .i64 ch, .int .i64 at_] 85 (0, 0))) (hs : H sb = some (.cells #[.slice A2 ss.length cap2] 28 (0, 0))) (ha : H ab = some (.cells #[.int .i64 at_] 3 (0, 0)))
    (hP : PolIn H A ps) (hl : ps.length ≤ 1000000) (hR : Rw H A2 8 fSt ss) (hl2 : ss.length < 20) (h0 : sayErr idErr ps ss = 0) (hat : 0 ≤ at_ ∧ at_ ≤ 4321439) (x : IdD) (w : World) (hH : H.In w) :
    Calls Tryz.prog 46 #[.agg #[.int .i64 x.kind, .string x.text], .pointer (some ⟨qb, 0, none⟩), .pointer (some ⟨sb, 0, none⟩), .pointer (some ⟨ab, 0, none⟩)] w fun e w' => e = .returned (.bool (!(askF ps ss x.kind x.text purp region ch at_).may)) ∧ Below w.heap.size w w' := by
  have hpol := say_pol h0
  have hps := pol_right hpol
  have HTB := Lib.hid (term_tb hpol (purp := purp) (region := region) (ch := ch))
  have HBD := Lib.hid (said_bd (say_bd h0) x.kind x.text ch)
  have HSL := Lib.hid (said_len ss x.kind x.text ch)
  have HASK := Lib.hid (fun W (hW : H.In W) => ask_any H A cap ps purp region ch at_ A2 cap2 ss x.kind x.text W hW hP hps.1 (fun p hp => (tes_right (hps.2 p hp)).1) hl hR hl2)
  have HAF : Hid (askF ps ss x.kind x.text purp region ch at_ = answerF (termF ps purp region ch) purp (saidF ss x.kind x.text ch) at_) := rfl
  obtain ⟨H1, hle, hblk, hin1⟩ := hH.put (.cells #[.int .i64 x.kind, .string x.text] 32)
  have HIN := Lib.hid hin1
  have HLE := Lib.hid hle
  have HX := Lib.hid hblk
  have HQ := Lib.hid (hle _ _ hq)
  have HS := Lib.hid (hle _ _ hs)
  have HA := Lib.hid (hle _ _ ha)
  have HB := Lib.hid (new1 (w := w) (.cells #[.int .i64 x.kind, .string x.text] 32))
  clear hH hP hR h0 hpol hps hin1 hle hblk hq hs ha
  obtain ⟨t, ht, -⟩ := terV_eq (termF ps purp region ch)
  generalize termF ps purp region ch = o at *
  have HSA := Lib.hid (saidF_at ss x.kind x.text ch)
  generalize saidF ss x.kind x.text ch = sd at *
  rw [HAF.out]
  generalize hans : answerF o purp sd at_ = ans at *
  have HANS := Lib.hid hans
  clear hans HAF
  obtain ⟨am, ay, an⟩ := ans
  go_enter Tryz.func46, Tryz.ntmps46
  go_upto_region 1 with (fail)
  generalize w.alloc (.cells #[.int .i64 x.kind, .string x.text] 32) = wx at *
  generalize hxb : w.heap.size = xb at *
  have HXB := Lib.hid hxb
  clear hxb
  refine wp_region_conc 8 14 (φAu (.agg #[.slice A ps.length cap, .string purp, .string region, .int .i64 ch, .int .i64 at_]) (.slice A2 ss.length cap2) (.agg #[.int .i64 x.kind, .string x.text]) (.int .i64 at_) (.agg #[.bool am, .int .i64 ay, .int .i64 an]) sd t o.isSome purp am) (fun k W => H1.In W ∧ Below wx.heap.size wx W) (fun a b => Below a.heap.size a b) (by kernel_rfl) (by kernel_rfl) (by rfl) ⟨HIN.out, (Below.refl _ _).drew⟩ φAu_mono ?_ ?_
  · intro n op hn ho a W2 kk hkk hJ hkn
    have hcs : n = 0 ∨ n = 1 ∨ n = 2 ∨ n = 3 ∨ n = 4 ∨ n = 5 ∨ n = 6 ∨ n = 7 := by omega
    rcases hcs with rfl | rfl | rfl | rfl | rfl | rfl | rfl | rfl
    · obtain rfl := Option.some.inj ho
      have h1 := slot_of (hkn 1 (by decide) : a.tmps.getD 1 undef = .pointer (some ⟨qb, 0, none⟩))
      have hk := hJ.1 _ _ HQ.out
      have q0 : W2.cell? ⟨qb, 0, none⟩ = some (.slice A ps.length cap) := cell_h hk 0 rfl
      have q1 : W2.cell? ⟨qb, 1, none⟩ = some (.string purp) := cell_h hk 1 rfl
      have q2 : W2.cell? ⟨qb, 2, none⟩ = some (.string region) := cell_h hk 2 rfl
      have q3 : W2.cell? ⟨qb, 3, none⟩ = some (.int .i64 ch) := cell_h hk 3 rfl
      have q4 : W2.cell? ⟨qb, 4, none⟩ = some (.int .i64 at_) := cell_h hk 4 rfl
      clear hkn ho
      simp only [OpV, execOp]
      simp [go_sem, h1, q0, q1, q2, q3, q4]
      exact ⟨rfl, hJ, Below.refl _ _⟩
    · obtain rfl := Option.some.inj ho
      have h1 := slot_of (hkn 2 (by decide) : a.tmps.getD 2 undef = .pointer (some ⟨sb, 0, none⟩))
      have q0 : W2.cell? ⟨sb, 0, none⟩ = some (.slice A2 ss.length cap2) := cell_h (hJ.1 _ _ HS.out) 0 rfl
      clear hkn ho
      simp only [OpV, execOp]
      simp [go_sem, h1, q0]
      exact ⟨rfl, hJ, Below.refl _ _⟩
    · obtain rfl := Option.some.inj ho
      have h1 := slot_of (hkn 4 (by decide) : a.tmps.getD 4 undef = .pointer (some ⟨xb, 0, none⟩))
      have x0 : W2.cell? ⟨xb, 0, none⟩ = some (.int .i64 x.kind) := cell_h (hJ.1 _ _ HX.out) 0 rfl
      have x1 : W2.cell? ⟨xb, 1, none⟩ = some (.string x.text) := cell_h (hJ.1 _ _ HX.out) 1 rfl
      clear hkn ho
      simp only [OpV, execOp]
      simp [go_sem, h1, x0, x1]
      exact ⟨rfl, hJ, Below.refl _ _⟩
    · obtain rfl := Option.some.inj ho
      have h1 := slot_of (hkn 6 (by decide) : a.tmps.getD 6 undef = .agg #[.slice A ps.length cap, .string purp, .string region, .int .i64 ch, .int .i64 at_])
      have h2 := slot_of (hkn 7 (by decide) : a.tmps.getD 7 undef = .slice A2 ss.length cap2)
      have h3 := slot_of (hkn 8 (by decide) : a.tmps.getD 8 undef = .agg #[.int .i64 x.kind, .string x.text])
      have hak := HASK.out W2 (hJ.1.le HLE.out)
      have hin := hJ.1
      clear hkn ho
      simp only [OpV, execOp]
      simp [go_sem, h1, h2, h3]
      refine hak.mono ?_
      rintro e w' ⟨v, rfl, hO, hb⟩
      obtain ⟨A8, cap8, H8, hv8, hle8, p1, p2, hR8, -⟩ := hO.freeze H1
      subst hv8
      rw [← ht]
      exact ⟨_, rfl, ⟨A8, cap8, H8, rfl, p1 (hin.below hb), hR8, hle8⟩, ⟨hJ.1.below hb, hJ.2.trans (hb.mono hJ.2.size)⟩, hb⟩
    · obtain rfl := Option.some.inj ho
      have h1 := slot_of (hkn 3 (by decide) : a.tmps.getD 3 undef = .pointer (some ⟨ab, 0, none⟩))
      have q0 : W2.cell? ⟨ab, 0, none⟩ = some (.int .i64 at_) := cell_h (hJ.1 _ _ HA.out) 0 rfl
      clear hkn ho
      simp only [OpV, execOp]
      simp [go_sem, h1, q0]
      exact ⟨rfl, hJ, Below.refl _ _⟩
    · obtain rfl := Option.some.inj ho
      obtain ⟨A8, cap8, H8, h1, hin, hR8, hle8⟩ : ∃ (A : Option Addr) (cap : Nat) (H' : Frz), a.tmps.getD 9 undef = .agg #[.string t.region, .int .i64 t.ch, .bool t.free, .int .i64 t.days, .int .i64 t.wait, .bool o.isSome, .string purp, .slice A sd.length cap] ∧ H'.In W2 ∧ Rw H' A 8 fSt sd ∧ sd.length ≤ cap := hkn 9 (by decide)
      replace h1 := slot_of h1
      have h2 := slot_of (hkn 10 (by decide) : a.tmps.getD 10 undef = .int .i64 at_)
      have hsl2 := HSL.out
      have han := answer_any H8 A8 cap8 sd o purp at_ W2 hin hR8 HSA.out (by omega) hle8 HBD.out HTB.out (by omega) (by omega)
      rw [HANS.out, ← ht] at han
      clear hkn ho hsl2
      simp only [OpV, execOp]
      simp [go_sem, h1, h2]
      refine han.mono ?_
      rintro e w' ⟨rfl, hb⟩
      exact ⟨_, rfl, rfl, ⟨hJ.1.below hb, hJ.2.trans (hb.mono hJ.2.size)⟩, hb⟩
    · obtain rfl := Option.some.inj ho
      have h1 := slot_of (hkn 11 (by decide) : a.tmps.getD 11 undef = .agg #[.bool am, .int .i64 ay, .int .i64 an])
      have hf0 : ∀ W, (Instr.field 92 (.agg #[.bool am, .int .i64 ay, .int .i64 an]) 0).run Tryz.prog W = .ok (.bool am) W := fun W => by kernel_rfl
      clear hkn ho
      simp only [OpV, execOp]
      simp [go_sem, h1, hf0]
      exact ⟨rfl, hJ, Below.refl _ _⟩
    · obtain rfl := Option.some.inj ho
      have h1 := slot_of (hkn 12 (by decide) : a.tmps.getD 12 undef = .bool am)
      clear hkn ho
      simp only [OpV, execOp]
      simp [go_sem, h1]
      exact ⟨rfl, hJ, Below.refl _ _⟩
  · intro yv W9 hW9 hφ
    have e7 : yv 7 = .bool (!am) := hφ 7 (by omega)
    have HF : Hid (Below w.heap.size w W9) := by
      have hB := HB.out
      rw [← HXB.out] at hB
      exact hB.trans (hW9.2.mono hB.size)
    clear hφ hW9
    simp only [List.drop_succ_cons, List.drop_zero, List.take_succ_cons, List.take_zero, putAll, Nat.reduceAdd, e7]
    clear e7
    generalize yv 0 = y0
    generalize yv 1 = y1
    generalize yv 2 = y2
    generalize yv 3 = y3
    generalize yv 4 = y4
    generalize yv 5 = y5
    generalize yv 6 = y6
    go_simp
    go_wp2_with fail
    go_ret
    exact ⟨rfl, HF.out⟩
theorem ids_fit {ids : List IdD} {most : Int} (h : idsErr ids most = 0) (hs : ∀ x ∈ ids, x.text.size ≤ 1000000) : ∀ x ∈ ids, FitId x := by
  unfold idsErr at h
  split at h
  · omega
  · rw [fstErr_zero] at h
    intro x hx
    obtain ⟨i, hi, rfl⟩ := List.mem_iff_getElem.1 hx
    have h2 := h i hi
    unfold idAt at h2
    rw [List.getElem?_eq_getElem hi] at h2
    have h3 : idErr ids[i].kind ids[i].text = 0 := h2
    refine ⟨?_, hs _ hx⟩
    unfold idErr at h3
    by_cases c1 : ids[i].kind = 1
    · omega
    · rw [if_neg c1] at h3
      by_cases c2 : ids[i].kind = 2
      · omega
      · rw [if_neg c2] at h3
        by_cases c3 : ids[i].kind = 3
        · omega
        · rw [if_neg c3] at h3
          by_cases c4 : ids[i].kind = 4
          · omega
          · rw [if_neg c4] at h3; omega
set_option maxHeartbeats 4000000 in
set_option maxRecDepth 100000 in
theorem audience_any (H : Frz) (hM : MLen H) (A : Option Addr) (cap : Nat) (ps : List PurD) (A2 : Option Addr) (cap2 : Nat) (ss : List StD) (A3 : Option Addr) (cap3 : Nat) (ids : List IdD) (purp region : ByteArray) (ch at_ : Int) (w : World) (hH : H.In w)
    (hP : PolIn H A ps) (hl : ps.length ≤ 1000000) (hR : Rw H A2 8 fSt ss) (hl2 : ss.length < 20) (hsz : SzSt ss) (hR3 : Rw H A3 2 fId ids) (hl3 : ids.length ≤ 100000) (hf : ∀ x ∈ ids, x.text.size ≤ 1000000) (hrz : region.size ≤ 1000000) :
    Calls Tryz.prog 13 #[.slice A ps.length cap, .slice A2 ss.length cap2, .slice A3 ids.length cap3, .string purp, .string region, .int .i64 ch, .int .i64 at_] w fun e w' => (∃ v, e = .returned (.tuple #[v, .int .i64 (allErr ps ss ids 2000 purp region ch at_)])) ∧ Below w.heap.size w w' := by
  obtain ⟨H1, le1, hb1, hin1⟩ := hH.put (.cells #[.slice A2 ss.length cap2] 28)
  obtain ⟨H2, le2, hb2, hin2⟩ := hin1.put (.cells #[.int .i64 at_] 3)
  obtain ⟨H3, le3, hb3, hin3⟩ := hin2.put (.cells #[.slice A ps.length cap, .string purp, .string region, .int .i64 ch, .int .i64 at_] 85)
  have le := (le1.trans le2).trans le3
  have s1 : (w.alloc (.cells #[.slice A2 ss.length cap2] 28)).heap.size = w.heap.size + 1 := by simp
  have s2 : ((w.alloc (.cells #[.slice A2 ss.length cap2] 28)).alloc (.cells #[.int .i64 at_] 3)).heap.size = w.heap.size + 2 := by simp
  rw [s1] at hb2
  rw [s2] at hb3
  have HB : Hid (Below w.heap.size w _) := ((new2 (w := w) (.cells #[.slice A2 ss.length cap2] 28) (.cells #[.int .i64 at_] 3)).alloc (by simp; omega) (.cells #[.slice A ps.length cap, .string purp, .string region, .int .i64 ch, .int .i64 at_] 85))
  have HIN := Lib.hid hin3
  have HBS := Lib.hid ((le2.trans le3) _ _ hb1)
  have HBA := Lib.hid (le3 _ _ hb2)
  have HBQ := Lib.hid hb3
  have HP := Lib.hid (hP.le le)
  have HR := Lib.hid (hR.le le)
  have HR3 := Lib.hid (hR3.le le)
  have HM := Lib.hid (hM.le le)
  have HSZ := Lib.hid hsz
  have HFI := Lib.hid hf
  have HER := Lib.hid (fun h0 : allErr ps ss ids 2000 purp region ch at_ = 0 => all_right h0)
  have hsz4 : Hid ((((w.alloc (.cells #[.slice A2 ss.length cap2] 28)).alloc (.cells #[.int .i64 at_] 3)).alloc (.cells #[.slice A ps.length cap, .string purp, .string region, .int .i64 ch, .int .i64 at_] 85)).heap.size = w.heap.size + 3) := by show _ = _; simp
  clear hH hM hP hR hR3 hsz hf hb1 hb2 hb3 le1 le2 le3 le hin1 hin2 hin3 s1 s2
  go_enter Tryz.func13, Tryz.ntmps13
  go_upto_region 2 with (fail)
  generalize ((w.alloc (.cells #[.slice A2 ss.length cap2] 28)).alloc (.cells #[.int .i64 at_] 3)).alloc (.cells #[.slice A ps.length cap, .string purp, .string region, .int .i64 ch, .int .i64 at_] 85) = W3 at *
  have q0 : W3.cell? ⟨w.heap.size + 2, 0, none⟩ = some (.slice A ps.length cap) := cell_h (HIN.out _ _ HBQ.out) 0 rfl
  have q1 : W3.cell? ⟨w.heap.size + 2, 1, none⟩ = some (.string purp) := cell_h (HIN.out _ _ HBQ.out) 1 rfl
  have q2 : W3.cell? ⟨w.heap.size + 2, 2, none⟩ = some (.string region) := cell_h (HIN.out _ _ HBQ.out) 2 rfl
  have q3 : W3.cell? ⟨w.heap.size + 2, 3, none⟩ = some (.int .i64 ch) := cell_h (HIN.out _ _ HBQ.out) 3 rfl
  have q4 : W3.cell? ⟨w.heap.size + 2, 4, none⟩ = some (.int .i64 at_) := cell_h (HIN.out _ _ HBQ.out) 4 rfl
  have q5 : W3.cell? ⟨w.heap.size, 0, none⟩ = some (.slice A2 ss.length cap2) := cell_h (HIN.out _ _ HBS.out) 0 rfl
  go_wp2_with fail
  clear q0 q1 q2 q3 q4 q5
  refine (checkAll_any H3 HM.out A cap ps A2 cap2 ss A3 cap3 ids 2000 purp region ch at_ W3 HIN.out HP.out hl HR.out (by omega) HSZ.out HR3.out (by omega) HFI.out hrz).mono ?_
  rintro e W4 ⟨rfl, hb4⟩
  have HB4 := Lib.hid (HB.out.trans (hb4.mono HB.out.size))
  have HIN4 := Lib.hid (HIN.out.below hb4)
  clear hb4 HIN
  generalize hge : allErr ps ss ids 2000 purp region ch at_ = er at *
  have HGE := Lib.hid hge
  clear hge
  by_cases h0 : er = 0
  · obtain ⟨e1, e2, e3⟩ := HER.out h0
    have hq := que_at e3
    have HFT := Lib.hid (ids_fit e2 HFI.out)
    have HAC := Lib.hid (fun x W (hW : H3.In W) => audC_any H3 (w.heap.size + 2) w.heap.size (w.heap.size + 1) A cap ps A2 cap2 ss purp region ch at_ HBQ.out HBS.out HBA.out HP.out hl HR.out hl2 e1 hq x W hW)
    have k0 : (er != 0) = false := by simpa using h0
    clear HER e1 e2 e3 hq
    go_wp2_with fail
    refine (once_any H3 A3 cap3 ids W4 HIN4.out HR3.out (by omega) HFT.out).mono ?_
    rintro e W5 ⟨⟨v, rfl, hO⟩, hb5⟩
    have HB5 := Lib.hid (HB4.out.trans (hb5.mono HB4.out.size))
    have HIN5 := Lib.hid (HIN4.out.below hb5)
    have HO := Lib.hid hO
    have HNO : Hid (∀ q, v.ownBlock = some q → H3 q = none) := fun q hq => HIN4.out.none_ (hO.lt hq).1
    have hol : (onceF ids).length ≤ 100000 := by have := onceF_len ids []; unfold onceF; simp at this; omega
    have HG5 : Hid (∀ q, v.ownBlock = some q → w.heap.size ≤ q) := fun q hq => Nat.le_trans HB4.out.size (hO.lt hq).1
    clear hb5 hO
    go_wp2_with fail
    refine (deleteFunc_Id H3 46 [.pointer (some ⟨w.heap.size + 2, 0, none⟩), .pointer (some ⟨w.heap.size, 0, none⟩), .pointer (some ⟨w.heap.size + 1, 0, none⟩)] (fun x => !(askF ps ss x.kind x.text purp region ch at_).may) (onceF ids) (fun W d hd hW => HAC.out d W hW) (fun a W => by kernel_rfl) W4.heap.size v W5 HIN5.out HO.out HNO.out hol).mono ?_
    rintro e W6 ⟨⟨v6, rfl, -, -⟩, hg6⟩
    have HF := Lib.hid (HB5.out.grown hg6 HB5.out.size HG5.out)
    clear hg6
    go_wp2_with fail
    go_ret2
    exact ⟨⟨_, by rw [HGE.out, h0]; rfl⟩, HF.out⟩
  · have k0 : (er != 0) = true := by simpa using h0
    clear HER h0
    go_wp2_with fail
    go_ret2
    exact ⟨⟨_, by rw [HGE.out]; rfl⟩, HB4.out⟩
end Go.Proofs.YtmlpfbffecdepaaGreatDoor
