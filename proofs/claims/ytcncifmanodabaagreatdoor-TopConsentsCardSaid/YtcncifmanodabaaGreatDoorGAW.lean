/- Texts of this claim, put together: Mp, MpE, KeyId, NewGJ, PersP, PartsP. -/
import Derived.Test.YtcncifmanodabaaGreatDoorGAB
import Derived.Maps.OwnSet
import Derived.WideKeyEntry
import Derived.Test.YtcncifmanodabaaGreatDoorGAE
import Derived.DeepKeys4
import Derived.Test.YtcncifmanodabaaGreatDoorGAV
import Derived.Test.YtcncifmanodabaaGreatDoorGAR
import Derived.Test.YtcncifmanodabaaGreatDoorGAU
import Derived.Test.YtcncifmanodabaaGreatDoorGAS
namespace Go.Proofs.YtcncifmanodabaaGreatDoor
set_option linter.unusedVariables false
open Go.RowKit
def heldR (v:Value):Option (DataW Value × List MemPlace):=some (.held v,[])
def Mp (P:Program) (k:TypeId) (w:World) (b n:Nat) (m:Lit → Option Value):Prop :=
 ∃ D:DataW Value,w.ownsMap P k heldR b n D ∧ ∀ l,WideAt.IsKeyLit l → Maps.has D l = (m l).isSome ∧ ∀ v,m l = some v → ∀ z,D.atKey l z = .held v
def mpSet (m:Lit → Option Value) (l:Lit) (v:Value):Lit → Option Value:=fun x => if x.sameKey l then some v else m x
def mpDel (m:Lit → Option Value) (l:Lit):Lit → Option Value:=fun x => if x.sameKey l then none else m x
def mpNew:Lit → Option Value:=fun _ => none
section
variable {P:Program} {k e t:TypeId} {w w':World} {b n:Nat} {m:Lit → Option Value} {key:Value} {kl:Lit}
theorem Mp.made (P:Program) (k:TypeId) (w:World):Mp P k (w.alloc (.map #[] 0)) w.heap.size 0 mpNew :=
 ⟨_,World.ownsMap_made w P k heldR,fun l _ => ⟨rfl,fun v h => by cases h⟩⟩
theorem Mp.mono {n':Nat} (h:Mp P k w b n m) (hn:n ≤ n'):Mp P k w b n' m:=by
 obtain ⟨D,ho,hd⟩:=h
 exact ⟨D,ho.mono hn,hd⟩
theorem Mp.lt (h:Mp P k w b n m):b < w.heap.size:=by
 obtain ⟨D,ho,hd⟩:=h
 exact ho.lt
theorem Mp.kept {row:Option Nat} (h:Mp P k w b n m) (hg:w.grownBy w' row) (hne:some b ≠ row):Mp P k w' b n m:=by
 obtain ⟨D,ho,hd⟩:=h
 exact ⟨D,ho.kept hg hne,hd⟩
theorem Mp.below (h:Mp P k w b n m) (hb:Below w.heap.size w w'):Mp P k w' b n m :=
 h.kept (row:=none) ⟨hb.os,hb.tape,hb.output,hb.size,fun i hi _ => hb.block i hi⟩ (by simp)
theorem Mp.block (h:Mp P k w b n m) (hb:w'.heap[b]? = w.heap[b]?):Mp P k w' b n m:=by
 obtain ⟨D,⟨es,clock,h1,h2⟩,hd⟩:=h
 exact ⟨D,⟨es,clock,hb.trans h1,h2⟩,hd⟩
theorem Mp.alloc (h:Mp P k w b n m) (o:Obj):Mp P k (w.alloc o) b n m:=h.below ((Below.refl _ _).alloc (Nat.le_refl _) _)
theorem Mp.setCell (h:Mp P k w b n m) {a:Addr} (ha:b ≠ a.block) (u:Value):Mp P k (w.setCell a u) b n m:=by
 obtain ⟨D,ho,hd⟩:=h
 exact ⟨D,ho.setCell ha u,hd⟩
theorem Mp.obj (h:Mp P k w b n m):∃ o,w.heap[b]? = some o ∧ ∀ w':World,w'.heap[b]? = some o → Mp P k w' b n m:=by
 obtain ⟨D,⟨es,clock,h1,h2⟩,hd⟩:=h
 exact ⟨_,h1,fun w' h' => ⟨D,⟨es,clock,h',h2⟩,hd⟩⟩
theorem Mp.look_some (h:Mp P k w b n m) (K:Maps.Keyed P k) (ht:P.underlying t = some (.map k e)) {z:Value} (hz:(zeroValue e).run P w = .ok z w) (hkey:keyOf P k key = some kl) {v:Value} (hv:m kl = some v) (c:Bool) :
  (Instr.lookup t (.map (some b)) key c).run P w = .ok (if c then .tuple #[v,.bool true] else v) w:=by
 obtain ⟨D,⟨es,clock,hb,F,_,rfl⟩,hd⟩:=h
 have hk:WideAt.IsKeyLit kl:=K.key hkey
 obtain ⟨h1,h2⟩:=hd kl hk
 rcases Maps.fit_look c K ht hz hb F hkey with ⟨hrun,_,hat⟩ | ⟨e0,y,_,_,hrun,hRv,hat,_⟩
 ·rw [Maps.has_false_of_atKey hat,hv] at h1
  cases h1
 ·have:=h2 v hv (.held v)
  rw [hat] at this
  unfold heldR at hRv
  injection hRv with hRv
  rw [← hRv] at this
  injection this with this
  rw [← this]
  exact hrun
theorem Mp.look_none (h:Mp P k w b n m) (K:Maps.Keyed P k) (ht:P.underlying t = some (.map k e)) {z:Value} (hz:(zeroValue e).run P w = .ok z w) (hkey:keyOf P k key = some kl) (hv:m kl = none) (c:Bool) :
  (Instr.lookup t (.map (some b)) key c).run P w = .ok (if c then .tuple #[z,.bool false] else z) w:=by
 obtain ⟨D,⟨es,clock,hb,F,_,rfl⟩,hd⟩:=h
 have hk:WideAt.IsKeyLit kl:=K.key hkey
 obtain ⟨h1,h2⟩:=hd kl hk
 rcases Maps.fit_look c K ht hz hb F hkey with ⟨hrun,_,hat⟩ | ⟨e0,y,_,_,hrun,hRv,hat,_⟩
 ·exact hrun
 ·rw [Maps.has_true_of_atKey hat,hv] at h1
  cases h1
theorem Mp.look (h:Mp P k w b n m) (K:Maps.Keyed P k) (ht:P.underlying t = some (.map k e)) {z:Value} (hz:(zeroValue e).run P w = .ok z w) (hkey:keyOf P k key = some kl) (c:Bool) :
  (Instr.lookup t (.map (some b)) key c).run P w = .ok (if c then .tuple #[(m kl).getD z,.bool (m kl).isSome] else (m kl).getD z) w:=by
 cases hv:m kl with
 | none => exact h.look_none K ht hz hkey hv c
 | some v => exact h.look_some K ht hz hkey hv c
theorem Mp.update (h:Mp P k w b n m) (K:Maps.Keyed P k) (ht:P.underlying t = some (.map k e)) (hn:n < maxLen) (hkey:keyOf P k key = some kl) (val:Value) :
  ∃ w',(Instr.mapUpdate t (.map (some b)) key val).run P w = .ok () w' ∧ Mp P k w' b (n + 1) (mpSet m kl val) ∧ w.grownBy w' (some b) ∧ w'.heap.size = w.heap.size:=by
 obtain ⟨D,ho,hd⟩:=h
 have hk:WideAt.IsKeyLit kl:=K.key hkey
 obtain ⟨w',hrun,ho',ht'⟩:=ho.store K ht hn hkey (show heldR val = some (.held val,[]) from rfl)
 refine ⟨w',hrun,⟨_,ho',fun l hl => ?_⟩,ht'.grown,?_⟩
 ·by_cases hs:l = kl
  ·subst hs
   have e1:mpSet m l val l = some val:=by unfold mpSet;rw [WideAt.sameKey_self hk];rfl
   rw [e1]
   refine ⟨by rw [Maps.has_put_same ho.isMap hk];rfl,fun v hv z => ?_⟩
   injection hv with hv
   rw [Maps.atKey_put_same ho.isMap hk,hv]
  ·have e1:mpSet m kl val l = m l:=by
    unfold mpSet
    rw [if_neg]
    intro c
    exact hs (WideAt.sameKey_eq c)
   rw [e1,Maps.has_put_other hs]
   refine ⟨(hd l hl).1,fun v hv z => ?_⟩
   rw [Maps.atKey_put_other hs]
   exact (hd l hl).2 v hv z
 ·obtain ⟨es,clock,es',clock',hb,rfl⟩:=ht'
  simp [ChangeMaps.setBlock]
theorem Mp.drop (h:Mp P k w b n m) (K:Maps.Keyed P k) (ht:P.underlying t = some (.map k e)) (hkey:keyOf P k key = some kl) (ty:TypeId) :
  ∃ w',(Builtin.delete_ #[t,k] ty #[.map (some b),key]).run P w = .ok (.tuple #[]) w' ∧ Mp P k w' b n (mpDel m kl) ∧ w.grownBy w' (some b) ∧ w'.heap.size = w.heap.size:=by
 obtain ⟨D,ho,hd⟩:=h
 have hk:WideAt.IsKeyLit kl:=K.key hkey
 obtain ⟨w',hrun,ho',ht'⟩:=ho.drop K ht hkey ty
 refine ⟨w',hrun,⟨_,ho',fun l hl => ?_⟩,ht'.grown,?_⟩
 ·by_cases hs:l = kl
  ·subst hs
   have e1:mpDel m l l = none:=by unfold mpDel;rw [WideAt.sameKey_self hk];rfl
   rw [e1]
   exact ⟨by rw [Maps.has_del_same];rfl,fun v hv z => by cases hv⟩
  ·have e1:mpDel m kl l = m l:=by
    unfold mpDel
    rw [if_neg]
    intro c
    exact hs (WideAt.sameKey_eq c)
   rw [e1,Maps.has_del_other hs]
   refine ⟨(hd l hl).1,fun v hv z => ?_⟩
   rw [Maps.atKey_del_other hs]
   exact (hd l hl).2 v hv z
 ·obtain ⟨es,clock,es',clock',hb,rfl⟩:=ht'
  simp [ChangeMaps.setBlock]
end
theorem wpList_mp_set {P:Program} (w:World) {ops:Array Oper} {rest:List Oper} {o:Oper} {a:Act} {Q:Exit → Act → World → Prop}
  (hg:o.guard = none) (mo x v:Operand) (t:TypeId) (hop:o.op = Op.mapUpdate t mo x v)
  (k e:TypeId) (K:Maps.Keyed P k) (ht:P.underlying t = some (.map k e)) (b n:Nat) (m:Lit → Option Value)
  (hm:a.eval mo = .map (some b)) (hown:Mp P k w b n m) (hn:n < maxLen) (key val:Value) (kl:Lit) (hx:a.eval x = key) (hv:a.eval v = val) (hkey:keyOf P k key = some kl)
  (hK:∀ w',Mp P k w' b (n + 1) (mpSet m kl val) → w.grownBy w' (some b) → w'.heap.size = w.heap.size → wpList P ops Q rest (a.put o.dst undef) w') :
  wpList P ops Q (o :: rest) a w:=by
 refine wpList_plain hg fun K' hK' => ?_
 obtain ⟨w',hrun,r1,r2,r3⟩:=hown.update K ht hn hkey val
 unfold Oper.wp
 simp [execOp,hop,hm,hx,hv,hrun,Result.andThen]
 exact hK' _ _ (hK w' r1 r2 r3)
theorem wpList_mp_ok {P:Program} (w:World) {ops:Array Oper} {rest:List Oper} {o:Oper} {a:Act} {Q:Exit → Act → World → Prop}
  (hg:o.guard = none) (mo x:Operand) (t:TypeId) (hop:o.op = Op.lookup t mo x true)
  (k e:TypeId) (K:Maps.Keyed P k) (ht:P.underlying t = some (.map k e)) (z:Value) (hz:(zeroValue e).run P w = .ok z w) (b n:Nat) (m:Lit → Option Value)
  (hm:a.eval mo = .map (some b)) (hown:Mp P k w b n m) (key:Value) (kl:Lit) (hx:a.eval x = key) (hkey:keyOf P k key = some kl)
  (hK:wpList P ops Q rest (a.put o.dst (.tuple #[(m kl).getD z,.bool (m kl).isSome])) w) :
  wpList P ops Q (o :: rest) a w:=by
 refine wpList_plain hg fun K' hK' => ?_
 have hrun:=hown.look K ht hz hkey true
 unfold Oper.wp
 simp [execOp,hop,hm,hx,hrun,Result.andThen]
 exact hK' _ _ hK
open Go.RowKit Go.ChangeMaps
section
variable {P:Program} {k e t:TypeId} {w w':World} {b n:Nat} {m:Lit → Option Value} {key:Value} {kl:Lit}
theorem grown_setBlock (w:World) (b:Nat) (o:Obj):w.grownBy (setBlock w b o) (some b):=by
 refine ⟨rfl,rfl,rfl,by simp [setBlock],fun i hi hne => ?_⟩
 have:i ≠ b:=fun c => hne (by rw [c])
 simp [setBlock,this.symm]
theorem setBlock_at {w:World} {b:Nat} (o:Obj) (h:b < w.heap.size):(setBlock w b o).heap[b]? = some o:=by
 simp [setBlock,h]
theorem Mp.entry (h:Mp P k w b n m) (K:WideMaps.KeyLaw P k) (ht:P.underlying t = some (.map k e)) {z:Value} (hz:∀ u:World,(zeroValue e).run P u = .ok z u) (hn:n < maxLen) (hkey:keyOf P k key = some kl) :
  ∃ (st:Nat) (es1:Array MapEntry) (clock1:Nat),(Instr.mapEntry t (.map (some b)) key).run P w = .ok (.tuple #[(m kl).getD z,goInt st]) (setBlock w b (.map es1 clock1)) ∧
   ∀ (w2:World) (val:Value),w2.heap[b]? = some (.map es1 clock1) → ∃ w3,(Instr.entryStore t (.map (some b)) (goInt st) val).run P w2 = .ok () w3 ∧ Mp P k w3 b (n + 1) (mpSet m kl val) ∧ w2.grownBy w3 (some b) ∧ w3.heap.size = w2.heap.size:=by
 have hK:=Maps.Keyed.of_law K
 obtain ⟨D,⟨es,clock,hb,F,hsz,rfl⟩,hd⟩:=id h
 obtain ⟨v0,st,es1,clock1,h1,h2,h3⟩:=WideElems.entry_then_store K ht hz hb F hkey
 have hl:=h.look hK ht (hz w) hkey false
 have hv0:v0 = (m kl).getD z:=by
  rcases Maps.fit_look false hK ht (hz w) hb F hkey with ⟨hrun,hno,_⟩ | ⟨e0,y,he0,hk0,hrun,_⟩
  ·rcases h2 with ⟨e1,he1,hk1,_⟩ | ⟨_,hv⟩
   ·exact absurd hk1 (hno e1 he1)
   ·rw [hrun] at hl
    simp at hl
    rw [hv];exact hl
  ·rcases h2 with ⟨e1,he1,hk1,hv⟩ | ⟨hno,_⟩
   ·have hp:es.toList.Pairwise (fun x y => x.key ≠ y.key):=((MapKept.stamped_iff es clock).1 F.stamped).2.2
    have e01:e0 = e1:=by
     obtain ⟨i,hi,ei⟩:=List.getElem_of_mem he0
     obtain ⟨j,hj,ej⟩:=List.getElem_of_mem he1
     rcases Nat.lt_trichotomy i j with c | c | c
     ·have:=List.pairwise_iff_getElem.1 hp i j hi hj c
      rw [ei,ej,hk0,hk1] at this
      exact absurd rfl this
     ·subst c;rw [← ei,← ej]
     ·have:=List.pairwise_iff_getElem.1 hp j i hj hi c
      rw [ei,ej,hk0,hk1] at this
      exact absurd rfl this
    rw [hrun] at hl
    simp at hl
    rw [hv,← e01];exact hl
   ·exact absurd hk0 (hno e0 he0)
 subst hv0
 refine ⟨st,es1,clock1,h1,fun w2 val hw2 => ?_⟩
 obtain ⟨es',clock',h4,h5⟩:=h3 w2 val hw2
 obtain ⟨wu,hu,r1,r2,r3⟩:=h.update hK ht hn hkey val
 rw [h5] at hu
 injection hu with _ hu
 subst hu
 refine ⟨_,h4,?_,grown_setBlock _ _ _,by simp [setBlock]⟩
 refine r1.block ?_
 rw [setBlock_at _ (lt_of_heap hw2),setBlock_at _ (lt_of_heap hb)]
end
open Go.RowKit
theorem laidOut_:Go.laidOutB Tryz.prog = true:=by kernel_rfl
theorem rowId_:(36:TypeId) < Tryz.prog.types.size:=of_decide_eq_true (by kernel_rfl)
theorem ktId_:Tryz.prog.keyTypeAt 2 36 = true:=by kernel_rfl
set_option maxRecDepth 100000 in
theorem idLaw:WideMaps.KeyLaw Tryz.prog 36:=by
 refine deep_law (m:=2) (by omega) ktId_ (tiled_of_laidOut laidOut_ 2 _ ?_ ktId_) ?_
 ·simp only [isVar,Bool.and_eq_true,decide_eq_true_eq]
  refine ⟨rowId_,?_⟩
  rw [Tryz.underlying36];rfl
 ·rw [Tryz.underlying36]
theorem idKeyed:Maps.Keyed Tryz.prog 36:=Maps.Keyed.of_law idLaw
def klId (d:IdD):Lit:=.string (keyBytes [.int .i64 d.kind,.string d.text.data.toList])
def FitId (d:IdD):Prop:=(-9223372036854775808 ≤ d.kind ∧ d.kind ≤ 9223372036854775807) ∧ d.text.size ≤ 1000000
theorem keyGen {P : Program} {k : TypeId} (hu : P.underlying k = some (.struct #[{ name := "Kind", type := 3, offset := 0, embedded := false, tag := "", pkgPath := "", byteOffset := 0 }, { name := "Text", type := 9, offset := 1, embedded := false, tag := "", pkgPath := "", byteOffset := 8 }])) (hk : P.keyType k = true) (c2 : P.cellsOf k = 2)
  (u1:P.underlying 3 = some (.int .i64)) (u2:P.underlying 9 = some .string) (c1:P.cellsOf 3 = 1) (c0:P.cellsOf 9 = 1) (hs:0 < P.types.size) {d:IdD} (h:FitId d):keyOf P k (.agg #[.int .i64 d.kind,.string d.text]) = some (klId d):=by
 obtain ⟨m,hm⟩:=Nat.exists_eq_succ_of_ne_zero (Nat.ne_of_gt hs)
 have h1:(Lit.int .i64 d.kind).wf = true:=by
  have:=h.1
  simp [Lit.wf,IntKind.min,IntKind.max,IntKind.signed,IntKind.bits]
  omega
 have h2:d.text.size ≤ maxLen:=by have:=h.2;unfold maxLen;omega
 simp [keyOf,hu,hk,Value.formed,Value.cells,hm,Program.keyLits,c2,c1,c0,u1,u2,h1,h2,klId]
theorem keyId {d:IdD} (h:FitId d):keyOf Tryz.prog 36 (.agg #[.int .i64 d.kind,.string d.text]) = some (klId d) :=
 keyGen Tryz.underlying36 (by kernel_rfl) (by kernel_rfl) Tryz.underlying3 Tryz.underlying9 (by kernel_rfl) (by kernel_rfl) (Nat.lt_of_le_of_lt (Nat.zero_le _) rowId_) h
theorem klId_inj {a b:IdD} (ha:FitId a) (hb:FitId b) (h:klId a = klId b):a = b:=by
 have h1:=keyId ha
 rw [h] at h1
 have:=idKeyed.inj h1 (keyId hb)
 simp at this
 cases a;cases b;simp_all
def trueIf (b:Bool):Option Value:=if b = true then some (.bool true) else none
def SeenIs (acc:List IdD) (m:Lit → Option Value):Prop:=∀ d,FitId d → m (klId d) = trueIf (acc.any (eqId d))
theorem SeenIs.new:SeenIs [] mpNew:=fun d _ => rfl
theorem SeenIs.set {acc:List IdD} {m:Lit → Option Value} (h:SeenIs acc m) {x:IdD} (hx:FitId x):SeenIs (acc ++ [x]) (mpSet m (klId x) (.bool true)):=by
 intro d hd
 unfold mpSet
 by_cases c:d = x
 ·subst c
  have e:(klId d).sameKey (klId d) = true:=by simp [klId,Lit.sameKey]
  rw [if_pos e]
  simp [trueIf,eqId_self]
 ·have e:¬ (klId d).sameKey (klId x) = true:=fun e => c (klId_inj hd hx (WideAt.sameKey_eq e))
  rw [if_neg e,h d hd]
  have:eqId d x = false:=Bool.eq_false_iff.2 fun e => c (eqId_iff.1 e)
  simp [this]
theorem SeenIs.get {acc:List IdD} {m:Lit → Option Value} (h:SeenIs acc m) {x:IdD} (hx:FitId x):(m (klId x)).getD (.bool false) = .bool (acc.any (eqId x)):=by
 rw [h x hx]
 unfold trueIf
 split <;> simp_all
open Go.RowKit
def StoreOk (b n:Nat) (m:Lit → Option Value) (kl:Lit) (st:Nat) (es1:Array MapEntry) (c1:Nat):Prop :=
 ∀ (w2:World) (val:Value),w2.heap[b]? = some (.map es1 c1) → ∃ w3,(Instr.entryStore 122 (.map (some b)) (goInt st) val).run Tryz.prog w2 = .ok () w3 ∧ Mp Tryz.prog 36 w3 b (n + 1) (mpSet m kl val) ∧ w2.grownBy w3 (some b) ∧ w3.heap.size = w2.heap.size
structure EnJ (W0:World) (B b n:Nat) (m:Lit → Option Value) (kl:Lit) (v0:Value) (zs:List Int) (i:Int) (L:Array Bool) (a:Act) (W:World):Prop where
 size:W0.heap.size ≤ W.heap.size
 os:W.os = W0.os
 tape:W.tape = W0.tape
 output:W.output = W0.output
 keep:∀ k,k < W0.heap.size → k ≠ b → some k ≠ v0.ownBlock → W.heap[k]? = W0.heap[k]?
 map0:L.getD 7 false = false → W.heap[b]? = W0.heap[b]?
 map1:L.getD 7 false = true → ∃ (st:Nat) (es1:Array MapEntry) (c1:Nat),a.tmps.getD 37 undef = .tuple #[v0,goInt st] ∧ W.heap[b]? = some (.map es1 c1) ∧ StoreOk b n m kl st es1 c1 ∧ (L.getD 10 false = true → a.tmps.getD 39 undef = goInt st)
 row0:L.getD 9 false = false → Orow W B 3 1 fI v0 zs
 row1:L.getD 9 false = true → Orow W B 3 1 fI (a.tmps.getD 38 undef) (zs ++ [i]) ∧ ((a.tmps.getD 38 undef).ownBlock = v0.ownBlock ∨ ∃ g,(a.tmps.getD 38 undef).ownBlock = some g ∧ W0.heap.size ≤ g)
 tmp:L.getD 6 false = true → ∃ q,a.tmps.getD 36 undef = .slice (some ⟨q,0,none⟩) 1 1 ∧ W.heap[q]? = some (.cells #[.int .i64 i] 3 (0,0)) ∧ W0.heap.size ≤ q
 dep:(L.getD 8 false = true → L.getD 7 false = true) ∧ (L.getD 9 false = true → L.getD 7 false = true) ∧ (L.getD 10 false = true → L.getD 7 false = true)
theorem put_ne {a:Act} {d s:Nat} (h:d ≠ s) (v:Value):(a.put (some d) v).tmps.getD s undef = a.tmps.getD s undef:=by
 simp only [Act.put,Array.getD_eq_getD_getElem?,Array.getElem?_setIfInBounds]
 simp [h]
theorem put_eq {a:Act} {d:Nat} (h:d < a.tmps.size) (v:Value):(a.put (some d) v).tmps.getD d undef = v:=by
 simp only [Act.put,Array.getD_eq_getD_getElem?,Array.getElem?_setIfInBounds]
 simp [h]
section
variable {W0:World} {B b n:Nat} {m:Lit → Option Value} {kl:Lit} {v0:Value} {zs:List Int} {i:Int} {L:Array Bool} {a:Act} {W:World}
theorem EnJ.start (hO:Orow W0 B 3 1 fI v0 zs) (c:Nat) (a:Act):EnJ W0 B b n m kl v0 zs i (Array.replicate c false) a W0.drew :=
 ⟨Nat.le_refl _,rfl,rfl,rfl,fun _ _ _ _ => rfl,fun _ => rfl,fun h => (by rw [getD_replicate_false] at h;cases h),fun _ => hO,fun h => (by rw [getD_replicate_false] at h;cases h),fun h => (by rw [getD_replicate_false] at h;cases h),by simp only [getD_replicate_false];exact ⟨fun h => (by cases h),fun h => (by cases h),fun h => (by cases h)⟩⟩
theorem EnJ.read (h:EnJ W0 B b n m kl v0 zs i L a W) {j d:Nat} (hj:j ≠ 6 ∧ j ≠ 7 ∧ j ≠ 9 ∧ j ≠ 10) (h8:j = 8 → L.getD 7 false = true) (hd:d ≠ 36 ∧ d ≠ 37 ∧ d ≠ 38 ∧ d ≠ 39) (v:Value):EnJ W0 B b n m kl v0 zs i (L.setIfInBounds j true) (a.put (some d) v) W:=by
 obtain ⟨j6,j7,j9,j10⟩:=hj
 obtain ⟨d6,d7,d8,d9⟩:=hd
 refine ⟨h.size,h.os,h.tape,h.output,h.keep,fun e => ?_,fun e => ?_,fun e => ?_,fun e => ?_,fun e => ?_,?_⟩
 ·rw [getD_set_ne false j7] at e;exact h.map0 e
 ·rw [getD_set_ne false j7] at e
  rw [put_ne d7,put_ne d9,getD_set_ne false j10]
  exact h.map1 e
 ·rw [getD_set_ne false j9] at e;exact h.row0 e
 ·rw [getD_set_ne false j9] at e
  rw [put_ne d8]
  exact h.row1 e
 ·rw [getD_set_ne false j6] at e
  rw [put_ne d6]
  exact h.tmp e
 ·rw [getD_set_ne false j7,getD_set_ne false j9,getD_set_ne false j10]
  refine ⟨fun e => ?_,h.dep.2.1,h.dep.2.2⟩
  by_cases c:j = 8
  ·exact h8 c
  ·rw [getD_set_ne false c] at e;exact h.dep.1 e
theorem EnJ.build (h:EnJ W0 B b n m kl v0 zs i L a W) (hs:36 < a.tmps.size) (hb:b < W0.heap.size):EnJ W0 B b n m kl v0 zs i (L.setIfInBounds 6 true) (a.put (some 36) (.slice (some ⟨W.heap.size,0,none⟩) 1 1)) (W.alloc (.cells #[.int .i64 i] 3)):=by
 have hbw:b < W.heap.size:=Nat.lt_of_lt_of_le hb h.size
 have hB:Below W.heap.size W (W.alloc (.cells #[.int .i64 i] 3)):=new1 _
 refine ⟨Nat.le_trans h.size hB.size,h.os,h.tape,h.output,fun k hk h1 h2 => (hB.block k (Nat.lt_of_lt_of_le hk h.size)).trans (h.keep k hk h1 h2),fun e => ?_,fun e => ?_,fun e => ?_,fun e => ?_,fun e => ?_,(by rw [getD_set_ne false (by decide),getD_set_ne false (by decide),getD_set_ne false (by decide),getD_set_ne false (by decide)];exact h.dep)⟩
 ·rw [getD_set_ne false (by decide)] at e;exact (hB.block b hbw).trans (h.map0 e)
 ·rw [getD_set_ne false (by decide)] at e
  rw [put_ne (by decide),put_ne (by decide),getD_set_ne false (by decide),hB.block b hbw]
  exact h.map1 e
 ·rw [getD_set_ne false (by decide)] at e;exact (h.row0 e).below hB
 ·rw [getD_set_ne false (by decide)] at e
  rw [put_ne (by decide)]
  exact ⟨(h.row1 e).1.below hB,(h.row1 e).2⟩
 ·exact ⟨W.heap.size,put_eq hs _,heap_alloc_new _ _,h.size⟩
theorem EnJ.entry (h:EnJ W0 B b n m kl v0 zs i L a W) (h7:L.getD 7 false = false) (hl:7 < L.size) (hs:37 < a.tmps.size) (hb:b < W0.heap.size) (hv:v0.ownBlock ≠ some b) {st:Nat} {es1:Array MapEntry} {c1:Nat} (hok:StoreOk b n m kl st es1 c1) :
  EnJ W0 B b n m kl v0 zs i (L.setIfInBounds 7 true) (a.put (some 37) (.tuple #[v0,goInt st])) (ChangeMaps.setBlock W b (.map es1 c1)):=by
 have hbw:b < W.heap.size:=Nat.lt_of_lt_of_le hb h.size
 have hg:=grown_setBlock W b (.map es1 c1)
 have hd:=h.dep
 have h9:L.getD 9 false = false:=by
  cases e:L.getD 9 false with
  | false => rfl
  | true => rw [hd.2.1 e] at h7;cases h7
 have h10:L.getD 10 false = false:=by
  cases e:L.getD 10 false with
  | false => rfl
  | true => rw [hd.2.2 e] at h7;cases h7
 refine ⟨Nat.le_trans h.size hg.size,h.os,h.tape,h.output,fun k hk h1 h2 => (hg.block k (Nat.lt_of_lt_of_le hk h.size) (fun c => by injection c with c;exact h1 c)).trans (h.keep k hk h1 h2),fun e => ?_,fun e => ?_,fun e => ?_,fun e => ?_,fun e => ?_,(by rw [getD_set_self hl];exact ⟨fun _ => rfl,fun _ => rfl,fun _ => rfl⟩)⟩
 ·rw [getD_set_self hl] at e;cases e
 ·refine ⟨st,es1,c1,put_eq hs _,setBlock_at _ hbw,hok,fun e => ?_⟩
  rw [getD_set_ne false (by decide),h10] at e
  cases e
 ·refine World.ownsRow.kept (h.row0 h9) hg ?_
  exact Or.inr hv
 ·rw [getD_set_ne false (by decide),h9] at e;cases e
 ·rw [getD_set_ne false (by decide)] at e
  rw [put_ne (by decide)]
  obtain ⟨q,q1,q2,q3⟩:=h.tmp e
  refine ⟨q,q1,(hg.block q (lt_of_heap q2) (fun c => by injection c with c;omega)).trans q2,q3⟩
theorem EnJ.app (h:EnJ W0 B b n m kl v0 zs i L a W) (h7:L.getD 7 false = true) (hl:9 < L.size) (hs:38 < a.tmps.size) (hb:b < W0.heap.size) (hv:v0.ownBlock ≠ some b) (hvl:∀ g,v0.ownBlock = some g → g < W0.heap.size) {v':Value} {W':World}
  (ho:Orow W' B 3 1 fI v' (zs ++ [i])) (hg:W.grownBy W' v0.ownBlock) (hat:v'.ownBlock = v0.ownBlock ∨ v'.ownBlock = some W.heap.size):EnJ W0 B b n m kl v0 zs i (L.setIfInBounds 9 true) (a.put (some 38) v') W':=by
 have hbw:b < W.heap.size:=Nat.lt_of_lt_of_le hb h.size
 have hbk:W'.heap[b]? = W.heap[b]?:=hg.block b hbw (fun c => hv c.symm)
 refine ⟨Nat.le_trans h.size hg.size,hg.os.trans h.os,hg.tape.trans h.tape,hg.output.trans h.output,fun k hk h1 h2 => (hg.block k (Nat.lt_of_lt_of_le hk h.size) h2).trans (h.keep k hk h1 h2),fun e => ?_,fun e => ?_,fun e => ?_,fun e => ?_,fun e => ?_,(have h7':(L.setIfInBounds 9 true).getD 7 false = true:=by rw [getD_set_ne false (by decide)];exact h7
  ⟨fun _ => h7',fun _ => h7',fun _ => h7'⟩)⟩
 ·rw [getD_set_ne false (by decide),h7] at e;cases e
 ·rw [getD_set_ne false (by decide)] at e
  rw [put_ne (by decide),put_ne (by decide),getD_set_ne false (by decide),hbk]
  exact h.map1 e
 ·rw [getD_set_self hl] at e;cases e
 ·rw [put_eq hs]
  refine ⟨ho,?_⟩
  rcases hat with hat | hat
  ·exact Or.inl hat
  ·exact Or.inr ⟨_,hat,h.size⟩
 ·rw [getD_set_ne false (by decide)] at e
  rw [put_ne (by decide)]
  obtain ⟨q,q1,q2,q3⟩:=h.tmp e
  refine ⟨q,q1,(hg.block q (lt_of_heap q2) (fun c => ?_)).trans q2,q3⟩
  have:=hvl q c.symm
  omega
theorem EnJ.stamp (h:EnJ W0 B b n m kl v0 zs i L a W) (h7:L.getD 7 false = true) (hs:39 < a.tmps.size) {x:Value} (hx:∀ st:Nat,a.tmps.getD 37 undef = .tuple #[v0,goInt st] → x = goInt st):EnJ W0 B b n m kl v0 zs i (L.setIfInBounds 10 true) (a.put (some 39) x) W:=by
 refine ⟨h.size,h.os,h.tape,h.output,h.keep,fun e => ?_,fun e => ?_,fun e => ?_,fun e => ?_,fun e => ?_,(have h7':(L.setIfInBounds 10 true).getD 7 false = true:=by rw [getD_set_ne false (by decide)];exact h7
  ⟨fun _ => h7',fun _ => h7',fun _ => h7'⟩)⟩
 ·rw [getD_set_ne false (by decide)] at e;exact h.map0 e
 ·rw [put_ne (by decide),put_eq hs]
  obtain ⟨st,es1,c1,q1,q2,q3,_⟩:=h.map1 h7
  exact ⟨st,es1,c1,q1,q2,q3,fun _ => hx st q1⟩
 ·rw [getD_set_ne false (by decide)] at e;exact h.row0 e
 ·rw [getD_set_ne false (by decide)] at e
  rw [put_ne (by decide)]
  exact h.row1 e
 ·rw [getD_set_ne false (by decide)] at e
  rw [put_ne (by decide)]
  exact h.tmp e
theorem EnJ.appV {o:Oper} (h:EnJ W0 B b n m kl v0 zs i L a W) (h7:L.getD 7 false = true) (h6:L.getD 6 false = true) (hlist:L.getD 9 false = false) (hl:9 < L.size) (hs:38 < a.tmps.size) (hb:b < W0.heap.size) (hv:v0.ownBlock ≠ some b) (hvl:∀ g,v0.ownBlock = some g → g < W0.heap.size) (hd:o.dst = some 38)
  (hop:o.op = .call { callee:=.builtin .append,args:=#[.tmp 34,.tmp 36],argTypes:=#[22,22] }) (hx:a.tmps.getD 34 undef = v0)
  (i0:TypeInfo) (hi:Tryz.prog.info? 3 = some i0) (hz:i0.zero = some (.int .i64 0)) (hsize:i0.size = 1) (hby:i0.bytes = 8) (hn:zs.length ≤ 4294967295) (hB:B ≤ W0.heap.size) :
  OpV Tryz.prog o a.eval W fun v w' => EnJ W0 B b n m kl v0 zs i (L.setIfInBounds 9 true) (a.put o.dst v) w':=by
 obtain ⟨q,q1,q2,q3⟩:=h.tmp h6
 have hown:=h.row0 hlist
 obtain ⟨v',w',hrun,o1,g1,-,at1⟩:=run_append_own_at (P:=Tryz.prog) W B 22 o.type 3 i0 (.int .i64 0) 1 8 Tryz.underlying22 hi hz hsize hby rfl (by decide) v0 zs.length _ hown ⟨q,0,none⟩ 1 1 [.int .i64 i] rfl (fun j u hu => by
   rw [Addr.add_lit]
   simp only [World.cell?,q2]
   simp at hu ⊢
   exact hu) (by simp [Value.oneCell']) (by simp only [maxLen];omega) (by omega) (Nat.le_trans hB h.size)
 refine OpV.append (.tmp 34) (.tmp 36) 22 v0 _ v' hop hx q1 hrun ?_
 rw [hd]
 exact h.app h7 hl hs hb hv hvl (Orow.snoc (n:=0) o1 rfl) g1 at1
end
open Go.RowKit
structure TchD where
 no:Int
 at_:Int
 source:ByteArray
 ia:Option Addr
 ic:Nat
 ids:List IdD
 fa:Option Addr
 fc:Nat
 fields:List FD
def fTch (t:TchD):Nat → Value
 | 0 => .int .i64 t.no
 | 1 => .int .i64 t.at_
 | 2 => .string t.source
 | 3 => .slice t.ia t.ids.length t.ic
 | _ => .slice t.fa t.fields.length t.fc
def TchIn (H:Frz) (A:Option Addr) (ts:List TchD):Prop:=Rw H A 5 fTch ts ∧ ∀ t ∈ ts,Rw H t.ia 2 fId t.ids ∧ Rw H t.fa 4 fFd t.fields
theorem TchIn.le {H H':Frz} {A:Option Addr} {ts:List TchD} (h:TchIn H A ts) (hl:H.Le H'):TchIn H' A ts:=⟨h.1.le hl,fun t ht => ⟨(h.2 t ht).1.le hl,(h.2 t ht).2.le hl⟩⟩
structure SurD where
 name:ByteArray
 how:Int
 sa:Option Addr
 sc:Nat
 srcs:List ByteArray
def fSur (s:SurD):Nat → Value
 | 0 => .string s.name
 | 1 => .int .i64 s.how
 | _ => .slice s.sa s.srcs.length s.sc
structure RulD where
 ka:Option Addr
 kc:Nat
 kinds:List Int
 most:Int
 wa:Option Addr
 wc:Nat
 weaks:List IdD
 sa:Option Addr
 sc:Nat
 surs:List SurD
structure RulIn (H:Frz) (r:RulD):Prop where
 k:Rw H r.ka 1 fI r.kinds
 w:Rw H r.wa 2 fId r.weaks
 u:Rw H r.sa 3 fSur r.surs
 s:∀ x ∈ r.surs,Rw H x.sa 1 fS x.srcs
theorem RulIn.le {H H':Frz} {r:RulD} (h:RulIn H r) (hl:H.Le H'):RulIn H' r:=⟨h.k.le hl,h.w.le hl,h.u.le hl,fun x hx => (h.s x hx).le hl⟩
def idO1 (ids:List IdD) (i:Nat):Int:=match ids[i]? with
 | none => 0
 | some x => if idErr x.kind x.text ≠ 0 then idErr x.kind x.text else if 0 < i ∧ idCmp x (ids.getD (i - 1) x) ≤ 0 then 7 else 0
def idsO (ids:List IdD):Int:=fstErr (idO1 ids) ids.length
def fd1 (ok:ByteArray → Bool) (fs:List FD) (i:Nat):Int:=match fs[i]? with
 | none => 0
 | some f => if isKey f.name = false then 5 else if valErr ok f.v ≠ 0 then valErr ok f.v else if 0 < i ∧ 0 ≤ cmpS (fs.getD (i - 1) f).name f.name then 7 else 0
def fdsE (ok:ByteArray → Bool) (fs:List FD):Int:=if 30 < fs.length then 2 else fstErr (fd1 ok fs) fs.length
def tchE (ok:ByteArray → Bool) (t:TchD) (before:Int):Int :=
 if ¬ (1 ≤ t.no ∧ t.no ≤ 1000000) then 1 else if ¬ (0 ≤ t.at_ ∧ t.at_ ≤ 4321439) then 1 else if t.no ≤ before then 7 else if isKey t.source = false then 5 else if t.ids.length = 0 then 3 else if 10 < t.ids.length then 2
 else if idsO t.ids ≠ 0 then idsO t.ids else fdsE ok t.fields
def prevNo (ts:List TchD):Nat → Int
 | 0 => 0
 | i + 1 => match ts[i]? with | none => 0 | some t => t.no
def tch1 (ok:ByteArray → Bool) (ts:List TchD) (i:Nat):Int:=match ts[i]? with
 | none => 0
 | some t => tchE ok t (prevNo ts i)
def tchsE (ok:ByteArray → Bool) (ts:List TchD):Int:=if 2000 < ts.length then 2 else fstErr (tch1 ok ts) ts.length
def src1 (ss:List ByteArray) (i:Nat):Int:=match ss[i]? with
 | none => 0
 | some s => if isKey s = false then 5 else if (ss.take i).any (eqS s) = true then 6 else 0
def srcsE (s:SurD):Int:=if 0 < s.srcs.length ∧ s.how ≠ 5 then 3 else if 20 < s.srcs.length then 2 else fstErr (src1 s.srcs) s.srcs.length
def sur1 (us:List SurD) (i:Nat):Int:=match us[i]? with
 | none => 0
 | some s => if isKey s.name = false then 5 else if ¬ (1 ≤ s.how ∧ s.how ≤ 7) then 4 else if srcsE s ≠ 0 then srcsE s else if 0 < i ∧ 0 ≤ cmpS (us.getD (i - 1) s).name s.name then 7 else 0
def sursE (us:List SurD):Int:=if 30 < us.length then 2 else fstErr (sur1 us) us.length
def kd1 (ks:List Int) (i:Nat):Int:=match ks[i]? with
 | none => 0
 | some k => if ¬ (1 ≤ k ∧ k ≤ 4) then 4 else if 0 < i ∧ k ≤ ks.getD (i - 1) k then 7 else 0
def kdsE (ks:List Int):Int:=if ks.length = 0 then 3 else fstErr (kd1 ks) ks.length
def rulE (r:RulD):Int:=if kdsE r.kinds ≠ 0 then kdsE r.kinds else if ¬ (2 ≤ r.most ∧ r.most ≤ 2000) then 1 else if 200 < r.weaks.length then 2 else if idsO r.weaks ≠ 0 then idsO r.weaks else sursE r.surs
def hasId (ids:List IdD) (x:IdD):Bool:=ids.any (eqId x)
theorem hasId_iff {ids:List IdD} {x:IdD}:hasId ids x = true ↔ x ∈ ids:=by
 unfold hasId
 rw [List.any_eq_true]
 exact ⟨fun ⟨y,h,e⟩ => by rw [eqId_iff.1 e];exact h,fun h => ⟨x,h,eqId_self x⟩⟩
def manyId (ts:List TchD) (x:IdD):Nat:=(ts.filter fun t => hasId t.ids x).length
def joinsD (kinds:List Int) (most:Int) (weak:List IdD) (ts:List TchD) (x:IdD):Bool :=
 !hasId weak x && kinds.contains x.kind && decide ((manyId ts x:Int) ≤ most)
def Share (J:IdD → Bool) (ts:List TchD) (i j:Nat):Prop:=∃ (hi:i < ts.length) (hj:j < ts.length) (x:IdD),J x = true ∧ hasId ts[i].ids x = true ∧ hasId ts[j].ids x = true
theorem manyId_snoc (ts:List TchD) (t:TchD) (x:IdD):manyId (ts ++ [t]) x = manyId ts x + if hasId t.ids x = true then 1 else 0:=by
 unfold manyId
 rw [List.filter_append,List.length_append]
 congr 1
 by_cases h:hasId t.ids x = true
 ·rw [if_pos h,List.filter_cons_of_pos (by simpa using h)];rfl
 ·rw [if_neg h,List.filter_cons_of_neg (by simpa using h)];rfl
theorem Share.more {J J':IdD → Bool} {ts:List TchD} {t:TchD} (hJ:∀ x,J x = true → J' x = true) (i j:Nat) (h:Share J ts i j):Share J' (ts ++ [t]) i j:=by
 obtain ⟨hi,hj,x,h1,h2,h3⟩:=h
 refine ⟨by simp;omega,by simp;omega,x,hJ x h1,?_,?_⟩
 ·rw [List.getElem_append_left hi];exact h2
 ·rw [List.getElem_append_left hj];exact h3
def posN (ts:List TchD) (x:IdD) (n:Nat):List Int:=((List.range n).filter fun i => match ts[i]? with | none => false | some t => hasId t.ids x).map (fun i:Nat => (i:Int))
def posL (ts:List TchD) (x:IdD):List Int:=posN ts x ts.length
structure PerD where
 key:IdD
 na:Option Addr
 nc:Nat
 nos:List Int
 ia:Option Addr
 ic:Nat
 ids:List IdD
def fPer (p:PerD):Nat → Value
 | 0 => .int .i64 p.key.kind
 | 1 => .string p.key.text
 | 2 => .slice p.na p.nos.length p.nc
 | _ => .slice p.ia p.ids.length p.ic
def PerIn (H:Frz) (A:Option Addr) (ps:List PerD):Prop:=Rw H A 4 fPer ps ∧ ∀ p ∈ ps,Rw H p.na 1 fI p.nos ∧ Rw H p.ia 2 fId p.ids
def zeroId:IdD:=⟨0,⟨#[]⟩⟩
def keyF (J:IdD → Bool) (ids:List IdD):IdD:=(ids.find? J).getD (ids.headD zeroId)
structure PersAre (J:IdD → Bool) (ts:List TchD) (rep:Nat → Nat) (ps:List PerD):Prop where
 tied:∀ i j,rep i = rep j ↔ Tied (Share J ts) i j
 low:∀ i,rep i ≤ i
 idem:∀ i,rep (rep i) = rep i
 all:ps.map (fun p => (p.key,p.nos)) = ((List.range ts.length).filter fun i => rep i == i).map fun r => (keyF J ((ts.getD r ⟨0,0,⟨#[]⟩,none,0,[],none,0,[]⟩).ids),((List.range ts.length).filter fun i => rep i == r).map fun i => (ts.getD i ⟨0,0,⟨#[]⟩,none,0,[],none,0,[]⟩).no)
 ids:∀ p ∈ ps,(p.ids.Pairwise fun a b => idCmp a b < 0) ∧ ∀ x,x ∈ p.ids ↔ ∃ t ∈ ts,t.no ∈ p.nos ∧ x ∈ t.ids
open Go.RowKit
theorem mem_posN {ts:List TchD} {x:IdD} {n:Nat} {z:Int}:z ∈ posN ts x n ↔ ∃ i:Nat,z = (i:Int) ∧ i < n ∧ ∃ h:i < ts.length,hasId ts[i].ids x = true:=by
 unfold posN
 simp only [List.mem_map,List.mem_filter,List.mem_range]
 constructor
 ·rintro ⟨i,⟨h1,h2⟩,rfl⟩
  cases e:ts[i]? with
  | none => rw [e] at h2;cases h2
  | some t =>
   obtain ⟨h3,h4⟩:=List.getElem?_eq_some_iff.1 e
   rw [e] at h2
   exact ⟨i,rfl,h1,h3,by rw [h4];exact h2⟩
 ·rintro ⟨i,rfl,h1,h3,h4⟩
  exact ⟨i,⟨h1,by rw [List.getElem?_eq_getElem h3];exact h4⟩,rfl⟩
theorem posN_succ (ts:List TchD) (x:IdD) {n:Nat} (h:n < ts.length):posN ts x (n + 1) = posN ts x n ++ if hasId ts[n].ids x = true then [(n:Int)] else []:=by
 unfold posN
 rw [List.range_succ,List.filter_append,List.map_append]
 congr 1
 by_cases c:hasId ts[n].ids x = true
 ·rw [if_pos c,List.filter_cons_of_pos (by rw [List.getElem?_eq_getElem h];exact c)];rfl
 ·rw [if_neg c,List.filter_cons_of_neg (by rw [List.getElem?_eq_getElem h];exact c)];rfl
theorem posN_many (ts:List TchD) (x:IdD):∀ n,n ≤ ts.length → (posN ts x n).length = manyId (ts.take n) x
 | 0,_ => by simp [posN,manyId]
 | n + 1,h => by
  rw [posN_succ ts x (by omega),List.take_succ_eq_append_getElem (by omega),manyId_snoc,List.length_append,posN_many ts x n (by omega)]
  congr 1
  split <;> simp
theorem posL_many (ts:List TchD) (x:IdD):(posL ts x).length = manyId ts x:=by
 unfold posL
 rw [posN_many ts x _ (Nat.le_refl _),List.take_length]
theorem mem_posL {ts:List TchD} {x:IdD} {i:Nat}:(i:Int) ∈ posL ts x ↔ ∃ h:i < ts.length,hasId ts[i].ids x = true:=by
 unfold posL
 rw [mem_posN]
 constructor
 ·rintro ⟨j,e,_,h⟩
  obtain rfl:i = j:=by omega
  exact h
 ·rintro ⟨h,c⟩
  exact ⟨i,rfl,h,h,c⟩
def Star (ps:List Int) (m:Nat) (i j:Nat):Prop:=∃ k,1 ≤ k ∧ k < m ∧ ps[0]? = some (i:Int) ∧ ps[k]? = some (j:Int)
theorem Star.succ {ps:List Int} {m:Nat} {a b:Nat} (h1:1 ≤ m) (ha:ps[0]? = some (a:Int)) (hb:ps[m]? = some (b:Int)) (i j:Nat):Star ps (m + 1) i j ↔ Star ps m i j ∨ (i = a ∧ j = b):=by
 constructor
 ·rintro ⟨k,k1,k2,e1,e2⟩
  by_cases c:k < m
  ·exact Or.inl ⟨k,k1,c,e1,e2⟩
  ·obtain rfl:k = m:=by omega
   rw [ha] at e1
   rw [hb] at e2
   injection e1 with e1
   injection e2 with e2
   exact Or.inr ⟨by omega,by omega⟩
 ·rintro (⟨k,k1,k2,e1,e2⟩ | ⟨rfl,rfl⟩)
  ·exact ⟨k,k1,by omega,e1,e2⟩
  ·exact ⟨m,h1,by omega,ha,hb⟩
theorem Star.one {ps:List Int} {m:Nat} (h:m ≤ 1) (i j:Nat):¬ Star ps m i j:=by
 rintro ⟨k,k1,k2,_⟩
 omega
theorem star_share {J:IdD → Bool} {ts:List TchD} {x:IdD} (hJ:J x = true) {m i j:Nat} (h:Star (posL ts x) m i j):Share J ts i j:=by
 obtain ⟨k,_,_,e1,e2⟩:=h
 obtain ⟨h1,c1⟩:=mem_posL.1 (List.mem_of_getElem? e1)
 obtain ⟨h2,c2⟩:=mem_posL.1 (List.mem_of_getElem? e2)
 exact ⟨h1,h2,x,hJ,c1,c2⟩
theorem star_mem {ps:List Int} {a i:Nat} (ha:ps[0]? = some (a:Int)) (h:(i:Int) ∈ ps):Tied (Star ps ps.length) a i:=by
 obtain ⟨k,hk,e⟩:=List.getElem_of_mem h
 by_cases c:k = 0
 ·subst c
  rw [List.getElem?_eq_getElem hk,e] at ha
  injection ha with ha
  obtain rfl:i = a:=by omega
  exact .refl _
 ·exact .edge ⟨k,by omega,hk,ha,by rw [List.getElem?_eq_getElem hk,e]⟩
theorem share_star {J:IdD → Bool} {ts:List TchD} {i j:Nat} (h:Share J ts i j):∃ x,J x = true ∧ (∃ (hi:i < ts.length),x ∈ ts[i].ids) ∧ Tied (Star (posL ts x) (posL ts x).length) i j:=by
 obtain ⟨hi,hj,x,hJ,c1,c2⟩:=h
 have m1:(i:Int) ∈ posL ts x:=mem_posL.2 ⟨hi,c1⟩
 have m2:(j:Int) ∈ posL ts x:=mem_posL.2 ⟨hj,c2⟩
 refine ⟨x,hJ,⟨hi,hasId_iff.1 c1⟩,?_⟩
 obtain ⟨a,ha⟩:∃ a:Nat,(posL ts x)[0]? = some (a:Int):=by
  have hl:0 < (posL ts x).length:=List.length_pos_of_mem m1
  have h3:=List.getElem_mem hl
  obtain ⟨a,e,_⟩:=mem_posN.1 h3
  exact ⟨a,by rw [List.getElem?_eq_getElem hl,e]⟩
 exact .trans (.symm (star_mem ha m1)) (star_mem ha m2)
def DoneE (J:IdD → Bool) (ts:List TchD) (P:IdD → Prop) (i j:Nat):Prop:=∃ x,P x ∧ J x = true ∧ Star (posL ts x) (posL ts x).length i j
theorem uf_all {J:IdD → Bool} {ts:List TchD} {P:IdD → Prop} {r:List Nat} (hP:∀ x i (h:i < ts.length),x ∈ ts[i].ids → P x) (h:Uf (DoneE J ts P) r):Uf (Share J ts) r:=by
 refine h.same (fun i j e => ?_) (fun i j e => ?_)
 ·obtain ⟨x,_,hJ,s⟩:=e
  exact .edge (star_share hJ s)
 ·obtain ⟨x,hJ,⟨hi,hx⟩,t⟩:=share_star e
  exact t.mono fun a b s => ⟨x,hP x i hi hx,hJ,s⟩
theorem Uf.iff_ {E E':Nat → Nat → Prop} {r:List Nat} (h:Uf E r) (he:∀ i j,E i j ↔ E' i j):Uf E' r:=h.same (fun i j e => .edge ((he i j).1 e)) (fun i j e => .edge ((he i j).2 e))
end Go.Proofs.YtcncifmanodabaaGreatDoor
