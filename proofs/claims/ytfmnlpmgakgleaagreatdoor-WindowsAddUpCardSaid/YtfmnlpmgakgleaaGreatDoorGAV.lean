/- Texts of this claim, put together: Mp, StrMp, ChkAll. -/
import Derived.Test.YtfmnlpmgakgleaaGreatDoorGAC
import Derived.Maps.OwnSet
import Derived.Test.YtfmnlpmgakgleaaGreatDoorGAD
import Derived.StringKeys
import Derived.Test.YtfmnlpmgakgleaaGreatDoorGAU
import Derived.Test.YtfmnlpmgakgleaaGreatDoorGAQ
import Derived.Test.YtfmnlpmgakgleaaGreatDoorGAG
namespace Go.Proofs.YtfmnlpmgakgleaaGreatDoor
set_option linter.unusedVariables false
open Go.RowKit
def heldR (v:Value):Option (DataW Value × List MemPlace):=some (.held v,[])
def Mp (P:Program) (k:TypeId) (w:World) (b n:Nat) (m:Lit → Option Value):Prop :=
 ∃ D:DataW Value,w.ownsMap P k heldR b n D ∧ ∀ l,WideAt.IsKeyLit l → Maps.has D l = (m l).isSome ∧ ∀ v,m l = some v → ∀ z,D.atKey l z = .held v
def mpSet (m:Lit → Option Value) (l:Lit) (v:Value):Lit → Option Value:=fun x => if x.sameKey l then some v else m x
def mpDel (m:Lit → Option Value) (l:Lit):Lit → Option Value:=fun x => if x.sameKey l then none else m x
def mpNew:Lit → Option Value:=fun _ => none
section
variable {P:Program} {k e t:TypeId} {w w':World} {b n:Nat} {m:Lit → Option Value} {key:Value} {kl:Lit}
theorem Mp.made (P:Program) (k:TypeId) (w:World):Mp P k (w.alloc (.map #[] 0)) w.heap.size 0 mpNew :=
 ⟨_,World.ownsMap_made w P k heldR,fun l _ => ⟨rfl,fun v h => by cases h⟩⟩
theorem Mp.mono {n':Nat} (h:Mp P k w b n m) (hn:n ≤ n'):Mp P k w b n' m:=by
 obtain ⟨D,ho,hd⟩:=h
 exact ⟨D,ho.mono hn,hd⟩
theorem Mp.lt (h:Mp P k w b n m):b < w.heap.size:=by
 obtain ⟨D,ho,hd⟩:=h
 exact ho.lt
theorem Mp.kept {row:Option Nat} (h:Mp P k w b n m) (hg:w.grownBy w' row) (hne:some b ≠ row):Mp P k w' b n m:=by
 obtain ⟨D,ho,hd⟩:=h
 exact ⟨D,ho.kept hg hne,hd⟩
theorem Mp.below (h:Mp P k w b n m) (hb:Below w.heap.size w w'):Mp P k w' b n m :=
 h.kept (row:=none) ⟨hb.os,hb.tape,hb.output,hb.size,fun i hi _ => hb.block i hi⟩ (by simp)
theorem Mp.block (h:Mp P k w b n m) (hb:w'.heap[b]? = w.heap[b]?):Mp P k w' b n m:=by
 obtain ⟨D,⟨es,clock,h1,h2⟩,hd⟩:=h
 exact ⟨D,⟨es,clock,hb.trans h1,h2⟩,hd⟩
theorem Mp.alloc (h:Mp P k w b n m) (o:Obj):Mp P k (w.alloc o) b n m:=h.below ((Below.refl _ _).alloc (Nat.le_refl _) _)
theorem Mp.setCell (h:Mp P k w b n m) {a:Addr} (ha:b ≠ a.block) (u:Value):Mp P k (w.setCell a u) b n m:=by
 obtain ⟨D,ho,hd⟩:=h
 exact ⟨D,ho.setCell ha u,hd⟩
theorem Mp.look_some (h:Mp P k w b n m) (K:Maps.Keyed P k) (ht:P.underlying t = some (.map k e)) {z:Value} (hz:(zeroValue e).run P w = .ok z w) (hkey:keyOf P k key = some kl) {v:Value} (hv:m kl = some v) (c:Bool) :
  (Instr.lookup t (.map (some b)) key c).run P w = .ok (if c then .tuple #[v,.bool true] else v) w:=by
 obtain ⟨D,⟨es,clock,hb,F,_,rfl⟩,hd⟩:=h
 have hk:WideAt.IsKeyLit kl:=K.key hkey
 obtain ⟨h1,h2⟩:=hd kl hk
 rcases Maps.fit_look c K ht hz hb F hkey with ⟨hrun,_,hat⟩ | ⟨e0,y,_,_,hrun,hRv,hat,_⟩
 ·rw [Maps.has_false_of_atKey hat,hv] at h1
  cases h1
 ·have:=h2 v hv (.held v)
  rw [hat] at this
  unfold heldR at hRv
  injection hRv with hRv
  rw [← hRv] at this
  injection this with this
  rw [← this]
  exact hrun
theorem Mp.look_none (h:Mp P k w b n m) (K:Maps.Keyed P k) (ht:P.underlying t = some (.map k e)) {z:Value} (hz:(zeroValue e).run P w = .ok z w) (hkey:keyOf P k key = some kl) (hv:m kl = none) (c:Bool) :
  (Instr.lookup t (.map (some b)) key c).run P w = .ok (if c then .tuple #[z,.bool false] else z) w:=by
 obtain ⟨D,⟨es,clock,hb,F,_,rfl⟩,hd⟩:=h
 have hk:WideAt.IsKeyLit kl:=K.key hkey
 obtain ⟨h1,h2⟩:=hd kl hk
 rcases Maps.fit_look c K ht hz hb F hkey with ⟨hrun,_,hat⟩ | ⟨e0,y,_,_,hrun,hRv,hat,_⟩
 ·exact hrun
 ·rw [Maps.has_true_of_atKey hat,hv] at h1
  cases h1
theorem Mp.look (h:Mp P k w b n m) (K:Maps.Keyed P k) (ht:P.underlying t = some (.map k e)) {z:Value} (hz:(zeroValue e).run P w = .ok z w) (hkey:keyOf P k key = some kl) (c:Bool) :
  (Instr.lookup t (.map (some b)) key c).run P w = .ok (if c then .tuple #[(m kl).getD z,.bool (m kl).isSome] else (m kl).getD z) w:=by
 cases hv:m kl with
 | none => exact h.look_none K ht hz hkey hv c
 | some v => exact h.look_some K ht hz hkey hv c
theorem Mp.update (h:Mp P k w b n m) (K:Maps.Keyed P k) (ht:P.underlying t = some (.map k e)) (hn:n < maxLen) (hkey:keyOf P k key = some kl) (val:Value) :
  ∃ w',(Instr.mapUpdate t (.map (some b)) key val).run P w = .ok () w' ∧ Mp P k w' b (n + 1) (mpSet m kl val) ∧ w.grownBy w' (some b) ∧ w'.heap.size = w.heap.size:=by
 obtain ⟨D,ho,hd⟩:=h
 have hk:WideAt.IsKeyLit kl:=K.key hkey
 obtain ⟨w',hrun,ho',ht'⟩:=ho.store K ht hn hkey (show heldR val = some (.held val,[]) from rfl)
 refine ⟨w',hrun,⟨_,ho',fun l hl => ?_⟩,ht'.grown,?_⟩
 ·by_cases hs:l = kl
  ·subst hs
   have e1:mpSet m l val l = some val:=by unfold mpSet;rw [WideAt.sameKey_self hk];rfl
   rw [e1]
   refine ⟨by rw [Maps.has_put_same ho.isMap hk];rfl,fun v hv z => ?_⟩
   injection hv with hv
   rw [Maps.atKey_put_same ho.isMap hk,hv]
  ·have e1:mpSet m kl val l = m l:=by
    unfold mpSet
    rw [if_neg]
    intro c
    exact hs (WideAt.sameKey_eq c)
   rw [e1,Maps.has_put_other hs]
   refine ⟨(hd l hl).1,fun v hv z => ?_⟩
   rw [Maps.atKey_put_other hs]
   exact (hd l hl).2 v hv z
 ·obtain ⟨es,clock,es',clock',hb,rfl⟩:=ht'
  simp [ChangeMaps.setBlock]
theorem Mp.drop (h:Mp P k w b n m) (K:Maps.Keyed P k) (ht:P.underlying t = some (.map k e)) (hkey:keyOf P k key = some kl) (ty:TypeId) :
  ∃ w',(Builtin.delete_ #[t,k] ty #[.map (some b),key]).run P w = .ok (.tuple #[]) w' ∧ Mp P k w' b n (mpDel m kl) ∧ w.grownBy w' (some b) ∧ w'.heap.size = w.heap.size:=by
 obtain ⟨D,ho,hd⟩:=h
 have hk:WideAt.IsKeyLit kl:=K.key hkey
 obtain ⟨w',hrun,ho',ht'⟩:=ho.drop K ht hkey ty
 refine ⟨w',hrun,⟨_,ho',fun l hl => ?_⟩,ht'.grown,?_⟩
 ·by_cases hs:l = kl
  ·subst hs
   have e1:mpDel m l l = none:=by unfold mpDel;rw [WideAt.sameKey_self hk];rfl
   rw [e1]
   exact ⟨by rw [Maps.has_del_same];rfl,fun v hv z => by cases hv⟩
  ·have e1:mpDel m kl l = m l:=by
    unfold mpDel
    rw [if_neg]
    intro c
    exact hs (WideAt.sameKey_eq c)
   rw [e1,Maps.has_del_other hs]
   refine ⟨(hd l hl).1,fun v hv z => ?_⟩
   rw [Maps.atKey_del_other hs]
   exact (hd l hl).2 v hv z
 ·obtain ⟨es,clock,es',clock',hb,rfl⟩:=ht'
  simp [ChangeMaps.setBlock]
end
theorem wpList_mp_set {P:Program} (w:World) {ops:Array Oper} {rest:List Oper} {o:Oper} {a:Act} {Q:Exit → Act → World → Prop}
  (hg:o.guard = none) (mo x v:Operand) (t:TypeId) (hop:o.op = Op.mapUpdate t mo x v)
  (k e:TypeId) (K:Maps.Keyed P k) (ht:P.underlying t = some (.map k e)) (b n:Nat) (m:Lit → Option Value)
  (hm:a.eval mo = .map (some b)) (hown:Mp P k w b n m) (hn:n < maxLen) (key val:Value) (kl:Lit) (hx:a.eval x = key) (hv:a.eval v = val) (hkey:keyOf P k key = some kl)
  (hK:∀ w',Mp P k w' b (n + 1) (mpSet m kl val) → w.grownBy w' (some b) → w'.heap.size = w.heap.size → wpList P ops Q rest (a.put o.dst undef) w') :
  wpList P ops Q (o :: rest) a w:=by
 refine wpList_plain hg fun K' hK' => ?_
 obtain ⟨w',hrun,r1,r2,r3⟩:=hown.update K ht hn hkey val
 unfold Oper.wp
 simp [execOp,hop,hm,hx,hv,hrun,Result.andThen]
 exact hK' _ _ (hK w' r1 r2 r3)
theorem wpList_mp_get {P:Program} (w:World) {ops:Array Oper} {rest:List Oper} {o:Oper} {a:Act} {Q:Exit → Act → World → Prop}
  (hg:o.guard = none) (mo x:Operand) (t:TypeId) (hop:o.op = Op.lookup t mo x false)
  (k e:TypeId) (K:Maps.Keyed P k) (ht:P.underlying t = some (.map k e)) (z:Value) (hz:(zeroValue e).run P w = .ok z w) (b n:Nat) (m:Lit → Option Value)
  (hm:a.eval mo = .map (some b)) (hown:Mp P k w b n m) (key:Value) (kl:Lit) (hx:a.eval x = key) (hkey:keyOf P k key = some kl)
  (hK:wpList P ops Q rest (a.put o.dst ((m kl).getD z)) w) :
  wpList P ops Q (o :: rest) a w:=by
 refine wpList_plain hg fun K' hK' => ?_
 have hrun:=hown.look K ht hz hkey false
 unfold Oper.wp
 simp [execOp,hop,hm,hx,hrun,Result.andThen]
 exact hK' _ _ hK
open Go.RowKit
def codeLit (s:ByteArray):Lit:=.string s.data.toList
theorem bytes_ext' {a b:ByteArray} (h:a.data.toList = b.data.toList):a = b:=by
 cases a;cases b
 simp only [Array.toList_inj] at h
 rw [h]
theorem sameKey_code (a b:ByteArray):(codeLit a).sameKey (codeLit b) = (b.toList == a.toList):=by
 unfold codeLit Lit.sameKey
 rw [Bool.eq_iff_iff]
 simp only [beq_iff_eq]
 constructor
 ·intro h;rw [show a = b from bytes_ext' h]
 ·intro h
  rw [ByteArray.toList_eq,ByteArray.toList_eq] at h
  exact h.symm
theorem strKeyed:Maps.Keyed Tryz.prog 9:=Maps.string_keyed Tryz.underlying9
theorem strKey {s:ByteArray} (h:s.size ≤ 1000000000):keyOf Tryz.prog 9 (.string s) = some (codeLit s):=Go.WideMaps.keyOf_string_mk Tryz.underlying9 (by unfold maxLen;omega)
theorem zeroBool (w:World):(zeroValue 4).run Tryz.prog w = .ok (.bool false) w:=by kernel_rfl
theorem wpList_mp_getv {P:Program} (w:World) {ops:Array Oper} {rest:List Oper} {o:Oper} {a:Act} {Q:Exit → Act → World → Prop}
  (hg:o.guard = none) (mo x:Operand) (t:TypeId) (hop:o.op = Op.lookup t mo x false)
  (k e:TypeId) (K:Maps.Keyed P k) (ht:P.underlying t = some (.map k e)) (z:Value) (hz:(zeroValue e).run P w = .ok z w) (b n:Nat) (m:Lit → Option Value)
  (hm:a.eval mo = .map (some b)) (hown:Mp P k w b n m) (key:Value) (kl:Lit) (hx:a.eval x = key) (hkey:keyOf P k key = some kl) (v:Value) (hv:(m kl).getD z = v)
  (hK:wpList P ops Q rest (a.put o.dst v) w) :
  wpList P ops Q (o :: rest) a w :=
 wpList_mp_get w hg mo x t hop k e K ht z hz b n m hm hown key kl hx hkey (by rw [hv];exact hK)
def setMp (ks:List ByteArray):Lit → Option Value:=fun l => if ks.any (fun k => l.sameKey (codeLit k)) then some (.bool true) else none
def hasK (ks:List ByteArray) (k:ByteArray):Bool:=ks.any fun x => x.toList == k.toList
theorem setMp_nil:setMp [] = mpNew:=rfl
theorem setMp_get (ks:List ByteArray) (k:ByteArray):(setMp ks (codeLit k)).getD (.bool false) = .bool (hasK ks k):=by
 unfold setMp hasK
 have:(fun x:ByteArray => (codeLit k).sameKey (codeLit x)) = fun x => x.toList == k.toList:=by
  funext x
  rw [sameKey_code]
 rw [this]
 cases ks.any fun x => x.toList == k.toList <;> rfl
theorem setMp_snoc (ks:List ByteArray) (s:ByteArray):mpSet (setMp ks) (codeLit s) (.bool true) = setMp (ks ++ [s]):=by
 funext l
 unfold mpSet setMp
 rw [List.any_append]
 by_cases e:l.sameKey (codeLit s) = true
 ·simp [e]
 ·have e':l.sameKey (codeLit s) = false:=by simpa using e
  simp [e']
open Go.RowKit
theorem hasK_not {es:List EvD} (h:es.Pairwise fun a b => a.id ≠ b.id) {i:Nat} (hi:i < es.length):hasK ((es.take i).map EvD.id) es[i].id = false:=by
 unfold hasK
 rw [List.any_eq_false]
 intro x hx c
 obtain ⟨e,he,rfl⟩:=List.mem_map.1 hx
 obtain ⟨j,hj,rfl⟩:=List.getElem_of_mem he
 rw [List.length_take] at hj
 rw [List.getElem_take] at c
 have:=List.pairwise_iff_getElem.1 h j i (by omega) hi (by omega)
 rw [beq_iff_eq] at c
 exact this (toList_inj c)
theorem ids_succ {es:List EvD} {i:Nat} (hi:i < es.length):(es.take i).map EvD.id ++ [es[i].id] = (es.take (i + 1)).map EvD.id:=by
 rw [List.take_succ_eq_append_getElem hi,List.map_append]
 rfl
theorem order_b (a b:EvD) (w:World):Calls Tryz.prog 99 #[.agg #[.string a.id,.string a.name,.int .i64 a.at_,.int .i64 a.kind,.string a.text,.slice a.fa a.fields.length a.fc],.agg #[.string b.id,.string b.name,.int .i64 b.at_,.int .i64 b.kind,.string b.text,.slice b.fa b.fields.length b.fc]] w fun e w' => e = .returned (.int .i64 (evOrd a b)) ∧ Below w.heap.size w w':=(order_g a b w).mono fun e w' ⟨h,g⟩ => ⟨h,g.below⟩
structure ES (W:World) (mb i:Nat) (ks:List ByteArray) (wr:World):Prop where
 bel:Below W.heap.size W wr
 map:Mp Tryz.prog 9 wr mb i (setMp ks)
 lo:W.heap.size ≤ mb
theorem ES.new (W:World):ES W W.heap.size 0 [] (W.alloc (.map #[] 0)) :=
 ⟨(Below.refl W.heap.size W).alloc (Nat.le_refl _) _,by rw [setMp_nil];exact Mp.made Tryz.prog 9 W,Nat.le_refl _⟩
theorem ES.call {W wr w':World} {mb i:Nat} {ks:List ByteArray} (h:ES W mb i ks wr) (hb:Below wr.heap.size wr w'):ES W mb i ks w' :=
 ⟨h.bel.trans (hb.mono h.bel.size),h.map.below hb,h.lo⟩
theorem ES.alloc {W wr:World} {mb i:Nat} {ks:List ByteArray} (h:ES W mb i ks wr) (o:Obj):ES W mb i ks (wr.alloc o):=h.call ((Below.refl _ _).alloc (Nat.le_refl _) _)
theorem ES.put {W wr w':World} {mb i:Nat} {ks:List ByteArray} (h:ES W mb i ks wr) {k:ByteArray} (hM:Mp Tryz.prog 9 w' mb (i + 1) (mpSet (setMp ks) (codeLit k) (.bool true))) (hg:wr.grownBy w' (some mb)):ES W mb (i + 1) (ks ++ [k]) w' :=
 ⟨h.bel.grown hg h.bel.size (fun q hq => by injection hq with hq;have:=h.lo;omega),by rw [← setMp_snoc];exact hM,h.lo⟩
set_option maxHeartbeats 4000000 in
set_option maxRecDepth 100000 in
theorem check_right (H:Frz) (hU:UtfIn H) (hM:MLen H) (A:Option Addr) (cap:Nat) (es:List EvD) (W:World) (hH:H.In W) (hR:Rw H A 6 fEv es) (hI:∀ d ∈ es,EvIn H d) (hl:es.length ≤ 5000) (hr:RightEs es) :
  Calls Tryz.prog 45 #[.slice A es.length cap] W fun e w' => e = .returned (.int .i64 0) ∧ Below W.heap.size W w':=by
 have HR:=Lib.hid hR
 have HH:=Lib.hid hH
 have HI:=Lib.hid hI
 have HRT:=Lib.hid hr
 have HCO:=Lib.hid (fun d (hd:d ∈ es) W (hW:H.In W) => checkOne_any H hU hM d W hW (hI d hd))
 have hmm:=@run_makeMap Tryz.prog
 have HNEW:=Lib.hid (ES.new W)
 have hl':decide ((5000:Int) < es.length) = false:=by simp;omega
 clear hR hH hI hr hU hM
 go_enter Tryz.func45,Tryz.ntmps45
 go_wp2_with fail
 clear hmm
 go_loopw [13] (fun t wr => ∃ i:Nat,i ≤ es.length ∧ t = .int .i64 i ∧ Hid (ES W W.heap.size i ((es.take i).map EvD.id) wr)) (fun t _ => es.length - (intOf t).toNat)
 case atStart => exact ⟨0,by omega,rfl,HNEW⟩
 case round =>
  obtain ⟨i,hi,rfl,hinv⟩:=hrel
  clear HNEW
  by_cases hlt:i < es.length
  ·have hin:=HH.out.below hinv.out.bel
   obtain ⟨b,off,hA,hbl,hc⟩:=HR.out.at_ hin hlt (by omega)
   have hprev:Hid (∀ p (hp:p < es.length),∀ W',Below wr.heap.size wr W' → (W'.cell? ⟨b,off + p * 6,none⟩ = some (.string es[p].id) ∧ W'.cell? ⟨b,off + p * 6 + 1,none⟩ = some (.string es[p].name) ∧ W'.cell? ⟨b,off + p * 6 + 2,none⟩ = some (.int .i64 es[p].at_) ∧ W'.cell? ⟨b,off + p * 6 + 3,none⟩ = some (.int .i64 es[p].kind) ∧ W'.cell? ⟨b,off + p * 6 + 4,none⟩ = some (.string es[p].text) ∧ W'.cell? ⟨b,off + p * 6 + 5,none⟩ = some (.slice es[p].fa es[p].fields.length es[p].fc))):=by
    intro p hp W' hW'
    obtain ⟨b',off',hA',hbl',hc'⟩:=HR.out.at_ hin hp (by omega)
    rw [hA] at hA'
    simp only [Option.some.injEq,Addr.mk.injEq] at hA'
    obtain ⟨rfl,rfl,_⟩:=hA'
    have hk:∀ j (hj:j < 6),W'.cell? ⟨b,off + p * 6 + j,none⟩ = some (fEv es[p] j):=fun j hj => (hW'.cell (World.block_lt_of_cell? wr _ (hc' j hj))).trans (hc' j hj)
    exact ⟨hk 0 (by omega),hk 1 (by omega),hk 2 (by omega),hk 3 (by omega),hk 4 (by omega),hk 5 (by omega)⟩
   subst hA
   have c0:wr.cell? ⟨b,off + i * 6,none⟩ = some (.string es[i].id):=hc 0 (by omega)
   have c1:wr.cell? ⟨b,off + i * 6 + 1,none⟩ = some (.string es[i].name):=hc 1 (by omega)
   have c2:wr.cell? ⟨b,off + i * 6 + 2,none⟩ = some (.int .i64 es[i].at_):=hc 2 (by omega)
   have c3:wr.cell? ⟨b,off + i * 6 + 3,none⟩ = some (.int .i64 es[i].kind):=hc 3 (by omega)
   have c4:wr.cell? ⟨b,off + i * 6 + 4,none⟩ = some (.string es[i].text):=hc 4 (by omega)
   have c5:wr.cell? ⟨b,off + i * 6 + 5,none⟩ = some (.slice es[i].fa es[i].fields.length es[i].fc):=hc 5 (by omega)
   have HE0:=Lib.hid (HRT.out.one _ (List.getElem_mem hlt))
   have HMI:=Lib.hid (HI.out _ (List.getElem_mem hlt))
   have HCI:=Lib.hid (HCO.out _ (List.getElem_mem hlt))
   have HNK:=Lib.hid (hasK_not HRT.out.own hlt)
   have HSU:=Lib.hid (ids_succ hlt)
   have HLT:Hid (∀ p (hp:p < es.length),i = p + 1 → evOrd es[p] es[i] < 0):=fun p hp e => evOrd_lt.2 (List.pairwise_iff_getElem.1 HRT.out.ord p i hp hlt (by omega))
   clear hc
   generalize es[i] = d at *
   have z0:(wr.alloc (.cells #[.string d.id,.string d.name,.int .i64 d.at_,.int .i64 d.kind,.string d.text,.slice d.fa d.fields.length d.fc] 42)).cell? ⟨wr.heap.size,0,none⟩ = some (.string d.id):=newc 0 rfl
   have z1:(wr.alloc (.cells #[.string d.id,.string d.name,.int .i64 d.at_,.int .i64 d.kind,.string d.text,.slice d.fa d.fields.length d.fc] 42)).cell? ⟨wr.heap.size,1,none⟩ = some (.string d.name):=newc 1 rfl
   have z2:(wr.alloc (.cells #[.string d.id,.string d.name,.int .i64 d.at_,.int .i64 d.kind,.string d.text,.slice d.fa d.fields.length d.fc] 42)).cell? ⟨wr.heap.size,2,none⟩ = some (.int .i64 d.at_):=newc 2 rfl
   have z3:(wr.alloc (.cells #[.string d.id,.string d.name,.int .i64 d.at_,.int .i64 d.kind,.string d.text,.slice d.fa d.fields.length d.fc] 42)).cell? ⟨wr.heap.size,3,none⟩ = some (.int .i64 d.kind):=newc 3 rfl
   have z4:(wr.alloc (.cells #[.string d.id,.string d.name,.int .i64 d.at_,.int .i64 d.kind,.string d.text,.slice d.fa d.fields.length d.fc] 42)).cell? ⟨wr.heap.size,4,none⟩ = some (.string d.text):=newc 4 rfl
   have z5:(wr.alloc (.cells #[.string d.id,.string d.name,.int .i64 d.at_,.int .i64 d.kind,.string d.text,.slice d.fa d.fields.length d.fc] 42)).cell? ⟨wr.heap.size,5,none⟩ = some (.slice d.fa d.fields.length d.fc):=newc 5 rfl
   have HBN:=Lib.hid (new1 (w:=wr) (.cells #[.string d.id,.string d.name,.int .i64 d.at_,.int .i64 d.kind,.string d.text,.slice d.fa d.fields.length d.fc] 42))
   have HI2:=Lib.hid (hinv.out.alloc (.cells #[.string d.id,.string d.name,.int .i64 d.at_,.int .i64 d.kind,.string d.text,.slice d.fa d.fields.length d.fc] 42))
   have HIN2:=Lib.hid (hin.below HBN.out)
   have HBA:=Lib.hid HBN.out
   clear hin HBN hinv
   go_upto_region 7 with (fail)
   clear c0 c1 c2 c3 c4 c5
   generalize wr.alloc (.cells #[.string d.id,.string d.name,.int .i64 d.at_,.int .i64 d.kind,.string d.text,.slice d.fa d.fields.length d.fc] 42) = W1 at *
   have HID:=HMI.out.idz
   go_wp2_with fail
   refine (HCI.out _ HIN2.out).mono ?_
   rintro e W2 ⟨rfl,hb2⟩
   rw [HE0.out]
   have HI3:=Lib.hid (HI2.out.call hb2)
   have HB2:=Lib.hid (HBA.out.trans (hb2.mono HBA.out.size))
   have y0:=lift_cell z0 _ hb2
   have y1:=lift_cell z1 _ hb2
   have y2:=lift_cell z2 _ hb2
   have y3:=lift_cell z3 _ hb2
   have y4:=lift_cell z4 _ hb2
   have y5:=lift_cell z5 _ hb2
   clear hb2 z0 z1 z2 z3 z4 z5 HI2 HIN2 HBA
   have HK1:=Lib.hid (strKey (s:=d.id) (by omega))
   have HGET:Hid ((setMp ((es.take i).map EvD.id) (codeLit d.id)).getD (.bool false) = .bool false):=(setMp_get _ _).trans (by rw [HNK.out])
   generalize (es.take i).map EvD.id = ks at *
   have HML:Hid (i < maxLen):=by show _ < _;unfold maxLen;omega
   generalize wr.heap.size = q at *
   rcases Nat.eq_zero_or_pos i with h0 | hpos
   ·have d2:decide ((0:Int) < (i:Int)) = false:=by simp;omega
    have d3:decide (0 < i) = false:=by simp;omega
    clear h0
    go_upto_region 10 with (fail)
    (refine wp_region_det 11 43 (fun W => Below (W2).heap.size (W2) W) (by kernel_rfl) (by kernel_rfl) (by rfl) (Below.refl _ _).drew ?_;simp only [List.take_succ_cons,List.take_zero,List.drop_succ_cons,List.drop_zero])
    iterate 1 (refine detSeq_op rfl ?_ (fun W hW => ?_) ?_;rotate_left;(focus simp only [OpV];go_simp;first | exact rfl | exact ⟨rfl,hW⟩))
    (refine detSeq_op rfl (.bool false) (fun W hW => ?_) ?_;focus (simp only [OpV];go_simp;all_goals (first | exact rfl | exact hW | exact ⟨by rw [d2],hW⟩ | exact ⟨by rw [d3],hW⟩)))
    iterate 1 (refine detSeq_op rfl ?_ (fun W hW => ?_) ?_;rotate_left;(focus simp only [OpV];go_simp;first | exact rfl | exact ⟨rfl,hW⟩))
    iterate 8 (refine detSeq_no (by kernel_rfl) ?_)
    refine detSeq_nil (fun W3 hW3 => ?_)
    have HI4:=Lib.hid (HI3.out.call hW3)
    have x0:=lift_cell y0 _ hW3
    clear y0 y1 y2 y3 y4 y5 hW3
    go_wp2_with (first | (at_lookup;refine wpList_mp_getv _ rfl _ _ 126 rfl 9 4 strKeyed Tryz.underlying126 (.bool false) (zeroBool _) W.heap.size i (setMp ks) rfl HI4.out.map _ _ rfl HK1.out _ HGET.out ?_) | (at_mapUpdate;refine wpList_mp_set _ rfl _ _ _ 126 rfl 9 4 strKeyed Tryz.underlying126 W.heap.size i (setMp ks) rfl HI4.out.map HML.out _ _ _ rfl rfl HK1.out ?_;intro w5 hM5 hg5 hz5;have HI5:=Lib.hid (HI4.out.put hM5 hg5);clear hM5 hg5 hz5))
    rw [HSU.out] at HI5
    go_roundw
    case rel => exact ⟨i + 1,by omega,by go_num,HI5⟩
    case measure => simp [intOf];omega
   ·obtain ⟨p,hp⟩:∃ p,i = p + 1:=⟨i - 1,by omega⟩
    have hpl:p < es.length:=by omega
    obtain ⟨q0,q1,q2,q3,q4,q5⟩:=hprev.out p hpl W2 HB2.out
    have HOR:=Lib.hid (HLT.out p hpl hp)
    have d2:decide ((0:Int) < (i:Int)) = true:=by simp;omega
    have d3:decide (0 < i) = true:=by simp;omega
    have a1:IntKind.i64.wrap (p:Int) = (p:Int):=IntWalk.i64_in _ (by omega)
    have a2:(i:Int) - 1 = (p:Int):=by omega
    have a3:(p:Int) < es.length:=by omega
    have a4:(0:Int) ≤ (p:Int):=by omega
    have HPP:=Lib.hid hp
    clear hp hpos
    generalize es[p] = c at *
    have Q0:=lift_cell q0
    have Q1:=lift_cell q1
    have Q2:=lift_cell q2
    have Q3:=lift_cell q3
    have Q4:=lift_cell q4
    have Q5:=lift_cell q5
    have Y0:=lift_cell y0
    have Y1:=lift_cell y1
    have Y2:=lift_cell y2
    have Y3:=lift_cell y3
    have Y4:=lift_cell y4
    have Y5:=lift_cell y5
    clear q0 q1 q2 q3 q4 q5 y0 y1 y2 y3 y4 y5
    have HCMP:=Lib.hid (fun W => order_b c d W)
    have HGE:Hid (decide (0 ≤ evOrd c d) = false):=by show _ = _;have:=HOR.out;simp;omega
    generalize evOrd c d = oc at *
    go_upto_region 10 with (fail)
    (refine wp_region_det 11 43 (fun W => Below (W2).heap.size (W2) W) (by kernel_rfl) (by kernel_rfl) (by rfl) (Below.refl _ _).drew ?_;simp only [List.take_succ_cons,List.take_zero,List.drop_succ_cons,List.drop_zero])
    iterate 1 (refine detSeq_op rfl ?_ (fun W hW => ?_) ?_;rotate_left;(focus simp only [OpV];go_simp;first | exact rfl | exact ⟨rfl,hW⟩))
    (refine detSeq_op rfl (.bool true) (fun W hW => ?_) ?_;focus (simp only [OpV];go_simp;all_goals (first | exact rfl | exact hW | exact ⟨by rw [d2],hW⟩ | exact ⟨by rw [d3],hW⟩)))
    iterate 1 (refine detSeq_op rfl ?_ (fun W hW => ?_) ?_;rotate_left;(focus simp only [OpV];go_simp;first | exact rfl | exact ⟨rfl,hW⟩))
    iterate 6 (refine detSeq_yes (by kernel_rfl) ?_ (fun W hW => ?_) ?_;rotate_left;(focus simp only [OpV];go_simp;first | exact rfl | exact ⟨rfl,hW⟩))
    (refine detSeq_yes (by kernel_rfl) ?_ (fun W hW => ?_) ?_;rotate_left;focus (simp only [OpV];go_simp;refine (HCMP.out W).mono ?_;rintro e w' ⟨rfl,hb⟩;refine ⟨_,rfl,?_,det_back hW hb⟩;exact rfl))
    iterate 1 (refine detSeq_yes (by kernel_rfl) ?_ (fun W hW => ?_) ?_;rotate_left;(focus simp only [OpV];go_simp;first | exact rfl | exact ⟨rfl,hW⟩))
    refine detSeq_nil (fun W3 hW3 => ?_)
    have HI4:=Lib.hid (HI3.out.call hW3)
    have x0:=Y0 _ hW3
    rw [HGE.out]
    clear Q0 Q1 Q2 Q3 Q4 Q5 Y0 Y1 Y2 Y3 Y4 Y5 hW3 HCMP
    go_wp2_with (first | (at_lookup;refine wpList_mp_getv _ rfl _ _ 126 rfl 9 4 strKeyed Tryz.underlying126 (.bool false) (zeroBool _) W.heap.size i (setMp ks) rfl HI4.out.map _ _ rfl HK1.out _ HGET.out ?_) | (at_mapUpdate;refine wpList_mp_set _ rfl _ _ _ 126 rfl 9 4 strKeyed Tryz.underlying126 W.heap.size i (setMp ks) rfl HI4.out.map HML.out _ _ _ rfl rfl HK1.out ?_;intro w5 hM5 hg5 hz5;have HI5:=Lib.hid (HI4.out.put hM5 hg5);clear hM5 hg5 hz5))
    rw [HSU.out] at HI5
    go_roundw
    case rel => exact ⟨i + 1,by omega,by go_num,HI5⟩
    case measure => simp [intOf];omega
  ·have hie:i = es.length:=by omega
   subst hie
   have HF:=Lib.hid hinv.out.bel
   go_wp2_with fail
   go_ret
   exact ⟨rfl,HF.out⟩
end Go.Proofs.YtfmnlpmgakgleaaGreatDoor
