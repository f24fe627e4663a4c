/- Texts of this claim, put together: KeyId, NewGJ, OrdI, OrdPI, PersP. -/
import Derived.Test.YtbidhpgjmcedaaaGreatDoorGAJ
import Derived.DeepKeys4
import Derived.Test.YtbidhpgjmcedaaaGreatDoorGAH
import Derived.Test.YtbidhpgjmcedaaaGreatDoorGAE
import Derived.Sort.Grow
import Derived.Test.YtbidhpgjmcedaaaGreatDoorGAG
namespace Go.Proofs.YtbidhpgjmcedaaaGreatDoor
set_option linter.unusedVariables false
open Go.RowKit
theorem laidOut_ : Go.laidOutB Tryz.prog = true:=by kernel_rfl
theorem rowId_ : (55 : TypeId) < Tryz.prog.types.size:=of_decide_eq_true (by kernel_rfl)
theorem ktId_ : Tryz.prog.keyTypeAt 2 55 = true:=by kernel_rfl
set_option maxRecDepth 100000 in
theorem idLaw : WideMaps.KeyLaw Tryz.prog 55:=by
 refine deep_law (m:=2) (by omega) ktId_ (tiled_of_laidOut laidOut_ 2 _ ?_ ktId_) ?_
 ·simp only [isVar,Bool.and_eq_true,decide_eq_true_eq]
  refine ⟨rowId_,?_⟩
  rw [Tryz.underlying55]; rfl
 ·rw [Tryz.underlying55]
theorem idKeyed : Maps.Keyed Tryz.prog 55:=Maps.Keyed.of_law idLaw
def klId (d : IdD) : Lit:=.string (keyBytes [.int .i64 d.kind,.string d.text.data.toList])
def FitId (d : IdD) : Prop:=(-9223372036854775808 ≤ d.kind ∧ d.kind ≤ 9223372036854775807) ∧ d.text.size ≤ 1000000
theorem keyGen {P : Program} {k : TypeId} (hu : P.underlying k = some (.struct #[{ name := "Kind", type := 3, offset := 0, embedded := false, tag := "", pkgPath := "", byteOffset := 0 }, { name := "Text", type := 9, offset := 1, embedded := false, tag := "", pkgPath := "", byteOffset := 8 }])) (hk : P.keyType k = true) (c2 : P.cellsOf k = 2)
  (u1 : P.underlying 3 = some (.int .i64)) (u2 : P.underlying 9 = some .string) (c1 : P.cellsOf 3 = 1) (c0 : P.cellsOf 9 = 1) (hs : 0 < P.types.size) {d : IdD} (h : FitId d) : keyOf P k (.agg #[.int .i64 d.kind,.string d.text]) = some (klId d):=by
 obtain ⟨m,hm⟩:=Nat.exists_eq_succ_of_ne_zero (Nat.ne_of_gt hs)
 have h1 : (Lit.int .i64 d.kind).wf = true:=by
  have:=h.1
  simp [Lit.wf,IntKind.min,IntKind.max,IntKind.signed,IntKind.bits]
  omega
 have h2 : d.text.size ≤ maxLen:=by have:=h.2; unfold maxLen; omega
 simp [keyOf,hu,hk,Value.formed,Value.cells,hm,Program.keyLits,c2,c1,c0,u1,u2,h1,h2,klId]
theorem keyId {d : IdD} (h : FitId d) : keyOf Tryz.prog 55 (.agg #[.int .i64 d.kind,.string d.text]) = some (klId d) :=
 keyGen Tryz.underlying55 (by kernel_rfl) (by kernel_rfl) Tryz.underlying3 Tryz.underlying9 (by kernel_rfl) (by kernel_rfl) (Nat.lt_of_le_of_lt (Nat.zero_le _) rowId_) h
theorem klId_inj {a b : IdD} (ha : FitId a) (hb : FitId b) (h : klId a = klId b) : a = b:=by
 have h1:=keyId ha
 rw [h] at h1
 have:=idKeyed.inj h1 (keyId hb)
 simp at this
 cases a; cases b; simp_all
def trueIf (b : Bool) : Option Value:=if b = true then some (.bool true) else none
def SeenIs (acc : List IdD) (m : Lit → Option Value) : Prop:=∀ d,FitId d → m (klId d) = trueIf (acc.any (eqId d))
theorem SeenIs.new : SeenIs [] mpNew:=fun d _ => rfl
theorem SeenIs.set {acc : List IdD} {m : Lit → Option Value} (h : SeenIs acc m) {x : IdD} (hx : FitId x) : SeenIs (acc ++ [x]) (mpSet m (klId x) (.bool true)):=by
 intro d hd
 unfold mpSet
 by_cases c : d = x
 ·subst c
  have e : (klId d).sameKey (klId d) = true:=by simp [klId,Lit.sameKey]
  rw [if_pos e]
  simp [trueIf,eqId_self]
 ·have e : ¬ (klId d).sameKey (klId x) = true:=fun e => c (klId_inj hd hx (WideAt.sameKey_eq e))
  rw [if_neg e,h d hd]
  have : eqId d x = false:=Bool.eq_false_iff.2 fun e => c (eqId_iff.1 e)
  simp [this]
theorem SeenIs.get {acc : List IdD} {m : Lit → Option Value} (h : SeenIs acc m) {x : IdD} (hx : FitId x) : (m (klId x)).getD (.bool false) = .bool (acc.any (eqId x)):=by
 rw [h x hx]
 unfold trueIf
 split <;> simp_all
open Go.RowKit
def StoreOk (b n : Nat) (m : Lit → Option Value) (kl : Lit) (st : Nat) (es1 : Array MapEntry) (c1 : Nat) : Prop :=
 ∀ (w2 : World) (val : Value),w2.heap[b]? = some (.map es1 c1) → ∃ w3,(Instr.entryStore 150 (.map (some b)) (goInt st) val).run Tryz.prog w2 = .ok () w3 ∧ Mp Tryz.prog 55 w3 b (n + 1) (mpSet m kl val) ∧ w2.grownBy w3 (some b) ∧ w3.heap.size = w2.heap.size
structure EnJ (W0 : World) (B b n : Nat) (m : Lit → Option Value) (kl : Lit) (v0 : Value) (zs : List Int) (i : Int) (L : Array Bool) (a : Act) (W : World) : Prop where
 size : W0.heap.size ≤ W.heap.size
 os : W.os = W0.os
 tape : W.tape = W0.tape
 output : W.output = W0.output
 keep : ∀ k,k < W0.heap.size → k ≠ b → some k ≠ v0.ownBlock → W.heap[k]? = W0.heap[k]?
 map0 : L.getD 7 false = false → W.heap[b]? = W0.heap[b]?
 map1 : L.getD 7 false = true → ∃ (st : Nat) (es1 : Array MapEntry) (c1 : Nat),a.tmps.getD 37 undef = .tuple #[v0,goInt st] ∧ W.heap[b]? = some (.map es1 c1) ∧ StoreOk b n m kl st es1 c1 ∧ (L.getD 10 false = true → a.tmps.getD 39 undef = goInt st)
 row0 : L.getD 9 false = false → Orow W B 3 1 fI v0 zs
 row1 : L.getD 9 false = true → Orow W B 3 1 fI (a.tmps.getD 38 undef) (zs ++ [i]) ∧ ((a.tmps.getD 38 undef).ownBlock = v0.ownBlock ∨ ∃ g,(a.tmps.getD 38 undef).ownBlock = some g ∧ W0.heap.size ≤ g)
 tmp : L.getD 6 false = true → ∃ q,a.tmps.getD 36 undef = .slice (some ⟨q,0,none⟩) 1 1 ∧ W.heap[q]? = some (.cells #[.int .i64 i] 3 (0,0)) ∧ W0.heap.size ≤ q
 dep : (L.getD 8 false = true → L.getD 7 false = true) ∧ (L.getD 9 false = true → L.getD 7 false = true) ∧ (L.getD 10 false = true → L.getD 7 false = true)
theorem put_ne {a : Act} {d s : Nat} (h : d ≠ s) (v : Value) : (a.put (some d) v).tmps.getD s undef = a.tmps.getD s undef:=by
 simp only [Act.put,Array.getD_eq_getD_getElem?,Array.getElem?_setIfInBounds]
 simp [h]
theorem put_eq {a : Act} {d : Nat} (h : d < a.tmps.size) (v : Value) : (a.put (some d) v).tmps.getD d undef = v:=by
 simp only [Act.put,Array.getD_eq_getD_getElem?,Array.getElem?_setIfInBounds]
 simp [h]
section
variable {W0 : World} {B b n : Nat} {m : Lit → Option Value} {kl : Lit} {v0 : Value} {zs : List Int} {i : Int} {L : Array Bool} {a : Act} {W : World}
theorem EnJ.start (hO : Orow W0 B 3 1 fI v0 zs) (c : Nat) (a : Act) : EnJ W0 B b n m kl v0 zs i (Array.replicate c false) a W0.drew :=
 ⟨Nat.le_refl _,rfl,rfl,rfl,fun _ _ _ _ => rfl,fun _ => rfl,fun h => (by rw [getD_replicate_false] at h; cases h),fun _ => hO,fun h => (by rw [getD_replicate_false] at h; cases h),fun h => (by rw [getD_replicate_false] at h; cases h),by simp only [getD_replicate_false]; exact ⟨fun h => (by cases h),fun h => (by cases h),fun h => (by cases h)⟩⟩
theorem EnJ.read (h : EnJ W0 B b n m kl v0 zs i L a W) {j d : Nat} (hj : j ≠ 6 ∧ j ≠ 7 ∧ j ≠ 9 ∧ j ≠ 10) (h8 : j = 8 → L.getD 7 false = true) (hd : d ≠ 36 ∧ d ≠ 37 ∧ d ≠ 38 ∧ d ≠ 39) (v : Value) : EnJ W0 B b n m kl v0 zs i (L.setIfInBounds j true) (a.put (some d) v) W:=by
 obtain ⟨j6,j7,j9,j10⟩:=hj
 obtain ⟨d6,d7,d8,d9⟩:=hd
 refine ⟨h.size,h.os,h.tape,h.output,h.keep,fun e => ?_,fun e => ?_,fun e => ?_,fun e => ?_,fun e => ?_,?_⟩
 ·rw [getD_set_ne false j7] at e; exact h.map0 e
 ·rw [getD_set_ne false j7] at e
  rw [put_ne d7,put_ne d9,getD_set_ne false j10]
  exact h.map1 e
 ·rw [getD_set_ne false j9] at e; exact h.row0 e
 ·rw [getD_set_ne false j9] at e
  rw [put_ne d8]
  exact h.row1 e
 ·rw [getD_set_ne false j6] at e
  rw [put_ne d6]
  exact h.tmp e
 ·rw [getD_set_ne false j7,getD_set_ne false j9,getD_set_ne false j10]
  refine ⟨fun e => ?_,h.dep.2.1,h.dep.2.2⟩
  by_cases c : j = 8
  ·exact h8 c
  ·rw [getD_set_ne false c] at e; exact h.dep.1 e
theorem EnJ.build (h : EnJ W0 B b n m kl v0 zs i L a W) (hs : 36 < a.tmps.size) (hb : b < W0.heap.size) : EnJ W0 B b n m kl v0 zs i (L.setIfInBounds 6 true) (a.put (some 36) (.slice (some ⟨W.heap.size,0,none⟩) 1 1)) (W.alloc (.cells #[.int .i64 i] 3)):=by
 have hbw : b < W.heap.size:=Nat.lt_of_lt_of_le hb h.size
 have hB : Below W.heap.size W (W.alloc (.cells #[.int .i64 i] 3)):=new1 _
 refine ⟨Nat.le_trans h.size hB.size,h.os,h.tape,h.output,fun k hk h1 h2 => (hB.block k (Nat.lt_of_lt_of_le hk h.size)).trans (h.keep k hk h1 h2),fun e => ?_,fun e => ?_,fun e => ?_,fun e => ?_,fun e => ?_,(by rw [getD_set_ne false (by decide),getD_set_ne false (by decide),getD_set_ne false (by decide),getD_set_ne false (by decide)]; exact h.dep)⟩
 ·rw [getD_set_ne false (by decide)] at e; exact (hB.block b hbw).trans (h.map0 e)
 ·rw [getD_set_ne false (by decide)] at e
  rw [put_ne (by decide),put_ne (by decide),getD_set_ne false (by decide),hB.block b hbw]
  exact h.map1 e
 ·rw [getD_set_ne false (by decide)] at e; exact (h.row0 e).below hB
 ·rw [getD_set_ne false (by decide)] at e
  rw [put_ne (by decide)]
  exact ⟨(h.row1 e).1.below hB,(h.row1 e).2⟩
 ·exact ⟨W.heap.size,put_eq hs _,heap_alloc_new _ _,h.size⟩
theorem EnJ.entry (h : EnJ W0 B b n m kl v0 zs i L a W) (h7 : L.getD 7 false = false) (hl : 7 < L.size) (hs : 37 < a.tmps.size) (hb : b < W0.heap.size) (hv : v0.ownBlock ≠ some b) {st : Nat} {es1 : Array MapEntry} {c1 : Nat} (hok : StoreOk b n m kl st es1 c1) :
  EnJ W0 B b n m kl v0 zs i (L.setIfInBounds 7 true) (a.put (some 37) (.tuple #[v0,goInt st])) (ChangeMaps.setBlock W b (.map es1 c1)):=by
 have hbw : b < W.heap.size:=Nat.lt_of_lt_of_le hb h.size
 have hg:=grown_setBlock W b (.map es1 c1)
 have hd:=h.dep
 have h9 : L.getD 9 false = false:=by
  cases e : L.getD 9 false with
  | false => rfl
  | true => rw [hd.2.1 e] at h7; cases h7
 have h10 : L.getD 10 false = false:=by
  cases e : L.getD 10 false with
  | false => rfl
  | true => rw [hd.2.2 e] at h7; cases h7
 refine ⟨Nat.le_trans h.size hg.size,h.os,h.tape,h.output,fun k hk h1 h2 => (hg.block k (Nat.lt_of_lt_of_le hk h.size) (fun c => by injection c with c; exact h1 c)).trans (h.keep k hk h1 h2),fun e => ?_,fun e => ?_,fun e => ?_,fun e => ?_,fun e => ?_,(by rw [getD_set_self hl]; exact ⟨fun _ => rfl,fun _ => rfl,fun _ => rfl⟩)⟩
 ·rw [getD_set_self hl] at e; cases e
 ·refine ⟨st,es1,c1,put_eq hs _,setBlock_at _ hbw,hok,fun e => ?_⟩
  rw [getD_set_ne false (by decide),h10] at e
  cases e
 ·refine World.ownsRow.kept (h.row0 h9) hg ?_
  exact Or.inr hv
 ·rw [getD_set_ne false (by decide),h9] at e; cases e
 ·rw [getD_set_ne false (by decide)] at e
  rw [put_ne (by decide)]
  obtain ⟨q,q1,q2,q3⟩:=h.tmp e
  refine ⟨q,q1,(hg.block q (lt_of_heap q2) (fun c => by injection c with c; omega)).trans q2,q3⟩
theorem EnJ.app (h : EnJ W0 B b n m kl v0 zs i L a W) (h7 : L.getD 7 false = true) (hl : 9 < L.size) (hs : 38 < a.tmps.size) (hb : b < W0.heap.size) (hv : v0.ownBlock ≠ some b) (hvl : ∀ g,v0.ownBlock = some g → g < W0.heap.size) {v' : Value} {W' : World}
  (ho : Orow W' B 3 1 fI v' (zs ++ [i])) (hg : W.grownBy W' v0.ownBlock) (hat : v'.ownBlock = v0.ownBlock ∨ v'.ownBlock = some W.heap.size) : EnJ W0 B b n m kl v0 zs i (L.setIfInBounds 9 true) (a.put (some 38) v') W':=by
 have hbw : b < W.heap.size:=Nat.lt_of_lt_of_le hb h.size
 have hbk : W'.heap[b]? = W.heap[b]?:=hg.block b hbw (fun c => hv c.symm)
 refine ⟨Nat.le_trans h.size hg.size,hg.os.trans h.os,hg.tape.trans h.tape,hg.output.trans h.output,fun k hk h1 h2 => (hg.block k (Nat.lt_of_lt_of_le hk h.size) h2).trans (h.keep k hk h1 h2),fun e => ?_,fun e => ?_,fun e => ?_,fun e => ?_,fun e => ?_,(have h7' : (L.setIfInBounds 9 true).getD 7 false = true:=by rw [getD_set_ne false (by decide)]; exact h7
  ⟨fun _ => h7',fun _ => h7',fun _ => h7'⟩)⟩
 ·rw [getD_set_ne false (by decide),h7] at e; cases e
 ·rw [getD_set_ne false (by decide)] at e
  rw [put_ne (by decide),put_ne (by decide),getD_set_ne false (by decide),hbk]
  exact h.map1 e
 ·rw [getD_set_self hl] at e; cases e
 ·rw [put_eq hs]
  refine ⟨ho,?_⟩
  rcases hat with hat | hat
  ·exact Or.inl hat
  ·exact Or.inr ⟨_,hat,h.size⟩
 ·rw [getD_set_ne false (by decide)] at e
  rw [put_ne (by decide)]
  obtain ⟨q,q1,q2,q3⟩:=h.tmp e
  refine ⟨q,q1,(hg.block q (lt_of_heap q2) (fun c => ?_)).trans q2,q3⟩
  have:=hvl q c.symm
  omega
theorem EnJ.stamp (h : EnJ W0 B b n m kl v0 zs i L a W) (h7 : L.getD 7 false = true) (hs : 39 < a.tmps.size) {x : Value} (hx : ∀ st : Nat,a.tmps.getD 37 undef = .tuple #[v0,goInt st] → x = goInt st) : EnJ W0 B b n m kl v0 zs i (L.setIfInBounds 10 true) (a.put (some 39) x) W:=by
 refine ⟨h.size,h.os,h.tape,h.output,h.keep,fun e => ?_,fun e => ?_,fun e => ?_,fun e => ?_,fun e => ?_,(have h7' : (L.setIfInBounds 10 true).getD 7 false = true:=by rw [getD_set_ne false (by decide)]; exact h7
  ⟨fun _ => h7',fun _ => h7',fun _ => h7'⟩)⟩
 ·rw [getD_set_ne false (by decide)] at e; exact h.map0 e
 ·rw [put_ne (by decide),put_eq hs]
  obtain ⟨st,es1,c1,q1,q2,q3,_⟩:=h.map1 h7
  exact ⟨st,es1,c1,q1,q2,q3,fun _ => hx st q1⟩
 ·rw [getD_set_ne false (by decide)] at e; exact h.row0 e
 ·rw [getD_set_ne false (by decide)] at e
  rw [put_ne (by decide)]
  exact h.row1 e
 ·rw [getD_set_ne false (by decide)] at e
  rw [put_ne (by decide)]
  exact h.tmp e
theorem EnJ.appV {o : Oper} (h : EnJ W0 B b n m kl v0 zs i L a W) (h7 : L.getD 7 false = true) (h6 : L.getD 6 false = true) (hlist : L.getD 9 false = false) (hl : 9 < L.size) (hs : 38 < a.tmps.size) (hb : b < W0.heap.size) (hv : v0.ownBlock ≠ some b) (hvl : ∀ g,v0.ownBlock = some g → g < W0.heap.size) (hd : o.dst = some 38)
  (hop : o.op = .call { callee:=.builtin .append,args:=#[.tmp 34,.tmp 36],argTypes:=#[22,22] }) (hx : a.tmps.getD 34 undef = v0)
  (i0 : TypeInfo) (hi : Tryz.prog.info? 3 = some i0) (hz : i0.zero = some (.int .i64 0)) (hsize : i0.size = 1) (hby : i0.bytes = 8) (hn : zs.length ≤ 4294967295) (hB : B ≤ W0.heap.size) :
  OpV Tryz.prog o a.eval W fun v w' => EnJ W0 B b n m kl v0 zs i (L.setIfInBounds 9 true) (a.put o.dst v) w':=by
 obtain ⟨q,q1,q2,q3⟩:=h.tmp h6
 have hown:=h.row0 hlist
 obtain ⟨v',w',hrun,o1,g1,-,at1⟩:=run_append_own_at (P:=Tryz.prog) W B 22 o.type 3 i0 (.int .i64 0) 1 8 Tryz.underlying22 hi hz hsize hby rfl (by decide) v0 zs.length _ hown ⟨q,0,none⟩ 1 1 [.int .i64 i] rfl (fun j u hu => by
   rw [Addr.add_lit]
   simp only [World.cell?,q2]
   simp at hu ⊢
   exact hu) (by simp [Value.oneCell']) (by simp only [maxLen]; omega) (by omega) (Nat.le_trans hB h.size)
 refine OpV.append (.tmp 34) (.tmp 36) 22 v0 _ v' hop hx q1 hrun ?_
 rw [hd]
 exact h.app h7 hl hs hb hv hvl (Orow.snoc (n:=0) o1 rfl) g1 at1
end
open Go.RowKit
def Gro (w w' : World) : Prop:=∃ q os,w' = Sort.grow (w.drewN q) os
theorem Gro.refl (w : World) : Gro w w:=⟨0,#[],by rw [Sort.grow_empty]; rfl⟩
theorem drewN_add (w : World) (p q : Nat) : (w.drewN p).drewN q = w.drewN (p + q):=by simp [World.drewN,Nat.add_assoc]
theorem Gro.trans {a b c : World} (h : Gro a b) (g : Gro b c) : Gro a c:=by
 obtain ⟨p,x,rfl⟩:=h
 obtain ⟨q,y,rfl⟩:=g
 refine ⟨p + q,x ++ y,?_⟩
 rw [show (Sort.grow (a.drewN p) x).drewN q = Sort.grow ((a.drewN p).drewN q) x from rfl,Sort.grow_grow,drewN_add]
theorem Gro.drew (w : World) : Gro w w.drew:=⟨1,#[],by rw [Sort.grow_empty]; rfl⟩
theorem Gro.alloc (w : World) (o : Obj) : Gro w (w.alloc o):=⟨0,#[o],by rw [Sort.alloc_eq_grow]; rfl⟩
theorem Gro.below {w w' : World} (h : Gro w w') : Below w.heap.size w w':=by
 obtain ⟨q,os,rfl⟩:=h
 exact ⟨rfl,rfl,rfl,by simp [World.drewN],fun b hb => Sort.heap_grow_old (w.drewN q) os hb⟩
theorem lift_gro {w : World} {p : Addr} {v : Value} (h : w.cell? p = some v) : ∀ W,Gro w W → W.cell? p = some v:=fun W hb => (hb.below.cell (World.block_lt_of_cell? w _ h)).trans h
def idCmp (a b : IdD) : Int:=orL [cmpI a.kind b.kind,cmpS a.text b.text]
set_option maxHeartbeats 1000000 in
set_option maxRecDepth 100000 in
theorem compareIds_g (a b : IdD) (w : World) : Calls Tryz.prog 36 #[.agg #[.int .i64 a.kind,.string a.text],.agg #[.int .i64 b.kind,.string b.text]] w fun e w' => e = .returned (.int .i64 (idCmp a b)) ∧ Gro w w':=by
 have hb:=Lib.hid ((Gro.alloc w (.cells #[.int .i64 a.kind,.string a.text] 55)).trans (Gro.alloc _ (.cells #[.int .i64 b.kind,.string b.text] 55)))
 have h1 : ((w.alloc (.cells #[.int .i64 a.kind,.string a.text] 55)).alloc (.cells #[.int .i64 b.kind,.string b.text] 55)).heap[w.heap.size]? = some (.cells #[.int .i64 a.kind,.string a.text] 55):=(heap_lt (by simp)).trans (heap_alloc_new _ _)
 have h2 : ((w.alloc (.cells #[.int .i64 a.kind,.string a.text] 55)).alloc (.cells #[.int .i64 b.kind,.string b.text] 55)).heap[w.heap.size + 1]? = some (.cells #[.int .i64 b.kind,.string b.text] 55):=heap_at (by simp)
 have H1:=Lib.hid h1
 have H2:=Lib.hid h2
 clear h1 h2
 go_enter Tryz.func36,Tryz.ntmps36
 go_wp2_with fail
 generalize (w.alloc (.cells #[.int .i64 a.kind,.string a.text] 55)).alloc (.cells #[.int .i64 b.kind,.string b.text] 55) = W2 at *
 have K0:=lift_gro (cell_h H1.out 0 (v:=.int .i64 a.kind) rfl)
 have K1:=lift_gro (cell_h H1.out 1 (v:=.string a.text) rfl)
 have J0:=lift_gro (cell_h H2.out 0 (v:=.int .i64 b.kind) rfl)
 have J1:=lift_gro (cell_h H2.out 1 (v:=.string b.text) rfl)
 clear H1 H2
 (refine wp_region_det 10 17 (fun W => Gro W2 W) (by kernel_rfl) (by kernel_rfl) (by rfl) (Gro.drew _) ?_; simp only [List.take_succ_cons,List.take_zero,List.drop_succ_cons,List.drop_zero])
 iterate 4 (refine detSeq_op rfl ?_ (fun W hW => ?_) ?_; rotate_left; (focus simp only [OpV]; go_simp; first | exact rfl | exact ⟨rfl,hW⟩))
 (refine detSeq_op rfl ?_ (fun W hW => ?_) ?_; rotate_left; focus (simp only [OpV]; go_simp; refine (cmpInt_any a.kind b.kind W).mono ?_; rintro e w' ⟨rfl,rfl⟩; refine ⟨_,rfl,?_,hW⟩; exact rfl))
 iterate 4 (refine detSeq_op rfl ?_ (fun W hW => ?_) ?_; rotate_left; (focus simp only [OpV]; go_simp; first | exact rfl | exact ⟨rfl,hW⟩))
 (refine detSeq_op rfl ?_ (fun W hW => ?_) ?_; rotate_left; focus (simp only [OpV]; go_simp; refine (cmpStr_any a.text b.text W).mono ?_; rintro e w' ⟨rfl,rfl⟩; refine ⟨_,rfl,?_,hW⟩; exact rfl))
 refine detSeq_nil (fun W3 hW3 => ?_)
 have HB3:=Lib.hid (hb.out.trans hW3)
 have HIN : Hid (Ints (W3.alloc (.cells #[.int .i64 (cmpI a.kind b.kind),.int .i64 (cmpS a.text b.text)] 3)) (some ⟨W3.heap.size,0,none⟩) [cmpI a.kind b.kind,cmpS a.text b.text]):=Ints.of_row (heap_at rfl) rfl
 have HQ : Hid (orL [cmpI a.kind b.kind,cmpS a.text b.text] = idCmp a b):=rfl
 clear K0 K1 J0 J1 hW3
 generalize cmpI a.kind b.kind = u at *
 generalize cmpS a.text b.text = v at *
 go_wp2_with fail
 refine (orL_any _ _ [u,v] _ HIN.out (by simp)).mono ?_
 rintro e w' ⟨rfl,rfl⟩
 generalize orL [u,v] = q at HQ ⊢
 have HB4:=Lib.hid (HB3.out.trans (Gro.alloc _ (.cells #[.int .i64 u,.int .i64 v] 3)))
 go_wp2_with fail
 go_ret
 exact ⟨ret_int HQ.out,HB4.out⟩
open Go.RowKit
structure CmpOk {D : Type} (f : D → D → Int) : Prop where
 swap : ∀ a b,f b a = - f a b
 trans : ∀ a b c,f a b ≤ 0 → f b c ≤ 0 → f a c ≤ 0
section
variable {D : Type} {f g : D → D → Int}
theorem CmpOk.or (hf : CmpOk f) (hg : CmpOk g) : CmpOk fun a b => orI (f a b) (g a b):=by
 refine ⟨fun a b => ?_,fun a b c h1 h2 => ?_⟩
 ·show orI (f b a) (g b a) = - orI (f a b) (g a b)
  unfold orI
  have h3:=hf.swap a b
  have h4:=hg.swap a b
  split <;> split <;> omega
 ·show orI (f a c) (g a c) ≤ 0
  change orI (f a b) (g a b) ≤ 0 at h1
  change orI (f b c) (g b c) ≤ 0 at h2
  unfold orI at h1 h2 ⊢
  have ht:=hf.trans a b c
  have hgt:=hg.trans a b c
  have s1:=hf.swap a b
  have s2:=hf.swap b c
  have s3:=hf.swap a c
  have t1:=hf.trans c a b
  have t2:=hf.trans b c a
  split at h1
  ·split at h2
   ·have : f a c = 0:=by
     have:=ht (by omega) (by omega)
     have:=hf.trans c b a (by omega) (by omega)
     omega
    rw [if_pos this]
    exact hgt h1 h2
   ·have : f a c ≤ 0:=ht (by omega) h2
    have : f a c ≠ 0:=fun e => by
     have:=t1 (by omega) (by omega)
     omega
    rw [if_neg this]; omega
  ·have h2' : f b c ≤ 0:=by split at h2 <;> omega
   have : f a c ≤ 0:=ht h1 h2'
   have : f a c ≠ 0:=fun e => by
    have:=t2 h2' (by omega)
    omega
   rw [if_neg this]; omega
theorem CmpOk.of {E : Type} {k : E → E → Int} (h : CmpOk k) (p : D → E) : CmpOk fun a b => k (p a) (p b):=⟨fun a b => h.swap _ _,fun a b c => h.trans _ _ _⟩
end
theorem cmpI_ok : CmpOk cmpI:=⟨fun a b => cmpI_swap a b,fun a b c h1 h2 => by
 have e : ∀ x y : Int,cmpI x y ≤ 0 ↔ x ≤ y:=fun x y => by
  have h1:=@cmpI_lt x y
  have h2:=@cmpI_zero x y
  omega
 rw [e] at *
 omega⟩
theorem cmpS_ok : CmpOk cmpS:=⟨fun a b => cmpS_swap a b,fun a b c h1 h2 => by
 rcases Int.lt_or_eq_of_le h2 with h | h
 ·have:=cmpS_le_trans h1 h; omega
 ·rw [← cmpS_zero h]; exact h1⟩
theorem idCmp_eq (a b : IdD) : idCmp a b = orI (cmpI a.kind b.kind) (cmpS a.text b.text):=orL_two _ _
theorem idCmp_ok : CmpOk idCmp:=by
 have h:=(cmpI_ok.of (D:=IdD) IdD.kind).or (cmpS_ok.of (D:=IdD) IdD.text)
 have e : idCmp = fun a b => orI (cmpI a.kind b.kind) (cmpS a.text b.text):=by funext a b; exact idCmp_eq a b
 rw [e]
 exact h
theorem orI_zero {a b : Int} : orI a b = 0 ↔ a = 0 ∧ b = 0:=by
 unfold orI
 split
 ·rename_i h; simp [h]
 ·rename_i h; simp [h]
open Go.RowKit
structure TchD where
 no : Int
 at_ : Int
 source : ByteArray
 ia : Option Addr
 ic : Nat
 ids : List IdD
 fa : Option Addr
 fc : Nat
 fields : List FD
def fTch (t : TchD) : Nat → Value
 | 0 => .int .i64 t.no
 | 1 => .int .i64 t.at_
 | 2 => .string t.source
 | 3 => .slice t.ia t.ids.length t.ic
 | _ => .slice t.fa t.fields.length t.fc
def TchIn (H : Frz) (A : Option Addr) (ts : List TchD) : Prop:=Rw H A 5 fTch ts ∧ ∀ t ∈ ts,Rw H t.ia 2 fId t.ids ∧ Rw H t.fa 4 fFd t.fields
theorem TchIn.le {H H' : Frz} {A : Option Addr} {ts : List TchD} (h : TchIn H A ts) (hl : H.Le H') : TchIn H' A ts:=⟨h.1.le hl,fun t ht => ⟨(h.2 t ht).1.le hl,(h.2 t ht).2.le hl⟩⟩
structure SurD where
 name : ByteArray
 how : Int
 sa : Option Addr
 sc : Nat
 srcs : List ByteArray
def fSur (s : SurD) : Nat → Value
 | 0 => .string s.name
 | 1 => .int .i64 s.how
 | _ => .slice s.sa s.srcs.length s.sc
structure RulD where
 ka : Option Addr
 kc : Nat
 kinds : List Int
 most : Int
 wa : Option Addr
 wc : Nat
 weaks : List IdD
 sa : Option Addr
 sc : Nat
 surs : List SurD
structure RulIn (H : Frz) (r : RulD) : Prop where
 k : Rw H r.ka 1 fI r.kinds
 w : Rw H r.wa 2 fId r.weaks
 u : Rw H r.sa 3 fSur r.surs
 s : ∀ x ∈ r.surs,Rw H x.sa 1 fS x.srcs
theorem RulIn.le {H H' : Frz} {r : RulD} (h : RulIn H r) (hl : H.Le H') : RulIn H' r:=⟨h.k.le hl,h.w.le hl,h.u.le hl,fun x hx => (h.s x hx).le hl⟩
def idO1 (ids : List IdD) (i : Nat) : Int:=match ids[i]? with
 | none => 0
 | some x => if idErr x.kind x.text ≠ 0 then idErr x.kind x.text else if 0 < i ∧ idCmp x (ids.getD (i - 1) x) ≤ 0 then 7 else 0
def idsO (ids : List IdD) : Int:=fstErr (idO1 ids) ids.length
def fd1 (ok : ByteArray → Bool) (fs : List FD) (i : Nat) : Int:=match fs[i]? with
 | none => 0
 | some f => if isKey f.name = false then 5 else if valErr ok f.v ≠ 0 then valErr ok f.v else if 0 < i ∧ 0 ≤ cmpS (fs.getD (i - 1) f).name f.name then 7 else 0
def fdsE (ok : ByteArray → Bool) (fs : List FD) : Int:=if 30 < fs.length then 2 else fstErr (fd1 ok fs) fs.length
def tchE (ok : ByteArray → Bool) (t : TchD) (before : Int) : Int :=
 if ¬ (1 ≤ t.no ∧ t.no ≤ 1000000) then 1 else if ¬ (0 ≤ t.at_ ∧ t.at_ ≤ 4321439) then 1 else if t.no ≤ before then 7 else if isKey t.source = false then 5 else if t.ids.length = 0 then 3 else if 10 < t.ids.length then 2
 else if idsO t.ids ≠ 0 then idsO t.ids else fdsE ok t.fields
def prevNo (ts : List TchD) : Nat → Int
 | 0 => 0
 | i + 1 => match ts[i]? with | none => 0 | some t => t.no
def tch1 (ok : ByteArray → Bool) (ts : List TchD) (i : Nat) : Int:=match ts[i]? with
 | none => 0
 | some t => tchE ok t (prevNo ts i)
def tchsE (ok : ByteArray → Bool) (ts : List TchD) : Int:=if 2000 < ts.length then 2 else fstErr (tch1 ok ts) ts.length
def src1 (ss : List ByteArray) (i : Nat) : Int:=match ss[i]? with
 | none => 0
 | some s => if isKey s = false then 5 else if (ss.take i).any (eqS s) = true then 6 else 0
def srcsE (s : SurD) : Int:=if 0 < s.srcs.length ∧ s.how ≠ 5 then 3 else if 20 < s.srcs.length then 2 else fstErr (src1 s.srcs) s.srcs.length
def sur1 (us : List SurD) (i : Nat) : Int:=match us[i]? with
 | none => 0
 | some s => if isKey s.name = false then 5 else if ¬ (1 ≤ s.how ∧ s.how ≤ 7) then 4 else if srcsE s ≠ 0 then srcsE s else if 0 < i ∧ 0 ≤ cmpS (us.getD (i - 1) s).name s.name then 7 else 0
def sursE (us : List SurD) : Int:=if 30 < us.length then 2 else fstErr (sur1 us) us.length
def kd1 (ks : List Int) (i : Nat) : Int:=match ks[i]? with
 | none => 0
 | some k => if ¬ (1 ≤ k ∧ k ≤ 4) then 4 else if 0 < i ∧ k ≤ ks.getD (i - 1) k then 7 else 0
def kdsE (ks : List Int) : Int:=if ks.length = 0 then 3 else fstErr (kd1 ks) ks.length
def rulE (r : RulD) : Int:=if kdsE r.kinds ≠ 0 then kdsE r.kinds else if ¬ (2 ≤ r.most ∧ r.most ≤ 2000) then 1 else if 200 < r.weaks.length then 2 else if idsO r.weaks ≠ 0 then idsO r.weaks else sursE r.surs
def hasId (ids : List IdD) (x : IdD) : Bool:=ids.any (eqId x)
theorem hasId_iff {ids : List IdD} {x : IdD} : hasId ids x = true ↔ x ∈ ids:=by
 unfold hasId
 rw [List.any_eq_true]
 exact ⟨fun ⟨y,h,e⟩ => by rw [eqId_iff.1 e]; exact h,fun h => ⟨x,h,eqId_self x⟩⟩
def manyId (ts : List TchD) (x : IdD) : Nat:=(ts.filter fun t => hasId t.ids x).length
def joinsD (kinds : List Int) (most : Int) (weak : List IdD) (ts : List TchD) (x : IdD) : Bool :=
 !hasId weak x && kinds.contains x.kind && decide ((manyId ts x : Int) ≤ most)
def Share (J : IdD → Bool) (ts : List TchD) (i j : Nat) : Prop:=∃ (hi : i < ts.length) (hj : j < ts.length) (x : IdD),J x = true ∧ hasId ts[i].ids x = true ∧ hasId ts[j].ids x = true
theorem manyId_snoc (ts : List TchD) (t : TchD) (x : IdD) : manyId (ts ++ [t]) x = manyId ts x + if hasId t.ids x = true then 1 else 0:=by
 unfold manyId
 rw [List.filter_append,List.length_append]
 congr 1
 by_cases h : hasId t.ids x = true
 ·rw [if_pos h,List.filter_cons_of_pos (by simpa using h)]; rfl
 ·rw [if_neg h,List.filter_cons_of_neg (by simpa using h)]; rfl
theorem Share.more {J J' : IdD → Bool} {ts : List TchD} {t : TchD} (hJ : ∀ x,J x = true → J' x = true) (i j : Nat) (h : Share J ts i j) : Share J' (ts ++ [t]) i j:=by
 obtain ⟨hi,hj,x,h1,h2,h3⟩:=h
 refine ⟨by simp; omega,by simp; omega,x,hJ x h1,?_,?_⟩
 ·rw [List.getElem_append_left hi]; exact h2
 ·rw [List.getElem_append_left hj]; exact h3
def posN (ts : List TchD) (x : IdD) (n : Nat) : List Int:=((List.range n).filter fun i => match ts[i]? with | none => false | some t => hasId t.ids x).map (fun i : Nat => (i : Int))
def posL (ts : List TchD) (x : IdD) : List Int:=posN ts x ts.length
structure PerD where
 key : IdD
 na : Option Addr
 nc : Nat
 nos : List Int
 ia : Option Addr
 ic : Nat
 ids : List IdD
def fPer (p : PerD) : Nat → Value
 | 0 => .int .i64 p.key.kind
 | 1 => .string p.key.text
 | 2 => .slice p.na p.nos.length p.nc
 | _ => .slice p.ia p.ids.length p.ic
def PerIn (H : Frz) (A : Option Addr) (ps : List PerD) : Prop:=Rw H A 4 fPer ps ∧ ∀ p ∈ ps,Rw H p.na 1 fI p.nos ∧ Rw H p.ia 2 fId p.ids
def zeroId : IdD:=⟨0,⟨#[]⟩⟩
def keyF (J : IdD → Bool) (ids : List IdD) : IdD:=(ids.find? J).getD (ids.headD zeroId)
structure PersAre (J : IdD → Bool) (ts : List TchD) (rep : Nat → Nat) (ps : List PerD) : Prop where
 tied : ∀ i j,rep i = rep j ↔ Tied (Share J ts) i j
 low : ∀ i,rep i ≤ i
 idem : ∀ i,rep (rep i) = rep i
 all : ps.map (fun p => (p.key,p.nos)) = ((List.range ts.length).filter fun i => rep i == i).map fun r => (keyF J ((ts.getD r ⟨0,0,⟨#[]⟩,none,0,[],none,0,[]⟩).ids),((List.range ts.length).filter fun i => rep i == r).map fun i => (ts.getD i ⟨0,0,⟨#[]⟩,none,0,[],none,0,[]⟩).no)
 ids : ∀ p ∈ ps,(p.ids.Pairwise fun a b => idCmp a b < 0) ∧ ∀ x,x ∈ p.ids ↔ ∃ t ∈ ts,t.no ∈ p.nos ∧ x ∈ t.ids
end Go.Proofs.YtbidhpgjmcedaaaGreatDoor
