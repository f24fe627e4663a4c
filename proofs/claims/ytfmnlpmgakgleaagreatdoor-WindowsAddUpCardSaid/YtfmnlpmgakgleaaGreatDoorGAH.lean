/- Texts of this claim, put together: OrdPI, FI, PersP, Make, Orow, LwMore, AppG, MakeG. -/
import Derived.Test.YtfmnlpmgakgleaaGreatDoorGAG
import Derived.Test.YtfmnlpmgakgleaaGreatDoorGAC
import Derived.Test.YtfmnlpmgakgleaaGreatDoorGAB
import Derived.Test.YtfmnlpmgakgleaaGreatDoorGAF
import Derived.Test.YtfmnlpmgakgleaaGreatDoorGAD
import Derived.Test.YtfmnlpmgakgleaaGreatDoorGAE
import Derived.ArgAppend
namespace Go.Proofs.YtfmnlpmgakgleaaGreatDoor
set_option linter.unusedVariables false
open Go.RowKit
structure CmpOk {D:Type} (f:D → D → Int):Prop where
 swap:∀ a b,f b a = - f a b
 trans:∀ a b c,f a b ≤ 0 → f b c ≤ 0 → f a c ≤ 0
section
variable {D:Type} {f g:D → D → Int}
theorem CmpOk.or (hf:CmpOk f) (hg:CmpOk g):CmpOk fun a b => orI (f a b) (g a b):=by
 refine ⟨fun a b => ?_,fun a b c h1 h2 => ?_⟩
 ·show orI (f b a) (g b a) = - orI (f a b) (g a b)
  unfold orI
  have h3:=hf.swap a b
  have h4:=hg.swap a b
  split <;> split <;> omega
 ·show orI (f a c) (g a c) ≤ 0
  change orI (f a b) (g a b) ≤ 0 at h1
  change orI (f b c) (g b c) ≤ 0 at h2
  unfold orI at h1 h2 ⊢
  have ht:=hf.trans a b c
  have hgt:=hg.trans a b c
  have s1:=hf.swap a b
  have s2:=hf.swap b c
  have s3:=hf.swap a c
  have t1:=hf.trans c a b
  have t2:=hf.trans b c a
  split at h1
  ·split at h2
   ·have:f a c = 0:=by
     have:=ht (by omega) (by omega)
     have:=hf.trans c b a (by omega) (by omega)
     omega
    rw [if_pos this]
    exact hgt h1 h2
   ·have:f a c ≤ 0:=ht (by omega) h2
    have:f a c ≠ 0:=fun e => by
     have:=t1 (by omega) (by omega)
     omega
    rw [if_neg this];omega
  ·have h2':f b c ≤ 0:=by split at h2 <;> omega
   have:f a c ≤ 0:=ht h1 h2'
   have:f a c ≠ 0:=fun e => by
    have:=t2 h2' (by omega)
    omega
   rw [if_neg this];omega
theorem CmpOk.of {E:Type} {k:E → E → Int} (h:CmpOk k) (p:D → E):CmpOk fun a b => k (p a) (p b):=⟨fun a b => h.swap _ _,fun a b c => h.trans _ _ _⟩
end
theorem cmpS_ok:CmpOk cmpS:=⟨fun a b => cmpS_swap a b,fun a b c h1 h2 => by
 rcases Int.lt_or_eq_of_le h2 with h | h
 ·have:=cmpS_le_trans h1 h;omega
 ·rw [← cmpS_zero h];exact h1⟩
theorem chainP {D:Type} {R:D → D → Prop} (ht:∀ a b c,R a b → R b c → R a c) {l:List D} (h:∀ i (h1:i + 1 < l.length),R l[i] l[i + 1]):l.Pairwise R:=by
 rw [List.pairwise_iff_getElem]
 intro i j hi hj hij
 have:∀ k,(hk:i + k + 1 < l.length) → R l[i] l[i + k + 1]:=by
  intro k
  induction k with
  | zero => intro hk;exact h i hk
  | succ k ih =>
   intro hk
   exact ht _ _ _ (ih (by omega)) (h (i + k + 1) hk)
 have h2:=this (j - i - 1) (by omega)
 have e:i + (j - i - 1) + 1 = j:=by omega
 simp only [e] at h2
 exact h2
open Go.RowKit
def fI (z:Int) (_:Nat):Value:=.int .i64 z
theorem cellsOf_fI (zs:List Int):cellsOf 1 fI zs = zs.map (Value.int .i64):=by
 unfold cellsOf
 induction zs with
 | nil => rfl
 | cons z zs ih => rw [List.flatMap_cons,ih];rfl
open Go.RowKit
structure TchD where
 no:Int
 at_:Int
 source:ByteArray
 ia:Option Addr
 ic:Nat
 ids:List IdD
 fa:Option Addr
 fc:Nat
 fields:List FD
def fTch (t:TchD):Nat → Value
 | 0 => .int .i64 t.no
 | 1 => .int .i64 t.at_
 | 2 => .string t.source
 | 3 => .slice t.ia t.ids.length t.ic
 | _ => .slice t.fa t.fields.length t.fc
def TchIn (H:Frz) (A:Option Addr) (ts:List TchD):Prop:=Rw H A 5 fTch ts ∧ ∀ t ∈ ts,Rw H t.ia 2 fId t.ids ∧ Rw H t.fa 4 fFd t.fields
theorem TchIn.le {H H':Frz} {A:Option Addr} {ts:List TchD} (h:TchIn H A ts) (hl:H.Le H'):TchIn H' A ts:=⟨h.1.le hl,fun t ht => ⟨(h.2 t ht).1.le hl,(h.2 t ht).2.le hl⟩⟩
structure SurD where
 name:ByteArray
 how:Int
 sa:Option Addr
 sc:Nat
 srcs:List ByteArray
def fSur (s:SurD):Nat → Value
 | 0 => .string s.name
 | 1 => .int .i64 s.how
 | _ => .slice s.sa s.srcs.length s.sc
structure RulD where
 ka:Option Addr
 kc:Nat
 kinds:List Int
 most:Int
 wa:Option Addr
 wc:Nat
 weaks:List IdD
 sa:Option Addr
 sc:Nat
 surs:List SurD
structure RulIn (H:Frz) (r:RulD):Prop where
 k:Rw H r.ka 1 fI r.kinds
 w:Rw H r.wa 2 fId r.weaks
 u:Rw H r.sa 3 fSur r.surs
 s:∀ x ∈ r.surs,Rw H x.sa 1 fS x.srcs
theorem RulIn.le {H H':Frz} {r:RulD} (h:RulIn H r) (hl:H.Le H'):RulIn H' r:=⟨h.k.le hl,h.w.le hl,h.u.le hl,fun x hx => (h.s x hx).le hl⟩
def fd1 (ok:ByteArray → Bool) (fs:List FD) (i:Nat):Int:=match fs[i]? with
 | none => 0
 | some f => if isKey f.name = false then 5 else if valErr ok f.v ≠ 0 then valErr ok f.v else if 0 < i ∧ 0 ≤ cmpS (fs.getD (i - 1) f).name f.name then 7 else 0
def fdsE (ok:ByteArray → Bool) (fs:List FD):Int:=if 30 < fs.length then 2 else fstErr (fd1 ok fs) fs.length
def hasId (ids:List IdD) (x:IdD):Bool:=ids.any (eqId x)
def Share (J:IdD → Bool) (ts:List TchD) (i j:Nat):Prop:=∃ (hi:i < ts.length) (hj:j < ts.length) (x:IdD),J x = true ∧ hasId ts[i].ids x = true ∧ hasId ts[j].ids x = true
theorem Share.more {J J':IdD → Bool} {ts:List TchD} {t:TchD} (hJ:∀ x,J x = true → J' x = true) (i j:Nat) (h:Share J ts i j):Share J' (ts ++ [t]) i j:=by
 obtain ⟨hi,hj,x,h1,h2,h3⟩:=h
 refine ⟨by simp;omega,by simp;omega,x,hJ x h1,?_,?_⟩
 ·rw [List.getElem_append_left hi];exact h2
 ·rw [List.getElem_append_left hj];exact h3
structure PerD where
 key:IdD
 na:Option Addr
 nc:Nat
 nos:List Int
 ia:Option Addr
 ic:Nat
 ids:List IdD
def zeroId:IdD:=⟨0,⟨#[]⟩⟩
def keyF (J:IdD → Bool) (ids:List IdD):IdD:=(ids.find? J).getD (ids.headD zeroId)
structure PersAre (J:IdD → Bool) (ts:List TchD) (rep:Nat → Nat) (ps:List PerD):Prop where
 tied:∀ i j,rep i = rep j ↔ Tied (Share J ts) i j
 low:∀ i,rep i ≤ i
 idem:∀ i,rep (rep i) = rep i
 all:ps.map (fun p => (p.key,p.nos)) = ((List.range ts.length).filter fun i => rep i == i).map fun r => (keyF J ((ts.getD r ⟨0,0,⟨#[]⟩,none,0,[],none,0,[]⟩).ids),((List.range ts.length).filter fun i => rep i == r).map fun i => (ts.getD i ⟨0,0,⟨#[]⟩,none,0,[],none,0,[]⟩).no)
 ids:∀ p ∈ ps,(p.ids.Pairwise fun a b => idCmp a b < 0) ∧ ∀ x,x ∈ p.ids ↔ ∃ t ∈ ts,t.no ∈ p.nos ∧ x ∈ t.ids
open Go.RowKit
def StrsW (w:World) (A:Option Addr) (ss:List ByteArray):Prop:=∀ i (h:i < ss.length),∃ b off,A = some ⟨b,off,none⟩ ∧ w.cell? ⟨b,off + i,none⟩ = some (.string ss[i])
theorem StrsW.of_row {w:World} {n:Nat} {T:TypeId} {f:Nat × Nat} {ss:List ByteArray} {cs:Array Value} (h:w.heap[n]? = some (.cells cs T f)) (hc:cs = (ss.map Value.string).toArray):StrsW w (some ⟨n,0,none⟩) ss:=by
 intro i hi
 refine ⟨n,0,rfl,?_⟩
 simp only [World.cell?,h,hc]
 simp [hi]
section
variable {w W:World} {bs K:Nat} {H:Frz}
set_option maxHeartbeats 400000 in
theorem Lw.one (h:Lw w bs K H W) (A:Option Addr) (cap:Nat) (ss:List ByteArray) (hA:StrsW W A ss) (hne:∀ b off,A = some ⟨b,off,none⟩ → b ≠ bs)
  (h0:0 < ss.length) (hl:ss.length ≤ 1000000) (hK:K ≤ 1099511627776) :
  Calls Tryz.prog 149 #[.pointer (some ⟨bs,0,none⟩),.slice A ss.length cap] W fun e W' =>
   ∃ s:ByteArray,e = .returned (.string s) ∧ s ∈ ss ∧ Lw w bs (K + 1) H W' ∧ W.grownBy W' (some bs) ∧ W'.heap.size = W.heap.size:=by
 have HA:=Lib.hid hA
 have HN:=Lib.hid hne
 clear hA hne
 go_enter Tryz.func149,Tryz.ntmps149
 go_wp2_with fail
 refine (h.next' _ hK (by omega) (by omega)).mono ?_
 rintro e W' ⟨r,rfl,r0,r1,L,g,hz⟩
 obtain ⟨i,rfl⟩:=Int.eq_ofNat_of_zero_le r0
 have hi:i < ss.length:=by omega
 obtain ⟨b,off,rfl,hc⟩:=HA.out i hi
 have hc':=(World.cell?_of_block (a:=⟨b,off + i,none⟩) (g.block b (World.block_lt_of_cell? W _ hc) (fun e => HN.out b off rfl (by injection e)))).trans hc
 have hm:=Lib.hid (List.getElem_mem hi)
 have HG:=Lib.hid g
 have HZ:=Lib.hid hz
 generalize ss[i] = z at hc' hm
 clear hc g hz
 go_wp2_with fail
 go_ret
 exact ⟨z,rfl,hm.out,L,HG.out,HZ.out⟩
end
open Go.RowKit
section
variable {D:Type} {w:World} {g T k B:Nat} {f:D → Nat → Value} {ds:List D} {rest:List Value} {v:Value}
theorem cellsOf_set (i j:Nat) (hi:i < ds.length) (hj:j < k) {d':D} {x:Value} (hx:f d' j = x) (ho:∀ m,m < k → m ≠ j → f d' m = f ds[i] m):(cellsOf k f ds).set (i * k + j) x = cellsOf k f (ds.set i d'):=by
 have e1:ds.set i d' = ds.take i ++ d' :: ds.drop (i + 1):=List.set_eq_take_append_cons_drop .. |>.trans (by rw [if_pos hi])
 have l1:(cellsOf k f (ds.take i)).length = i * k:=by rw [cellsOf_len,List.length_take];congr 1;omega
 have e3:cellsOf k f ds = cellsOf k f (ds.take i) ++ ((List.range k).map (f ds[i]) ++ cellsOf k f (ds.drop (i + 1))):=by
  have h3:cellsOf k f ds = cellsOf k f (ds.take i ++ ds.drop i):=by rw [List.take_append_drop]
  rw [h3,cellsOf_split]
  congr 1
  rw [List.drop_eq_getElem_cons hi]
  rfl
 have e4:cellsOf k f (ds.take i ++ d' :: ds.drop (i + 1)) = cellsOf k f (ds.take i) ++ ((List.range k).map (f d') ++ cellsOf k f (ds.drop (i + 1))):=by
  rw [cellsOf_split]
  rfl
 rw [e1,e4,e3,List.set_append_right _ _ (by rw [l1];omega),l1,show i * k + j - i * k = j from by omega,List.set_append_left _ _ (by simpa using hj)]
 congr 2
 apply List.ext_getElem
 ·simp
 ·intro n h1 h2
  simp at h1 h2
  by_cases e:n = j
  ·subst e;simp [hx]
  ·rw [List.getElem_set_ne (by omega)]
   simp
   exact (ho n h1 e).symm
theorem KBlk.upd (h:KBlk w g T k f ds rest) (i j:Nat) (hi:i < ds.length) (hj:j < k) {d':D} {x:Value} (hx:f d' j = x) (ho:∀ m,m < k → m ≠ j → f d' m = f ds[i] m):KBlk (w.setCell ⟨g,i * k + j,none⟩ x) g T k f (ds.set i d') rest:=by
 unfold KBlk at h ⊢
 have hlt:=(List.getElem?_eq_some_iff.1 (cellsOf_get k f ds i j hi hj)).1
 simp only [World.setCell,Array.getElem?_modify,h]
 simp [List.set_append_left _ _ hlt,cellsOf_set i j hi hj hx ho]
theorem Orow.form (h:Orow w B T k f v ds) (hne:ds ≠ []):∃ g cap rest,v = .slice (some ⟨g,0,none⟩) ds.length cap ∧ ds.length ≤ cap ∧ B ≤ g ∧ g < w.heap.size ∧ cap ≤ maxLen ∧ KBlk w g T k f ds rest ∧ rest.length = cap * k - ds.length * k:=by
 rcases h.2 with ⟨_,hl⟩ | ⟨g,cap,cur,hv,hB,hh,hle,hm,hs,ht⟩
 ·exact absurd (List.eq_nil_of_length_eq_zero hl) hne
 ·refine ⟨g,cap,cur.toList.drop (ds.length * k),hv,hle,hB,lt_of_heap hh,hm,?_,by simp [hs]⟩
  unfold KBlk
  rw [← ht,List.take_append_drop]
  exact hh
theorem Orow.of_blk {cap:Nat} (h:KBlk w g T k f ds rest) (hB:B ≤ g) (hm:cap ≤ maxLen) (hle:ds.length ≤ cap) (hr:rest.length = cap * k - ds.length * k):Orow w B T k f (.slice (some ⟨g,0,none⟩) ds.length cap) ds:=by
 refine ⟨by rw [cellsOf_len],Or.inr ⟨g,cap,_,rfl,hB,h,hle,hm,?_,?_⟩⟩
 ·have:=Nat.mul_le_mul_right k hle
  simp [cellsOf_len,hr];omega
 ·simp
  rw [List.take_left' (by rw [cellsOf_len])]
theorem Orow.freezeN (h:Orow w B T k f v ds) (H:Frz) :
  ∃ (A:Option Addr) (cap:Nat) (H':Frz),v = .slice A ds.length cap ∧ ds.length ≤ cap ∧ (H.In w → H'.In w) ∧ ((∀ g,v.ownBlock = some g → H g = none) → H.Le H') ∧ Rw H' A k f ds ∧ (∀ b,v.ownBlock ≠ some b → H' b = H b):=by
 rcases h.2 with ⟨rfl,hn⟩ | ⟨g,cap,cur,rfl,hB,hh,hle,hm,hs,ht⟩
 ·have:ds = []:=List.eq_nil_of_length_eq_zero hn
  subst this
  exact ⟨none,0,H,rfl,Nat.le_refl _,id,fun _ => Frz.Le.refl _,Rw.nil,fun _ _ => rfl⟩
 ·refine ⟨some ⟨g,0,none⟩,cap,H.add g (.cells cur T (0,0)),rfl,hle,fun hI => hI.add hh,fun hN => Frz.le_add (hN g rfl),?_,fun b hb => Frz.add_other (fun e => hb (by rw [e];rfl))⟩
  intro i hi
  refine ⟨g,0,rfl,fun j hj => ?_⟩
  have hx:=cellsOf_get k f ds i j hi hj
  rw [← ht] at hx
  have hlt:i * k + j < ds.length * k:=by
   have:(i + 1) * k ≤ ds.length * k:=Nat.mul_le_mul_right _ hi
   rw [Nat.succ_mul] at this;omega
  rw [List.getElem?_take_of_lt hlt] at hx
  unfold Frz.cell?
  rw [show (⟨g,0 + i * k + j,none⟩:Addr).block = g from rfl,Frz.add_at]
  simpa using hx
theorem KBlk.cell1 (h:KBlk w g T 1 f ds rest) (i:Nat) (hi:i < ds.length):w.cell? ⟨g,i,none⟩ = some (f ds[i] 0):=by simpa using h.cell i 0 hi (by omega)
theorem KBlk.set1 (h:KBlk w g T 1 f ds rest) (i:Nat) (hi:i < ds.length) (d':D):KBlk (w.setCell ⟨g,i,none⟩ (f d' 0)) g T 1 f (ds.set i d') rest:=by
 have:=h.upd i 0 hi (by omega) (d':=d') rfl (fun m hm hne => absurd hm (by omega))
 simpa using this
theorem KBlk.other (h:KBlk w g T k f ds rest) {a:Addr} (hne:a.block ≠ g) (u:Value):KBlk (w.setCell a u) g T k f ds rest :=
 (Below.heap_setCell w a u g (fun e => hne e.symm)).trans h
end
open Go.RowKit
section
variable {w W W':World} {bs K:Nat} {H:Frz}
theorem Lw.grown (h:Lw w bs K H W) {row:Option Nat} (hg:W.grownBy W' row) (hr:∀ g,row = some g → bs < g ∧ H g = none):Lw w bs K H W' :=
 ⟨h.st.below ((Below.refl (bs + 1) W).grown hg h.lt (fun k hk => (hr k hk).1)),h.bel.grown hg h.bel.size (fun k hk => by have:=(hr k hk).1;have:=h.le;omega),h.le,h.fin.grown' hg (fun g hg => (hr g hg).2),h.apart⟩
end
open Go.RowKit
theorem OpV.append {P:Program} {o:Oper} {a:Act} {w w':World} {R:Value → World → Prop} (s x:Operand) (t:TypeId) (vs vx v':Value) (hop:o.op = .call { callee:=.builtin .append,args:=#[s,x],argTypes:=#[t,t] })
  (hs:a.eval s = vs) (hx:a.eval x = vx) (hrun:(Builtin.append_ #[t,t] o.type #[vs,vx]).run P w = .ok v' w') (h:R v' w'):OpV P o a.eval w R:=by
 unfold OpV
 simp [execOp,hop,resolve,invoke,builtin,hs,hx,hrun,Result.andThen]
 exact h
open Go.RowKit
def RM {D:Type} (T k:Nat) (f:D → Nat → Value) (w:World) (bs K:Nat) (H:Frz) (B:Nat) (v:Value) (ds:List D) (wr:World):Prop :=
 Lw w bs K H wr ∧ Orow wr B T k f v ds ∧ (∀ g,v.ownBlock = some g → H g = none) ∧ bs < B ∧ B ≤ wr.heap.size
theorem grown_alloc {w:World} (o:Obj) (row:Option Nat):w.grownBy (w.alloc o) row:=⟨rfl,rfl,rfl,by simp,fun k hk _ => heap_lt hk⟩
section
variable {D:Type} {T k:Nat} {f:D → Nat → Value} {w wr W':World} {bs K K' B:Nat} {H H':Frz} {v v':Value} {ds ds':List D}
theorem RM.new (h:Lw w bs K H wr):RM T k f w bs K H wr.heap.size (.slice none 0 0) [] wr:=⟨h,Orow.nil _ _ _ _ _,(fun g hg => by cases hg),h.lt,Nat.le_refl _⟩
theorem RM.lw (h:RM T k f w bs K H B v ds wr):Lw w bs K H wr:=h.1
theorem RM.row (h:RM T k f w bs K H B v ds wr):Orow wr B T k f v ds:=h.2.1
theorem RM.asked (h:RM T k f w bs K H B v ds wr) (L:Lw w bs K' H W') (g:wr.grownBy W' (some bs)):RM T k f w bs K' H B v ds W' :=
 ⟨L,h.2.1.far g h.2.2.2.1,h.2.2.1,h.2.2.2.1,Nat.le_trans h.2.2.2.2 g.size⟩
theorem RM.more (h:RM T k f w bs K H B v ds wr) (hK:K ≤ K'):RM T k f w bs K' H B v ds wr:=⟨h.1.more hK,h.2⟩
theorem RM.call (h:RM T k f w bs K H B v ds wr) (hb:Below wr.heap.size wr W'):RM T k f w bs K H B v ds W' :=
 ⟨h.1.call hb,h.2.1.below hb,h.2.2.1,h.2.2.2.1,Nat.le_trans h.2.2.2.2 hb.size⟩
theorem RM.alloc (h:RM T k f w bs K H B v ds wr) (o:Obj):RM T k f w bs K H B v ds (wr.alloc o):=h.call ((Below.refl _ _).alloc (Nat.le_refl _) _)
theorem RM.put (h:RM T k f w bs K H B v ds wr) (o:Obj):∃ H',H.Le H' ∧ H' wr.heap.size = some o ∧ RM T k f w bs K H' B v ds (wr.alloc o):=by
 refine ⟨H.add wr.heap.size o,Frz.le_add (h.1.fin.none_ (Nat.le_refl _)),Frz.add_at _ _ _,(h.1.alloc o).keep (heap_at rfl) (by have:=h.1.lt;omega),(h.alloc o).2.1,?_,(h.alloc o).2.2.2⟩
 intro g hg
 rw [Frz.add_other (by have:=(h.2.1.lt hg).2;omega)]
 exact h.2.2.1 g hg
theorem RM.app (h:RM T k f w bs K H B v ds wr) (o:Orow W' B T k f v' ds') (g1:wr.grownBy W' v.ownBlock) (at1:v'.ownBlock = v.ownBlock ∨ ∃ g,v'.ownBlock = some g ∧ wr.heap.size < g):RM T k f w bs K H B v' ds' W':=by
 have hown:∀ q,v.ownBlock = some q → bs < q ∧ H q = none:=fun q hq => ⟨by have:=(h.2.1.lt hq).1;have:=h.2.2.2.1;omega,h.2.2.1 q hq⟩
 refine ⟨h.1.grown g1 hown,o,?_,h.2.2.2.1,Nat.le_trans h.2.2.2.2 g1.size⟩
 intro q hq
 rcases at1 with at1 | ⟨g,at1,hg⟩
 ·exact (hown q (by rw [← at1];exact hq)).2
 ·rw [at1] at hq
  injection hq with hq
  exact h.1.fin.none_ (by omega)
theorem RM.upd {go capg:Nat} (h:RM T k f w bs K H B (.slice (some ⟨go,0,none⟩) ds.length capg) ds wr) {p:Nat} (hp:p < ds.length) {j:Nat} (hj:j < k) (d':D) {x:Value} (hx:f d' j = x) (ho:∀ m,m < k → m ≠ j → f d' m = f ds[p] m) :
  wr.cell? ⟨go,p * k + j,none⟩ = some (f ds[p] j) ∧ wr.frozen? ⟨go,p * k + j,none⟩ = false ∧ RM T k f w bs K H B (.slice (some ⟨go,0,none⟩) ds.length capg) (ds.set p d') (wr.setCell ⟨go,p * k + j,none⟩ x):=by
 have hne:ds ≠ []:=by intro e;rw [e] at hp;simp at hp
 obtain ⟨g',cap',rest,hv,hle',hB',hlt,hm',hblk,hr⟩:=h.2.1.form hne
 injection hv with e1 _ e2
 injection e1 with e1
 injection e1 with e1
 subst e1 e2
 have hnone:H go = none:=h.2.2.1 go rfl
 refine ⟨hblk.cell p j hp hj,hblk.frozen _,h.1.setCell (p:=⟨go,p * k + j,none⟩) (by show bs < go;have:=h.2.2.2.1;omega) hnone _,?_,h.2.2.1,h.2.2.2.1,by have:=h.2.2.2.2;simpa [World.setCell] using this⟩
 have:=Orow.of_blk (B:=B) (hblk.upd p j hp hj hx ho) hB' hm' (by simpa using hle') (by simpa using hr)
 simpa using this
end
end Go.Proofs.YtfmnlpmgakgleaaGreatDoor
