/- Texts of this claim, put together: RG, MakeEv. -/
import Derived.Test.YtfmnlpmgakgleaaGreatDoorGAJ
import Derived.Test.YtfmnlpmgakgleaaGreatDoorGAH
import Derived.Test.YtfmnlpmgakgleaaGreatDoorGAK
import Derived.Test.YtfmnlpmgakgleaaGreatDoorGAI
import Derived.Test.YtfmnlpmgakgleaaGreatDoorGAF
import Derived.Laws.Rows
import Derived.Deep.CutBlock
import Derived.Deep.DeepCutAuto
namespace Go.Proofs.YtfmnlpmgakgleaaGreatDoor
set_option linter.unusedVariables false
open Go.RowKit
def RG {D:Type} (T k:Nat) (f:D → Nat → Value) (w:World) (bs K:Nat) (H:Frz) (W:World) (v:Value) (ds:List D) (wr:World):Prop:=RM T k f w bs K H W.heap.size v ds wr ∧ W.grownBy wr (some bs)
section
variable {D:Type} {T k:Nat} {f:D → Nat → Value} {w W wr W':World} {bs K K':Nat} {H:Frz} {v v':Value} {ds ds':List D}
theorem RG.start (h:Lw w bs K H W):RG T k f w bs K H W (.slice none 0 0) [] W:=⟨RM.new h,World.grownBy.refl _ _⟩
theorem RG.lw (h:RG T k f w bs K H W v ds wr):Lw w bs K H wr:=h.1.lw
theorem RG.asked (h:RG T k f w bs K H W v ds wr) (L:Lw w bs K' H W') (g:wr.grownBy W' (some bs)):RG T k f w bs K' H W v ds W':=⟨h.1.asked L g,vm_then h.2 g⟩
theorem RG.call (h:RG T k f w bs K H W v ds wr) (hb:Below wr.heap.size wr W'):RG T k f w bs K H W v ds W':=⟨h.1.call hb,vm_then h.2 (vm_below hb)⟩
theorem RG.alloc (h:RG T k f w bs K H W v ds wr) (o:Obj):RG T k f w bs K H W v ds (wr.alloc o):=h.call (new1 o)
theorem RG.more (h:RG T k f w bs K H W v ds wr) (hK:K ≤ K'):RG T k f w bs K' H W v ds wr:=⟨h.1.more hK,h.2⟩
theorem RG.app (h:RG T k f w bs K H W v ds wr) (o:Orow W' W.heap.size T k f v' ds') (g1:wr.grownBy W' v.ownBlock) (at1:v'.ownBlock = v.ownBlock ∨ ∃ g,v'.ownBlock = some g ∧ wr.heap.size < g):RG T k f w bs K H W v' ds' W' :=
 ⟨h.1.app o g1 at1,g1.os.trans h.2.os,g1.tape.trans h.2.tape,g1.output.trans h.2.output,Nat.le_trans h.2.size g1.size,fun b hb hne => (g1.block b (Nat.lt_of_lt_of_le hb h.2.size) (fun e => by have:=(h.1.row.lt e.symm).1;omega)).trans (h.2.block b hb hne)⟩
end
section
variable {D:Type} {T k:Nat} {f:D → Nat → Value} {w W wr W':World} {bs K K':Nat} {H H':Frz} {v:Value} {ds:List D}
theorem RG.laid (h:RG T k f w bs K H W v ds wr) (L:Lw w bs K' H' W') (g:wr.grownBy W' (some bs)) (ho:∀ b,b < wr.heap.size → H' b = H b):RG T k f w bs K' H' W v ds W' :=
 ⟨⟨L,h.1.row.far g h.1.2.2.2.1,(fun q hq => (ho q (h.1.row.lt hq).2).trans (h.1.2.2.1 q hq)),h.1.2.2.2.1,Nat.le_trans h.1.2.2.2.2 g.size⟩,vm_then h.2 g⟩
end
theorem RM.frozen2 {D:Type} {T k:Nat} {f:D → Nat → Value} {w W:World} {bs K:Nat} {H:Frz} {B:Nat} {v:Value} {ds:List D} (h:RM T k f w bs K H B v ds W) :
  ∃ A cap H',v = .slice A ds.length cap ∧ ds.length ≤ cap ∧ H.Le H' ∧ Lw w bs K H' W ∧ Rw H' A k f ds ∧ ∀ b,b < B → H' b = H b:=by
 obtain ⟨A,cap,H',h1,h2,h3,h4,h5,h6⟩:=Orow.freezeN h.row H
 exact ⟨A,cap,H',h1,h2,h4 h.2.2.1,⟨h.1.st,h.1.bel,h.1.le,h3 h.1.fin,(h6 bs (fun e => by have:=(h.2.1.lt e).1;have:=h.2.2.2.1;omega)).trans h.1.apart⟩,h5,fun b hb => h6 b (fun e => by have:=(h.2.1.lt e).1;omega)⟩
theorem RG.drew {D:Type} {T k:Nat} {f:D → Nat → Value} {w W wr:World} {bs K:Nat} {H:Frz} {v:Value} {ds:List D} (h:RG T k f w bs K H W v ds wr):RG T k f w bs K H W v ds wr.drew:=h.call ((Below.refl _ _).drew)
theorem RG.same {D:Type} {T k:Nat} {f:D → Nat → Value} {w W wr:World} {bs K n:Nat} {H:Frz} {v:Value} {ds:List D} (h:RG T k f w bs (K + n) H W v ds wr):RG T k f w bs (K + (n + 1)) H W v ds wr:=h.more (by omega)
def AtM (bs:Nat) (w:World) (g:Nat) (o:Obj):Prop:=g ≠ bs ∧ w.heap[g]? = some o
theorem AtM.new {bs:Nat} {w:World} (o:Obj) (h:bs < w.heap.size):AtM bs (w.alloc o) w.heap.size o:=⟨by omega,heap_at rfl⟩
theorem AtM.keep {bs g:Nat} {w w':World} {o:Obj} (h:AtM bs w g o) (gr:w.grownBy w' (some bs)):AtM bs w' g o:=⟨h.1,(gr.block _ (lt_of_heap h.2) (fun e => by injection e with e;exact h.1 e)).trans h.2⟩
open Go.RowKit
def enamesL:List ByteArray:=[⟨#[98,117,121]⟩,⟨#[111,112,101,110]⟩,⟨#[113,117,105,116]⟩,⟨#[118,105,101,119]⟩]
def ENamesIn (H:Frz):Prop:=∀ i (h:i < enamesL.length),H.cell? ⟨0,i,none⟩ = some (.string enamesL[i])
theorem ENamesIn.le {H H':Frz} (h:ENamesIn H) (hl:H.Le H'):ENamesIn H':=fun i hi => hl.cell (h i hi)
theorem enames_size {s:ByteArray} (h:s ∈ enamesL):s.size ≤ 1000:=sizeK h (by decide +kernel)
theorem slotB_of {a:Act} {s:Nat} {v:Value} (h:a.tmps.getD s undef = v):a.tmps[s]?.getD undef = v:=by rw [← Array.getD_eq_getD_getElem?];exact h
structure EM (w:World) (bs K:Nat) (H0 H:Frz) (W00:World) (ob rb:Nat) (d:EvD) (wr:World):Prop where
 lw:Lw w bs K H wr
 blk:wr.heap[ob]? = some (.cells #[.string d.id,.string d.name,.int .i64 d.at_,.int .i64 d.kind,.string d.text,.slice d.fa d.fields.length d.fc] 42 (0,0))
 res:wr.heap[rb]? = some (.cells #[.string ⟨#[]⟩,.string ⟨#[]⟩,.int .i64 0,.int .i64 0,.string ⟨#[]⟩,.slice none 0 0] 42 (0,0))
 bo:bs < ob
 br:bs < rb
 ne:rb ≠ ob
 ho:H ob = none
 hr:H rb = none
 gr:W00.grownBy wr (some bs)
 le:H0.Le H
 old:∀ b,b < W00.heap.size → H b = H0 b
 lo:W00.heap.size ≤ ob
 lr:W00.heap.size ≤ rb
 ok:EvIn H d
section
variable {w wr W' W00:World} {bs K K' ob rb:Nat} {H0 H:Frz} {d:EvD}
theorem EM.more (h:EM w bs K H0 H W00 ob rb d wr) (hK:K ≤ K'):EM w bs K' H0 H W00 ob rb d wr:=⟨h.lw.more hK,h.blk,h.res,h.bo,h.br,h.ne,h.ho,h.hr,h.gr,h.le,h.old,h.lo,h.lr,h.ok⟩
theorem EM.call (h:EM w bs K H0 H W00 ob rb d wr) (hb:Below wr.heap.size wr W'):EM w bs K H0 H W00 ob rb d W' :=
 ⟨h.lw.call hb,(hb.block _ (lt_of_heap h.blk)).trans h.blk,(hb.block _ (lt_of_heap h.res)).trans h.res,h.bo,h.br,h.ne,h.ho,h.hr,vm_then h.gr (vm_below hb),h.le,h.old,h.lo,h.lr,h.ok⟩
theorem EM.alloc (h:EM w bs K H0 H W00 ob rb d wr) (o:Obj):EM w bs K H0 H W00 ob rb d (wr.alloc o):=h.call (new1 o)
theorem EM.asked (h:EM w bs K H0 H W00 ob rb d wr) (L:Lw w bs K' H W') (g:wr.grownBy W' (some bs)):EM w bs K' H0 H W00 ob rb d W' :=
 ⟨L,(g.block _ (lt_of_heap h.blk) (fun e => by injection e with e;have:=h.bo;omega)).trans h.blk,(g.block _ (lt_of_heap h.res) (fun e => by injection e with e;have:=h.br;omega)).trans h.res,h.bo,h.br,h.ne,h.ho,h.hr,vm_then h.gr g,h.le,h.old,h.lo,h.lr,h.ok⟩
theorem EM.set (h:EM w bs K H0 H W00 ob rb d wr) (j:Nat) (x:Value) (d':EvD) (hd:EvIn H d') (he:(wr.setCell ⟨ob,j,none⟩ x).heap[ob]? = some (.cells #[.string d'.id,.string d'.name,.int .i64 d'.at_,.int .i64 d'.kind,.string d'.text,.slice d'.fa d'.fields.length d'.fc] 42 (0,0))):EM w bs K H0 H W00 ob rb d' (wr.setCell ⟨ob,j,none⟩ x) :=
 ⟨h.lw.setCell (p:=⟨ob,j,none⟩) h.bo h.ho _,he,(Below.heap_setCell wr _ _ rb h.ne).trans h.res,h.bo,h.br,h.ne,h.ho,h.hr,⟨h.gr.os,h.gr.tape,h.gr.output,by have:=h.gr.size;simpa [World.setCell] using this,fun b hb hne => (Below.heap_setCell wr _ _ b (fun e => by have:=h.lo;simp only at e;omega)).trans (h.gr.block b hb hne)⟩,h.le,h.old,h.lo,h.lr,hd⟩
theorem EM.setId (h:EM w bs K H0 H W00 ob rb d wr) (x:ByteArray) (hx:x.size ≤ 1000):EM w bs K H0 H W00 ob rb { d with id:=x } (wr.setCell ⟨ob,0,none⟩ (.string x)):=h.set 0 _ _ ⟨h.ok.fds,h.ok.fl,hx,h.ok.nmz,h.ok.txt,h.ok.fdt⟩ (by simp [World.setCell,Array.getElem?_modify,h.blk])
theorem EM.setName (h:EM w bs K H0 H W00 ob rb d wr) (x:ByteArray) (hx:x.size ≤ 1000):EM w bs K H0 H W00 ob rb { d with name:=x } (wr.setCell ⟨ob,1,none⟩ (.string x)):=h.set 1 _ _ ⟨h.ok.fds,h.ok.fl,h.ok.idz,hx,h.ok.txt,h.ok.fdt⟩ (by simp [World.setCell,Array.getElem?_modify,h.blk])
theorem EM.setAt (h:EM w bs K H0 H W00 ob rb d wr) (x:Int):EM w bs K H0 H W00 ob rb { d with at_:=x } (wr.setCell ⟨ob,2,none⟩ (.int .i64 x)):=h.set 2 _ _ ⟨h.ok.fds,h.ok.fl,h.ok.idz,h.ok.nmz,h.ok.txt,h.ok.fdt⟩ (by simp [World.setCell,Array.getElem?_modify,h.blk])
theorem EM.setWho (h:EM w bs K H0 H W00 ob rb d wr) (k:Int) (x:ByteArray) (hx:x.size ≤ 10000):EM w bs K H0 H W00 ob rb { d with kind:=k,text:=x } ((wr.setCell ⟨ob,3,none⟩ (.int .i64 k)).setCell ⟨ob,4,none⟩ (.string x)) :=
 (h.set 3 (.int .i64 k) { d with kind:=k } ⟨h.ok.fds,h.ok.fl,h.ok.idz,h.ok.nmz,h.ok.txt,h.ok.fdt⟩ (by simp [World.setCell,Array.getElem?_modify,h.blk])).set 4 _ _ ⟨h.ok.fds,h.ok.fl,h.ok.idz,h.ok.nmz,hx,h.ok.fdt⟩ (by simp [World.setCell,Array.getElem?_modify,h.blk])
end
theorem em_set6 {wr:World} {r:Nat} {T:TypeId} {a0 a1 a2 a3 a4 a5:Value} (h:wr.heap[r]? = some (.cells #[a0,a1,a2,a3,a4,a5] T (0,0))) (v0 v1 v2 v3 v4 v5:Value) :
  wr.grownBy ((((((wr.setCell ⟨r,0,none⟩ v0).setCell ⟨r,1,none⟩ v1).setCell ⟨r,2,none⟩ v2).setCell ⟨r,3,none⟩ v3).setCell ⟨r,4,none⟩ v4).setCell ⟨r,5,none⟩ v5) (some r) ∧ ((((((wr.setCell ⟨r,0,none⟩ v0).setCell ⟨r,1,none⟩ v1).setCell ⟨r,2,none⟩ v2).setCell ⟨r,3,none⟩ v3).setCell ⟨r,4,none⟩ v4).setCell ⟨r,5,none⟩ v5).heap[r]? = some (.cells #[v0,v1,v2,v3,v4,v5] T (0,0)) :=
 ⟨vm_setc (vm_setc (vm_setc (vm_setc (vm_setc (vm_setc (World.grownBy.refl wr (some r)) 0 v0) 1 v1) 2 v2) 3 v3) 4 v4) 5 v5,by simp [World.setCell,Array.getElem?_modify,h]⟩
theorem Orow.not_at {D:Type} {w:World} {B T k:Nat} {f:D → Nat → Value} {v:Value} {ds:List D} (h:Orow w B T k f v ds) {p U:Nat} {cs:Array Value} {fr:Nat × Nat} (hp:w.heap[p]? = some (.cells cs U fr)) (hU:U ≠ T):v.ownBlock ≠ some p:=by
 intro e
 rcases h.2 with ⟨rfl,hn⟩ | ⟨g,cap,cur,rfl,hB,hh,r⟩
 ·cases e
 ·have e2:g = p:=by simpa [Value.ownBlock] using e
  subst e2
  rw [hh] at hp
  injection hp with hp
  injection hp with _ h2
  exact hU h2.symm
def φEv (bs B0:Nat) (id:ByteArray) (at_:Int) (i:Nat) (x:Value) (W:World):Prop :=
 match i with
 | 0 => x = .string id
 | 1 => x = .pointer (some ⟨bs,0,none⟩)
 | 2 => ∃ z:Nat,x = .int .i64 (z:Int) ∧ z < 4
 | 3 => ∃ z:Nat,x = .pointer (some ⟨0,z,none⟩) ∧ z < 4
 | 4 => ∃ s:ByteArray,x = .string s ∧ s.size ≤ 1000
 | 5 => x = .int .i64 at_
 | 6 => x = .pointer (some ⟨bs,0,none⟩)
 | 7 => ∃ z:Nat,x = .int .i64 (z:Int) ∧ z < 4
 | 8 => ∃ z:Nat,x = .pointer (some ⟨1,z * 2,none⟩) ∧ z < 4
 | 9 => ∃ (k:Int) (s:ByteArray),x = .agg #[.int .i64 k,.string s] ∧ s.size ≤ 1000
 | 10 => x = .pointer (some ⟨bs,0,none⟩)
 | 11 => ∃ ds:List FD,Orow W B0 119 4 fFd x ds ∧ ds.length ≤ 7 ∧ FdB ds
 | 12 => ∃ (nm s:ByteArray) (k:Int) (v:Value) (ds:List FD),x = .agg #[.string id,.string nm,.int .i64 at_,.int .i64 k,.string s,v] ∧ nm.size ≤ 1000 ∧ s.size ≤ 1000 ∧ Orow W B0 119 4 fFd v ds ∧ ds.length ≤ 7 ∧ FdB ds
 | _ => ∃ g,x = .pointer (some ⟨g,0,none⟩) ∧ AtM bs W g (.cells #[.string ⟨#[]⟩,.string ⟨#[]⟩,.int .i64 0,.int .i64 0,.string ⟨#[]⟩,.slice none 0 0] 42 (0,0)) ∧ B0 ≤ g
theorem φEv_mono {bs B0:Nat} {id:ByteArray} {at_:Int} (hB:bs < B0) (i:Nat) (x:Value) (W W':World) (_:i < 14) (he:W.grownBy W' (some bs)) (h:φEv bs B0 id at_ i x W):φEv bs B0 id at_ i x W':=by
 match i,h with
 | 0,h => exact h
 | 1,h => exact h
 | 2,h => exact h
 | 3,h => exact h
 | 4,h => exact h
 | 5,h => exact h
 | 6,h => exact h
 | 7,h => exact h
 | 8,h => exact h
 | 9,h => exact h
 | 10,h => exact h
 | 11,h => obtain ⟨ds,h1,h2⟩:=h;exact ⟨ds,h1.far he hB,h2⟩
 | 12,h => obtain ⟨nm,s,k,v,ds,h1,h2,h3,h4,h5⟩:=h;exact ⟨nm,s,k,v,ds,h1,h2,h3,h4.far he hB,h5⟩
 | n + 13,h => obtain ⟨g,h1,h2,h3⟩:=h;exact ⟨g,h1,h2.keep he,h3⟩
def IdLike (id:ByteArray) (d:EvD):Prop:=d.id = id ∨ d.id.size ≤ 1
def EvPost (w:World) (bs K:Nat) (H:Frz) (W:World) (id:ByteArray) (e:Ending) (W':World):Prop:=∃ (d:EvD) (H':Frz),e = .returned (.agg #[.string d.id,.string d.name,.int .i64 d.at_,.int .i64 d.kind,.string d.text,.slice d.fa d.fields.length d.fc]) ∧ H.Le H' ∧ (∀ b,b < W.heap.size → H' b = H b) ∧ Lw w bs (K + 4000) H' W' ∧ W.grownBy W' (some bs) ∧ EvIn H' d ∧ IdLike id d
set_option maxHeartbeats 8000000 in
set_option maxRecDepth 100000 in
theorem Lw.event {w W:World} {bs K:Nat} {H:Frz} (h:Lw w bs K H W) (hK:K ≤ 400000) (hP:PoolIn H) (hN:NamesIn H) (hE:ENamesIn H) (id:ByteArray) (hid:id.size ≤ 1000) (at_:Int) :
  Calls Tryz.prog 94 #[.pointer (some ⟨bs,0,none⟩),.string id,.int .i64 at_] W (EvPost w bs K H W id):=by
 have hbs:=h.lt
 have L0:=Lib.hid (h.alloc (.cells #[.string ⟨#[]⟩,.string ⟨#[]⟩,.int .i64 0,.int .i64 0,.string ⟨#[]⟩,.slice none 0 0] 42))
 have hres:Hid ((W.alloc (.cells #[.string ⟨#[]⟩,.string ⟨#[]⟩,.int .i64 0,.int .i64 0,.string ⟨#[]⟩,.slice none 0 0] 42)).heap[W.heap.size]? = some (.cells #[.string ⟨#[]⟩,.string ⟨#[]⟩,.int .i64 0,.int .i64 0,.string ⟨#[]⟩,.slice none 0 0] 42 (0,0))):=heap_at rfl
 have HG0:=Lib.hid (grown_alloc (w:=W) (.cells #[.string ⟨#[]⟩,.string ⟨#[]⟩,.int .i64 0,.int .i64 0,.string ⟨#[]⟩,.slice none 0 0] 42) (some bs))
 have HR0:=Lib.hid (h.fin.none_ (Nat.le_refl W.heap.size))
 have hWs:W.heap.size < (W.alloc (.cells #[.string ⟨#[]⟩,.string ⟨#[]⟩,.int .i64 0,.int .i64 0,.string ⟨#[]⟩,.slice none 0 0] 42)).heap.size:=lt_of_heap hres.out
 have HP:=Lib.hid hP
 have HN:=Lib.hid hN
 have HE:=Lib.hid hE
 clear h hP hN hE
 go_enter Tryz.func94,Tryz.ntmps94
 go_upto_region 1 with (fail)
 generalize hW0:W.alloc (.cells #[.string ⟨#[]⟩,.string ⟨#[]⟩,.int .i64 0,.int .i64 0,.string ⟨#[]⟩,.slice none 0 0] 42) = W0 at *
 have hbs0:=L0.out.lt
 clear hW0
 refine wp_region_conc 14 46 (φEv bs W0.heap.size id at_) (fun n W' => Lw w bs (K + 250 * n) H W' ∧ W0.heap.size ≤ W'.heap.size ∧ W0.grownBy W' (some bs)) (fun a b => a.grownBy b (some bs)) (by kernel_rfl) (by kernel_rfl) (by rfl) ⟨L0.out.call ((Below.refl _ _).drew),Nat.le_refl _,vm_below ((Below.refl _ _).drew)⟩ (φEv_mono hbs0) ?_ ?_
 ·intro n o hn ho a W2 kk hkk hJ hkn
  have hcs:n = 0 ∨ n = 1 ∨ n = 2 ∨ n = 3 ∨ n = 4 ∨ n = 5 ∨ n = 6 ∨ n = 7 ∨ n = 8 ∨ n = 9 ∨ n = 10 ∨ n = 11 ∨ n = 12 ∨ n = 13:=by omega
  rcases hcs with rfl | rfl | rfl | rfl | rfl | rfl | rfl | rfl | rfl | rfl | rfl | rfl | rfl | rfl
  ·obtain rfl:=Option.some.inj ho
   exact ⟨hkn 1 (by decide),⟨hJ.1.more (by omega),hJ.2⟩,World.grownBy.refl _ _⟩
  ·obtain rfl:=Option.some.inj ho
   exact ⟨hkn 0 (by decide),⟨hJ.1.more (by omega),hJ.2⟩,World.grownBy.refl _ _⟩
  ·obtain rfl:=Option.some.inj ho
   have h1:=slotB_of (hkn 9 (by decide):a.tmps.getD 9 undef = .pointer (some ⟨bs,0,none⟩))
   clear hkn ho
   simp only [OpV,execOp]
   simp [go_sem,h1]
   exact (hJ.1.next' 4 (by omega) (by omega) (by omega)).mono fun e w'' ⟨z,he,z0,z1,L',g',_⟩ => ⟨_,he,(by obtain ⟨y,rfl⟩:=Int.eq_ofNat_of_zero_le z0;exact ⟨y,rfl,by omega⟩),⟨L'.more (by omega),by have:=hJ.2.1;have:=g'.size;omega,vm_then hJ.2.2 g'⟩,g'⟩
  ·obtain rfl:=Option.some.inj ho
   obtain ⟨z,h1,hz⟩:∃ z:Nat,a.tmps.getD 10 undef = .int .i64 (z:Int) ∧ z < 4:=hkn 10 (by decide)
   replace h1:=slotB_of h1
   clear hkn ho
   simp only [OpV,execOp]
   have hz2:(z:Int) < 4:=by omega
   simp [go_sem,h1,hz2]
   exact ⟨⟨z,rfl,hz⟩,⟨hJ.1.more (by omega),hJ.2⟩,World.grownBy.refl _ _⟩
  ·obtain rfl:=Option.some.inj ho
   obtain ⟨z,h1,hz⟩:∃ z:Nat,a.tmps.getD 11 undef = .pointer (some ⟨0,z,none⟩) ∧ z < 4:=hkn 11 (by decide)
   replace h1:=slotB_of h1
   have hc:=hJ.1.fin.cell (HE.out z hz)
   have hs:=enames_size (List.getElem_mem (show z < enamesL.length from hz))
   generalize enamesL[z] = nm at hc hs
   clear hkn ho
   simp only [OpV,execOp]
   simp [go_sem,h1,hc]
   exact ⟨⟨nm,rfl,hs⟩,⟨hJ.1.more (by omega),hJ.2⟩,World.grownBy.refl _ _⟩
  ·obtain rfl:=Option.some.inj ho
   exact ⟨hkn 2 (by decide),⟨hJ.1.more (by omega),hJ.2⟩,World.grownBy.refl _ _⟩
  ·obtain rfl:=Option.some.inj ho
   exact ⟨hkn 0 (by decide),⟨hJ.1.more (by omega),hJ.2⟩,World.grownBy.refl _ _⟩
  ·obtain rfl:=Option.some.inj ho
   have h1:=slotB_of (hkn 14 (by decide):a.tmps.getD 14 undef = .pointer (some ⟨bs,0,none⟩))
   clear hkn ho
   simp only [OpV,execOp]
   simp [go_sem,h1]
   exact (hJ.1.next' 4 (by omega) (by omega) (by omega)).mono fun e w'' ⟨z,he,z0,z1,L',g',_⟩ => ⟨_,he,(by obtain ⟨y,rfl⟩:=Int.eq_ofNat_of_zero_le z0;exact ⟨y,rfl,by omega⟩),⟨L'.more (by omega),by have:=hJ.2.1;have:=g'.size;omega,vm_then hJ.2.2 g'⟩,g'⟩
  ·obtain rfl:=Option.some.inj ho
   obtain ⟨z,h1,hz⟩:∃ z:Nat,a.tmps.getD 15 undef = .int .i64 (z:Int) ∧ z < 4:=hkn 15 (by decide)
   replace h1:=slotB_of h1
   clear hkn ho
   simp only [OpV,execOp]
   have hz2:(z:Int) < 10:=by omega
   simp [go_sem,h1,hz2]
   exact ⟨⟨z,rfl,hz⟩,⟨hJ.1.more (by omega),hJ.2⟩,World.grownBy.refl _ _⟩
  ·obtain rfl:=Option.some.inj ho
   obtain ⟨z,h1,hz⟩:∃ z:Nat,a.tmps.getD 16 undef = .pointer (some ⟨1,z * 2,none⟩) ∧ z < 4:=hkn 16 (by decide)
   replace h1:=slotB_of h1
   have hi:z < poolL.length:=by show z < 10;omega
   obtain ⟨c0,c1⟩:=HP.out z hi
   replace c0:=hJ.1.fin.cell c0
   replace c1:=hJ.1.fin.cell c1
   have hs:(⟨poolL[z].2.toArray⟩:ByteArray).size ≤ 1000:=(pool_ok z hi).2
   generalize poolL[z].1 = k0 at *
   generalize (⟨poolL[z].2.toArray⟩:ByteArray) = s0 at *
   clear hkn ho
   simp only [OpV,execOp]
   simp [go_sem,h1,c0,c1]
   exact ⟨⟨k0,s0,rfl,hs⟩,⟨hJ.1.more (by omega),hJ.2⟩,World.grownBy.refl _ _⟩
  ·obtain rfl:=Option.some.inj ho
   exact ⟨hkn 0 (by decide),⟨hJ.1.more (by omega),hJ.2⟩,World.grownBy.refl _ _⟩
  ·obtain rfl:=Option.some.inj ho
   have h1:=slotB_of (hkn 18 (by decide):a.tmps.getD 18 undef = .pointer (some ⟨bs,0,none⟩))
   clear hkn ho
   simp only [OpV,execOp]
   simp [go_sem,h1]
   refine (hJ.1.fields (by omega) HN.out 2 (by omega)).mono ?_
   rintro e w'' ⟨v,ds,rfl,C,hl,hb,g'⟩
   have L':=C.lw
   exact ⟨v,rfl,⟨ds,C.row.mono hJ.2.1,hl,hb⟩,⟨L'.more (by omega),by have:=hJ.2.1;have:=g'.size;omega,vm_then hJ.2.2 g'⟩,g'⟩
  ·obtain rfl:=Option.some.inj ho
   have h1:=slotB_of (hkn 8 (by decide):a.tmps.getD 8 undef = .string id)
   obtain ⟨nm,h2,hn2⟩:∃ s:ByteArray,a.tmps.getD 12 undef = .string s ∧ s.size ≤ 1000:=hkn 12 (by decide)
   have h3:=slotB_of (hkn 13 (by decide):a.tmps.getD 13 undef = .int .i64 at_)
   obtain ⟨k,s,h4,hs4⟩:∃ (k:Int) (s:ByteArray),a.tmps.getD 17 undef = .agg #[.int .i64 k,.string s] ∧ s.size ≤ 1000:=hkn 17 (by decide)
   obtain ⟨ds,h5,hl5,hb5⟩:∃ ds:List FD,Orow W2 W0.heap.size 119 4 fFd (a.tmps.getD 19 undef) ds ∧ ds.length ≤ 7 ∧ FdB ds:=hkn 19 (by decide)
   obtain ⟨A5,c5,h6,-⟩:=h5.slice
   rw [h6] at h5
   replace h2:=slotB_of h2
   replace h4:=slotB_of h4
   replace h6:=slotB_of h6
   clear hkn ho
   simp only [OpV,execOp]
   simp [go_sem,h1,h2,h3,h4,h6]
   exact ⟨⟨nm,s,k,_,ds,rfl,hn2,hs4,h5,hl5,hb5⟩,⟨hJ.1.more (by omega),hJ.2⟩,World.grownBy.refl _ _⟩
  ·obtain rfl:=Option.some.inj ho
   clear hkn ho
   simp only [OpV,execOp]
   simp [go_sem]
   exact ⟨⟨W2.heap.size,rfl,AtM.new _ hJ.1.lt,hJ.2.1⟩,⟨(hJ.1.alloc _).more (by omega),by have:=hJ.2.1;simp;omega,vm_then hJ.2.2 (grown_alloc _ _)⟩,grown_alloc _ _⟩
 ·intro yv W9 hJ9 hφ
  obtain ⟨nm,s9,k9,v9,ds,e12,hnm,hs9,hO9,hl9,hb9⟩:=hφ 12 (by omega)
  obtain ⟨ob,e13,hat,hlo⟩:=hφ 13 (by omega)
  have HJ9:=Lib.hid hJ9
  have HOB:=Lib.hid hat
  obtain ⟨A9,c9,hv9,-⟩:=hO9.slice
  subst hv9
  have HO9:=Lib.hid hO9
  have HB9:=Lib.hid hb9
  clear hφ hJ9 hat hO9 hb9
  simp only [List.drop_succ_cons,List.drop_zero,List.take_succ_cons,List.take_zero,putAll,Nat.reduceAdd,e12,e13]
  clear e12 e13
  generalize yv 0 = y0
  generalize yv 1 = y1
  generalize yv 2 = y2
  generalize yv 3 = y3
  generalize yv 4 = y4
  generalize yv 5 = y5
  generalize yv 6 = y6
  generalize yv 7 = y7
  generalize yv 8 = y8
  generalize yv 9 = y9
  generalize yv 10 = y10
  generalize yv 11 = y11
  have hob:=HOB.out.2
  have f0:=froz_h hob 0
  have f1:=froz_h hob 1
  have f2:=froz_h hob 2
  have f3:=froz_h hob 3
  have f4:=froz_h hob 4
  have f5:=froz_h hob 5
  have k0:=cell_h hob 0 (v:=.string ⟨#[]⟩) rfl
  have k1:=cell_h hob 1 (v:=.string ⟨#[]⟩) rfl
  have k2:=cell_h hob 2 (v:=.int .i64 0) rfl
  have k3:=cell_h hob 3 (v:=.int .i64 0) rfl
  have k4:=cell_h hob 4 (v:=.string ⟨#[]⟩) rfl
  have k5:=cell_h hob 5 (v:=.slice none 0 0) rfl
  go_upto_region 2 with (fail)
  obtain ⟨hg6,hh6⟩:=em_set6 hob (.string id) (.string nm) (.int .i64 at_) (.int .i64 k9) (.string s9) (.slice A9 ds.length c9)
  generalize ((((((W9.setCell ⟨ob,0,none⟩ (.string id)).setCell ⟨ob,1,none⟩ (.string nm)).setCell ⟨ob,2,none⟩ (.int .i64 at_)).setCell ⟨ob,3,none⟩ (.int .i64 k9)).setCell ⟨ob,4,none⟩ (.string s9)).setCell ⟨ob,5,none⟩ (.slice A9 ds.length c9)) = W10 at *
  have hna:=HO9.out.not_at hob (by decide)
  obtain ⟨A5,c5,H2,hv5,-,p1,p2,hR5,hold⟩:=Orow.freezeN (HO9.out.kept hg6 (Or.inr hna)) H
  injection hv5 with e1 e2 e3
  subst e1 e3
  have hlt9:=fun g (e:(Value.slice A9 ds.length c9).ownBlock = some g) => (HO9.out.lt e).1
  have hho:=L0.out.fin.none_ hlo
  have L10:=HJ9.out.1.grown hg6 (fun q hq => by injection hq with hq;subst hq;exact ⟨by omega,hho⟩)
  have hr9:W10.heap[W.heap.size]? = some (.cells #[.string ⟨#[]⟩,.string ⟨#[]⟩,.int .i64 0,.int .i64 0,.string ⟨#[]⟩,.slice none 0 0] 42 (0,0)):=(hg6.block _ (Nat.lt_of_lt_of_le hWs HJ9.out.2.1) (fun e => by injection e with e;omega)).trans ((HJ9.out.2.2.block _ hWs (fun e => by injection e with e;omega)).trans hres.out)
  have D0:Hid (EM w bs (K + 3500) H H2 W ob W.heap.size ⟨id,nm,at_,k9,s9,A9,c9,ds⟩ W10) :=
   ⟨⟨L10.st,L10.bel,L10.le,p1 L10.fin,(hold bs (fun e => by have:=hlt9 _ e;omega)).trans L10.apart⟩,hh6,hr9,by omega,hbs,by omega,(hold ob (fun e => hna e)).trans hho,(hold _ (fun e => by have:=hlt9 _ e;omega)).trans HR0.out,vm_then HG0.out (grown_new HJ9.out.2.2 hg6 hlo),p2 (fun g hg => L0.out.fin.none_ (hlt9 g hg)),fun b hb => hold b (fun e => by have:=hlt9 _ e;omega),by omega,Nat.le_refl _,⟨hR5,by show ds.length ≤ _;omega,hid,hnm,by show s9.size ≤ _;omega,HB9.out⟩⟩
  have HID0:Hid (IdLike id ⟨id,nm,at_,k9,s9,A9,c9,ds⟩):=Or.inl rfl
  clear hob f0 f1 f2 f3 f4 f5 k0 k1 k2 k3 k4 k5 hg6 hh6 hna p1 p2 hR5 hold hlt9 hho L10 hr9 HJ9 HOB HO9 HB9 L0 hres HR0 HG0
  have HP2:=Lib.hid (HP.out.le D0.out.le)
  clear HP HN HE
  generalize (⟨id,nm,at_,k9,s9,A9,c9,ds⟩:EvD) = d0 at *
  go_wp2_with fail
  refine (D0.out.lw.flip 60 (by omega) (by omega)).mono ?_
  rintro e W7 ⟨fb,rfl,Lq,gq,-⟩
  have D1:=Lib.hid (D0.out.asked Lq gq)
  clear Lq gq D0
  go_upto_if 22 with (fail)
  go_cut [] (fun wx => ∃ d:EvD,Hid (EM w bs (K + 3600) H H2 W ob W.heap.size d wx) ∧ Hid (IdLike id d))
  case first =>
   cases fb with
   | false =>
    go_wp2_with fail
    go_meet
    exact ⟨_,D1.out.more (by omega),HID0⟩
   | true =>
    go_wp2_with fail
    refine (D1.out.lw.next' 4 (by omega) (by omega) (by omega)).mono ?_
    rintro e W8 ⟨u,rfl,u0,u1,Lq,gq,-⟩
    have D2:=Lib.hid (D1.out.asked Lq gq)
    clear Lq gq D1
    have hcs:u = 0 ∨ u = 1 ∨ u = 2 ∨ (u ≠ 0 ∧ u ≠ 1 ∧ u ≠ 2):=by omega
    rcases hcs with rfl | rfl | rfl | ⟨n0,n1,n2⟩
    ·skip
     have hne:=D2.out.lw.lt
     have hSt:StrsW (W8.alloc (.cells #[.string ⟨#[]⟩,.string ⟨#[65]⟩] 9)) (some ⟨W8.heap.size,0,none⟩) [⟨#[]⟩,⟨#[65]⟩]:=StrsW.of_row (heap_at rfl) rfl
     have HSt:=Lib.hid hSt
     clear hSt
     go_wp2_with fail
     refine ((D2.out.alloc _).lw.one _ _ [⟨#[]⟩,⟨#[65]⟩] HSt.out (fun b off e => by injection e with e;injection e with e1 e2;omega) (by simp) (by simp) (by omega)).mono ?_
     rintro e W9 ⟨z,rfl,hz,Lq,gq,-⟩
     have D3:=Lib.hid ((D2.out.alloc _).asked Lq gq)
     clear Lq gq HSt hne D2
     have hz1:z.size ≤ 1:=by
      simp at hz
      rcases hz with rfl | rfl
      ·exact Nat.zero_le _
      ·exact Nat.le_refl _
     have D4:=Lib.hid (D3.out.setId z (by omega))
     have hc0:=cell_h D3.out.blk 0 (v:=.string d0.id) rfl
     have hf0:=froz_h D3.out.blk 0
     clear hz
     go_wp2_with fail
     go_meet
     exact ⟨_,D4.out.more (by omega),Or.inr hz1⟩
    ·skip
     have hne:=D2.out.lw.lt
     have hSt:StrsW (W8.alloc (.cells #[.string ⟨#[]⟩,.string ⟨#[66]⟩] 9)) (some ⟨W8.heap.size,0,none⟩) [⟨#[]⟩,⟨#[66]⟩]:=StrsW.of_row (heap_at rfl) rfl
     have HSt:=Lib.hid hSt
     clear hSt
     go_wp2_with fail
     refine ((D2.out.alloc _).lw.one _ _ [⟨#[]⟩,⟨#[66]⟩] HSt.out (fun b off e => by injection e with e;injection e with e1 e2;omega) (by simp) (by simp) (by omega)).mono ?_
     rintro e W9 ⟨z,rfl,hz,Lq,gq,-⟩
     have D3:=Lib.hid ((D2.out.alloc _).asked Lq gq)
     clear Lq gq HSt hne D2
     have D4:=Lib.hid (D3.out.setName z (sizeK hz (by decide +kernel)))
     have hc1:=cell_h D3.out.blk 1 (v:=.string d0.name) rfl
     have hf1:=froz_h D3.out.blk 1
     clear hz
     go_wp2_with fail
     go_meet
     exact ⟨_,D4.out.more (by omega),HID0⟩
    ·go_wp2_with fail
     refine (D2.out.lw.odd (by omega) 0 4321439 (by omega) (by omega) (by omega)).mono ?_
     rintro e W9 ⟨z,rfl,-,-,Lq,gq⟩
     have D3:=Lib.hid (D2.out.asked Lq gq)
     clear Lq gq D2
     have D4:=Lib.hid (D3.out.setAt z)
     have hc2:=cell_h D3.out.blk 2 (v:=.int .i64 d0.at_) rfl
     have hf2:=froz_h D3.out.blk 2
     go_wp2_with fail
     go_meet
     exact ⟨_,D4.out.more (by omega),HID0⟩
    ·have q0:(u == 0) = false:=by simpa using n0
     have q1:(u == 1) = false:=by simpa using n1
     have q2:(u == 2) = false:=by simpa using n2
     go_wp2_with fail
     refine (D2.out.lw.spoiledId HP2.out (by omega)).mono ?_
     rintro e W9 ⟨kx,sx,rfl,hsx,Lq,gq⟩
     have D3:=Lib.hid (D2.out.asked Lq gq)
     clear Lq gq D2
     have D4:=Lib.hid (D3.out.setWho kx sx (by omega))
     have hc3:=cell_h D3.out.blk 3 (v:=.int .i64 d0.kind) rfl
     have hf3:=froz_h D3.out.blk 3
     have hc4:=cell_h D3.out.blk 4 (v:=.string d0.text) rfl
     have hf4:=froz_h D3.out.blk 4
     go_wp2_with fail
     go_meet
     exact ⟨_,D4.out.more (by omega),HID0⟩
  case rest =>
   obtain ⟨d2,D2,hid2⟩:=hcut
   have hk0:=cell_h D2.out.blk 0 (v:=.string d2.id) rfl
   have hk1:=cell_h D2.out.blk 1 (v:=.string d2.name) rfl
   have hk2:=cell_h D2.out.blk 2 (v:=.int .i64 d2.at_) rfl
   have hk3:=cell_h D2.out.blk 3 (v:=.int .i64 d2.kind) rfl
   have hk4:=cell_h D2.out.blk 4 (v:=.string d2.text) rfl
   have hk5:=cell_h D2.out.blk 5 (v:=.slice d2.fa d2.fields.length d2.fc) rfl
   have hkr:=D2.out.res
   have rr0:=cell_h hkr 0 (v:=.string ⟨#[]⟩) rfl
   have rf0:=froz_h hkr 0
   have rr1:=cell_h hkr 1 (v:=.string ⟨#[]⟩) rfl
   have rf1:=froz_h hkr 1
   have rr2:=cell_h hkr 2 (v:=.int .i64 0) rfl
   have rf2:=froz_h hkr 2
   have rr3:=cell_h hkr 3 (v:=.int .i64 0) rfl
   have rf3:=froz_h hkr 3
   have rr4:=cell_h hkr 4 (v:=.string ⟨#[]⟩) rfl
   have rf4:=froz_h hkr 4
   have rr5:=cell_h hkr 5 (v:=.slice none 0 0) rfl
   have rf5:=froz_h hkr 5
   go_wp2_with fail
   (try simp only [Exit.inBlock,Exit.then])
   obtain ⟨hg9,hh9⟩:=em_set6 hkr (.string d2.id) (.string d2.name) (.int .i64 d2.at_) (.int .i64 d2.kind) (.string d2.text) (.slice d2.fa d2.fields.length d2.fc)
   refine bodyPost_ret (results_cell_row rfl _ _ W.heap.size 42 _ (0,0) _ rfl hh9 Tryz.underlying42 rfl (by kernel_rfl)) rfl ?_
   refine ⟨d2,H2,rfl,D2.out.le,D2.out.old,(D2.out.lw.grown hg9 (fun q hq => by injection hq with hq;subst hq;exact ⟨D2.out.br,D2.out.hr⟩)).more (by omega),⟨hg9.os.trans D2.out.gr.os,hg9.tape.trans D2.out.gr.tape,hg9.output.trans D2.out.gr.output,Nat.le_trans D2.out.gr.size hg9.size,fun b hb hne => ?_⟩,D2.out.ok,hid2.out⟩
   have:=D2.out.lr
   exact (hg9.block b (Nat.lt_of_lt_of_le hb D2.out.gr.size) (fun e => by injection e with e;omega)).trans (D2.out.gr.block b hb hne)
end Go.Proofs.YtfmnlpmgakgleaaGreatDoor
