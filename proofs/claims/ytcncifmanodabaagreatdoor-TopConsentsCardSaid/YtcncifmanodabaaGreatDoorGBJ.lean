/- Texts of this claim, put together: MakeTch, RightTcP, Alike, Alike2, MakeMs, RightTc. -/
import Derived.Test.YtcncifmanodabaaGreatDoorGBI
import Derived.Test.YtcncifmanodabaaGreatDoorGBH
import Derived.Laws.Rows
import Derived.Deep.CutBlock
import Derived.Deep.DeepCutAuto
import Derived.Test.YtcncifmanodabaaGreatDoorGBF
import Derived.Test.YtcncifmanodabaaGreatDoorGAC
import Derived.Test.YtcncifmanodabaaGreatDoorGAO
namespace Go.Proofs.YtcncifmanodabaaGreatDoor
set_option linter.unusedVariables false
open Go.RowKit
theorem RM.frozen2 {D:Type} {T k:Nat} {f:D → Nat → Value} {w W:World} {bs K:Nat} {H:Frz} {B:Nat} {v:Value} {ds:List D} (h:RM T k f w bs K H B v ds W) :
  ∃ A cap H',v = .slice A ds.length cap ∧ ds.length ≤ cap ∧ H.Le H' ∧ Lw w bs K H' W ∧ Rw H' A k f ds ∧ ∀ b,b < B → H' b = H b:=by
 obtain ⟨A,cap,H',h1,h2,h3,h4,h5,h6⟩:=Orow.freezeN h.row H
 exact ⟨A,cap,H',h1,h2,h4 h.2.2.1,⟨h.1.st,h.1.bel,h.1.le,h3 h.1.fin,(h6 bs (fun e => by have:=(h.2.1.lt e).1;have:=h.2.2.2.1;omega)).trans h.1.apart⟩,h5,fun b hb => h6 b (fun e => by have:=(h.2.1.lt e).1;omega)⟩
structure TcIn (H:Frz) (t:TchD):Prop where
 ids:Rw H t.ia 2 fId t.ids
 fds:Rw H t.fa 4 fFd t.fields
 il:t.ids.length ≤ 1000
 fl:t.fields.length ≤ 1000
 src:t.source.size ≤ 1000
 idt:∀ x ∈ t.ids,x.text.size ≤ 10000
 fdt:FdB t.fields
theorem TcIn.le {H H':Frz} {t:TchD} (h:TcIn H t) (hl:H.Le H'):TcIn H' t:=⟨h.ids.le hl,h.fds.le hl,h.il,h.fl,h.src,h.idt,h.fdt⟩
theorem TcIn.sz {H:Frz} {t:TchD} (h:TcIn H t):SzT t:=⟨by have:=h.src;omega,fun x hx => by have:=h.idt x hx;omega,fun f hf => by have:=h.fdt.sz hf;omega,by have:=h.il;omega,by have:=h.fl;omega⟩
structure TM (w:World) (bs K:Nat) (H0 H:Frz) (W00:World) (ob rb:Nat) (d:TchD) (wr:World):Prop where
 lw:Lw w bs K H wr
 blk:wr.heap[ob]? = some (.cells #[.int .i64 d.no,.int .i64 d.at_,.string d.source,.slice d.ia d.ids.length d.ic,.slice d.fa d.fields.length d.fc] 91 (0,0))
 res:wr.heap[rb]? = some (.cells #[.int .i64 0,.int .i64 0,.string ⟨#[]⟩,.slice none 0 0,.slice none 0 0] 91 (0,0))
 bo:bs < ob
 br:bs < rb
 ne:rb ≠ ob
 ho:H ob = none
 hr:H rb = none
 gr:W00.grownBy wr (some bs)
 le:H0.Le H
 old:∀ b,b < W00.heap.size → H b = H0 b
 lo:W00.heap.size ≤ ob
 lr:W00.heap.size ≤ rb
 ok:TcIn H d
section
variable {w wr W' W00:World} {bs K K' ob rb:Nat} {H0 H:Frz} {d:TchD}
theorem TM.more (h:TM w bs K H0 H W00 ob rb d wr) (hK:K ≤ K'):TM w bs K' H0 H W00 ob rb d wr:=⟨h.lw.more hK,h.blk,h.res,h.bo,h.br,h.ne,h.ho,h.hr,h.gr,h.le,h.old,h.lo,h.lr,h.ok⟩
theorem TM.call (h:TM w bs K H0 H W00 ob rb d wr) (hb:Below wr.heap.size wr W'):TM w bs K H0 H W00 ob rb d W' :=
 ⟨h.lw.call hb,(hb.block _ (lt_of_heap h.blk)).trans h.blk,(hb.block _ (lt_of_heap h.res)).trans h.res,h.bo,h.br,h.ne,h.ho,h.hr,vm_then h.gr (vm_below hb),h.le,h.old,h.lo,h.lr,h.ok⟩
theorem TM.alloc (h:TM w bs K H0 H W00 ob rb d wr) (o:Obj):TM w bs K H0 H W00 ob rb d (wr.alloc o):=h.call (new1 o)
theorem TM.asked (h:TM w bs K H0 H W00 ob rb d wr) (L:Lw w bs K' H W') (g:wr.grownBy W' (some bs)):TM w bs K' H0 H W00 ob rb d W' :=
 ⟨L,(g.block _ (lt_of_heap h.blk) (fun e => by injection e with e;have:=h.bo;omega)).trans h.blk,(g.block _ (lt_of_heap h.res) (fun e => by injection e with e;have:=h.br;omega)).trans h.res,h.bo,h.br,h.ne,h.ho,h.hr,vm_then h.gr g,h.le,h.old,h.lo,h.lr,h.ok⟩
theorem TM.set (h:TM w bs K H0 H W00 ob rb d wr) (j:Nat) (x:Value) (d':TchD) (hd:TcIn H d') (he:(wr.setCell ⟨ob,j,none⟩ x).heap[ob]? = some (.cells #[.int .i64 d'.no,.int .i64 d'.at_,.string d'.source,.slice d'.ia d'.ids.length d'.ic,.slice d'.fa d'.fields.length d'.fc] 91 (0,0))):TM w bs K H0 H W00 ob rb d' (wr.setCell ⟨ob,j,none⟩ x) :=
 ⟨h.lw.setCell (p:=⟨ob,j,none⟩) h.bo h.ho _,he,(Below.heap_setCell wr _ _ rb h.ne).trans h.res,h.bo,h.br,h.ne,h.ho,h.hr,⟨h.gr.os,h.gr.tape,h.gr.output,by have:=h.gr.size;simpa [World.setCell] using this,fun b hb hne => (Below.heap_setCell wr _ _ b (fun e => by have:=h.lo;simp only at e;omega)).trans (h.gr.block b hb hne)⟩,h.le,h.old,h.lo,h.lr,hd⟩
theorem TM.setNo (h:TM w bs K H0 H W00 ob rb d wr) (x:Int):TM w bs K H0 H W00 ob rb { d with no:=x } (wr.setCell ⟨ob,0,none⟩ (.int .i64 x)):=h.set 0 _ _ ⟨h.ok.ids,h.ok.fds,h.ok.il,h.ok.fl,h.ok.src,h.ok.idt,h.ok.fdt⟩ (by simp [World.setCell,Array.getElem?_modify,h.blk])
theorem TM.setAt (h:TM w bs K H0 H W00 ob rb d wr) (x:Int):TM w bs K H0 H W00 ob rb { d with at_:=x } (wr.setCell ⟨ob,1,none⟩ (.int .i64 x)):=h.set 1 _ _ ⟨h.ok.ids,h.ok.fds,h.ok.il,h.ok.fl,h.ok.src,h.ok.idt,h.ok.fdt⟩ (by simp [World.setCell,Array.getElem?_modify,h.blk])
theorem TM.setSrc (h:TM w bs K H0 H W00 ob rb d wr) (x:ByteArray) (hx:x.size ≤ 1000):TM w bs K H0 H W00 ob rb { d with source:=x } (wr.setCell ⟨ob,2,none⟩ (.string x)):=h.set 2 _ _ ⟨h.ok.ids,h.ok.fds,h.ok.il,h.ok.fl,hx,h.ok.idt,h.ok.fdt⟩ (by simp [World.setCell,Array.getElem?_modify,h.blk])
theorem TM.setIds (h:TM w bs K H0 H W00 ob rb d wr):TM w bs K H0 H W00 ob rb { d with ia:=none,ids:=[],ic:=0 } (wr.setCell ⟨ob,3,none⟩ (.slice none 0 0)):=h.set 3 _ _ ⟨Rw.nil,h.ok.fds,by show (0:Nat) ≤ _;omega,h.ok.fl,h.ok.src,(fun x hx => by cases hx),h.ok.fdt⟩ (by simp [World.setCell,Array.getElem?_modify,h.blk])
end
theorem tm_set5 {wr:World} {r:Nat} {T:TypeId} {a0 a1 a2 a3 a4:Value} (h:wr.heap[r]? = some (.cells #[a0,a1,a2,a3,a4] T (0,0))) (v0 v1 v2 v3 v4:Value) :
  wr.grownBy (((((wr.setCell ⟨r,0,none⟩ v0).setCell ⟨r,1,none⟩ v1).setCell ⟨r,2,none⟩ v2).setCell ⟨r,3,none⟩ v3).setCell ⟨r,4,none⟩ v4) (some r) ∧ (((((wr.setCell ⟨r,0,none⟩ v0).setCell ⟨r,1,none⟩ v1).setCell ⟨r,2,none⟩ v2).setCell ⟨r,3,none⟩ v3).setCell ⟨r,4,none⟩ v4).heap[r]? = some (.cells #[v0,v1,v2,v3,v4] T (0,0)) :=
 ⟨vm_setc (vm_setc (vm_setc (vm_setc (vm_setc (World.grownBy.refl wr (some r)) 0 v0) 1 v1) 2 v2) 3 v3) 4 v4,by simp [World.setCell,Array.getElem?_modify,h]⟩
def TchPost (w:World) (bs K:Nat) (H:Frz) (W:World) (e:Ending) (W':World):Prop:=∃ (d:TchD) (H':Frz),e = .returned (.agg #[.int .i64 d.no,.int .i64 d.at_,.string d.source,.slice d.ia d.ids.length d.ic,.slice d.fa d.fields.length d.fc]) ∧ H.Le H' ∧ (∀ b,b < W.heap.size → H' b = H b) ∧ Lw w bs (K + 500) H' W' ∧ W.grownBy W' (some bs) ∧ TcIn H' d
set_option maxHeartbeats 8000000 in
set_option maxRecDepth 100000 in
theorem Lw.touch {w W:World} {bs K:Nat} {H:Frz} (h:Lw w bs K H W) (hK:K ≤ 400000) (hP:PoolIn H) (hN:NamesIn H) (no:Int) :
  Calls Tryz.prog 34 #[.pointer (some ⟨bs,0,none⟩),.int .i64 no] W (TchPost w bs K H W):=by
 have hbs:=h.lt
 have L0:=Lib.hid (h.alloc (.cells #[.int .i64 0,.int .i64 0,.string ⟨#[]⟩,.slice none 0 0,.slice none 0 0] 91))
 have hres:Hid ((W.alloc (.cells #[.int .i64 0,.int .i64 0,.string ⟨#[]⟩,.slice none 0 0,.slice none 0 0] 91)).heap[W.heap.size]? = some (.cells #[.int .i64 0,.int .i64 0,.string ⟨#[]⟩,.slice none 0 0,.slice none 0 0] 91 (0,0))):=heap_at rfl
 have HG0:=Lib.hid (grown_alloc (w:=W) (.cells #[.int .i64 0,.int .i64 0,.string ⟨#[]⟩,.slice none 0 0,.slice none 0 0] 91) (some bs))
 have HR0:=Lib.hid (h.fin.none_ (Nat.le_refl W.heap.size))
 have C0:Hid (Sk w bs K H (W.alloc (.cells #[.int .i64 0,.int .i64 0,.string ⟨#[]⟩,.slice none 0 0,.slice none 0 0] 91)) (W.alloc (.cells #[.int .i64 0,.int .i64 0,.string ⟨#[]⟩,.slice none 0 0,.slice none 0 0] 91))):=Sk.start L0.out
 have hWs:W.heap.size < (W.alloc (.cells #[.int .i64 0,.int .i64 0,.string ⟨#[]⟩,.slice none 0 0,.slice none 0 0] 91)).heap.size:=lt_of_heap hres.out
 have HP:=Lib.hid hP
 have HN:=Lib.hid hN
 clear h hP hN
 go_enter Tryz.func34,Tryz.ntmps34
 go_upto_region 1 with (fail)
 generalize hW0:W.alloc (.cells #[.int .i64 0,.int .i64 0,.string ⟨#[]⟩,.slice none 0 0,.slice none 0 0] 91) = W0 at *
 clear hW0 L0
 have hne:=C0.out.lw.lt
 have hIn:Ints (W0.alloc (.cells #[.int .i64 0,.int .i64 5,.int .i64 10,.int .i64 10,.int .i64 50,.int .i64 100,.int .i64 5000] 3)) (some ⟨W0.heap.size,0,none⟩) [0,5,10,10,50,100,5000]:=Ints.of_row (heap_at rfl) rfl
 have HIn:=Lib.hid hIn
 clear hIn
 go_wp2_with fail
 refine ((C0.out.alloc _).lw.pick _ _ [0,5,10,10,50,100,5000] HIn.out (fun b off e => by injection e with e;injection e with e1 e2;omega) (by simp) (by simp) (by omega)).mono ?_
 rintro e W1 ⟨at9,rfl,hat9,Lq,gq,-⟩
 have C1:=Lib.hid ((C0.out.alloc _).asked Lq gq)
 clear Lq gq HIn hne C0
 have hne:=C1.out.lw.lt
 have hSt:StrsW (W1.alloc (.cells #[.string ⟨#[115,104,111,112]⟩,.string ⟨#[100,101,115,107]⟩,.string ⟨#[97,112,112]⟩] 9)) (some ⟨W1.heap.size,0,none⟩) [⟨#[115,104,111,112]⟩,⟨#[100,101,115,107]⟩,⟨#[97,112,112]⟩]:=StrsW.of_row (heap_at rfl) rfl
 have HSt:=Lib.hid hSt
 clear hSt
 go_wp2_with fail
 refine ((C1.out.alloc _).lw.one _ _ [⟨#[115,104,111,112]⟩,⟨#[100,101,115,107]⟩,⟨#[97,112,112]⟩] HSt.out (fun b off e => by injection e with e;injection e with e1 e2;omega) (by simp) (by simp) (by omega)).mono ?_
 rintro e W2 ⟨so,rfl,hso,Lq,gq,-⟩
 have C2:=Lib.hid ((C1.out.alloc _).asked Lq gq)
 clear Lq gq HSt hne C1
 have hso9:=sizeK hso (by decide +kernel)
 have hne:=C2.out.lw.lt
 have hIn:Ints (W2.alloc (.cells #[.int .i64 1,.int .i64 1,.int .i64 1,.int .i64 2,.int .i64 2,.int .i64 3] 3)) (some ⟨W2.heap.size,0,none⟩) [1,1,1,2,2,3]:=Ints.of_row (heap_at rfl) rfl
 have HIn:=Lib.hid hIn
 clear hIn
 go_wp2_with fail
 refine ((C2.out.alloc _).lw.pick _ _ [1,1,1,2,2,3] HIn.out (fun b off e => by injection e with e;injection e with e1 e2;omega) (by simp) (by simp) (by omega)).mono ?_
 rintro e W3 ⟨mm,rfl,hmm,Lq,gq,-⟩
 have C3:=Lib.hid ((C2.out.alloc _).asked Lq gq)
 clear Lq gq HIn hne C2
 have hmm9:0 ≤ mm ∧ mm ≤ 3:=by simp at hmm;omega
 obtain ⟨m,rfl⟩:=Int.eq_ofNat_of_zero_le hmm9.1
 have hm3:m ≤ 3:=by omega
 clear hmm hmm9 hat9 hso
 go_wp2_with fail
 refine (C3.out.lw.ids (by omega) HP.out m (by omega)).mono ?_
 rintro e W4 ⟨v4,ids,rfl,C4,hil,hidt⟩
 obtain ⟨ia,ic,H1,rfl,-,le1,L4,R4,old1⟩:=C4.1.frozen2
 have G4:=Lib.hid (vm_then C3.out.g C4.2)
 have HL4:=Lib.hid L4
 have HR4:=Lib.hid R4
 have HLE1:=Lib.hid le1
 have HOLD1:=Lib.hid (fun b (hb:b < W0.heap.size) => old1 b (Nat.lt_of_lt_of_le hb C3.out.g.size))
 clear C3 C4 le1 L4 R4 old1 HP
 go_wp2_with fail
 refine (HL4.out.fields (by omega) (HN.out.le HLE1.out) 3 (by omega)).mono ?_
 rintro e W5 ⟨v5,fds,rfl,C5,hfl,hfb,g5⟩
 obtain ⟨fa,fc,H2,rfl,-,le2,L5,R5,old2⟩:=C5.frozen2
 have G5:=Lib.hid (vm_then G4.out g5)
 have D0:Hid (TM w bs (K + 400) H H2 W W5.heap.size W.heap.size ⟨no,at9,so,ia,ic,ids,fa,fc,fds⟩ (W5.alloc (.cells #[.int .i64 no,.int .i64 at9,.string so,.slice ia ids.length ic,.slice fa fds.length fc] 91))):=by
  have hs5:=G5.out.size
  have hrb:W.heap.size < W5.heap.size:=by omega
  have h2:∀ b,b < W0.heap.size → H2 b = H b:=fun b hb => (old2 b (Nat.lt_of_lt_of_le hb G4.out.size)).trans (HOLD1.out b hb)
  have hr5:=(G5.out.block W.heap.size hWs (fun e => by injection e with e;omega)).trans hres.out
  exact ⟨(L5.more (by omega)).alloc _,heap_at rfl,(heap_lt hrb).trans hr5,L5.lt,hbs,by omega,L5.fin.none_ (Nat.le_refl _),(h2 _ hWs).trans HR0.out,vm_then (vm_then HG0.out G5.out) (grown_alloc _ _),HLE1.out.trans le2,fun b hb => h2 b (by omega),by omega,Nat.le_refl _,⟨HR4.out.le le2,R5,by show ids.length ≤ _;omega,by show fds.length ≤ _;omega,hso9,hidt,hfb⟩⟩
 clear HL4 HR4 HLE1 HOLD1 le2 L5 R5 old2 C5 g5 G4 G5 hfb hidt
 go_upto_region 2 with (fail)
 generalize W5.alloc (.cells #[.int .i64 no,.int .i64 at9,.string so,.slice ia ids.length ic,.slice fa fds.length fc] 91) = W6 at *
 generalize W5.heap.size = ob at *
 generalize (⟨no,at9,so,ia,ic,ids,fa,fc,fds⟩:TchD) = d0 at D0
 go_wp2_with fail
 refine (D0.out.lw.flip 60 (by omega) (by omega)).mono ?_
 rintro e W7 ⟨fb,rfl,Lq,gq,-⟩
 have D1:=Lib.hid (D0.out.asked Lq gq)
 clear Lq gq D0
 go_upto_if 22 with (fail)
 go_cut [] (fun wx => ∃ d:TchD,Hid (TM w bs (K + 480) H H2 W ob W.heap.size d wx))
 case first =>
  cases fb with
  | false =>
   go_wp2_with fail
   go_meet
   exact ⟨_,D1.out.more (by omega)⟩
  | true =>
   go_wp2_with fail
   refine (D1.out.lw.next' 4 (by omega) (by omega) (by omega)).mono ?_
   rintro e W8 ⟨u,rfl,u0,u1,Lq,gq,-⟩
   have D2:=Lib.hid (D1.out.asked Lq gq)
   clear Lq gq D1
   have hcs:u = 0 ∨ u = 1 ∨ u = 2 ∨ (u ≠ 0 ∧ u ≠ 1 ∧ u ≠ 2):=by omega
   rcases hcs with rfl | rfl | rfl | ⟨n0,n1,n2⟩
   ·go_wp2_with fail
    refine (D2.out.lw.odd (by omega) 1 1000000 (by omega) (by omega) (by omega)).mono ?_
    rintro e W9 ⟨z,rfl,-,-,Lq,gq⟩
    have D3:=Lib.hid (D2.out.asked Lq gq)
    clear Lq gq D2
    have D4:=Lib.hid (D3.out.setNo z)
    have hc0:=cell_h D3.out.blk 0 (v:=.int .i64 d0.no) rfl
    have hf0:=froz_h D3.out.blk 0
    go_wp2_with fail
    go_meet
    exact ⟨_,D4.out.more (by omega)⟩
   ·go_wp2_with fail
    refine (D2.out.lw.odd (by omega) 0 4321439 (by omega) (by omega) (by omega)).mono ?_
    rintro e W9 ⟨z,rfl,-,-,Lq,gq⟩
    have D3:=Lib.hid (D2.out.asked Lq gq)
    clear Lq gq D2
    have D4:=Lib.hid (D3.out.setAt z)
    have hc1:=cell_h D3.out.blk 1 (v:=.int .i64 d0.at_) rfl
    have hf1:=froz_h D3.out.blk 1
    go_wp2_with fail
    go_meet
    exact ⟨_,D4.out.more (by omega)⟩
   ·skip
    have hne:=D2.out.lw.lt
    have hSt:StrsW (W8.alloc (.cells #[.string ⟨#[]⟩,.string ⟨#[83,104,111,112]⟩,.string ⟨#[97,32,98]⟩] 9)) (some ⟨W8.heap.size,0,none⟩) [⟨#[]⟩,⟨#[83,104,111,112]⟩,⟨#[97,32,98]⟩]:=StrsW.of_row (heap_at rfl) rfl
    have HSt:=Lib.hid hSt
    clear hSt
    go_wp2_with fail
    refine ((D2.out.alloc _).lw.one _ _ [⟨#[]⟩,⟨#[83,104,111,112]⟩,⟨#[97,32,98]⟩] HSt.out (fun b off e => by injection e with e;injection e with e1 e2;omega) (by simp) (by simp) (by omega)).mono ?_
    rintro e W9 ⟨z,rfl,hz,Lq,gq,-⟩
    have D3:=Lib.hid ((D2.out.alloc _).asked Lq gq)
    clear Lq gq HSt hne D2
    have D4:=Lib.hid (D3.out.setSrc z (sizeK hz (by decide +kernel)))
    have hc2:=cell_h D3.out.blk 2 (v:=.string d0.source) rfl
    have hf2:=froz_h D3.out.blk 2
    clear hz
    go_wp2_with fail
    go_meet
    exact ⟨_,D4.out.more (by omega)⟩
   ·have q0:(u == 0) = false:=by simpa using n0
    have q1:(u == 1) = false:=by simpa using n1
    have q2:(u == 2) = false:=by simpa using n2
    have D4:=Lib.hid D2.out.setIds
    have hc3:=cell_h D2.out.blk 3 (v:=.slice d0.ia d0.ids.length d0.ic) rfl
    have hf3:=froz_h D2.out.blk 3
    go_wp2_with fail
    go_meet
    exact ⟨_,D4.out.more (by omega)⟩
 case rest =>
  obtain ⟨d2,D2⟩:=hcut
  have hk0:=cell_h D2.out.blk 0 (v:=.int .i64 d2.no) rfl
  have hk1:=cell_h D2.out.blk 1 (v:=.int .i64 d2.at_) rfl
  have hk2:=cell_h D2.out.blk 2 (v:=.string d2.source) rfl
  have hk3:=cell_h D2.out.blk 3 (v:=.slice d2.ia d2.ids.length d2.ic) rfl
  have hk4:=cell_h D2.out.blk 4 (v:=.slice d2.fa d2.fields.length d2.fc) rfl
  have hkr:=D2.out.res
  have rr0:=cell_h hkr 0 (v:=.int .i64 0) rfl
  have rf0:=froz_h hkr 0
  have rr1:=cell_h hkr 1 (v:=.int .i64 0) rfl
  have rf1:=froz_h hkr 1
  have rr2:=cell_h hkr 2 (v:=.string ⟨#[]⟩) rfl
  have rf2:=froz_h hkr 2
  have rr3:=cell_h hkr 3 (v:=.slice none 0 0) rfl
  have rf3:=froz_h hkr 3
  have rr4:=cell_h hkr 4 (v:=.slice none 0 0) rfl
  have rf4:=froz_h hkr 4
  go_wp2_with fail
  (try simp only [Exit.inBlock,Exit.then])
  obtain ⟨hg9,hh9⟩:=tm_set5 hkr (.int .i64 d2.no) (.int .i64 d2.at_) (.string d2.source) (.slice d2.ia d2.ids.length d2.ic) (.slice d2.fa d2.fields.length d2.fc)
  refine bodyPost_ret (results_cell_row rfl _ _ W.heap.size 91 _ (0,0) _ rfl hh9 Tryz.underlying91 rfl (by kernel_rfl)) rfl ?_
  refine ⟨d2,H2,rfl,D2.out.le,D2.out.old,(D2.out.lw.grown hg9 (fun q hq => by injection hq with hq;subst hq;exact ⟨D2.out.br,D2.out.hr⟩)).more (by omega),⟨hg9.os.trans D2.out.gr.os,hg9.tape.trans D2.out.gr.tape,hg9.output.trans D2.out.gr.output,Nat.le_trans D2.out.gr.size hg9.size,fun b hb hne => ?_⟩,D2.out.ok⟩
  have:=D2.out.lr
  exact (hg9.block b (Nat.lt_of_lt_of_le hb D2.out.gr.size) (fun e => by injection e with e;omega)).trans (D2.out.gr.block b hb hne)
open Go.RowKit
def RightTs (ts:List TchD):Prop:=fstErr (tch1 okT ts) ts.length = 0
theorem tchE_more {ok:ByteArray → Bool} {t:TchD} {b:Int} (h:tchE ok t 0 = 0) (hb:b < t.no):tchE ok t b = 0:=by
 unfold tchE at h ⊢
 split at h
 ·cases h
 rename_i h1
 rw [if_neg h1]
 split at h
 ·cases h
 rename_i h2
 rw [if_neg h2]
 split at h
 ·cases h
 rw [if_neg (by omega)]
 exact h
theorem tchs_one {ok:ByteArray → Bool} {t:TchD} (h:tchsE ok [t] = 0):tchE ok t 0 = 0:=by
 unfold tchsE at h
 rw [if_neg (by simp)] at h
 exact fstErr_zero.1 h 0 (by simp)
theorem prevNo_app {ts:List TchD} {t:TchD} {i:Nat} (h:i ≤ ts.length):prevNo (ts ++ [t]) i = prevNo ts i:=by
 cases i with
 | zero => rfl
 | succ i =>
  unfold prevNo
  simp only
  rw [List.getElem?_append_left (by omega)]
theorem RightTs.nil:RightTs []:=rfl
theorem RightTs.snoc {ts:List TchD} {t:TchD} (h:RightTs ts) (h1:tchE okT t 0 = 0) (h2:prevNo ts ts.length < t.no):RightTs (ts ++ [t]):=by
 unfold RightTs at h ⊢
 have h0:=fstErr_zero.1 h
 refine fstErr_zero.2 fun i hi => ?_
 by_cases e:i < ts.length
 ·have:=h0 i e
  unfold tch1 at this ⊢
  rw [List.getElem?_append_left e,prevNo_app (by omega)]
  exact this
 ·have e2:i = ts.length:=by simp at hi;omega
  subst e2
  unfold tch1
  rw [List.getElem?_append_right (Nat.le_refl _),Nat.sub_self]
  simp only [List.getElem?_cons_zero]
  rw [prevNo_app (Nat.le_refl _)]
  exact tchE_more h1 h2
theorem RightTs.all {ts:List TchD} (h:RightTs ts) (hl:ts.length ≤ 2000):tchsE okT ts = 0:=by
 unfold tchsE
 rw [if_neg (by omega)]
 exact h
theorem prev_last {ts:List TchD} (h:0 < ts.length):prevNo ts ts.length = (ts[ts.length - 1]'(by omega)).no:=by
 obtain ⟨n,hn⟩:∃ n,ts.length = n + 1:=⟨ts.length - 1,by omega⟩
 have e:prevNo ts (n + 1) = (ts[n]'(by omega)).no:=by
  unfold prevNo
  simp only
  rw [List.getElem?_eq_getElem (by omega)]
 have e2:ts.length - 1 = n:=by omega
 simp only [e2]
 exact (congrArg (prevNo ts) hn).trans e
section
variable {D:Type} {T k:Nat} {f:D → Nat → Value} {w W wr W':World} {bs K K':Nat} {H H':Frz} {v:Value} {ds:List D}
theorem RG.laid (h:RG T k f w bs K H W v ds wr) (L:Lw w bs K' H' W') (g:wr.grownBy W' (some bs)) (ho:∀ b,b < wr.heap.size → H' b = H b):RG T k f w bs K' H' W v ds W' :=
 ⟨⟨L,h.1.row.far g h.1.2.2.2.1,(fun q hq => (ho q (h.1.row.lt hq).2).trans (h.1.2.2.1 q hq)),h.1.2.2.2.1,Nat.le_trans h.1.2.2.2.2 g.size⟩,vm_then h.2 g⟩
end
open Go.RowKit
open Go.RowKit
theorem slotA_of {a:Act} {s:Nat} {v:Value} (h:a.tmps.getD s undef = v):a.tmps[s]?.getD undef = v:=by rw [← Array.getD_eq_getD_getElem?];exact h
def RuF (v:Value) (ls:List Int) (W:World):Prop:=∃ A cap H',v = .slice A ls.length cap ∧ ls.length ≤ cap ∧ H'.In W ∧ Rw H' A 1 fR ls
theorem RuF.below {v:Value} {ls:List Int} {W W':World} (h:RuF v ls W) (hb:Below W.heap.size W W'):RuF v ls W':=by
 obtain ⟨A,cap,H',h1,h2,h3,h4⟩:=h
 exact ⟨A,cap,H',h1,h2,h3.below hb,h4⟩
theorem RuF.of {H:Frz} {B:Nat} {v:Value} {ls:List Int} {w W:World} (h:RuM H B v ls w W):RuF v ls W:=by
 obtain ⟨A,cap,H',h1,h2,h3,-,h4,-⟩:=Orow.freezeN h.row Frz.empty
 exact ⟨A,cap,H',h1,h2,h3 (Frz.In.empty _),h4⟩
def Frz.both (H1 H2:Frz):Frz:=fun b => match H1 b with | some o => some o | none => H2 b
open Go.RowKit
theorem RM.beside {D:Type} {T k:Nat} {f:D → Nat → Value} {w W:World} {bs K:Nat} {H:Frz} {B:Nat} {v:Value} {ds:List D} (h:RM T k f w bs K H B v ds W) {g o:Nat} (hg:bs < g) (hH:H g = none) (hne:v.ownBlock ≠ some g) (x:Value):RM T k f w bs K H B v ds (W.setCell ⟨g,o,none⟩ x) :=
 ⟨h.1.setCell (p:=⟨g,o,none⟩) hg hH x,h.2.1.kept (vm_setc (World.grownBy.refl _ _) o x) (Or.inr hne),h.2.2.1,h.2.2.2.1,by have:=h.2.2.2.2;simpa [World.setCell] using this⟩
def MsB (ds:List MsD):Prop:=∀ d ∈ ds,d.name.size ≤ 1000
theorem MsB.snoc {ds:List MsD} (h:MsB ds) {d:MsD} (hd:d.name.size ≤ 1000):MsB (ds ++ [d]):=by
 intro y hy
 rcases List.mem_append.1 hy with hy | hy
 ·exact h y hy
 ·simp at hy;rw [hy];exact hd
theorem MsB.set {ds:List MsD} (h:MsB ds) {d:MsD} {p:Nat} (hd:d.name.size ≤ 1000):MsB (ds.set p d):=by
 intro y hy
 rcases List.mem_or_eq_of_mem_set hy with hy | hy
 ·exact h y hy
 ·rw [hy];exact hd
def AtM (bs:Nat) (w:World) (g:Nat) (o:Obj):Prop:=g ≠ bs ∧ w.heap[g]? = some o
theorem AtM.new {bs:Nat} {w:World} (o:Obj) (h:bs < w.heap.size):AtM bs (w.alloc o) w.heap.size o:=⟨by omega,heap_at rfl⟩
theorem AtM.keep {bs g:Nat} {w w':World} {o:Obj} (h:AtM bs w g o) (gr:w.grownBy w' (some bs)):AtM bs w' g o:=⟨h.1,(gr.block _ (lt_of_heap h.2) (fun e => by injection e with e;exact h.1 e)).trans h.2⟩
open Go.RowKit
abbrev TcM:=RG (D:=TchD) 91 5 fTch
theorem infoTch9:(Tryz.prog.info? 91).map (fun i => (i.zero,i.size,i.bytes)) = some (some (.agg #[.int .i64 0,.int .i64 0,.string ⟨#[]⟩,.slice none 0 0,.slice none 0 0]),5,80):=by kernel_rfl
structure TcsOk (H:Frz) (ts:List TchD):Prop where
 inn:∀ t ∈ ts,TcIn H t
 right:RightTs ts
theorem TcsOk.le {H H':Frz} {ts:List TchD} (h:TcsOk H ts) (hl:H.Le H'):TcsOk H' ts:=⟨fun t ht => (h.inn t ht).le hl,h.right⟩
theorem TcsOk.snoc {H:Frz} {ts:List TchD} {t:TchD} (h:TcsOk H ts) (ht:TcIn H t) (h1:tchE okT t 0 = 0) (h2:prevNo ts ts.length < t.no):TcsOk H (ts ++ [t]) :=
 ⟨fun x hx => by
  rcases List.mem_append.1 hx with hx | hx
  ·exact h.inn x hx
  ·simp at hx;rw [hx];exact ht,h.right.snoc h1 h2⟩
def φR (bs g:Nat) (v:Value) (n:Int) (j:Nat) (pn:Int) (i:Nat) (x:Value) (W:World):Prop :=
 match i with
 | 0 => x = v
 | 1 => x = .int .i64 n
 | 2 => x = .int .i64 (j:Int)
 | 3 => x = .pointer (some ⟨g,j * 5,none⟩)
 | 4 => x = .pointer (some ⟨g,j * 5,none⟩)
 | 5 => x = .int .i64 pn
 | 6 => x = .pointer (some ⟨bs,0,none⟩)
 | 7 => ∃ g,x = .slice (some ⟨g,0,none⟩) 3 3 ∧ AtM bs W g (.cells #[.int .i64 1,.int .i64 1,.int .i64 2] 3 (0,0))
 | 8 => ∃ z:Int,x = .int .i64 z ∧ 1 ≤ z ∧ z ≤ 2
 | _ => ∃ z:Int,x = .int .i64 z ∧ pn < z ∧ z ≤ pn + 2
theorem φR_mono {bs g j:Nat} {v:Value} {n pn:Int} (i:Nat) (x:Value) (W W':World) (_:i < 10) (he:W.grownBy W' (some bs)) (h:φR bs g v n j pn i x W):φR bs g v n j pn i x W':=by
 match i with
 | 0 => exact h
 | 1 => exact h
 | 2 => exact h
 | 3 => exact h
 | 4 => exact h
 | 5 => exact h
 | 6 => exact h
 | 7 => obtain ⟨g,h1,h2⟩:=h;exact ⟨g,h1,h2.keep he⟩
 | 8 => exact h
 | n + 9 => exact h
theorem RG.drew {D:Type} {T k:Nat} {f:D → Nat → Value} {w W wr:World} {bs K:Nat} {H:Frz} {v:Value} {ds:List D} (h:RG T k f w bs K H W v ds wr):RG T k f w bs K H W v ds wr.drew:=h.call ((Below.refl _ _).drew)
theorem RG.same {D:Type} {T k:Nat} {f:D → Nat → Value} {w W wr:World} {bs K n:Nat} {H:Frz} {v:Value} {ds:List D} (h:RG T k f w bs (K + n) H W v ds wr):RG T k f w bs (K + (n + 1)) H W v ds wr:=h.more (by omega)
theorem prev_bound {ts:List TchD} (h:RightTs ts):0 ≤ prevNo ts ts.length ∧ prevNo ts ts.length ≤ 1000000:=by
 rcases Nat.eq_zero_or_pos ts.length with h0 | h0
 ·rw [h0]
  exact ⟨Int.le_refl _,by show (0:Int) ≤ _;omega⟩
 ·rw [prev_last h0]
  have:=fstErr_zero.1 h (ts.length - 1) (by omega)
  unfold tch1 at this
  rw [List.getElem?_eq_getElem (by omega)] at this
  simp only at this
  unfold tchE at this
  split at this
  ·cases this
  ·rename_i g
   have:=Decidable.not_not.1 g
   omega
theorem row_one {H:Frz} {q:Nat} {d:TchD} (h:H q = some (.cells #[.int .i64 d.no,.int .i64 d.at_,.string d.source,.slice d.ia d.ids.length d.ic,.slice d.fa d.fields.length d.fc] 91 (0,0))):Rw H (some ⟨q,0,none⟩) 5 fTch [d]:=by
 intro i hi
 have:i = 0:=by simp at hi;omega
 subst this
 refine ⟨q,0,rfl,fun j hj => ?_⟩
 have hc:j = 0 ∨ j = 1 ∨ j = 2 ∨ j = 3 ∨ j = 4:=by omega
 rcases hc with rfl | rfl | rfl | rfl | rfl <;> simp [Frz.cell?,h,fTch]
def RtPost (w:World) (bs K m:Nat) (H:Frz) (W:World) (e:Ending) (W':World):Prop:=∃ v ts H',e = .returned v ∧ H.Le H' ∧ (∀ b,b < W.heap.size → H' b = H b) ∧ TcM w bs (K + 600 * m + 20) H' W v ts W' ∧ TcsOk H' ts ∧ ts.length ≤ m
set_option maxHeartbeats 8000000 in
set_option maxRecDepth 100000 in
theorem Lw.rightTouches {w W:World} {bs K:Nat} {H:Frz} (h:Lw w bs K H W) (hK:K ≤ 200000) (hP:PoolIn H) (hN:NamesIn H) (hU:UtfIn H) (hM:MLen H) (m:Nat) (hm:m ≤ 100) :
  Calls Tryz.prog 13 #[.pointer (some ⟨bs,0,none⟩),.int .i64 m] W (RtPost w bs K m H W):=by
 obtain ⟨i0,hi0,hz0,hz1,hz2⟩:=info_parts infoTch9
 have hbs:=h.lt
 have C0:Hid (TcM w bs K H W (.slice none 0 0) [] W):=RG.start h
 have HP:=Lib.hid hP
 have HN:=Lib.hid hN
 have HU:=Lib.hid hU
 have HM:=Lib.hid hM
 clear h hP hN hU hM
 go_enter Tryz.func13,Tryz.ntmps13
 go_wp2_with fail
 go_loopw [5,10] (fun v t wr => ∃ (i:Nat) (ts:List TchD) (H':Frz),i ≤ m ∧ t = .int .i64 i ∧ Hid (H.Le H') ∧ Hid (∀ b,b < W.heap.size → H' b = H b) ∧ Hid (TcM w bs (K + 600 * i) H' W v ts wr) ∧ ts.length ≤ i ∧ Hid (TcsOk H' ts)) (fun _ t _ => m - (intOf t).toNat)
 case atStart => exact ⟨0,[],H,by omega,rfl,Frz.Le.refl _,(fun b hb => rfl),C0,by simp,⟨(fun t ht => by cases ht),RightTs.nil⟩⟩
 case round =>
  obtain ⟨i,ts,H1,hi,rfl,HLE,HOLD,C,hdl,HOK⟩:=hrel
  clear C0
  obtain ⟨A,cap,hv,hle⟩:=C.out.1.row.slice
  by_cases hlt:i < m
  ·have di:decide ((i:Int) < (m:Int)) = true:=by simp;omega
   subst hv
   have hpb:=prev_bound HOK.out.right
   go_upto_if 15 with (fail)
   go_cut [6] (fun q6 wx => ∃ no:Int,q6 = .int .i64 no ∧ prevNo ts ts.length < no ∧ no ≤ 1000002 ∧ Hid (TcM w bs (K + 600 * i + 20) H1 W (.slice A ts.length cap) ts wx))
   case first =>
    by_cases hne:ts = []
    ·subst hne
     go_wp2_with fail
     all_goals (go_meet;exact ⟨1,rfl,by show (0:Int) < 1;omega,by omega,C.out.more (by omega)⟩)
    ·have hpos:0 < ts.length:=List.length_pos_iff.2 hne
     have k0:decide ((0:Int) < (ts.length:Int)) = true:=by simp;omega
     obtain ⟨go,capg,rest,hv,hleg,hBg,hglt,hmg,hblk,hrg⟩:=C.out.1.row.form hne
     simp only [Value.slice.injEq,true_and] at hv
     obtain ⟨rfl,rfl⟩:=hv
     obtain ⟨j,hj⟩:∃ j,ts.length = j + 1:=⟨ts.length - 1,by omega⟩
     have hjl:j < ts.length:=by omega
     have hlast:prevNo ts ts.length = ts[j].no:=by rw [prev_last hpos];congr 2;omega
     have a1:IntKind.i64.wrap ((ts.length:Int) - 1) = (j:Int):=by rw [show (ts.length:Int) - 1 = j by omega];exact IntWalk.i64_in _ (by omega)
     have HCELL:Hid (∀ W',Orow W' W.heap.size 91 5 fTch (.slice (some ⟨go,0,none⟩) ts.length cap) ts → W'.cell? ⟨go,j * 5,none⟩ = some (.int .i64 (prevNo ts ts.length))):=fun W' ho => by
      obtain ⟨g2,cap2,rest2,hv2,-,-,-,-,hblk2,-⟩:=ho.form hne
      simp only [Value.slice.injEq,true_and,Option.some.injEq,Addr.mk.injEq,and_true] at hv2
      obtain ⟨rfl,rfl⟩:=hv2
      rw [hlast]
      exact hblk2.cell j 0 hjl (by omega)
     have HJ:=Lib.hid hj
     clear hblk hrg hmg hj
     generalize prevNo ts ts.length = pn at *
     go_upto_region 7 with (fail)
     refine wp_region_conc 10 45 (φR bs go (.slice (some ⟨go,0,none⟩) ts.length cap) ts.length j pn) (fun n W' => TcM w bs (K + 600 * i + n) H1 W (.slice (some ⟨go,0,none⟩) ts.length cap) ts W' ∧ wr.heap.size ≤ W'.heap.size) (fun a b => a.grownBy b (some bs)) (by kernel_rfl) (by kernel_rfl) (by rfl) ⟨C.out.drew,Nat.le_refl _⟩ φR_mono ?_ ?_
     ·intro n o hn ho a W2 kk hkk hJ hkn
      have hcs:n = 0 ∨ n = 1 ∨ n = 2 ∨ n = 3 ∨ n = 4 ∨ n = 5 ∨ n = 6 ∨ n = 7 ∨ n = 8 ∨ n = 9:=by omega
      rcases hcs with rfl | rfl | rfl | rfl | rfl | rfl | rfl | rfl | rfl | rfl
      ·obtain rfl:=Option.some.inj ho
       exact ⟨hkn 5 (by decide),⟨hJ.1.same,hJ.2⟩,World.grownBy.refl _ _⟩
      ·obtain rfl:=Option.some.inj ho
       exact ⟨hkn 7 (by decide),⟨hJ.1.same,hJ.2⟩,World.grownBy.refl _ _⟩
      ·obtain rfl:=Option.some.inj ho
       have h1:=slotA_of (hkn 17 (by decide):a.tmps.getD 17 undef = .int .i64 (ts.length:Int))
       clear hkn ho
       simp only [OpV,execOp]
       simp [go_sem,h1]
       refine ⟨?_,⟨hJ.1.same,hJ.2⟩,World.grownBy.refl _ _⟩
       first | rfl | (show Value.int .i64 _ = Value.int .i64 _;congr 1;done) | (show Value.int .i64 _ = Value.int .i64 _;congr 1;first | exact a1 | (rw [IntWalk.wrap64_in _ (by omega)];have:=HJ.out;omega))
      ·obtain rfl:=Option.some.inj ho
       have h1:=slotA_of (hkn 16 (by decide):a.tmps.getD 16 undef = .slice (some ⟨go,0,none⟩) ts.length cap)
       have h2:=slotA_of (hkn 18 (by decide):a.tmps.getD 18 undef = .int .i64 (j:Int))
       have hjz:(j:Int) < ts.length:=by omega
       clear hkn ho
       simp only [OpV,execOp]
       simp [go_sem,h1,h2,hjz]
       exact ⟨rfl,⟨hJ.1.same,hJ.2⟩,World.grownBy.refl _ _⟩
      ·obtain rfl:=Option.some.inj ho
       have h1:=slotA_of (hkn 19 (by decide):a.tmps.getD 19 undef = .pointer (some ⟨go,j * 5,none⟩))
       clear hkn ho
       simp only [OpV,execOp]
       simp [go_sem,h1]
       exact ⟨rfl,⟨hJ.1.same,hJ.2⟩,World.grownBy.refl _ _⟩
      ·obtain rfl:=Option.some.inj ho
       have h1:=slotA_of (hkn 20 (by decide):a.tmps.getD 20 undef = .pointer (some ⟨go,j * 5,none⟩))
       have hc:=HCELL.out _ hJ.1.1.row
       clear hkn ho
       simp only [OpV,execOp]
       simp [go_sem,h1,hc]
       exact ⟨rfl,⟨hJ.1.same,hJ.2⟩,World.grownBy.refl _ _⟩
      ·obtain rfl:=Option.some.inj ho
       exact ⟨hkn 0 (by decide),⟨hJ.1.same,hJ.2⟩,World.grownBy.refl _ _⟩
      ·obtain rfl:=Option.some.inj ho
       clear hkn ho
       simp only [OpV,execOp]
       simp [go_sem]
       exact ⟨⟨W2.heap.size,rfl,AtM.new _ hJ.1.lw.lt⟩,⟨(hJ.1.alloc _).same,by have:=hJ.2;omega⟩,grown_alloc _ _⟩
      ·obtain rfl:=Option.some.inj ho
       have h1:=slotA_of (hkn 22 (by decide):a.tmps.getD 22 undef = .pointer (some ⟨bs,0,none⟩))
       obtain ⟨g,h2,h3⟩:∃ g,a.tmps.getD 23 undef = .slice (some ⟨g,0,none⟩) 3 3 ∧ AtM bs W2 g (.cells #[.int .i64 1,.int .i64 1,.int .i64 2] 3 (0,0)):=hkn 23 (by decide)
       replace h2:=slotA_of h2
       clear hkn ho
       simp only [OpV,execOp]
       simp [go_sem,h1,h2]
       exact (hJ.1.lw.pick (some ⟨g,0,none⟩) 3 [1,1,2] (Ints.of_row h3.2 rfl) (fun b off e => by injection e with e;injection e with e1 e2;rw [← e1];exact h3.1) (by simp) (by simp) (by omega)).mono fun e w'' ⟨z,he,hm,L',g',hz'⟩ => ⟨_,he,⟨z,rfl,by simp at hm;omega,by simp at hm;omega⟩,⟨hJ.1.asked L' g',by have:=hJ.2;have:=g'.size;omega⟩,g'⟩
      ·obtain rfl:=Option.some.inj ho
       have h1:=slotA_of (hkn 21 (by decide):a.tmps.getD 21 undef = .int .i64 pn)
       obtain ⟨z,h2,hz1,hz2⟩:∃ z:Int,a.tmps.getD 24 undef = .int .i64 z ∧ 1 ≤ z ∧ z ≤ 2:=hkn 24 (by decide)
       replace h2:=slotA_of h2
       have hw:IntKind.i64.wrap (pn + z) = pn + z:=IntWalk.i64_in _ (by omega)
       clear hkn ho
       simp only [OpV,execOp]
       simp [go_sem,h1,h2]
       exact ⟨⟨pn + z,by first | rfl | exact congrArg (Value.int .i64) hw | exact congrArg (Value.int .i64) (IntWalk.wrap64_in _ (by omega)),by omega,by omega⟩,⟨hJ.1.same,hJ.2⟩,World.grownBy.refl _ _⟩
     ·intro x W5 hJ5 hφ
      obtain ⟨z,e9,hz1,hz2⟩:∃ z:Int,x 9 = .int .i64 z ∧ pn < z ∧ z ≤ pn + 2:=hφ 9 (by omega)
      have HJ5:=Lib.hid hJ5.1
      clear hφ hJ5
      simp only [List.drop_succ_cons,List.drop_zero,List.take_succ_cons,List.take_zero,putAll,Nat.reduceAdd,e9]
      clear e9
      generalize x 0 = y0
      generalize x 1 = y1
      generalize x 2 = y2
      generalize x 3 = y3
      generalize x 4 = y4
      generalize x 5 = y5
      generalize x 6 = y6
      generalize x 7 = y7
      generalize x 8 = y8
      go_wp2_with fail
      go_meet
      exact ⟨z,rfl,hz1,by omega,HJ5.out.more (by omega)⟩
   case rest =>
    obtain ⟨no,rfl,hn1,hn2,C2⟩:=hcut
    clear C
    go_wp2_with fail
    refine (C2.out.lw.touch (by omega) (HP.out.le HLE.out) (HN.out.le HLE.out) no).mono ?_
    rintro e W3 ⟨d,H2,rfl,le2,old2,L3,g3,hd⟩
    have C3:=Lib.hid (C2.out.laid L3 g3 old2)
    have HLE2:=Lib.hid (HLE.out.trans le2)
    have HOLD2:Hid (∀ b,b < W.heap.size → H2 b = H b):=fun b hb => (old2 b (Nat.lt_of_lt_of_le hb C2.out.2.size)).trans (HOLD.out b hb)
    have HOK2:=Lib.hid (HOK.out.le le2)
    have HD:=Lib.hid hd
    clear C2 HLE HOLD HOK L3 g3 old2 le2 hd
    have D4:=Lib.hid (C3.out.alloc (.cells #[.int .i64 d.no,.int .i64 d.at_,.string d.source,.slice d.ia d.ids.length d.ic,.slice d.fa d.fields.length d.fc] 91))
    have z0:(W3.alloc (.cells #[.int .i64 d.no,.int .i64 d.at_,.string d.source,.slice d.ia d.ids.length d.ic,.slice d.fa d.fields.length d.fc] 91)).cell? ⟨W3.heap.size,0,none⟩ = some (.int .i64 d.no):=newc 0 rfl
    have z1:(W3.alloc (.cells #[.int .i64 d.no,.int .i64 d.at_,.string d.source,.slice d.ia d.ids.length d.ic,.slice d.fa d.fields.length d.fc] 91)).cell? ⟨W3.heap.size,1,none⟩ = some (.int .i64 d.at_):=newc 1 rfl
    have z2:(W3.alloc (.cells #[.int .i64 d.no,.int .i64 d.at_,.string d.source,.slice d.ia d.ids.length d.ic,.slice d.fa d.fields.length d.fc] 91)).cell? ⟨W3.heap.size,2,none⟩ = some (.string d.source):=newc 2 rfl
    have z3:(W3.alloc (.cells #[.int .i64 d.no,.int .i64 d.at_,.string d.source,.slice d.ia d.ids.length d.ic,.slice d.fa d.fields.length d.fc] 91)).cell? ⟨W3.heap.size,3,none⟩ = some (.slice d.ia d.ids.length d.ic):=newc 3 rfl
    have z4:(W3.alloc (.cells #[.int .i64 d.no,.int .i64 d.at_,.string d.source,.slice d.ia d.ids.length d.ic,.slice d.fa d.fields.length d.fc] 91)).cell? ⟨W3.heap.size,4,none⟩ = some (.slice d.fa d.fields.length d.fc):=newc 4 rfl
    clear C3
    go_upto_region 9 with (fail)
    generalize W3.alloc (.cells #[.int .i64 d.no,.int .i64 d.at_,.string d.source,.slice d.ia d.ids.length d.ic,.slice d.fa d.fields.length d.fc] 91) = W4 at *
    generalize W3.heap.size = mb at *
    have D5:=Lib.hid (D4.out.alloc (.cells #[.int .i64 d.no,.int .i64 d.at_,.string d.source,.slice d.ia d.ids.length d.ic,.slice d.fa d.fields.length d.fc] 91))
    have HNW:=Lib.hid (new1 (w:=W4) (.cells #[.int .i64 d.no,.int .i64 d.at_,.string d.source,.slice d.ia d.ids.length d.ic,.slice d.fa d.fields.length d.fc] 91))
    have HIN5:=Lib.hid ((D4.out.lw.fin.alloc (.cells #[.int .i64 d.no,.int .i64 d.at_,.string d.source,.slice d.ia d.ids.length d.ic,.slice d.fa d.fields.length d.fc] 91)).add (heap_alloc_new W4 (.cells #[.int .i64 d.no,.int .i64 d.at_,.string d.source,.slice d.ia d.ids.length d.ic,.slice d.fa d.fields.length d.fc] 91)))
    have hl5:=Frz.le_add (o:=(.cells #[.int .i64 d.no,.int .i64 d.at_,.string d.source,.slice d.ia d.ids.length d.ic,.slice d.fa d.fields.length d.fc] 91 (0,0))) (D4.out.lw.fin.none_ (Nat.le_refl W4.heap.size))
    have HTF:=Lib.hid (refTchs_any (H2.add W4.heap.size (.cells #[.int .i64 d.no,.int .i64 d.at_,.string d.source,.slice d.ia d.ids.length d.ic,.slice d.fa d.fields.length d.fc] 91 (0,0))) ((HU.out.le HLE2.out).le hl5) ((HM.out.le HLE2.out).le hl5) (some ⟨W4.heap.size,0,none⟩) 1 [d] _ HIN5.out ⟨row_one (Frz.add_at _ _ _),fun t ht => by simp at ht;subst ht;exact ⟨HD.out.ids.le hl5,HD.out.fds.le hl5⟩⟩ (by simp) (fun t ht => by simp at ht;subst ht;exact HD.out.sz))
    clear hl5 HIN5
    go_wp2_with fail
    refine HTF.out.mono ?_
    rintro e W6 ⟨ze,rfl,hze,hb6⟩
    have D6:=Lib.hid (D5.out.call hb6)
    have hb46:=HNW.out.trans (hb6.mono HNW.out.size)
    have y0:=lift_cell z0 _ hb46
    have y1:=lift_cell z1 _ hb46
    have y2:=lift_cell z2 _ hb46
    have y3:=lift_cell z3 _ hb46
    have y4:=lift_cell z4 _ hb46
    have HZE:=Lib.hid hze
    clear hb6 hb46 hze z0 z1 z2 z3 z4 D4 D5 HNW HTF
    by_cases g1:ze = 0
    rotate_left
    ·have k1:(ze == 0) = false:=by simpa using g1
     clear g1
     go_wp2_with fail
     go_roundw
     case rel => exact ⟨i + 1,ts,H2,by omega,by go_num,HLE2,HOLD2,D6.out.more (by omega),by omega,HOK2⟩
     case measure => simp [intOf];omega
    have k1:(ze == 0) = true:=by simpa using g1
    have HT1:=Lib.hid (tchs_one (HZE.out g1))
    clear g1 HZE
    by_cases g2:d.no = no
    rotate_left
    ·have k2:(d.no == no) = false:=by simpa using g2
     clear g2
     go_wp2_with fail
     go_roundw
     case rel => exact ⟨i + 1,ts,H2,by omega,by go_num,HLE2,HOLD2,D6.out.more (by omega),by omega,HOK2⟩
     case measure => simp [intOf];omega
    ·have k2:(d.no == no) = true:=by simpa using g2
     have HOK3:=Lib.hid (HOK2.out.snoc HD.out HT1.out (by rw [g2];exact hn1))
     have hsz:ts.length ≤ 4294967296:=by omega
     clear g2 hn1 hpb
     generalize hv2:Value.slice A ts.length cap = v2 at D6
     have HOr:=Lib.hid D6.out.1.row
     have HST:=Lib.hid (fun v' W' o g1 at1 => D6.out.app (v':=v') (W':=W') (ds':=ts ++ [d]) o g1 at1)
     have hB9:=D6.out.1.2.2.2.2
     go_wp2_with (at_builtin;refine wpList_app_at rfl _ _ 26 rfl W.heap.size 91 i0 (.agg #[.int .i64 0,.int .i64 0,.string ⟨#[]⟩,.slice none 0 0,.slice none 0 0]) 5 80 Tryz.underlying26 hi0 hz0 hz1 hz2 rfl (by decide) fTch _ ts rfl HOr.out d #[.int .i64 d.no,.int .i64 d.at_,.string d.source,.slice d.ia d.ids.length d.ic,.slice d.fa d.fields.length d.fc] 91 rfl rfl (by simp [Value.oneCell']) (by omega) (by omega) hB9 ?_;intro v1 w2 o1 g1 b1 at1;have CA:=Lib.hid (HST.out v1 w2 o1 g1 at1);clear o1 g1 b1 at1 HST HOr)
     go_roundw
     case rel => exact ⟨i + 1,_,H2,by omega,by go_num,HLE2,HOLD2,CA.out.more (by omega),by simp;omega,HOK3⟩
     case measure => simp [intOf];omega
  ·have hie:i = m:=by omega
   subst hie
   subst hv
   have HF:Hid (RtPost w bs K i H W (.returned (.slice A ts.length cap)) wr):=⟨_,ts,H1,rfl,HLE.out,HOLD.out,C.out.more (by omega),HOK.out,hdl⟩
   go_wp2_with fail
   exact bodyPost_ret (by kernel_rfl) rfl HF.out
end Go.Proofs.YtcncifmanodabaaGreatDoor
