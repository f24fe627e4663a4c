/- Texts of this claim, put together: MakeVal, MakeFds. -/
import Derived.Test.YtfmnlpmgakgleaaGreatDoorGAH
import Derived.Test.YtfmnlpmgakgleaaGreatDoorGAG
import Derived.Test.YtfmnlpmgakgleaaGreatDoorGAF
import Derived.Test.YtfmnlpmgakgleaaGreatDoorGAI
import Derived.Laws.Rows
import Derived.Deep.CutBlock
import Derived.Deep.DeepCutAuto
namespace Go.Proofs.YtfmnlpmgakgleaaGreatDoor
set_option linter.unusedVariables false
open Go.RowKit
theorem vm_then {w w' w'':World} {r:Option Nat} (h:w.grownBy w' r) (k:w'.grownBy w'' r):w.grownBy w'' r :=
 ⟨k.os.trans h.os,k.tape.trans h.tape,k.output.trans h.output,Nat.le_trans h.size k.size,fun b hb hne => (k.block b (Nat.lt_of_lt_of_le hb h.size) hne).trans (h.block b hb hne)⟩
theorem vm_below {w w':World} {r:Option Nat} (h:Below w.heap.size w w'):w.grownBy w' r:=⟨h.os,h.tape,h.output,h.size,fun b hb _ => h.block b hb⟩
structure VM0 (w:World) (bs K:Nat) (H:Frz) (W00:World) (rb:Nat) (wr:World):Prop where
 lw:Lw w bs K H wr
 res:wr.heap[rb]? = some (.cells #[.int .i64 0,.string ⟨#[]⟩,.int .i64 0] 110 (0,0))
 br:bs < rb
 hr:H rb = none
 gr:W00.grownBy wr (some bs)
 lr:W00.heap.size ≤ rb
structure VM (w:World) (bs K:Nat) (H:Frz) (W00:World) (ob rb:Nat) (d:VD) (wr:World):Prop where
 lw:Lw w bs K H wr
 blk:wr.heap[ob]? = some (.cells #[.int .i64 d.kind,.string d.text,.int .i64 d.num] 110 (0,0))
 res:wr.heap[rb]? = some (.cells #[.int .i64 0,.string ⟨#[]⟩,.int .i64 0] 110 (0,0))
 bo:bs < ob
 br:bs < rb
 ne:rb ≠ ob
 ho:H ob = none
 hr:H rb = none
 gr:W00.grownBy wr (some bs)
 lo:W00.heap.size ≤ ob
 lr:W00.heap.size ≤ rb
 ok:d.text.size ≤ 1000
section
variable {w wr W' W00:World} {bs K K' ob rb:Nat} {H:Frz} {d:VD}
theorem VM0.call (h:VM0 w bs K H W00 rb wr) (hb:Below wr.heap.size wr W'):VM0 w bs K H W00 rb W' :=
 ⟨h.lw.call hb,(hb.block _ (lt_of_heap h.res)).trans h.res,h.br,h.hr,vm_then h.gr (vm_below hb),h.lr⟩
theorem VM0.alloc (h:VM0 w bs K H W00 rb wr) (o:Obj):VM0 w bs K H W00 rb (wr.alloc o):=h.call (new1 o)
theorem VM0.asked (h:VM0 w bs K H W00 rb wr) (L:Lw w bs K' H W') (g:wr.grownBy W' (some bs)):VM0 w bs K' H W00 rb W' :=
 ⟨L,(g.block _ (lt_of_heap h.res) (fun e => by injection e with e;have:=h.br;omega)).trans h.res,h.br,h.hr,vm_then h.gr g,h.lr⟩
theorem VM.more (h:VM w bs K H W00 ob rb d wr) (hK:K ≤ K'):VM w bs K' H W00 ob rb d wr:=⟨h.lw.more hK,h.blk,h.res,h.bo,h.br,h.ne,h.ho,h.hr,h.gr,h.lo,h.lr,h.ok⟩
theorem VM.call (h:VM w bs K H W00 ob rb d wr) (hb:Below wr.heap.size wr W'):VM w bs K H W00 ob rb d W' :=
 ⟨h.lw.call hb,(hb.block _ (lt_of_heap h.blk)).trans h.blk,(hb.block _ (lt_of_heap h.res)).trans h.res,h.bo,h.br,h.ne,h.ho,h.hr,vm_then h.gr (vm_below hb),h.lo,h.lr,h.ok⟩
theorem VM.alloc (h:VM w bs K H W00 ob rb d wr) (o:Obj):VM w bs K H W00 ob rb d (wr.alloc o):=h.call (new1 o)
theorem VM.asked (h:VM w bs K H W00 ob rb d wr) (L:Lw w bs K' H W') (g:wr.grownBy W' (some bs)):VM w bs K' H W00 ob rb d W' :=
 ⟨L,(g.block _ (lt_of_heap h.blk) (fun e => by injection e with e;have:=h.bo;omega)).trans h.blk,(g.block _ (lt_of_heap h.res) (fun e => by injection e with e;have:=h.br;omega)).trans h.res,h.bo,h.br,h.ne,h.ho,h.hr,vm_then h.gr g,h.lo,h.lr,h.ok⟩
theorem VM.new (h:VM0 w bs K H W00 rb wr) (hd:d.text.size ≤ 1000):VM w bs K H W00 wr.heap.size rb d (wr.alloc (.cells #[.int .i64 d.kind,.string d.text,.int .i64 d.num] 110)) :=
 ⟨h.lw.alloc _,heap_at rfl,(h.alloc _).res,h.lw.lt,h.br,by have:=lt_of_heap h.res;omega,h.lw.fin.none_ (Nat.le_refl _),h.hr,(h.alloc _).gr,h.gr.size,h.lr,hd⟩
theorem VM.set (h:VM w bs K H W00 ob rb d wr) (j:Nat) (x:Value) (d':VD) (hd:d'.text.size ≤ 1000) (he:(wr.setCell ⟨ob,j,none⟩ x).heap[ob]? = some (.cells #[.int .i64 d'.kind,.string d'.text,.int .i64 d'.num] 110 (0,0))):VM w bs K H W00 ob rb d' (wr.setCell ⟨ob,j,none⟩ x) :=
 ⟨h.lw.setCell (p:=⟨ob,j,none⟩) h.bo h.ho _,he,(Below.heap_setCell wr _ _ rb h.ne).trans h.res,h.bo,h.br,h.ne,h.ho,h.hr,⟨h.gr.os,h.gr.tape,h.gr.output,by have:=h.gr.size;simpa [World.setCell] using this,fun b hb hne => (Below.heap_setCell wr _ _ b (fun e => by have:=h.lo;simp only at e;omega)).trans (h.gr.block b hb hne)⟩,h.lo,h.lr,hd⟩
theorem VM.setK (h:VM w bs K H W00 ob rb d wr) (x:Int):VM w bs K H W00 ob rb { d with kind:=x } (wr.setCell ⟨ob,0,none⟩ (.int .i64 x)):=h.set 0 _ _ h.ok (by simp [World.setCell,Array.getElem?_modify,h.blk])
theorem VM.setT (h:VM w bs K H W00 ob rb d wr) (x:ByteArray) (hx:x.size ≤ 1000):VM w bs K H W00 ob rb { d with text:=x } (wr.setCell ⟨ob,1,none⟩ (.string x)):=h.set 1 _ _ hx (by simp [World.setCell,Array.getElem?_modify,h.blk])
theorem VM.setN (h:VM w bs K H W00 ob rb d wr) (x:Int):VM w bs K H W00 ob rb { d with num:=x } (wr.setCell ⟨ob,2,none⟩ (.int .i64 x)):=h.set 2 _ _ h.ok (by simp [World.setCell,Array.getElem?_modify,h.blk])
theorem VM.frz (h:VM w bs K H W00 ob rb d wr) (j:Nat):wr.frozen? ⟨ob,j,none⟩ = false:=froz_h h.blk j
end
theorem vm_setc {w w':World} {r:Nat} (g:w.grownBy w' (some r)) (j:Nat) (v:Value):w.grownBy (w'.setCell ⟨r,j,none⟩ v) (some r):=⟨g.os,g.tape,g.output,by have:=g.size;simpa [World.setCell] using this,fun k hk hne => (Below.heap_setCell w' _ _ k (fun e => hne (by rw [e]))).trans (g.block k hk hne)⟩
theorem vm_set3 {wr:World} {r:Nat} {T:TypeId} {a0 a1 a2:Value} (h:wr.heap[r]? = some (.cells #[a0,a1,a2] T (0,0))) (v0 v1 v2:Value) :
  wr.grownBy (((wr.setCell ⟨r,0,none⟩ v0).setCell ⟨r,1,none⟩ v1).setCell ⟨r,2,none⟩ v2) (some r) ∧ (((wr.setCell ⟨r,0,none⟩ v0).setCell ⟨r,1,none⟩ v1).setCell ⟨r,2,none⟩ v2).heap[r]? = some (.cells #[v0,v1,v2] T (0,0)) :=
 ⟨vm_setc (vm_setc (vm_setc (World.grownBy.refl wr (some r)) 0 v0) 1 v1) 2 v2,set3 h v0 v1 v2⟩
def ValPost (w:World) (bs K:Nat) (H:Frz) (W:World) (e:Ending) (W':World):Prop:=∃ d:VD,e = .returned (vV d) ∧ d.text.size ≤ 1000 ∧ Lw w bs (K + 20) H W' ∧ W.grownBy W' (some bs)
set_option maxHeartbeats 4000000 in
set_option maxRecDepth 100000 in
theorem Lw.value {w W:World} {bs K:Nat} {H:Frz} (h:Lw w bs K H W) (hK:K ≤ 10000000) :
  Calls Tryz.prog 208 #[.pointer (some ⟨bs,0,none⟩)] W (ValPost w bs K H W):=by
 have hbs:=h.lt
 have C0:Hid (VM0 w bs K H W W.heap.size (W.alloc (.cells #[.int .i64 0,.string ⟨#[]⟩,.int .i64 0] 110))):=⟨h.alloc _,heap_at rfl,h.lt,h.fin.none_ (Nat.le_refl _),vm_below (new1 _),Nat.le_refl _⟩
 clear h
 go_enter Tryz.func208,Tryz.ntmps208
 go_upto_region 1 with (fail)
 generalize W.alloc (.cells #[.int .i64 0,.string ⟨#[]⟩,.int .i64 0] 110) = W1 at C0 ⊢
 have hne:=C0.out.lw.lt
 have hIn:Ints (W1.alloc (.cells #[.int .i64 1,.int .i64 1,.int .i64 1,.int .i64 2,.int .i64 2,.int .i64 3,.int .i64 4] 3)) (some ⟨W1.heap.size,0,none⟩) [1,1,1,2,2,3,4]:=Ints.of_row (heap_at rfl) rfl
 have HIn:=Lib.hid hIn
 clear hIn
 go_wp2_with fail
 refine ((C0.out.alloc _).lw.pick _ _ [1,1,1,2,2,3,4] HIn.out (fun b off e => by injection e with e;injection e with e1 e2;omega) (by simp) (by simp) (by omega)).mono ?_
 rintro e W2 ⟨kd,rfl,hkd,Lq,gq,-⟩
 have C1:=Lib.hid ((C0.out.alloc _).asked Lq gq)
 clear Lq gq HIn hne C0
 have D0:=Lib.hid (VM.new (d:=(⟨kd,⟨#[]⟩,0⟩:VD)) C1.out (by show (0:Nat) ≤ _;omega))
 have hcs:kd = 1 ∨ kd = 2 ∨ kd = 3 ∨ kd = 4:=by simp at hkd;omega
 clear C1 hkd
 go_upto_region 2 with (fail)
 change Hid (VM w bs _ _ _ _ _ _ (W2.alloc (.cells #[.int .i64 kd,.string ⟨#[]⟩,.int .i64 0] 110))) at D0
 generalize W2.alloc (.cells #[.int .i64 kd,.string ⟨#[]⟩,.int .i64 0] 110) = W3 at D0 ⊢
 generalize W2.heap.size = ob at *
 have hk0:=cell_h D0.out.blk 0 (v:=.int .i64 kd) rfl
 go_upto_block 0 with (fail)
 clear hk0
 go_cut [] (fun wx => ∃ d:VD,Hid (VM w bs (K + 5) H W ob W.heap.size d wx))
 case first =>
  rcases hcs with rfl | rfl | rfl | rfl
  ·skip
   have hne:=D0.out.lw.lt
   have hSt:StrsW (W3.alloc (.cells #[.string ⟨#[]⟩,.string ⟨#[97,110,110]⟩,.string ⟨#[97,110,110,97]⟩,.string ⟨#[65,110,110,32,66]⟩,.string ⟨#[98,111,98]⟩,.string ⟨#[195,169,116,195,169]⟩,.string ⟨#[34,113,34]⟩,.string ⟨#[97,61,98]⟩,.string ⟨#[92]⟩] 9)) (some ⟨W3.heap.size,0,none⟩) [⟨#[]⟩,⟨#[97,110,110]⟩,⟨#[97,110,110,97]⟩,⟨#[65,110,110,32,66]⟩,⟨#[98,111,98]⟩,⟨#[195,169,116,195,169]⟩,⟨#[34,113,34]⟩,⟨#[97,61,98]⟩,⟨#[92]⟩]:=StrsW.of_row (heap_at rfl) rfl
   have HSt:=Lib.hid hSt
   clear hSt
   go_wp2_with fail
   refine ((D0.out.alloc _).lw.one _ _ [⟨#[]⟩,⟨#[97,110,110]⟩,⟨#[97,110,110,97]⟩,⟨#[65,110,110,32,66]⟩,⟨#[98,111,98]⟩,⟨#[195,169,116,195,169]⟩,⟨#[34,113,34]⟩,⟨#[97,61,98]⟩,⟨#[92]⟩] HSt.out (fun b off e => by injection e with e;injection e with e1 e2;omega) (by simp) (by simp) (by omega)).mono ?_
   rintro e W4 ⟨x,rfl,hx,Lq,gq,-⟩
   have D1:=Lib.hid ((D0.out.alloc _).asked Lq gq)
   clear Lq gq HSt hne D0
   have hx9:=sizeK hx (by decide +kernel)
   clear hx
   have D2:=Lib.hid (D1.out.setT x hx9)
   have hc1:=cell_h D1.out.blk 1 (v:=.string ⟨#[]⟩) rfl
   have hf1:=D1.out.frz 1
   go_wp2_with fail
   go_meet
   exact ⟨_,D2.out.more (by omega)⟩
  ·skip
   have hne:=D0.out.lw.lt
   have hIn:Ints (W3.alloc (.cells #[.int .i64 0,.int .i64 1,.int .i64 (-1),.int .i64 7,.int .i64 1000,.int .i64 1000000000000,.int .i64 (-1000000000000)] 3)) (some ⟨W3.heap.size,0,none⟩) [0,1,-1,7,1000,1000000000000,-1000000000000]:=Ints.of_row (heap_at rfl) rfl
   have HIn:=Lib.hid hIn
   clear hIn
   go_wp2_with fail
   refine ((D0.out.alloc _).lw.pick _ _ [0,1,-1,7,1000,1000000000000,-1000000000000] HIn.out (fun b off e => by injection e with e;injection e with e1 e2;omega) (by simp) (by simp) (by omega)).mono ?_
   rintro e W4 ⟨x,rfl,hx,Lq,gq,-⟩
   have D1:=Lib.hid ((D0.out.alloc _).asked Lq gq)
   clear Lq gq HIn hne D0
   clear hx
   have D2:=Lib.hid (D1.out.setN x)
   have hc2:=cell_h D1.out.blk 2 (v:=.int .i64 0) rfl
   have hf2:=D1.out.frz 2
   go_wp2_with fail
   go_meet
   exact ⟨_,D2.out.more (by omega)⟩
  ·skip
   go_wp2_with fail
   refine (D0.out.lw.next' 2 (by omega) (by omega) (by omega)).mono ?_
   rintro e W4 ⟨x,rfl,x0,x1,Lq,gq,-⟩
   have D1:=Lib.hid (D0.out.asked Lq gq)
   clear Lq gq D0
   have D2:=Lib.hid (D1.out.setN x)
   have hc2:=cell_h D1.out.blk 2 (v:=.int .i64 0) rfl
   have hf2:=D1.out.frz 2
   go_wp2_with fail
   go_meet
   exact ⟨_,D2.out.more (by omega)⟩
  ·skip
   have hne:=D0.out.lw.lt
   have hIn:Ints (W3.alloc (.cells #[.int .i64 0,.int .i64 100,.int .i64 4321439] 3)) (some ⟨W3.heap.size,0,none⟩) [0,100,4321439]:=Ints.of_row (heap_at rfl) rfl
   have HIn:=Lib.hid hIn
   clear hIn
   go_wp2_with fail
   refine ((D0.out.alloc _).lw.pick _ _ [0,100,4321439] HIn.out (fun b off e => by injection e with e;injection e with e1 e2;omega) (by simp) (by simp) (by omega)).mono ?_
   rintro e W4 ⟨x,rfl,hx,Lq,gq,-⟩
   have D1:=Lib.hid ((D0.out.alloc _).asked Lq gq)
   clear Lq gq HIn hne D0
   clear hx
   have D2:=Lib.hid (D1.out.setN x)
   have hc2:=cell_h D1.out.blk 2 (v:=.int .i64 0) rfl
   have hf2:=D1.out.frz 2
   go_wp2_with fail
   go_meet
   exact ⟨_,D2.out.more (by omega)⟩
 case rest =>
  obtain ⟨d1,D1⟩:=hcut
  clear D0 hcs
  go_wp2_with fail
  refine (D1.out.lw.flip 30 (by omega) (by omega)).mono ?_
  rintro e W4 ⟨fb,rfl,Lq,gq,-⟩
  have D2:=Lib.hid (D1.out.asked Lq gq)
  clear Lq gq D1
  go_upto_if 32 with (fail)
  go_cut [] (fun wx => ∃ d:VD,Hid (VM w bs (K + 12) H W ob W.heap.size d wx))
  case first =>
   cases fb with
   | false =>
    go_wp2_with fail
    go_meet
    exact ⟨_,D2.out.more (by omega)⟩
   | true =>
    go_wp2_with fail
    refine (D2.out.lw.next' 4 (by omega) (by omega) (by omega)).mono ?_
    rintro e W5 ⟨u,rfl,u0,u1,Lq,gq,-⟩
    have D3:=Lib.hid (D2.out.asked Lq gq)
    clear Lq gq D2
    have hcs:u = 0 ∨ u = 1 ∨ (u ≠ 0 ∧ u ≠ 1):=by omega
    rcases hcs with rfl | rfl | ⟨hn0,hn1⟩
    ·skip
     have hne:=D3.out.lw.lt
     have hIn:Ints (W5.alloc (.cells #[.int .i64 0,.int .i64 5,.int .i64 1,.int .i64 2] 3)) (some ⟨W5.heap.size,0,none⟩) [0,5,1,2]:=Ints.of_row (heap_at rfl) rfl
     have HIn:=Lib.hid hIn
     clear hIn
     go_wp2_with fail
     refine ((D3.out.alloc _).lw.pick _ _ [0,5,1,2] HIn.out (fun b off e => by injection e with e;injection e with e1 e2;omega) (by simp) (by simp) (by omega)).mono ?_
     rintro e W6 ⟨x,rfl,hx,Lq,gq,-⟩
     have E1:=Lib.hid ((D3.out.alloc _).asked Lq gq)
     clear Lq gq HIn hne D3
     clear hx
     have E2:=Lib.hid (E1.out.setK x)
     have hc0:=cell_h E1.out.blk 0 (v:=.int .i64 d1.kind) rfl
     have hf0:=E1.out.frz 0
     go_wp2_with fail
     go_meet
     exact ⟨_,E2.out.more (by omega)⟩
    ·skip
     have hne:=D3.out.lw.lt
     have hIn:Ints (W5.alloc (.cells #[.int .i64 2,.int .i64 (-1),.int .i64 4321440,.int .i64 1000000000001] 3)) (some ⟨W5.heap.size,0,none⟩) [2,-1,4321440,1000000000001]:=Ints.of_row (heap_at rfl) rfl
     have HIn:=Lib.hid hIn
     clear hIn
     go_wp2_with fail
     refine ((D3.out.alloc _).lw.pick _ _ [2,-1,4321440,1000000000001] HIn.out (fun b off e => by injection e with e;injection e with e1 e2;omega) (by simp) (by simp) (by omega)).mono ?_
     rintro e W6 ⟨x,rfl,hx,Lq,gq,-⟩
     have E1:=Lib.hid ((D3.out.alloc _).asked Lq gq)
     clear Lq gq HIn hne D3
     clear hx
     have E2:=Lib.hid (E1.out.setN x)
     have hc2:=cell_h E1.out.blk 2 (v:=.int .i64 d1.num) rfl
     have hf2:=E1.out.frz 2
     go_wp2_with fail
     go_meet
     exact ⟨_,E2.out.more (by omega)⟩
    ·have q0:(u == 0) = false:=by simpa using hn0
     have q1:(u == 1) = false:=by simpa using hn1
     go_wp2_with fail
     refine (rep2_any 97 200 200 (by omega) (by omega) W5).mono ?_
     rintro e W6 ⟨s6,rfl,hs6,hb6⟩
     have D4:=Lib.hid (D3.out.call hb6)
     clear hb6 D3
     go_wp2_with fail
     refine (rep2_any 97 201 201 (by omega) (by omega) W6).mono ?_
     rintro e W7 ⟨s7,rfl,hs7,hb7⟩
     have D5:=Lib.hid (D4.out.call hb7)
     clear hb7 D4
     have hne:=D5.out.lw.lt
     have hSt:StrsW (W7.alloc (.cells #[.string ⟨#[120]⟩,.string ⟨#[10]⟩,.string ⟨#[127]⟩,.string ⟨#[255]⟩,.string s6,.string s7] 9)) (some ⟨W7.heap.size,0,none⟩) [⟨#[120]⟩,⟨#[10]⟩,⟨#[127]⟩,⟨#[255]⟩,s6,s7]:=StrsW.of_row (heap_at rfl) rfl
     have HSt:=Lib.hid hSt
     clear hSt
     go_wp2_with fail
     refine ((D5.out.alloc _).lw.one _ _ [⟨#[120]⟩,⟨#[10]⟩,⟨#[127]⟩,⟨#[255]⟩,s6,s7] HSt.out (fun b off e => by injection e with e;injection e with e1 e2;omega) (by simp) (by simp) (by omega)).mono ?_
     rintro e W8 ⟨x,rfl,hx,Lq,gq,-⟩
     have D6:=Lib.hid ((D5.out.alloc _).asked Lq gq)
     clear Lq gq HSt hne D5
     have hx9:x.size ≤ 1000:=by
      simp only [List.mem_cons,List.not_mem_nil,or_false] at hx
      rcases hx with rfl | rfl | rfl | rfl | rfl | rfl <;> first | decide | omega
     clear hx
     have D7:=Lib.hid (D6.out.setT x hx9)
     have hc1:=cell_h D6.out.blk 1 (v:=.string d1.text) rfl
     have hf1:=D6.out.frz 1
     go_wp2_with fail
     go_meet
     exact ⟨_,D7.out.more (by omega)⟩
  case rest =>
   obtain ⟨d2,D2⟩:=hcut
   have hk0:=cell_h D2.out.blk 0 (v:=.int .i64 d2.kind) rfl
   have hk1:=cell_h D2.out.blk 1 (v:=.string d2.text) rfl
   have hk2:=cell_h D2.out.blk 2 (v:=.int .i64 d2.num) rfl
   have hkr:=D2.out.res
   have rr0:=cell_h hkr 0 (v:=.int .i64 0) rfl
   have rf0:=froz_h hkr 0
   have rr1:=cell_h hkr 1 (v:=.string ⟨#[]⟩) rfl
   have rf1:=froz_h hkr 1
   have rr2:=cell_h hkr 2 (v:=.int .i64 0) rfl
   have rf2:=froz_h hkr 2
   go_wp2_with fail
   (try simp only [Exit.inBlock,Exit.then])
   obtain ⟨hg9,hh9⟩:=vm_set3 hkr (.int .i64 d2.kind) (.string d2.text) (.int .i64 d2.num)
   refine bodyPost_ret (results_cell_row rfl _ _ W.heap.size 110 _ (0,0) _ rfl hh9 Tryz.underlying110 rfl (by kernel_rfl)) rfl ?_
   refine ⟨d2,rfl,D2.out.ok,(D2.out.lw.grown hg9 (fun q hq => by injection hq with hq;subst hq;exact ⟨D2.out.br,D2.out.hr⟩)).more (by omega),⟨hg9.os.trans D2.out.gr.os,hg9.tape.trans D2.out.gr.tape,hg9.output.trans D2.out.gr.output,Nat.le_trans D2.out.gr.size hg9.size,fun b hb hne => ?_⟩⟩
   have:=D2.out.lr
   exact (hg9.block b (Nat.lt_of_lt_of_le hb D2.out.gr.size) (fun e => by injection e with e;omega)).trans (D2.out.gr.block b hb hne)
open Go.RowKit
def namesL:List ByteArray:=[⟨#[97,103,101]⟩,⟨#[99,105,116,121]⟩,⟨#[106,111,105,110,101,100]⟩,⟨#[110,97,109,101]⟩,⟨#[112,108,97,110]⟩,⟨#[118,105,112]⟩]
def NamesIn (H:Frz):Prop:=∀ i (h:i < namesL.length),H.cell? ⟨2,i,none⟩ = some (.string namesL[i])
theorem NamesIn.le {H H':Frz} (h:NamesIn H) (hl:H.Le H'):NamesIn H':=fun i hi => hl.cell (h i hi)
def nmK:List ByteArray:=namesL ++ [⟨#[122,111,111]⟩]
def NmB (s:ByteArray):Prop:=s.size ≤ 1000 ∧ (isKey s = true → s ∈ nmK)
def FdB (ds:List FD):Prop:=∀ d ∈ ds,NmB d.name ∧ d.v.text.size ≤ 1000
theorem FdB.sz {ds:List FD} (h:FdB ds) {d:FD} (hd:d ∈ ds):d.name.size ≤ 1000 ∧ d.v.text.size ≤ 1000:=⟨(h d hd).1.1,(h d hd).2⟩
theorem FdB.snoc {ds:List FD} (h:FdB ds) {d:FD} (hd:NmB d.name ∧ d.v.text.size ≤ 1000):FdB (ds ++ [d]):=by
 intro y hy
 rcases List.mem_append.1 hy with hy | hy
 ·exact h y hy
 ·simp at hy;rw [hy];exact hd
theorem infoField:(Tryz.prog.info? 119).map (fun i => (i.zero,i.size,i.bytes)) = some (some (.agg #[.string ⟨#[]⟩,.int .i64 0,.string ⟨#[]⟩,.int .i64 0]),4,48):=by kernel_rfl
abbrev FdM:=RM (D:=FD) 119 4 fFd
def FdPost (w:World) (bs K:Nat) (H:Frz) (W:World) (e:Ending) (W':World):Prop:=∃ v ds,e = .returned v ∧ FdM w bs (K + 200) H W.heap.size v ds W' ∧ ds.length ≤ 7 ∧ FdB ds ∧ W.grownBy W' (some bs)
theorem fds_grown {w0 w1 w2:World} {bs:Nat} {r:Option Nat} (h:w0.grownBy w1 (some bs)) (g:w1.grownBy w2 r) (b:Below w0.heap.size w1 w2):w0.grownBy w2 (some bs) :=
 ⟨g.os.trans h.os,g.tape.trans h.tape,g.output.trans h.output,Nat.le_trans h.size g.size,fun k hk hne => (b.block k hk).trans (h.block k hk hne)⟩
def FM (w:World) (bs K:Nat) (H:Frz) (W:World) (v:Value) (ds:List FD) (wr:World):Prop:=FdM w bs K H W.heap.size v ds wr ∧ W.grownBy wr (some bs)
section
variable {w W wr W':World} {bs K K':Nat} {H:Frz} {v:Value} {ds:List FD}
theorem FM.lw (h:FM w bs K H W v ds wr):Lw w bs K H wr:=h.1.lw
theorem FM.asked (h:FM w bs K H W v ds wr) (L:Lw w bs K' H W') (g:wr.grownBy W' (some bs)):FM w bs K' H W v ds W':=⟨h.1.asked L g,vm_then h.2 g⟩
theorem FM.call (h:FM w bs K H W v ds wr) (hb:Below wr.heap.size wr W'):FM w bs K H W v ds W':=⟨h.1.call hb,vm_then h.2 (vm_below hb)⟩
theorem FM.alloc (h:FM w bs K H W v ds wr) (o:Obj):FM w bs K H W v ds (wr.alloc o):=h.call (new1 o)
theorem FM.more (h:FM w bs K H W v ds wr) (hK:K ≤ K'):FM w bs K' H W v ds wr:=⟨h.1.more hK,h.2⟩
end
set_option maxHeartbeats 4000000 in
set_option maxRecDepth 100000 in
theorem Lw.fields {w W:World} {bs K:Nat} {H:Frz} (h:Lw w bs K H W) (hK:K ≤ 5000000) (hN:NamesIn H) (most:Nat) (hm:most ≤ 1000) :
  Calls Tryz.prog 148 #[.pointer (some ⟨bs,0,none⟩),.int .i64 most] W (FdPost w bs K H W):=by
 obtain ⟨i0,hi0,hz0,hz1,hz2⟩:=info_parts infoField
 have hbs:=h.lt
 have C0:Hid (FM w bs K H W (.slice none 0 0) [] W):=⟨RM.new h,World.grownBy.refl _ _⟩
 have n0:W.cell? ⟨2,0,none⟩ = some (.string ⟨#[97,103,101]⟩):=h.fin.cell (hN 0 (by decide))
 have n1:W.cell? ⟨2,1,none⟩ = some (.string ⟨#[99,105,116,121]⟩):=h.fin.cell (hN 1 (by decide))
 have n2:W.cell? ⟨2,2,none⟩ = some (.string ⟨#[106,111,105,110,101,100]⟩):=h.fin.cell (hN 2 (by decide))
 have n3:W.cell? ⟨2,3,none⟩ = some (.string ⟨#[110,97,109,101]⟩):=h.fin.cell (hN 3 (by decide))
 have n4:W.cell? ⟨2,4,none⟩ = some (.string ⟨#[112,108,97,110]⟩):=h.fin.cell (hN 4 (by decide))
 have n5:W.cell? ⟨2,5,none⟩ = some (.string ⟨#[118,105,112]⟩):=h.fin.cell (hN 5 (by decide))
 clear h hN
 go_enter Tryz.func148,Tryz.ntmps148
 go_wp2_with fail
 clear n0 n1 n2 n3 n4 n5
 go_loopw [5,9] (fun v t wr => ∃ (i:Nat) (ds:List FD),i ≤ 6 ∧ t = .int .i64 i ∧ Hid (FM w bs (K + 22 * i) H W v ds wr) ∧ ds.length ≤ i ∧ Hid (FdB ds)) (fun _ t _ => 6 - (intOf t).toNat)
 case atStart => exact ⟨0,[],by omega,rfl,C0,by simp,(by intro d hd;cases hd)⟩
 case round =>
  obtain ⟨i,ds,hi,rfl,C,hdl,hkb⟩:=hrel
  clear C0
  obtain ⟨A,cap,hv,hle⟩:=C.out.1.row.slice
  by_cases hlt:i < 6
  ·have di:decide ((i:Int) < 6) = true:=by simp;omega
   obtain ⟨nm,hnm,hns⟩:∃ nm:ByteArray,(∀ W:World,(Instr.index 245 (.agg #[.string ⟨#[97,103,101]⟩,.string ⟨#[99,105,116,121]⟩,.string ⟨#[106,111,105,110,101,100]⟩,.string ⟨#[110,97,109,101]⟩,.string ⟨#[112,108,97,110]⟩,.string ⟨#[118,105,112]⟩]) (.int .i64 (i:Int))).run Tryz.prog W = .ok (.string nm) W) ∧ NmB nm:=by
    match i,hlt with
    | 0,_ => exact ⟨⟨#[97,103,101]⟩,fun W => by kernel_rfl,by decide,fun _ => by simp [nmK,namesL]⟩
    | 1,_ => exact ⟨⟨#[99,105,116,121]⟩,fun W => by kernel_rfl,by decide,fun _ => by simp [nmK,namesL]⟩
    | 2,_ => exact ⟨⟨#[106,111,105,110,101,100]⟩,fun W => by kernel_rfl,by decide,fun _ => by simp [nmK,namesL]⟩
    | 3,_ => exact ⟨⟨#[110,97,109,101]⟩,fun W => by kernel_rfl,by decide,fun _ => by simp [nmK,namesL]⟩
    | 4,_ => exact ⟨⟨#[112,108,97,110]⟩,fun W => by kernel_rfl,by decide,fun _ => by simp [nmK,namesL]⟩
    | 5,_ => exact ⟨⟨#[118,105,112]⟩,fun W => by kernel_rfl,by decide,fun _ => by simp [nmK,namesL]⟩
   subst hv
   have hm2:decide ((ds.length:Int) < (most:Int)) = decide (ds.length < most):=by
    by_cases c:ds.length < most
    ·simp [c]
    ·simp [c]
   cases hdm:decide (ds.length < most) with
   | false =>
    have hm3:=hm2.trans hdm
    go_wp2_with fail
    go_roundw
    case rel => exact ⟨i + 1,ds,by omega,by go_num,C.out.more (by omega),by omega,hkb⟩
    case measure => simp [intOf];omega
   | true =>
    have hm3:=hm2.trans hdm
    go_wp2_with fail
    refine (C.out.lw.flip 2 (by omega) (by omega)).mono ?_
    rintro e W2 ⟨fb,rfl,Lq,gq,-⟩
    have C2:=Lib.hid (C.out.asked Lq gq)
    clear Lq gq C hnm
    cases fb with
    | false =>
     go_wp2_with fail
     go_roundw
     case rel => exact ⟨i + 1,ds,by omega,by go_num,C2.out.more (by omega),by omega,hkb⟩
     case measure => simp [intOf];omega
    | true =>
     go_wp2_with fail
     refine (C2.out.lw.value (by omega)).mono ?_
     rintro e W3 ⟨d,rfl,hd,Lq,gq⟩
     have C3:=Lib.hid (C2.out.asked Lq gq)
     have hsz:ds.length ≤ 4294967296:=by omega
     clear Lq gq C2 hm2 hdm hm3
     generalize hv2:Value.slice A ds.length cap = v2 at C3
     unfold vV
     have HOr:=Lib.hid C3.out.1.row
     have HST:=Lib.hid (fun v' W' o g1 at1 => C3.out.1.app (v':=v') (W':=W') (ds':=ds ++ [⟨nm,d⟩]) o g1 at1)
     have HGR:Hid (∀ (W':World) (g1:W3.grownBy W' v2.ownBlock) (b1:Below W.heap.size W3 W'),W.grownBy W' (some bs)):=fun W' g1 b1 => fds_grown C3.out.2 g1 b1
     have hB9:=C3.out.1.2.2.2.2
     go_wp2_with (at_builtin;refine wpList_app_at rfl _ _ 40 rfl W.heap.size 119 i0 (.agg #[.string ⟨#[]⟩,.int .i64 0,.string ⟨#[]⟩,.int .i64 0]) 4 48 Tryz.underlying40 hi0 hz0 hz1 hz2 rfl (by decide) fFd _ ds rfl HOr.out ⟨nm,d⟩ #[.string nm,.int .i64 d.kind,.string d.text,.int .i64 d.num] 119 rfl rfl (by simp [Value.oneCell']) (by omega) (by omega) hB9 ?_;intro v1 w2 o1 g1 b1 at1;have CA:=Lib.hid (HST.out v1 w2 o1 g1 at1);have GA:=Lib.hid (HGR.out w2 g1 b1);clear o1 g1 b1 at1 HST HOr HGR)
     go_roundw
     case rel => exact ⟨i + 1,_,by omega,by go_num,⟨CA.out.more (by omega),GA.out⟩,by simp;omega,hkb.out.snoc ⟨hns,hd⟩⟩
     case measure => simp [intOf];omega
  ·have hie:i = 6:=by omega
   subst hie
   subst hv
   go_wp2_with fail
   refine (C.out.lw.flip 40 (by omega) (by omega)).mono ?_
   rintro e W2 ⟨fb,rfl,Lq,gq,-⟩
   have C2:=Lib.hid (C.out.asked Lq gq)
   clear Lq gq C
   cases fb with
   | false =>
    have HF:Hid (FdPost w bs K H W (.returned (.slice A ds.length cap)) W2):=⟨_,ds,rfl,C2.out.1.more (by omega),by omega,hkb.out,C2.out.2⟩
    clear C2
    go_wp2_with fail
    exact bodyPost_ret (by kernel_rfl) rfl HF.out
   | true =>
    go_wp2_with fail
    refine (rep2_any 122 41 41 (by omega) (by omega) W2).mono ?_
    rintro e W3 ⟨s3,rfl,hs3,hb3⟩
    have C3:=Lib.hid (C2.out.call hb3)
    clear hb3 C2
    have hne:=C3.out.lw.lt
    have hSt:StrsW (W3.alloc (.cells #[.string ⟨#[]⟩,.string ⟨#[65]⟩,.string ⟨#[122,111,111]⟩,.string ⟨#[97,103,101]⟩,.string s3] 9)) (some ⟨W3.heap.size,0,none⟩) [⟨#[]⟩,⟨#[65]⟩,⟨#[122,111,111]⟩,⟨#[97,103,101]⟩,s3]:=StrsW.of_row (heap_at rfl) rfl
    have HSt:=Lib.hid hSt
    clear hSt
    go_wp2_with fail
    refine ((C3.out.alloc _).lw.one _ _ [⟨#[]⟩,⟨#[65]⟩,⟨#[122,111,111]⟩,⟨#[97,103,101]⟩,s3] HSt.out (fun b off e => by injection e with e;injection e with e1 e2;omega) (by simp) (by simp) (by omega)).mono ?_
    rintro e W4 ⟨nm,rfl,hx,Lq,gq,-⟩
    have C4:=Lib.hid ((C3.out.alloc _).asked Lq gq)
    clear Lq gq HSt hne C3
    have hns:NmB nm:=by
     simp only [List.mem_cons,List.not_mem_nil,or_false] at hx
     rcases hx with rfl | rfl | rfl | rfl | rfl
     ·exact ⟨by decide,fun h => absurd h (by decide +kernel)⟩
     ·exact ⟨by decide,fun h => absurd h (by decide +kernel)⟩
     ·exact ⟨by decide,fun _ => by simp [nmK]⟩
     ·exact ⟨by decide,fun _ => by simp [nmK,namesL]⟩
     ·exact ⟨by omega,fun h => absurd h (fun h => by have:=(isKey_size h).2;omega)⟩
    clear hx
    go_wp2_with fail
    refine (C4.out.lw.value (by omega)).mono ?_
    rintro e W5 ⟨d,rfl,hd,Lq,gq⟩
    have C5:=Lib.hid (C4.out.asked Lq gq)
    have hsz:ds.length ≤ 4294967296:=by omega
    have hlen:ds.length + 1 ≤ 7:=by omega
    clear Lq gq C4
    generalize hv2:Value.slice A ds.length cap = v2 at C5
    unfold vV
    have HOr:=Lib.hid C5.out.1.row
    have HST:=Lib.hid (fun v' W' o g1 at1 => C5.out.1.app (v':=v') (W':=W') (ds':=ds ++ [⟨nm,d⟩]) o g1 at1)
    have HGR:Hid (∀ (W':World) (g1:W5.grownBy W' v2.ownBlock) (b1:Below W.heap.size W5 W'),W.grownBy W' (some bs)):=fun W' g1 b1 => fds_grown C5.out.2 g1 b1
    have hB9:=C5.out.1.2.2.2.2
    go_wp2_with (at_builtin;refine wpList_app_at rfl _ _ 40 rfl W.heap.size 119 i0 (.agg #[.string ⟨#[]⟩,.int .i64 0,.string ⟨#[]⟩,.int .i64 0]) 4 48 Tryz.underlying40 hi0 hz0 hz1 hz2 rfl (by decide) fFd _ ds rfl HOr.out ⟨nm,d⟩ #[.string nm,.int .i64 d.kind,.string d.text,.int .i64 d.num] 119 rfl rfl (by simp [Value.oneCell']) (by omega) (by omega) hB9 ?_;intro v1 w2 o1 g1 b1 at1;have CA:=Lib.hid (HST.out v1 w2 o1 g1 at1);have GA:=Lib.hid (HGR.out w2 g1 b1);clear o1 g1 b1 at1 HST HOr HGR)
    obtain ⟨A9,cap9,hv9,hle9⟩:=CA.out.row.slice
    have HF:Hid (FdPost w bs K H W (.returned v1) w2):=⟨_,_,rfl,CA.out.more (by omega),by simp;omega,hkb.out.snoc ⟨hns,hd⟩,GA.out⟩
    subst hv9
    clear CA GA
    go_wp2_with fail
    exact bodyPost_ret (by kernel_rfl) rfl HF.out
end Go.Proofs.YtfmnlpmgakgleaaGreatDoor
