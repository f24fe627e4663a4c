/- Texts of this claim, put together: ConsN, Ques, PolP. -/
import Derived.Test.YtcncifmanodabaaGreatDoorGAM
import Derived.Test.YtcncifmanodabaaGreatDoorGAO
import Derived.Test.YtcncifmanodabaaGreatDoorGAF
import Derived.Test.YtcncifmanodabaaGreatDoorGAL
namespace Go.Proofs.YtcncifmanodabaaGreatDoor
set_option linter.unusedVariables false
open Go.RowKit
open Go.RowKit
structure QOk (q:QueD):Prop where
 text:q.text.size ≤ 3000
 purp:q.purp.size ≤ 1000000
 region:q.region.size ≤ 1000
 at_:-1099511627777 ≤ q.at_ ∧ q.at_ ≤ 1099511627777
def QuPost (w:World) (bs K:Nat) (H:Frz) (W:World) (e:Ending) (W':World):Prop:=∃ q:QueD,e = .returned (.agg #[.int .i64 q.kind,.string q.text,.string q.purp,.string q.region,.int .i64 q.ch,.int .i64 q.at_]) ∧ QOk q ∧ Lw w bs (K + 20) H W' ∧ W.grownBy W' (some bs)
structure QS (w:World) (bs K:Nat) (H:Frz) (W:World) (p2 p3:Nat) (q:QueD) (W':World):Prop where
 lw:Lw w bs K H W'
 g:W.grownBy W' (some bs)
 h2:W'.heap[p2]? = some (.cells #[.int .i64 0,.string ⟨#[]⟩,.string ⟨#[]⟩,.string ⟨#[]⟩,.int .i64 0,.int .i64 0] 38)
 h3:W'.heap[p3]? = some (.cells #[.int .i64 q.kind,.string q.text,.string q.purp,.string q.region,.int .i64 q.ch,.int .i64 q.at_] 38)
 b2:bs < p2
 b3:p2 < p3
 w2:W.heap.size ≤ p2
 n2:H p2 = none
 n3:H p3 = none
section
variable {w W W' W2:World} {bs K K' p2 p3:Nat} {H:Frz} {q q':QueD}
theorem QS.asked (h:QS w bs K H W p2 p3 q W') (L:Lw w bs K' H W2) (gq:W'.grownBy W2 (some bs)):QS w bs K' H W p2 p3 q W2 :=
 have hb2:=h.b2
 have hb3:=h.b3
 ⟨L,h.g.trans gq,(gq.block _ (lt_of_heap h.h2) (fun e => by injection e with e;omega)).trans h.h2,(gq.block _ (lt_of_heap h.h3) (fun e => by injection e with e;omega)).trans h.h3,h.b2,h.b3,h.w2,h.n2,h.n3⟩
theorem QS.below (h:QS w bs K H W p2 p3 q W') (hb:Below W'.heap.size W' W2):QS w bs K H W p2 p3 q W2 :=
 ⟨h.lw.call hb,⟨hb.os.trans h.g.os,hb.tape.trans h.g.tape,hb.output.trans h.g.output,Nat.le_trans h.g.size hb.size,fun k hk hne => (hb.block k (Nat.lt_of_lt_of_le hk h.g.size)).trans (h.g.block k hk hne)⟩,(hb.block _ (lt_of_heap h.h2)).trans h.h2,(hb.block _ (lt_of_heap h.h3)).trans h.h3,h.b2,h.b3,h.w2,h.n2,h.n3⟩
theorem QS.alloc (h:QS w bs K H W p2 p3 q W') (o:Obj):QS w bs K H W p2 p3 q (W'.alloc o):=h.below ((Below.refl _ _).alloc (Nat.le_refl _) _)
theorem QS.set (h:QS w bs K H W p2 p3 q W') (o:Nat) (x:Value) (e:(W'.setCell ⟨p3,o,none⟩ x).heap[p3]? = some (.cells #[.int .i64 q'.kind,.string q'.text,.string q'.purp,.string q'.region,.int .i64 q'.ch,.int .i64 q'.at_] 38)):QS w bs K H W p2 p3 q' (W'.setCell ⟨p3,o,none⟩ x) :=
 have hb2:=h.b2
 have hb3:=h.b3
 have hw2:=h.w2
 have g:=grown_setC (World.grownBy.refl W' (some p3)) o x
 ⟨h.lw.setCell (p:=⟨p3,o,none⟩) (by show bs < p3;omega) h.n3 _,grown_new h.g g (by omega),(g.block _ (lt_of_heap h.h2) (fun e => by injection e with e;omega)).trans h.h2,e,h.b2,h.b3,h.w2,h.n2,h.n3⟩
theorem QS.text (h:QS w bs K H W p2 p3 q W') (x:Int) (y:ByteArray):QS w bs K H W p2 p3 ⟨x,y,q.purp,q.region,q.ch,q.at_⟩ ((W'.setCell ⟨p3,0,none⟩ (.int .i64 x)).setCell ⟨p3,1,none⟩ (.string y)):=by
 have h1:QS w bs K H W p2 p3 ⟨x,q.text,q.purp,q.region,q.ch,q.at_⟩ (W'.setCell ⟨p3,0,none⟩ (.int .i64 x)):=h.set 0 _ (by have:=h.h3;simp [World.setCell,Array.getElem?_modify,this])
 exact h1.set 1 _ (by simp [World.setCell,Array.getElem?_modify,h.h3])
theorem QS.purp (h:QS w bs K H W p2 p3 q W') (x:ByteArray):QS w bs K H W p2 p3 ⟨q.kind,q.text,x,q.region,q.ch,q.at_⟩ (W'.setCell ⟨p3,2,none⟩ (.string x)):=h.set 2 _ (by have:=h.h3;simp [World.setCell,Array.getElem?_modify,this])
theorem QS.region (h:QS w bs K H W p2 p3 q W') (x:ByteArray):QS w bs K H W p2 p3 ⟨q.kind,q.text,q.purp,x,q.ch,q.at_⟩ (W'.setCell ⟨p3,3,none⟩ (.string x)):=h.set 3 _ (by have:=h.h3;simp [World.setCell,Array.getElem?_modify,this])
theorem QS.ch (h:QS w bs K H W p2 p3 q W') (x:Int):QS w bs K H W p2 p3 ⟨q.kind,q.text,q.purp,q.region,x,q.at_⟩ (W'.setCell ⟨p3,4,none⟩ (.int .i64 x)):=h.set 4 _ (by have:=h.h3;simp [World.setCell,Array.getElem?_modify,this])
theorem QS.at_ (h:QS w bs K H W p2 p3 q W') (x:Int):QS w bs K H W p2 p3 ⟨q.kind,q.text,q.purp,q.region,q.ch,x⟩ (W'.setCell ⟨p3,5,none⟩ (.int .i64 x)):=h.set 5 _ (by have:=h.h3;simp [World.setCell,Array.getElem?_modify,this])
theorem set6 {w:World} {g:Nat} {T:TypeId} {x0 x1 x2 x3 x4 x5:Value} (h:w.heap[g]? = some (.cells #[x0,x1,x2,x3,x4,x5] T (0,0))) (a0 a1 a2 a3 a4 a5:Value):((((((w.setCell ⟨g,0,none⟩ a0).setCell ⟨g,1,none⟩ a1).setCell ⟨g,2,none⟩ a2).setCell ⟨g,3,none⟩ a3).setCell ⟨g,4,none⟩ a4).setCell ⟨g,5,none⟩ a5).heap[g]? = some (.cells #[a0,a1,a2,a3,a4,a5] T (0,0)):=by
 simp [World.setCell,Array.getElem?_modify,h]
theorem QS.post (h:QS w bs K H W p2 p3 q W') (hs:QOk q) (hK:K ≤ K' + 20):QuPost w bs K' H W (.returned (.agg #[.int .i64 q.kind,.string q.text,.string q.purp,.string q.region,.int .i64 q.ch,.int .i64 q.at_])) ((((((W'.setCell ⟨p2,0,none⟩ (.int .i64 q.kind)).setCell ⟨p2,1,none⟩ (.string q.text)).setCell ⟨p2,2,none⟩ (.string q.purp)).setCell ⟨p2,3,none⟩ (.string q.region)).setCell ⟨p2,4,none⟩ (.int .i64 q.ch)).setCell ⟨p2,5,none⟩ (.int .i64 q.at_)) :=
 ⟨q,rfl,hs,((((((h.lw.more hK).setCell (p:=⟨p2,0,none⟩) h.b2 h.n2 _).setCell (p:=⟨p2,1,none⟩) h.b2 h.n2 _).setCell (p:=⟨p2,2,none⟩) h.b2 h.n2 _).setCell (p:=⟨p2,3,none⟩) h.b2 h.n2 _).setCell (p:=⟨p2,4,none⟩) h.b2 h.n2 _).setCell (p:=⟨p2,5,none⟩) h.b2 h.n2 _,grown_new h.g (grown_setC (grown_setC (grown_setC (grown_setC (grown_setC (grown_setC (World.grownBy.refl W' (some p2)) 0 _) 1 _) 2 _) 3 _) 4 _) 5 _) h.w2⟩
structure Q1 (w:World) (bs K:Nat) (H:Frz) (W:World) (p2:Nat) (W':World):Prop where
 lw:Lw w bs K H W'
 g:W.grownBy W' (some bs)
 h2:W'.heap[p2]? = some (.cells #[.int .i64 0,.string ⟨#[]⟩,.string ⟨#[]⟩,.string ⟨#[]⟩,.int .i64 0,.int .i64 0] 38)
 b2:bs < p2
 w2:W.heap.size ≤ p2
 n2:H p2 = none
theorem Q1.asked (h:Q1 w bs K H W p2 W') (L:Lw w bs K' H W2) (gq:W'.grownBy W2 (some bs)):Q1 w bs K' H W p2 W2 :=
 have hb2:=h.b2
 ⟨L,h.g.trans gq,(gq.block _ (lt_of_heap h.h2) (fun e => by injection e with e;omega)).trans h.h2,h.b2,h.w2,h.n2⟩
theorem Q1.below (h:Q1 w bs K H W p2 W') (hb:Below W'.heap.size W' W2):Q1 w bs K H W p2 W2 :=
 ⟨h.lw.call hb,⟨hb.os.trans h.g.os,hb.tape.trans h.g.tape,hb.output.trans h.g.output,Nat.le_trans h.g.size hb.size,fun k hk hne => (hb.block k (Nat.lt_of_lt_of_le hk h.g.size)).trans (h.g.block k hk hne)⟩,(hb.block _ (lt_of_heap h.h2)).trans h.h2,h.b2,h.w2,h.n2⟩
theorem Q1.alloc (h:Q1 w bs K H W p2 W') (o:Obj):Q1 w bs K H W p2 (W'.alloc o):=h.below ((Below.refl _ _).alloc (Nat.le_refl _) _)
theorem Q1.two (h:Q1 w bs K H W p2 W') (q:QueD):QS w bs K H W p2 W'.heap.size q (W'.alloc (.cells #[.int .i64 q.kind,.string q.text,.string q.purp,.string q.region,.int .i64 q.ch,.int .i64 q.at_] 38)) :=
 ⟨h.lw.alloc _,(h.alloc (.cells #[.int .i64 q.kind,.string q.text,.string q.purp,.string q.region,.int .i64 q.ch,.int .i64 q.at_] 38)).g,(h.alloc (.cells #[.int .i64 q.kind,.string q.text,.string q.purp,.string q.region,.int .i64 q.ch,.int .i64 q.at_] 38)).h2,heap_alloc_new _ _,h.b2,lt_of_heap h.h2,h.w2,h.n2,h.lw.fin.none_ (Nat.le_refl _)⟩
end
set_option maxHeartbeats 8000000 in
set_option maxRecDepth 100000 in
theorem Lw.question {w W:World} {bs K:Nat} {H:Frz} (h:Lw w bs K H W) (hPool:PoolIn H) (hK:K ≤ 1000000) (A:Option Addr) (cap:Nat) (ps:List PurD) (hP:PolIn H A ps) (hp0:0 < ps.length) (hp3:ps.length ≤ 1000) :
  Calls Tryz.prog 8 #[.pointer (some ⟨bs,0,none⟩),.slice A ps.length cap] W (QuPost w bs K H W):=by
 have hbs:=h.lt
 have HPool:=Lib.hid hPool
 have HP:=Lib.hid hP
 have HK2:=Lib.hid (heap_alloc_new W (.cells #[.int .i64 0,.string ⟨#[]⟩,.string ⟨#[]⟩,.string ⟨#[]⟩,.int .i64 0,.int .i64 0] 38))
 have HG:=Lib.hid (grown_alloc (w:=W) (.cells #[.int .i64 0,.string ⟨#[]⟩,.string ⟨#[]⟩,.string ⟨#[]⟩,.int .i64 0,.int .i64 0] 38) (some bs))
 have HH:=Lib.hid (h.fin.none_ (Nat.le_refl W.heap.size))
 have L1:=Lib.hid (h.alloc (.cells #[.int .i64 0,.string ⟨#[]⟩,.string ⟨#[]⟩,.string ⟨#[]⟩,.int .i64 0,.int .i64 0] 38))
 have hsz1:Hid (W.heap.size < (W.alloc (.cells #[.int .i64 0,.string ⟨#[]⟩,.string ⟨#[]⟩,.string ⟨#[]⟩,.int .i64 0,.int .i64 0] 38)).heap.size):=by rw [sizeA];exact Nat.lt_succ_self _
 clear h hPool hP
 have C1:Hid (Q1 w bs K H W W.heap.size (W.alloc (.cells #[.int .i64 0,.string ⟨#[]⟩,.string ⟨#[]⟩,.string ⟨#[]⟩,.int .i64 0,.int .i64 0] 38))):=⟨L1.out,HG.out,HK2.out,hbs,Nat.le_refl _,HH.out⟩
 clear L1 HG HK2 HH hsz1
 go_enter Tryz.func8,Tryz.ntmps8
 go_wp2_with fail
 refine (C1.out.lw.few HPool.out (by omega)).mono ?_
 rintro e W2 ⟨k,hk,rfl,Lq,gq⟩
 have C2:=Lib.hid (C1.out.asked Lq gq)
 have HID:=Lib.hid (pool_ok k hk)
 clear Lq gq C1
 generalize poolL[k].1 = kd at *
 generalize (⟨poolL[k].2.toArray⟩:ByteArray) = tx at *
 generalize W.heap.size = p2 at *
 have hne:=C2.out.lw.lt
 have hSt:StrsW (W2.alloc (.cells #[.string ⟨#[101,117]⟩,.string ⟨#[101,117]⟩,.string ⟨#[117,115]⟩,.string ⟨#[102,97,114]⟩] 9)) (some ⟨W2.heap.size,0,none⟩) [⟨#[101,117]⟩,⟨#[101,117]⟩,⟨#[117,115]⟩,⟨#[102,97,114]⟩]:=StrsW.of_row (heap_at rfl) rfl
 have HSt:=Lib.hid hSt
 clear hSt
 go_wp2_with fail
 refine ((C2.out.alloc _).lw.one _ _ [⟨#[101,117]⟩,⟨#[101,117]⟩,⟨#[117,115]⟩,⟨#[102,97,114]⟩] HSt.out (fun b off e => by injection e with e;injection e with e1 e2;omega) (by simp) (by simp) (by omega)).mono ?_
 rintro e W3 ⟨rg,rfl,hrg,Lq,gq,-⟩
 have C3:=Lib.hid ((C2.out.alloc _).asked Lq gq)
 clear Lq gq HSt hne C2
 have hne:=C3.out.lw.lt
 have hIn:Ints (W3.alloc (.cells #[.int .i64 1,.int .i64 1,.int .i64 1,.int .i64 2,.int .i64 3,.int .i64 4] 3)) (some ⟨W3.heap.size,0,none⟩) [1,1,1,2,3,4]:=Ints.of_row (heap_at rfl) rfl
 have HIn:=Lib.hid hIn
 clear hIn
 go_wp2_with fail
 refine ((C3.out.alloc _).lw.pick _ _ [1,1,1,2,3,4] HIn.out (fun b off e => by injection e with e;injection e with e1 e2;omega) (by simp) (by simp) (by omega)).mono ?_
 rintro e W4 ⟨sc,rfl,hsc,Lq,gq,-⟩
 have C4:=Lib.hid ((C3.out.alloc _).asked Lq gq)
 clear Lq gq HIn hne C3
 go_wp2_with fail
 refine (C4.out.lw.next' 5000 (by omega) (by omega) (by omega)).mono ?_
 rintro e W5 ⟨rr,rfl,rr0,rr1,Lq,gq,-⟩
 have C5:=Lib.hid (C4.out.asked Lq gq)
 clear Lq gq C4
 have hne:=C5.out.lw.lt
 have hIn:Ints (W5.alloc (.cells #[.int .i64 0,.int .i64 10,.int .i64 20,.int .i64 49,.int .i64 50,.int .i64 51,.int .i64 130,.int .i64 1450,.int .i64 2890,.int .i64 5000,.int .i64 rr] 3)) (some ⟨W5.heap.size,0,none⟩) [0,10,20,49,50,51,130,1450,2890,5000,rr]:=Ints.of_row (heap_at rfl) rfl
 have HIn:=Lib.hid hIn
 clear hIn
 go_wp2_with fail
 refine ((C5.out.alloc _).lw.pick _ _ [0,10,20,49,50,51,130,1450,2890,5000,rr] HIn.out (fun b off e => by injection e with e;injection e with e1 e2;omega) (by simp) (by simp) (by omega)).mono ?_
 rintro e W6 ⟨sa,rfl,hsa,Lq,gq,-⟩
 have C6:=Lib.hid ((C5.out.alloc _).asked Lq gq)
 clear Lq gq HIn hne C5
 have hsa2:0 ≤ sa ∧ sa ≤ 5000:=by simp at hsa;omega
 have HRG:Hid (rg.size ≤ 1000):=by
  simp only [List.mem_cons,List.not_mem_nil,or_false] at hrg
  show _ ≤ _
  rcases hrg with rfl | rfl | rfl | rfl <;> decide
 clear hsa hsc hrg
 have C7:=Lib.hid (C6.out.two ⟨kd,tx,⟨#[110,101,119,115]⟩,rg,sc,sa⟩)
 clear C6
 have dp:decide ((0:Int) < (ps.length:Int)) = true:=by simp;exact hp0
 go_upto_region 2 with (fail)
 generalize W6.alloc (.cells #[.int .i64 kd,.string tx,.string ⟨#[110,101,119,115]⟩,.string rg,.int .i64 sc,.int .i64 sa] 38) = W7 at *
 generalize W6.heap.size = p3 at *
 go_wp2_with fail
 refine (C7.out.lw.next' ps.length (by omega) (by omega) (by omega)).mono ?_
 rintro e W8 ⟨q,rfl,q0,q1,Lq,gq,-⟩
 have C8:=Lib.hid (C7.out.asked Lq gq)
 clear Lq gq C7
 obtain ⟨qn,rfl⟩:∃ qn:Nat,(qn:Int) = q:=⟨q.toNat,by omega⟩
 have hq:qn < ps.length:=by omega
 obtain ⟨b,off,rfl,-,hc⟩:=HP.out.row.at_ C8.out.lw.fin hq (by omega)
 have c0:W8.cell? ⟨b,off + qn * 2,none⟩ = some (.string ps[qn].name):=hc 0 (by omega)
 have HPU:Hid (ps[qn].name.size ≤ 1000000):=(HP.out.size _ (List.getElem_mem hq)).1
 generalize ps[qn].name = nm at *
 have y2:W8.cell? ⟨p3,2,none⟩ = some (.string ⟨#[110,101,119,115]⟩):=cell_h C8.out.h3 2 rfl
 have fy:=froz_h C8.out.h3 2
 have C9:=Lib.hid (C8.out.purp nm)
 have HQ:Hid (QOk ⟨kd,tx,nm,rg,sc,sa⟩):=⟨by have:=HID.out.2;show tx.size ≤ 3000;omega,HPU.out,HRG.out,⟨by show -1099511627777 ≤ sa;omega,by show sa ≤ 1099511627777;omega⟩⟩
 clear C8
 go_upto_region 4 with (fail)
 generalize W8.setCell ⟨p3,2,none⟩ (.string nm) = W9 at *
 replace C9:Hid (QS w bs _ H W p2 p3 ⟨kd,tx,nm,rg,sc,sa⟩ W9):=C9
 generalize (⟨kd,tx,nm,rg,sc,sa⟩:QueD) = q0 at C9 HQ
 clear y2 fy c0 hc
 go_wp2_with fail
 refine (C9.out.lw.flip 15 (by omega) (by omega)).mono ?_
 rintro e W10 ⟨t,rfl,Lq,gq,-⟩
 have C10:=Lib.hid (C9.out.asked Lq gq)
 clear Lq gq C9
 cases t with
 | false =>
  go_upto_region 15 with (fail)
  have d0:W10.cell? ⟨p3,0,none⟩ = some (.int .i64 q0.kind):=cell_h C10.out.h3 0 rfl
  have d1:W10.cell? ⟨p3,1,none⟩ = some (.string q0.text):=cell_h C10.out.h3 1 rfl
  have d2:W10.cell? ⟨p3,2,none⟩ = some (.string q0.purp):=cell_h C10.out.h3 2 rfl
  have d3:W10.cell? ⟨p3,3,none⟩ = some (.string q0.region):=cell_h C10.out.h3 3 rfl
  have d4:W10.cell? ⟨p3,4,none⟩ = some (.int .i64 q0.ch):=cell_h C10.out.h3 4 rfl
  have d5:W10.cell? ⟨p3,5,none⟩ = some (.int .i64 q0.at_):=cell_h C10.out.h3 5 rfl
  have e0:W10.cell? ⟨p2,0,none⟩ = some (.int .i64 0):=cell_h C10.out.h2 0 rfl
  have f0:=froz_h C10.out.h2 0
  have e1:W10.cell? ⟨p2,1,none⟩ = some (.string ⟨#[]⟩):=cell_h C10.out.h2 1 rfl
  have f1:=froz_h C10.out.h2 1
  have e2:W10.cell? ⟨p2,2,none⟩ = some (.string ⟨#[]⟩):=cell_h C10.out.h2 2 rfl
  have f2:=froz_h C10.out.h2 2
  have e3:W10.cell? ⟨p2,3,none⟩ = some (.string ⟨#[]⟩):=cell_h C10.out.h2 3 rfl
  have f3:=froz_h C10.out.h2 3
  have e4:W10.cell? ⟨p2,4,none⟩ = some (.int .i64 0):=cell_h C10.out.h2 4 rfl
  have f4:=froz_h C10.out.h2 4
  have e5:W10.cell? ⟨p2,5,none⟩ = some (.int .i64 0):=cell_h C10.out.h2 5 rfl
  have f5:=froz_h C10.out.h2 5
  have HF:=Lib.hid (C10.out.post (K':=K) HQ.out (by omega))
  have hk2:=set6 C10.out.h2 (.int .i64 q0.kind) (.string q0.text) (.string q0.purp) (.string q0.region) (.int .i64 q0.ch) (.int .i64 q0.at_)
  have HK2:=Lib.hid hk2
  clear hk2 C10
  go_wp2_with fail
  have u0:=cell_h HK2.out 0 (v:=.int .i64 q0.kind) rfl
  have u1:=cell_h HK2.out 1 (v:=.string q0.text) rfl
  have u2:=cell_h HK2.out 2 (v:=.string q0.purp) rfl
  have u3:=cell_h HK2.out 3 (v:=.string q0.region) rfl
  have u4:=cell_h HK2.out 4 (v:=.int .i64 q0.ch) rfl
  have u5:=cell_h HK2.out 5 (v:=.int .i64 q0.at_) rfl
  refine bodyPost_ret (v:=.agg #[.int .i64 q0.kind,.string q0.text,.string q0.purp,.string q0.region,.int .i64 q0.ch,.int .i64 q0.at_]) (by simp [results,Tryz.results8,go_sem,u0,u1,u2,u3,u4,u5]) rfl HF.out
 | true =>
  go_wp2_with fail
  refine (C10.out.lw.next' 5 (by omega) (by omega) (by omega)).mono ?_
  rintro e W11 ⟨z,rfl,z0,z1,Lq,gq,-⟩
  have C11:=Lib.hid (C10.out.asked Lq gq)
  clear Lq gq C10
  by_cases hz0:z = 0
  ·subst hz0
   go_wp2_with fail
   refine (C11.out.lw.spoiledId HPool.out (by omega)).mono ?_
   rintro e W12 ⟨k1,s1,rfl,hs1,Lq,gq⟩
   have C12:=Lib.hid (C11.out.asked Lq gq)
   clear Lq gq C11
   have d0:W12.cell? ⟨p3,0,none⟩ = some (.int .i64 q0.kind):=cell_h C12.out.h3 0 rfl
   have d1:W12.cell? ⟨p3,1,none⟩ = some (.string q0.text):=cell_h C12.out.h3 1 rfl
   have f0:=froz_h C12.out.h3 0
   have f1:=froz_h C12.out.h3 1
   have C13:=Lib.hid (C12.out.text k1 s1)
   have HQ2:Hid (QOk ⟨k1,s1,q0.purp,q0.region,q0.ch,q0.at_⟩):=⟨hs1,HQ.out.purp,HQ.out.region,HQ.out.at_⟩
   clear C12
   go_upto_region 15 with (fail)
   generalize (W12.setCell ⟨p3,0,none⟩ (.int .i64 k1)).setCell ⟨p3,1,none⟩ (.string s1) = W13 at *
   replace C13:Hid (QS w bs _ H W p2 p3 ⟨k1,s1,q0.purp,q0.region,q0.ch,q0.at_⟩ W13):=C13
   generalize (⟨k1,s1,q0.purp,q0.region,q0.ch,q0.at_⟩:QueD) = q9 at C13 HQ2
   clear d0 d1 f0 f1
   have d0:W13.cell? ⟨p3,0,none⟩ = some (.int .i64 q9.kind):=cell_h C13.out.h3 0 rfl
   have d1:W13.cell? ⟨p3,1,none⟩ = some (.string q9.text):=cell_h C13.out.h3 1 rfl
   have d2:W13.cell? ⟨p3,2,none⟩ = some (.string q9.purp):=cell_h C13.out.h3 2 rfl
   have d3:W13.cell? ⟨p3,3,none⟩ = some (.string q9.region):=cell_h C13.out.h3 3 rfl
   have d4:W13.cell? ⟨p3,4,none⟩ = some (.int .i64 q9.ch):=cell_h C13.out.h3 4 rfl
   have d5:W13.cell? ⟨p3,5,none⟩ = some (.int .i64 q9.at_):=cell_h C13.out.h3 5 rfl
   have e0:W13.cell? ⟨p2,0,none⟩ = some (.int .i64 0):=cell_h C13.out.h2 0 rfl
   have f0:=froz_h C13.out.h2 0
   have e1:W13.cell? ⟨p2,1,none⟩ = some (.string ⟨#[]⟩):=cell_h C13.out.h2 1 rfl
   have f1:=froz_h C13.out.h2 1
   have e2:W13.cell? ⟨p2,2,none⟩ = some (.string ⟨#[]⟩):=cell_h C13.out.h2 2 rfl
   have f2:=froz_h C13.out.h2 2
   have e3:W13.cell? ⟨p2,3,none⟩ = some (.string ⟨#[]⟩):=cell_h C13.out.h2 3 rfl
   have f3:=froz_h C13.out.h2 3
   have e4:W13.cell? ⟨p2,4,none⟩ = some (.int .i64 0):=cell_h C13.out.h2 4 rfl
   have f4:=froz_h C13.out.h2 4
   have e5:W13.cell? ⟨p2,5,none⟩ = some (.int .i64 0):=cell_h C13.out.h2 5 rfl
   have f5:=froz_h C13.out.h2 5
   have HF:=Lib.hid (C13.out.post (K':=K) HQ2.out (by omega))
   have hk2:=set6 C13.out.h2 (.int .i64 q9.kind) (.string q9.text) (.string q9.purp) (.string q9.region) (.int .i64 q9.ch) (.int .i64 q9.at_)
   have HK2:=Lib.hid hk2
   clear hk2 C13
   go_wp2_with fail
   have u0:=cell_h HK2.out 0 (v:=.int .i64 q9.kind) rfl
   have u1:=cell_h HK2.out 1 (v:=.string q9.text) rfl
   have u2:=cell_h HK2.out 2 (v:=.string q9.purp) rfl
   have u3:=cell_h HK2.out 3 (v:=.string q9.region) rfl
   have u4:=cell_h HK2.out 4 (v:=.int .i64 q9.ch) rfl
   have u5:=cell_h HK2.out 5 (v:=.int .i64 q9.at_) rfl
   refine bodyPost_ret (v:=.agg #[.int .i64 q9.kind,.string q9.text,.string q9.purp,.string q9.region,.int .i64 q9.ch,.int .i64 q9.at_]) (by simp [results,Tryz.results8,go_sem,u0,u1,u2,u3,u4,u5]) rfl HF.out
  ·have hb0:(z == 0) = false:=by simp;exact hz0
   by_cases hz1:z = 1
   ·subst hz1
    have hne:=C11.out.lw.lt
    have hSt:StrsW (W11.alloc (.cells #[.string ⟨#[]⟩,.string ⟨#[110,111,110,101]⟩] 9)) (some ⟨W11.heap.size,0,none⟩) [⟨#[]⟩,⟨#[110,111,110,101]⟩]:=StrsW.of_row (heap_at rfl) rfl
    have HSt:=Lib.hid hSt
    clear hSt
    go_wp2_with fail
    refine ((C11.out.alloc _).lw.one _ _ [⟨#[]⟩,⟨#[110,111,110,101]⟩] HSt.out (fun b off e => by injection e with e;injection e with e1 e2;omega) (by simp) (by simp) (by omega)).mono ?_
    rintro e W12 ⟨s1,rfl,hs1,Lq,gq,-⟩
    have C12:=Lib.hid ((C11.out.alloc _).asked Lq gq)
    clear Lq gq HSt hne C11
    have hs2:s1.size ≤ 1000000:=by
     simp only [List.mem_cons,List.not_mem_nil,or_false] at hs1
     rcases hs1 with rfl | rfl <;> decide
    clear hs1
    have d2:W12.cell? ⟨p3,2,none⟩ = some (.string q0.purp):=cell_h C12.out.h3 2 rfl
    have f2:=froz_h C12.out.h3 2
    have C13:=Lib.hid (C12.out.purp s1)
    have HQ2:Hid (QOk ⟨q0.kind,q0.text,s1,q0.region,q0.ch,q0.at_⟩):=⟨HQ.out.text,hs2,HQ.out.region,HQ.out.at_⟩
    clear C12
    go_upto_region 15 with (fail)
    generalize W12.setCell ⟨p3,2,none⟩ (.string s1) = W13 at *
    replace C13:Hid (QS w bs _ H W p2 p3 ⟨q0.kind,q0.text,s1,q0.region,q0.ch,q0.at_⟩ W13):=C13
    generalize (⟨q0.kind,q0.text,s1,q0.region,q0.ch,q0.at_⟩:QueD) = q9 at C13 HQ2
    clear d2 f2
    have d0:W13.cell? ⟨p3,0,none⟩ = some (.int .i64 q9.kind):=cell_h C13.out.h3 0 rfl
    have d1:W13.cell? ⟨p3,1,none⟩ = some (.string q9.text):=cell_h C13.out.h3 1 rfl
    have d2:W13.cell? ⟨p3,2,none⟩ = some (.string q9.purp):=cell_h C13.out.h3 2 rfl
    have d3:W13.cell? ⟨p3,3,none⟩ = some (.string q9.region):=cell_h C13.out.h3 3 rfl
    have d4:W13.cell? ⟨p3,4,none⟩ = some (.int .i64 q9.ch):=cell_h C13.out.h3 4 rfl
    have d5:W13.cell? ⟨p3,5,none⟩ = some (.int .i64 q9.at_):=cell_h C13.out.h3 5 rfl
    have e0:W13.cell? ⟨p2,0,none⟩ = some (.int .i64 0):=cell_h C13.out.h2 0 rfl
    have f0:=froz_h C13.out.h2 0
    have e1:W13.cell? ⟨p2,1,none⟩ = some (.string ⟨#[]⟩):=cell_h C13.out.h2 1 rfl
    have f1:=froz_h C13.out.h2 1
    have e2:W13.cell? ⟨p2,2,none⟩ = some (.string ⟨#[]⟩):=cell_h C13.out.h2 2 rfl
    have f2:=froz_h C13.out.h2 2
    have e3:W13.cell? ⟨p2,3,none⟩ = some (.string ⟨#[]⟩):=cell_h C13.out.h2 3 rfl
    have f3:=froz_h C13.out.h2 3
    have e4:W13.cell? ⟨p2,4,none⟩ = some (.int .i64 0):=cell_h C13.out.h2 4 rfl
    have f4:=froz_h C13.out.h2 4
    have e5:W13.cell? ⟨p2,5,none⟩ = some (.int .i64 0):=cell_h C13.out.h2 5 rfl
    have f5:=froz_h C13.out.h2 5
    have HF:=Lib.hid (C13.out.post (K':=K) HQ2.out (by omega))
    have hk2:=set6 C13.out.h2 (.int .i64 q9.kind) (.string q9.text) (.string q9.purp) (.string q9.region) (.int .i64 q9.ch) (.int .i64 q9.at_)
    have HK2:=Lib.hid hk2
    clear hk2 C13
    go_wp2_with fail
    have u0:=cell_h HK2.out 0 (v:=.int .i64 q9.kind) rfl
    have u1:=cell_h HK2.out 1 (v:=.string q9.text) rfl
    have u2:=cell_h HK2.out 2 (v:=.string q9.purp) rfl
    have u3:=cell_h HK2.out 3 (v:=.string q9.region) rfl
    have u4:=cell_h HK2.out 4 (v:=.int .i64 q9.ch) rfl
    have u5:=cell_h HK2.out 5 (v:=.int .i64 q9.at_) rfl
    refine bodyPost_ret (v:=.agg #[.int .i64 q9.kind,.string q9.text,.string q9.purp,.string q9.region,.int .i64 q9.ch,.int .i64 q9.at_]) (by simp [results,Tryz.results8,go_sem,u0,u1,u2,u3,u4,u5]) rfl HF.out
   ·have hb1:(z == 1) = false:=by simp;exact hz1
    by_cases hz2:z = 2
    ·subst hz2
     have hne:=C11.out.lw.lt
     have hSt:StrsW (W11.alloc (.cells #[.string ⟨#[]⟩,.string ⟨#[69]⟩] 9)) (some ⟨W11.heap.size,0,none⟩) [⟨#[]⟩,⟨#[69]⟩]:=StrsW.of_row (heap_at rfl) rfl
     have HSt:=Lib.hid hSt
     clear hSt
     go_wp2_with fail
     refine ((C11.out.alloc _).lw.one _ _ [⟨#[]⟩,⟨#[69]⟩] HSt.out (fun b off e => by injection e with e;injection e with e1 e2;omega) (by simp) (by simp) (by omega)).mono ?_
     rintro e W12 ⟨s1,rfl,hs1,Lq,gq,-⟩
     have C12:=Lib.hid ((C11.out.alloc _).asked Lq gq)
     clear Lq gq HSt hne C11
     have hs2:s1.size ≤ 1000:=by
      simp only [List.mem_cons,List.not_mem_nil,or_false] at hs1
      rcases hs1 with rfl | rfl <;> decide
     clear hs1
     have d3:W12.cell? ⟨p3,3,none⟩ = some (.string q0.region):=cell_h C12.out.h3 3 rfl
     have f3:=froz_h C12.out.h3 3
     have C13:=Lib.hid (C12.out.region s1)
     have HQ2:Hid (QOk ⟨q0.kind,q0.text,q0.purp,s1,q0.ch,q0.at_⟩):=⟨HQ.out.text,HQ.out.purp,hs2,HQ.out.at_⟩
     clear C12
     go_upto_region 15 with (fail)
     generalize W12.setCell ⟨p3,3,none⟩ (.string s1) = W13 at *
     replace C13:Hid (QS w bs _ H W p2 p3 ⟨q0.kind,q0.text,q0.purp,s1,q0.ch,q0.at_⟩ W13):=C13
     generalize (⟨q0.kind,q0.text,q0.purp,s1,q0.ch,q0.at_⟩:QueD) = q9 at C13 HQ2
     clear d3 f3
     have d0:W13.cell? ⟨p3,0,none⟩ = some (.int .i64 q9.kind):=cell_h C13.out.h3 0 rfl
     have d1:W13.cell? ⟨p3,1,none⟩ = some (.string q9.text):=cell_h C13.out.h3 1 rfl
     have d2:W13.cell? ⟨p3,2,none⟩ = some (.string q9.purp):=cell_h C13.out.h3 2 rfl
     have d3:W13.cell? ⟨p3,3,none⟩ = some (.string q9.region):=cell_h C13.out.h3 3 rfl
     have d4:W13.cell? ⟨p3,4,none⟩ = some (.int .i64 q9.ch):=cell_h C13.out.h3 4 rfl
     have d5:W13.cell? ⟨p3,5,none⟩ = some (.int .i64 q9.at_):=cell_h C13.out.h3 5 rfl
     have e0:W13.cell? ⟨p2,0,none⟩ = some (.int .i64 0):=cell_h C13.out.h2 0 rfl
     have f0:=froz_h C13.out.h2 0
     have e1:W13.cell? ⟨p2,1,none⟩ = some (.string ⟨#[]⟩):=cell_h C13.out.h2 1 rfl
     have f1:=froz_h C13.out.h2 1
     have e2:W13.cell? ⟨p2,2,none⟩ = some (.string ⟨#[]⟩):=cell_h C13.out.h2 2 rfl
     have f2:=froz_h C13.out.h2 2
     have e3:W13.cell? ⟨p2,3,none⟩ = some (.string ⟨#[]⟩):=cell_h C13.out.h2 3 rfl
     have f3:=froz_h C13.out.h2 3
     have e4:W13.cell? ⟨p2,4,none⟩ = some (.int .i64 0):=cell_h C13.out.h2 4 rfl
     have f4:=froz_h C13.out.h2 4
     have e5:W13.cell? ⟨p2,5,none⟩ = some (.int .i64 0):=cell_h C13.out.h2 5 rfl
     have f5:=froz_h C13.out.h2 5
     have HF:=Lib.hid (C13.out.post (K':=K) HQ2.out (by omega))
     have hk2:=set6 C13.out.h2 (.int .i64 q9.kind) (.string q9.text) (.string q9.purp) (.string q9.region) (.int .i64 q9.ch) (.int .i64 q9.at_)
     have HK2:=Lib.hid hk2
     clear hk2 C13
     go_wp2_with fail
     have u0:=cell_h HK2.out 0 (v:=.int .i64 q9.kind) rfl
     have u1:=cell_h HK2.out 1 (v:=.string q9.text) rfl
     have u2:=cell_h HK2.out 2 (v:=.string q9.purp) rfl
     have u3:=cell_h HK2.out 3 (v:=.string q9.region) rfl
     have u4:=cell_h HK2.out 4 (v:=.int .i64 q9.ch) rfl
     have u5:=cell_h HK2.out 5 (v:=.int .i64 q9.at_) rfl
     refine bodyPost_ret (v:=.agg #[.int .i64 q9.kind,.string q9.text,.string q9.purp,.string q9.region,.int .i64 q9.ch,.int .i64 q9.at_]) (by simp [results,Tryz.results8,go_sem,u0,u1,u2,u3,u4,u5]) rfl HF.out
    ·have hb2:(z == 2) = false:=by simp;exact hz2
     by_cases hz3:z = 3
     ·subst hz3
      go_wp2_with fail
      refine (C11.out.lw.odd (by omega) 1 4 (by omega) (by omega) (by omega)).mono ?_
      rintro e W12 ⟨c1,rfl,hl1,hl2,Lq,gq⟩
      have C12:=Lib.hid (C11.out.asked Lq gq)
      clear Lq gq C11
      have d4:W12.cell? ⟨p3,4,none⟩ = some (.int .i64 q0.ch):=cell_h C12.out.h3 4 rfl
      have f4:=froz_h C12.out.h3 4
      have C13:=Lib.hid (C12.out.ch c1)
      have HQ2:Hid (QOk ⟨q0.kind,q0.text,q0.purp,q0.region,c1,q0.at_⟩):=⟨HQ.out.text,HQ.out.purp,HQ.out.region,HQ.out.at_⟩
      clear C12
      go_upto_region 15 with (fail)
      generalize W12.setCell ⟨p3,4,none⟩ (.int .i64 c1) = W13 at *
      replace C13:Hid (QS w bs _ H W p2 p3 ⟨q0.kind,q0.text,q0.purp,q0.region,c1,q0.at_⟩ W13):=C13
      generalize (⟨q0.kind,q0.text,q0.purp,q0.region,c1,q0.at_⟩:QueD) = q9 at C13 HQ2
      clear d4 f4
      have d0:W13.cell? ⟨p3,0,none⟩ = some (.int .i64 q9.kind):=cell_h C13.out.h3 0 rfl
      have d1:W13.cell? ⟨p3,1,none⟩ = some (.string q9.text):=cell_h C13.out.h3 1 rfl
      have d2:W13.cell? ⟨p3,2,none⟩ = some (.string q9.purp):=cell_h C13.out.h3 2 rfl
      have d3:W13.cell? ⟨p3,3,none⟩ = some (.string q9.region):=cell_h C13.out.h3 3 rfl
      have d4:W13.cell? ⟨p3,4,none⟩ = some (.int .i64 q9.ch):=cell_h C13.out.h3 4 rfl
      have d5:W13.cell? ⟨p3,5,none⟩ = some (.int .i64 q9.at_):=cell_h C13.out.h3 5 rfl
      have e0:W13.cell? ⟨p2,0,none⟩ = some (.int .i64 0):=cell_h C13.out.h2 0 rfl
      have f0:=froz_h C13.out.h2 0
      have e1:W13.cell? ⟨p2,1,none⟩ = some (.string ⟨#[]⟩):=cell_h C13.out.h2 1 rfl
      have f1:=froz_h C13.out.h2 1
      have e2:W13.cell? ⟨p2,2,none⟩ = some (.string ⟨#[]⟩):=cell_h C13.out.h2 2 rfl
      have f2:=froz_h C13.out.h2 2
      have e3:W13.cell? ⟨p2,3,none⟩ = some (.string ⟨#[]⟩):=cell_h C13.out.h2 3 rfl
      have f3:=froz_h C13.out.h2 3
      have e4:W13.cell? ⟨p2,4,none⟩ = some (.int .i64 0):=cell_h C13.out.h2 4 rfl
      have f4:=froz_h C13.out.h2 4
      have e5:W13.cell? ⟨p2,5,none⟩ = some (.int .i64 0):=cell_h C13.out.h2 5 rfl
      have f5:=froz_h C13.out.h2 5
      have HF:=Lib.hid (C13.out.post (K':=K) HQ2.out (by omega))
      have hk2:=set6 C13.out.h2 (.int .i64 q9.kind) (.string q9.text) (.string q9.purp) (.string q9.region) (.int .i64 q9.ch) (.int .i64 q9.at_)
      have HK2:=Lib.hid hk2
      clear hk2 C13
      go_wp2_with fail
      have u0:=cell_h HK2.out 0 (v:=.int .i64 q9.kind) rfl
      have u1:=cell_h HK2.out 1 (v:=.string q9.text) rfl
      have u2:=cell_h HK2.out 2 (v:=.string q9.purp) rfl
      have u3:=cell_h HK2.out 3 (v:=.string q9.region) rfl
      have u4:=cell_h HK2.out 4 (v:=.int .i64 q9.ch) rfl
      have u5:=cell_h HK2.out 5 (v:=.int .i64 q9.at_) rfl
      refine bodyPost_ret (v:=.agg #[.int .i64 q9.kind,.string q9.text,.string q9.purp,.string q9.region,.int .i64 q9.ch,.int .i64 q9.at_]) (by simp [results,Tryz.results8,go_sem,u0,u1,u2,u3,u4,u5]) rfl HF.out
     ·have hb3:(z == 3) = false:=by simp;exact hz3
      go_wp2_with fail
      refine (C11.out.lw.odd (by omega) 0 4321439 (by omega) (by omega) (by omega)).mono ?_
      rintro e W12 ⟨c1,rfl,hl1,hl2,Lq,gq⟩
      have C12:=Lib.hid (C11.out.asked Lq gq)
      clear Lq gq C11
      have d5:W12.cell? ⟨p3,5,none⟩ = some (.int .i64 q0.at_):=cell_h C12.out.h3 5 rfl
      have f5:=froz_h C12.out.h3 5
      have C13:=Lib.hid (C12.out.at_ c1)
      have HQ2:Hid (QOk ⟨q0.kind,q0.text,q0.purp,q0.region,q0.ch,c1⟩):=⟨HQ.out.text,HQ.out.purp,HQ.out.region,⟨hl1,hl2⟩⟩
      clear C12
      go_upto_region 15 with (fail)
      generalize W12.setCell ⟨p3,5,none⟩ (.int .i64 c1) = W13 at *
      replace C13:Hid (QS w bs _ H W p2 p3 ⟨q0.kind,q0.text,q0.purp,q0.region,q0.ch,c1⟩ W13):=C13
      generalize (⟨q0.kind,q0.text,q0.purp,q0.region,q0.ch,c1⟩:QueD) = q9 at C13 HQ2
      clear d5 f5
      have d0:W13.cell? ⟨p3,0,none⟩ = some (.int .i64 q9.kind):=cell_h C13.out.h3 0 rfl
      have d1:W13.cell? ⟨p3,1,none⟩ = some (.string q9.text):=cell_h C13.out.h3 1 rfl
      have d2:W13.cell? ⟨p3,2,none⟩ = some (.string q9.purp):=cell_h C13.out.h3 2 rfl
      have d3:W13.cell? ⟨p3,3,none⟩ = some (.string q9.region):=cell_h C13.out.h3 3 rfl
      have d4:W13.cell? ⟨p3,4,none⟩ = some (.int .i64 q9.ch):=cell_h C13.out.h3 4 rfl
      have d5:W13.cell? ⟨p3,5,none⟩ = some (.int .i64 q9.at_):=cell_h C13.out.h3 5 rfl
      have e0:W13.cell? ⟨p2,0,none⟩ = some (.int .i64 0):=cell_h C13.out.h2 0 rfl
      have f0:=froz_h C13.out.h2 0
      have e1:W13.cell? ⟨p2,1,none⟩ = some (.string ⟨#[]⟩):=cell_h C13.out.h2 1 rfl
      have f1:=froz_h C13.out.h2 1
      have e2:W13.cell? ⟨p2,2,none⟩ = some (.string ⟨#[]⟩):=cell_h C13.out.h2 2 rfl
      have f2:=froz_h C13.out.h2 2
      have e3:W13.cell? ⟨p2,3,none⟩ = some (.string ⟨#[]⟩):=cell_h C13.out.h2 3 rfl
      have f3:=froz_h C13.out.h2 3
      have e4:W13.cell? ⟨p2,4,none⟩ = some (.int .i64 0):=cell_h C13.out.h2 4 rfl
      have f4:=froz_h C13.out.h2 4
      have e5:W13.cell? ⟨p2,5,none⟩ = some (.int .i64 0):=cell_h C13.out.h2 5 rfl
      have f5:=froz_h C13.out.h2 5
      have HF:=Lib.hid (C13.out.post (K':=K) HQ2.out (by omega))
      have hk2:=set6 C13.out.h2 (.int .i64 q9.kind) (.string q9.text) (.string q9.purp) (.string q9.region) (.int .i64 q9.ch) (.int .i64 q9.at_)
      have HK2:=Lib.hid hk2
      clear hk2 C13
      go_wp2_with fail
      have u0:=cell_h HK2.out 0 (v:=.int .i64 q9.kind) rfl
      have u1:=cell_h HK2.out 1 (v:=.string q9.text) rfl
      have u2:=cell_h HK2.out 2 (v:=.string q9.purp) rfl
      have u3:=cell_h HK2.out 3 (v:=.string q9.region) rfl
      have u4:=cell_h HK2.out 4 (v:=.int .i64 q9.ch) rfl
      have u5:=cell_h HK2.out 5 (v:=.int .i64 q9.at_) rfl
      refine bodyPost_ret (v:=.agg #[.int .i64 q9.kind,.string q9.text,.string q9.purp,.string q9.region,.int .i64 q9.ch,.int .i64 q9.at_]) (by simp [results,Tryz.results8,go_sem,u0,u1,u2,u3,u4,u5]) rfl HF.out
open Go.RowKit
def reg:Nat → ByteArray | 0 => ⟨#[101,117]⟩ | _ => ⟨#[117,115]⟩
def pnm:Nat → ByteArray | 0 => ⟨#[98,105,108,108]⟩ | 1 => ⟨#[110,101,119,115]⟩ | _ => ⟨#[115,97,108,101]⟩
def OkT (t:TermD):Prop:=isKey t.region = true ∧ (1 ≤ t.ch ∧ t.ch ≤ 4) ∧ (t.free = true → t.days = 0 ∧ t.wait = 0) ∧ (0 ≤ t.days ∧ t.days ≤ 2000) ∧ 0 ≤ t.wait ∧ t.wait ≤ 100000
structure OkTs (r:Nat) (c:Int) (ts:List TermD):Prop where
 sorted:TerSorted ts
 len:(ts.length:Int) ≤ 4 * r + (c - 1)
 all:∀ t ∈ ts,OkT t ∧ t.region.size ≤ 100 ∧ ((r = 1 ∧ t.region = reg 0) ∨ (t.region = reg r ∧ t.ch < c))
theorem OkTs.nil:OkTs 0 1 []:=⟨List.Pairwise.nil,by simp,fun t ht => by cases ht⟩
theorem OkTs.skip {r:Nat} {c:Int} {ts:List TermD} (h:OkTs r c ts):OkTs r (c + 1) ts:=⟨h.sorted,by have:=h.len;omega,fun t ht => by
 obtain ⟨a,b,d⟩:=h.all t ht
 exact ⟨a,b,d.imp id (fun d => ⟨d.1,by omega⟩)⟩⟩
theorem reg_lt:cmpS (reg 0) (reg 1) < 0:=by decide +kernel
theorem OkTs.snoc {r:Nat} {c:Int} {ts:List TermD} (h:OkTs r c ts) {t:TermD} (ht:OkT t) (hr:t.region = reg r) (hc:t.ch = c) (hr1:r ≤ 1):OkTs r (c + 1) (ts ++ [t]):=by
 refine ⟨?_,by have:=h.len;simp;omega,fun x hx => ?_⟩
 ·unfold TerSorted
  rw [List.pairwise_append]
  refine ⟨h.sorted,List.pairwise_singleton _ _,fun a ha b hb => ?_⟩
  simp at hb
  subst hb
  rw [teCmp_lt_iff,hr,hc]
  rcases (h.all a ha).2.2 with ⟨h1,h2⟩ | ⟨h1,h2⟩
  ·subst h1
   rw [h2];exact Or.inl reg_lt
  ·exact Or.inr ⟨h1,h2⟩
 ·rcases List.mem_append.1 hx with hx | hx
  ·exact (h.skip).all x hx
  ·simp at hx
   subst hx
   refine ⟨ht,?_,Or.inr ⟨hr,by omega⟩⟩
   rw [hr]
   have:r = 0 ∨ r = 1:=by omega
   rcases this with rfl | rfl <;> decide
theorem OkTs.next {ts:List TermD} (h:OkTs 0 5 ts):OkTs 1 1 ts:=⟨h.sorted,by have:=h.len;omega,fun t ht => by
 obtain ⟨a,b,d⟩:=h.all t ht
 refine ⟨a,b,Or.inl ⟨rfl,?_⟩⟩
 rcases d with d | d
 ·omega
 ·exact d.1⟩
theorem OkT.right {ts:List TermD} (hs:TerSorted ts) (hl:ts.length ≤ 160) (h:∀ t ∈ ts,OkT t):tesErr ts = 0:=by
 unfold tesErr
 rw [if_neg (by omega),fstErr_zero]
 intro i hi
 obtain ⟨a1,a2,a3,a4,a5⟩:=h _ (List.getElem_mem hi)
 rw [teErr_at hi,if_neg (by rw [a1];simp),if_neg (by unfold chB;rw [decide_eq_true a2.1,decide_eq_true a2.2];simp),if_neg (by
  rintro ⟨b1,b2⟩
  have:=a3 b1
  omega),if_neg (by omega),if_neg]
 rintro ⟨b1,b2⟩
 have h1:=List.pairwise_iff_getElem.1 hs (i - 1) i (by omega) hi (by omega)
 have e:ts.getD (i - 1) zeroTe = ts[i - 1]:=by rw [List.getD_eq_getElem?_getD,List.getElem?_eq_getElem (by omega)];rfl
 rw [e] at b2
 omega
structure OkPs (i:Nat) (ps:List PurD):Prop where
 sorted:PurSorted ps
 len:ps.length ≤ i
 all:∀ p ∈ ps,(∃ j,j < i ∧ p.name = pnm j) ∧ tesErr p.terms = 0 ∧ p.terms.length ≤ 8 ∧ p.terms.length ≤ p.cap ∧ ∀ t ∈ p.terms,t.region.size ≤ 100
theorem OkPs.nil:OkPs 0 []:=⟨List.Pairwise.nil,by simp,fun t ht => by cases ht⟩
theorem OkPs.skip {i:Nat} {ps:List PurD} (h:OkPs i ps):OkPs (i + 1) ps:=⟨h.sorted,by have:=h.len;omega,fun p hp => by
 obtain ⟨⟨j,a,b⟩,d⟩:=h.all p hp
 exact ⟨⟨j,by omega,b⟩,d⟩⟩
theorem pnm_lt {j i:Nat} (h:j < i) (hi:i < 3):cmpS (pnm j) (pnm i) < 0:=by
 have:(j = 0 ∧ i = 1) ∨ (j = 0 ∧ i = 2) ∨ (j = 1 ∧ i = 2):=by omega
 rcases this with ⟨rfl,rfl⟩ | ⟨rfl,rfl⟩ | ⟨rfl,rfl⟩ <;> decide +kernel
theorem OkPs.snoc {i:Nat} {ps:List PurD} (h:OkPs i ps) (hi:i < 3) {p:PurD} (hn:p.name = pnm i) (ht:tesErr p.terms = 0) (hl:p.terms.length ≤ 8) (hc:p.terms.length ≤ p.cap) (hz:∀ t ∈ p.terms,t.region.size ≤ 100):OkPs (i + 1) (ps ++ [p]):=by
 refine ⟨?_,by have:=h.len;simp;omega,fun x hx => ?_⟩
 ·unfold PurSorted
  rw [List.pairwise_append]
  refine ⟨h.sorted,List.pairwise_singleton _ _,fun a ha b hb => ?_⟩
  simp at hb
  subst hb
  obtain ⟨⟨j,hj,e⟩,_⟩:=h.all a ha
  rw [e,hn]
  exact pnm_lt hj hi
 ·rcases List.mem_append.1 hx with hx | hx
  ·exact (h.skip).all x hx
  ·simp at hx
   subst hx
   exact ⟨⟨i,by omega,hn⟩,ht,hl,hc,hz⟩
theorem pnm_key (j:Nat):isKey (pnm j) = true:=by
 unfold pnm
 split <;> decide +kernel
theorem pnm_size (j:Nat):(pnm j).size ≤ 100:=by
 unfold pnm
 split <;> decide
theorem OkPs.right {i:Nat} {ps:List PurD} (h:OkPs i ps) (hi:i ≤ 3) (h0:0 < ps.length):polErr ps = 0:=by
 unfold polErr
 rw [if_neg (by omega),if_neg (by have:=h.len;omega),fstErr_zero]
 intro k hk
 obtain ⟨⟨j,_,e⟩,a,_⟩:=h.all _ (List.getElem_mem hk)
 rw [puErr_at hk,if_neg (by rw [e,pnm_key];simp),if_neg]
 ·exact a
 ·rintro ⟨b1,b2⟩
  have h1:=List.pairwise_iff_getElem.1 h.sorted (k - 1) k (by omega) hk (by omega)
  have e:(ps.getD (k - 1) ps[k]) = ps[k - 1]:=by rw [List.getD_eq_getElem?_getD,List.getElem?_eq_getElem (by omega)];rfl
  rw [e] at b2
  omega
end Go.Proofs.YtcncifmanodabaaGreatDoor
