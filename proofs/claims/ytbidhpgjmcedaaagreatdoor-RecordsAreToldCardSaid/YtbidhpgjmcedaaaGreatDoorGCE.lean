/- Texts of this claim, put together: MaxTd, SurC, Best1. -/
import Derived.Test.YtbidhpgjmcedaaaGreatDoorGBY
import Derived.StillTailTactics
import Derived.Deep.Cut
import Derived.Test.YtbidhpgjmcedaaaGreatDoorGAE
import Derived.Test.YtbidhpgjmcedaaaGreatDoorGAK
import Derived.Test.YtbidhpgjmcedaaaGreatDoorGCD
import Derived.Laws.Rows
import Derived.Test.YtbidhpgjmcedaaaGreatDoorGAN
import Derived.Test.YtbidhpgjmcedaaaGreatDoorLayRune
namespace Go.Proofs.YtbidhpgjmcedaaaGreatDoor
set_option linter.unusedVariables false
open Go.RowKit
theorem there_of {W : World} {b : Nat} {c : Array Value} {T : TypeId} (h : W.heap[b]? = some (.cells c T (0,0))) : W.there b 0 c.size:=fun j hj => by
 constructor
 ·have : W.cell? ⟨b,0 + j,none⟩ = c[j]?:=by simp [World.cell?,h]
  rw [this,Array.getElem?_eq_getElem (by omega)]
  rfl
 ·simp [World.frozen?,h]
set_option maxHeartbeats 4000000 in
set_option maxRecDepth 100000 in
theorem maxFunc_Td (H : Frz) (kf : Nat) (caps : List Value) (c : TdD → TdD → Int) (ds : List TdD)
  (hp : ∀ (W : World) (x y : TdD),x ∈ ds → y ∈ ds → H.In W → Calls Tryz.prog kf ((.agg #[.int .i64 x.no,.int .i64 x.at_,.string x.source,.slice x.ia x.il x.ic,.slice x.fa x.fl x.fc,.int .i64 x.kind,.string x.text,.int .i64 x.num] : Value) :: (.agg #[.int .i64 y.no,.int .i64 y.at_,.string y.source,.slice y.ia y.il y.ic,.slice y.fa y.fl y.fc,.int .i64 y.kind,.string y.text,.int .i64 y.num] : Value) :: caps).toArray W fun e W' => e = .returned (.int .i64 (c x y)) ∧ Below W.heap.size W W')
  (hcall : ∀ (a b : Value) (W : World),(callFunc kf (a :: b :: caps).toArray).run Tryz.prog W = .ok (.enter kf (a :: b :: caps).toArray) W)
  (A : Option Addr) (cap : Nat) (w : World) (hH : H.In w) (hR : Rw H A 8 fTd ds) (hl : ds.length ≤ 1000000) (h0 : 0 < ds.length) :
  Calls Tryz.prog 251 #[.slice A ds.length cap,.func (.func kf) #[] caps.toArray] w fun e w' => e = .returned (tdV (maxL c ds)) ∧ Below w.heap.size w w':=by
 have HP:=Lib.hid hp
 have HR:=Lib.hid hR
 have HH:=Lib.hid hH
 obtain ⟨b,off,rfl,hbl,hc⟩:=hR.at_ hH h0 (by omega)
 have MEM1 : Hid ((maxT c ds 1) ∈ ds):=by rw [maxT_one c h0]; exact List.getElem_mem h0
 have HB2:=Lib.hid (new2 (w:=w) (.cells #[.int .i64 0,.int .i64 0,.string ⟨#[]⟩,.slice none 0 0,.slice none 0 0,.int .i64 0,.string ⟨#[]⟩,.int .i64 0] 167) (.cells #[.int .i64 ds[0].no,.int .i64 ds[0].at_,.string ds[0].source,.slice ds[0].ia ds[0].il ds[0].ic,.slice ds[0].fa ds[0].fl ds[0].fc,.int .i64 ds[0].kind,.string ds[0].text,.int .i64 ds[0].num] 167))
 have hin2:=hH.below HB2.out
 have c0 : w.cell? ⟨b,off,none⟩ = some (.int .i64 ds[0].no):=by simpa [fTd] using hc 0 (by omega)
 have c1 : w.cell? ⟨b,off + 1,none⟩ = some (.int .i64 ds[0].at_):=by simpa [fTd] using hc 1 (by omega)
 have c2 : w.cell? ⟨b,off + 2,none⟩ = some (.string ds[0].source):=by simpa [fTd] using hc 2 (by omega)
 have c3 : w.cell? ⟨b,off + 3,none⟩ = some (.slice ds[0].ia ds[0].il ds[0].ic):=by simpa [fTd] using hc 3 (by omega)
 have c4 : w.cell? ⟨b,off + 4,none⟩ = some (.slice ds[0].fa ds[0].fl ds[0].fc):=by simpa [fTd] using hc 4 (by omega)
 have c5 : w.cell? ⟨b,off + 5,none⟩ = some (.int .i64 ds[0].kind):=by simpa [fTd] using hc 5 (by omega)
 have c6 : w.cell? ⟨b,off + 6,none⟩ = some (.string ds[0].text):=by simpa [fTd] using hc 6 (by omega)
 have c7 : w.cell? ⟨b,off + 7,none⟩ = some (.int .i64 ds[0].num):=by simpa [fTd] using hc 7 (by omega)
 have HE : Hid ((maxT c ds 1) = ds[0]):=maxT_one c h0
 have hn1 : ¬ (ds.length : Int) < 1:=by omega
 clear hp hR hH hc
 generalize ds[0] = d at *
 have HQ4 : Hid (((w.alloc (.cells #[.int .i64 0,.int .i64 0,.string ⟨#[]⟩,.slice none 0 0,.slice none 0 0,.int .i64 0,.string ⟨#[]⟩,.int .i64 0] 167)).alloc (.cells #[.int .i64 d.no,.int .i64 d.at_,.string d.source,.slice d.ia d.il d.ic,.slice d.fa d.fl d.fc,.int .i64 d.kind,.string d.text,.int .i64 d.num] 167)).heap[w.heap.size]? = some (.cells #[.int .i64 0,.int .i64 0,.string ⟨#[]⟩,.slice none 0 0,.slice none 0 0,.int .i64 0,.string ⟨#[]⟩,.int .i64 0] 167 (0,0))):=(heap_lt (by simp)).trans (heap_alloc_new _ _)
 have HQ5 : Hid (((w.alloc (.cells #[.int .i64 0,.int .i64 0,.string ⟨#[]⟩,.slice none 0 0,.slice none 0 0,.int .i64 0,.string ⟨#[]⟩,.int .i64 0] 167)).alloc (.cells #[.int .i64 d.no,.int .i64 d.at_,.string d.source,.slice d.ia d.il d.ic,.slice d.fa d.fl d.fc,.int .i64 d.kind,.string d.text,.int .i64 d.num] 167)).heap[w.heap.size + 1]? = some (.cells #[.int .i64 d.no,.int .i64 d.at_,.string d.source,.slice d.ia d.il d.ic,.slice d.fa d.fl d.fc,.int .i64 d.kind,.string d.text,.int .i64 d.num] 167)):=heap_at (by simp)
 have HIN2:=Lib.hid hin2
 clear hin2
 go_enter Tryz.func251,Tryz.ntmps251
 go_wp2_with fail
 clear c0 c1 c2 c3 c4 c5 c6 c7
 generalize (w.alloc (.cells #[.int .i64 0,.int .i64 0,.string ⟨#[]⟩,.slice none 0 0,.slice none 0 0,.int .i64 0,.string ⟨#[]⟩,.int .i64 0] 167)).alloc (.cells #[.int .i64 d.no,.int .i64 d.at_,.string d.source,.slice d.ia d.il d.ic,.slice d.fa d.fl d.fc,.int .i64 d.kind,.string d.text,.int .i64 d.num] 167) = w2 at *
 obtain ⟨q5,hq5⟩ : ∃ q5,q5 = w.heap.size + 1:=⟨_,rfl⟩
 obtain ⟨q4,hq4⟩ : ∃ q4,q4 = w.heap.size:=⟨_,rfl⟩
 rw [← hq5] at HQ5 ⊢
 rw [← hq4] at HQ4 ⊢
 have HNUM : Hid (q4 = w.heap.size ∧ q5 = w.heap.size + 1):=⟨hq4,hq5⟩
 clear hq4 hq5
 go_loopw [6] (fun t wr => ∃ i : Nat,1 ≤ i ∧ i ≤ ds.length ∧ t = .int .i64 i ∧ Hid (Below w.heap.size w wr) ∧ Hid (wr.heap[q4]? = some (.cells #[.int .i64 0,.int .i64 0,.string ⟨#[]⟩,.slice none 0 0,.slice none 0 0,.int .i64 0,.string ⟨#[]⟩,.int .i64 0] 167 (0,0))) ∧ Hid (∃ m,m = maxT c ds i ∧ m ∈ ds ∧ wr.heap[q5]? = some (.cells #[.int .i64 m.no,.int .i64 m.at_,.string m.source,.slice m.ia m.il m.ic,.slice m.fa m.fl m.fc,.int .i64 m.kind,.string m.text,.int .i64 m.num] 167))) (fun t _ => ds.length - (intOf t).toNat)
 case atStart => exact ⟨1,by omega,by omega,rfl,HB2,HQ4,d,HE.out.symm,by rw [← HE.out]; exact MEM1.out,HQ5.out⟩
 case round =>
  obtain ⟨i,hi1,hi,rfl,HB,G4,G5⟩:=hrel
  clear HQ4 HQ5 HE HB2 HIN2 MEM1
  have hin:=HH.out.below HB.out
  obtain ⟨m,hm,hmm,g5⟩:=G5.out
  have HM : Hid (m = maxT c ds i):=hm
  have HMM:=Lib.hid hmm
  have HG5:=Lib.hid g5
  have HIN:=Lib.hid hin
  have m0:=cell_h HG5.out 0 (v:=.int .i64 m.no) rfl
  have m1:=cell_h HG5.out 1 (v:=.int .i64 m.at_) rfl
  have m2:=cell_h HG5.out 2 (v:=.string m.source) rfl
  have m3:=cell_h HG5.out 3 (v:=.slice m.ia m.il m.ic) rfl
  have m4:=cell_h HG5.out 4 (v:=.slice m.fa m.fl m.fc) rfl
  have m5:=cell_h HG5.out 5 (v:=.int .i64 m.kind) rfl
  have m6:=cell_h HG5.out 6 (v:=.string m.text) rfl
  have m7:=cell_h HG5.out 7 (v:=.int .i64 m.num) rfl
  clear hm hmm g5 G5
  by_cases hlt : i < ds.length
  ·obtain ⟨b2,off2,e9,hbl2,hc⟩:=HR.out.at_ hin hlt (by omega)
   injection e9 with e9
   injection e9 with e9 e10 e11
   subst e9 e10
   have x0 : wr.cell? ⟨b,off + i * 8,none⟩ = some (.int .i64 ds[i].no):=hc 0 (by omega)
   have x1 : wr.cell? ⟨b,off + i * 8 + 1,none⟩ = some (.int .i64 ds[i].at_):=hc 1 (by omega)
   have x2 : wr.cell? ⟨b,off + i * 8 + 2,none⟩ = some (.string ds[i].source):=hc 2 (by omega)
   have x3 : wr.cell? ⟨b,off + i * 8 + 3,none⟩ = some (.slice ds[i].ia ds[i].il ds[i].ic):=hc 3 (by omega)
   have x4 : wr.cell? ⟨b,off + i * 8 + 4,none⟩ = some (.slice ds[i].fa ds[i].fl ds[i].fc):=hc 4 (by omega)
   have x5 : wr.cell? ⟨b,off + i * 8 + 5,none⟩ = some (.int .i64 ds[i].kind):=hc 5 (by omega)
   have x6 : wr.cell? ⟨b,off + i * 8 + 6,none⟩ = some (.string ds[i].text):=hc 6 (by omega)
   have x7 : wr.cell? ⟨b,off + i * 8 + 7,none⟩ = some (.int .i64 ds[i].num):=hc 7 (by omega)
   have HXM : Hid (ds[i] ∈ ds):=List.getElem_mem hlt
   have HSU:=Lib.hid (maxT_succ c hlt (by omega))
   have HSU2 : Hid (maxT c ds (i + 1) = if 0 < c ds[i] m then ds[i] else m):=by rw [HM.out]; exact HSU.out
   have hlt2 : (i : Int) < ds.length:=by omega
   clear hc hin HSU
   generalize ds[i] = x at *
   have HCX:=Lib.hid (fun W hW => HP.out W x m HXM.out HMM.out hW)
   generalize hz : c x m = z at HCX HSU2
   clear hz
   have K0:=lift_cell x0
   have K1:=lift_cell x1
   have K2:=lift_cell x2
   have K3:=lift_cell x3
   have K4:=lift_cell x4
   have K5:=lift_cell x5
   have K6:=lift_cell x6
   have K7:=lift_cell x7
   have J0:=lift_cell m0
   have J1:=lift_cell m1
   have J2:=lift_cell m2
   have J3:=lift_cell m3
   have J4:=lift_cell m4
   have J5:=lift_cell m5
   have J6:=lift_cell m6
   have J7:=lift_cell m7
   clear m0 m1 m2 m3 m4 m5 m6 m7 x0 x1 x2 x3 x4 x5 x6 x7
   go_upto_region 7 with (fail)
   (refine wp_region_det 6 33 (fun W => Below (wr).heap.size (wr) W) (by kernel_rfl) (by kernel_rfl) (by rfl) (Below.refl _ _).drew ?_; simp only [List.take_succ_cons,List.take_zero,List.drop_succ_cons,List.drop_zero])
   iterate 6 (refine detSeq_op rfl ?_ (fun W hW => ?_) ?_; rotate_left; (focus simp only [OpV]; go_simp; first | exact rfl | exact ⟨rfl,hW⟩))
   refine detSeq_nil (fun W3 hW3 => ?_)
   have HW3:=Lib.hid hW3
   have HIN3:=Lib.hid (HIN.out.below HW3.out)
   clear J0 J1 J2 J3 J4 J5 J6 J7 hW3
   go_wp2_with fail
   refine (HCX.out _ HIN3.out).mono ?_
   rintro e w1 ⟨rfl,hb1⟩
   have hb9:=Lib.hid (det_back HW3.out hb1)
   have HB9:=Lib.hid (HB.out.trans (hb9.out.mono HB.out.size))
   have G4n : Hid (w1.heap[q4]? = some (.cells #[.int .i64 0,.int .i64 0,.string ⟨#[]⟩,.slice none 0 0,.slice none 0 0,.int .i64 0,.string ⟨#[]⟩,.int .i64 0] 167 (0,0))):=(hb9.out.block _ (lt_of_heap G4.out)).trans G4.out
   have G5n : Hid (w1.heap[q5]? = some (.cells #[.int .i64 m.no,.int .i64 m.at_,.string m.source,.slice m.ia m.il m.ic,.slice m.fa m.fl m.fc,.int .i64 m.kind,.string m.text,.int .i64 m.num] 167)):=(hb9.out.block _ (lt_of_heap HG5.out)).trans HG5.out
   have y0:=K0 _ hb9.out
   have y1:=K1 _ hb9.out
   have y2:=K2 _ hb9.out
   have y3:=K3 _ hb9.out
   have y4:=K4 _ hb9.out
   have y5:=K5 _ hb9.out
   have y6:=K6 _ hb9.out
   have y7:=K7 _ hb9.out
   clear K0 K1 K2 K3 K4 K5 K6 K7 hb1 HB G4 HG5
   by_cases hq : 0 < z
   ·have HS3 : Hid (x = maxT c ds (i + 1)):=by have:=HSU2.out; rw [if_pos hq] at this; exact this.symm
    have HTH:=Lib.hid (there_of G5n.out)
    have HG9:=Lib.hid (setCells_grown q5 #[.int .i64 x.no,.int .i64 x.at_,.string x.source,.slice x.ia x.il x.ic,.slice x.fa x.fl x.fc,.int .i64 x.kind,.string x.text,.int .i64 x.num].toList 0 w1).1
    have H59:=Lib.hid (setCells_whole (cs:=#[.int .i64 x.no,.int .i64 x.at_,.string x.source,.slice x.ia x.il x.ic,.slice x.fa x.fl x.fc,.int .i64 x.kind,.string x.text,.int .i64 x.num]) G5n.out rfl)
    clear HSU2
    go_wp2_with (refine wpList_store_mid rfl 167 _ _ rfl q5 0 #[.int .i64 x.no,.int .i64 x.at_,.string x.source,.slice x.ia x.il x.ic,.slice x.fa x.fl x.fc,.int .i64 x.kind,.string x.text,.int .i64 x.num] rfl rfl HTH.out (by kernel_rfl) (by simp [Value.oneCell']) ?_; generalize w1.setCells q5 0 #[.int .i64 x.no,.int .i64 x.at_,.string x.source,.slice x.ia x.il x.ic,.slice x.fa x.fl x.fc,.int .i64 x.kind,.string x.text,.int .i64 x.num].toList = W9 at *)
    have HB10 : Hid (Below w.heap.size w W9):=by
     have h1:=HNUM.out
     have hg:=HG9.out
     have hb:=HB9.out
     exact ⟨hg.os.trans hb.os,hg.tape.trans hb.tape,hg.output.trans hb.output,Nat.le_trans hb.size hg.size,fun k hk => (hg.block k (Nat.lt_of_lt_of_le hk hb.size) (fun e => by injection e with e; omega)).trans (hb.block k hk)⟩
    have G49 : Hid (W9.heap[q4]? = some (.cells #[.int .i64 0,.int .i64 0,.string ⟨#[]⟩,.slice none 0 0,.slice none 0 0,.int .i64 0,.string ⟨#[]⟩,.int .i64 0] 167 (0,0))):=(HG9.out.block _ (lt_of_heap G4n.out) (fun e => by injection e with e; have h1:=HNUM.out; omega)).trans G4n.out
    clear y0 y1 y2 y3 y4 y5 y6 y7
    go_wp2_with fail
    go_roundw
    case rel => exact ⟨i + 1,by omega,by omega,by go_num,HB10,G49,x,HS3.out,HXM.out,H59.out⟩
    case measure => simp [intOf]; omega
   ·have HS3 : Hid (m = maxT c ds (i + 1)):=by have:=HSU2.out; rw [if_neg hq] at this; exact this.symm
    clear HSU2 y0 y1 y2 y3 y4 y5 y6 y7
    go_wp2_with fail
    go_roundw
    case rel => exact ⟨i + 1,by omega,by omega,by go_num,HB9,G4n,m,HS3.out,HMM.out,G5n.out⟩
    case measure => simp [intOf]; omega
  ·have hie : i = ds.length:=by omega
   have HF : Hid (tdV m = tdV (maxL c ds)):=by
    show _ = _
    rw [HM.out,hie,maxT_all]
   clear hie
   have HK9:=Lib.hid (setCells_whole (w:=wr) (b:=q4) (cs:=#[.int .i64 m.no,.int .i64 m.at_,.string m.source,.slice m.ia m.il m.ic,.slice m.fa m.fl m.fc,.int .i64 m.kind,.string m.text,.int .i64 m.num]) G4.out rfl)
   have HG9:=Lib.hid (setCells_grown q4 #[.int .i64 m.no,.int .i64 m.at_,.string m.source,.slice m.ia m.il m.ic,.slice m.fa m.fl m.fc,.int .i64 m.kind,.string m.text,.int .i64 m.num].toList 0 wr).1
   have HTH:=Lib.hid (there_of G4.out)
   have HB10 : Hid (Below w.heap.size w (wr.setCells q4 0 #[.int .i64 m.no,.int .i64 m.at_,.string m.source,.slice m.ia m.il m.ic,.slice m.fa m.fl m.fc,.int .i64 m.kind,.string m.text,.int .i64 m.num].toList)):=by
    have h1:=HNUM.out
    have hg:=HG9.out
    have hb:=HB.out
    exact ⟨hg.os.trans hb.os,hg.tape.trans hb.tape,hg.output.trans hb.output,Nat.le_trans hb.size hg.size,fun k hk => (hg.block k (Nat.lt_of_lt_of_le hk hb.size) (fun e => by injection e with e; omega)).trans (hb.block k hk)⟩
   go_wp2_with (refine wpList_store_mid rfl 167 _ _ rfl q4 0 #[.int .i64 m.no,.int .i64 m.at_,.string m.source,.slice m.ia m.il m.ic,.slice m.fa m.fl m.fc,.int .i64 m.kind,.string m.text,.int .i64 m.num] rfl rfl HTH.out (by kernel_rfl) (by simp [Value.oneCell']) ?_; generalize wr.setCells q4 0 #[.int .i64 m.no,.int .i64 m.at_,.string m.source,.slice m.ia m.il m.ic,.slice m.fa m.fl m.fc,.int .i64 m.kind,.string m.text,.int .i64 m.num].toList = W9 at *)
   have v0:=cell_h HK9.out 0 (v:=.int .i64 m.no) rfl
   have v1:=cell_h HK9.out 1 (v:=.int .i64 m.at_) rfl
   have v2:=cell_h HK9.out 2 (v:=.string m.source) rfl
   have v3:=cell_h HK9.out 3 (v:=.slice m.ia m.il m.ic) rfl
   have v4:=cell_h HK9.out 4 (v:=.slice m.fa m.fl m.fc) rfl
   have v5:=cell_h HK9.out 5 (v:=.int .i64 m.kind) rfl
   have v6:=cell_h HK9.out 6 (v:=.string m.text) rfl
   have v7:=cell_h HK9.out 7 (v:=.int .i64 m.num) rfl
   refine bodyPost_ret (v:=.agg #[.int .i64 m.no,.int .i64 m.at_,.string m.source,.slice m.ia m.il m.ic,.slice m.fa m.fl m.fc,.int .i64 m.kind,.string m.text,.int .i64 m.num]) (by simp [results,Tryz.results251,go_sem,v0,v1,v2,v3,v4,v5,v6,v7]) rfl ⟨?_,HB10.out⟩
   exact congrArg Ending.returned HF.out
set_option maxHeartbeats 4000000 in
set_option maxRecDepth 100000 in
theorem minFunc_Td (H : Frz) (kf : Nat) (caps : List Value) (c : TdD → TdD → Int) (ds : List TdD)
  (hp : ∀ (W : World) (x y : TdD),x ∈ ds → y ∈ ds → H.In W → Calls Tryz.prog kf ((.agg #[.int .i64 x.no,.int .i64 x.at_,.string x.source,.slice x.ia x.il x.ic,.slice x.fa x.fl x.fc,.int .i64 x.kind,.string x.text,.int .i64 x.num] : Value) :: (.agg #[.int .i64 y.no,.int .i64 y.at_,.string y.source,.slice y.ia y.il y.ic,.slice y.fa y.fl y.fc,.int .i64 y.kind,.string y.text,.int .i64 y.num] : Value) :: caps).toArray W fun e W' => e = .returned (.int .i64 (c x y)) ∧ Below W.heap.size W W')
  (hcall : ∀ (a b : Value) (W : World),(callFunc kf (a :: b :: caps).toArray).run Tryz.prog W = .ok (.enter kf (a :: b :: caps).toArray) W)
  (A : Option Addr) (cap : Nat) (w : World) (hH : H.In w) (hR : Rw H A 8 fTd ds) (hl : ds.length ≤ 1000000) (h0 : 0 < ds.length) :
  Calls Tryz.prog 237 #[.slice A ds.length cap,.func (.func kf) #[] caps.toArray] w fun e w' => e = .returned (tdV (minL c ds)) ∧ Below w.heap.size w w':=by
 have HP:=Lib.hid hp
 have HR:=Lib.hid hR
 have HH:=Lib.hid hH
 obtain ⟨b,off,rfl,hbl,hc⟩:=hR.at_ hH h0 (by omega)
 have MEM1 : Hid ((minT c ds 1) ∈ ds):=by rw [minT_one c h0]; exact List.getElem_mem h0
 have HB2:=Lib.hid (new2 (w:=w) (.cells #[.int .i64 0,.int .i64 0,.string ⟨#[]⟩,.slice none 0 0,.slice none 0 0,.int .i64 0,.string ⟨#[]⟩,.int .i64 0] 167) (.cells #[.int .i64 ds[0].no,.int .i64 ds[0].at_,.string ds[0].source,.slice ds[0].ia ds[0].il ds[0].ic,.slice ds[0].fa ds[0].fl ds[0].fc,.int .i64 ds[0].kind,.string ds[0].text,.int .i64 ds[0].num] 167))
 have hin2:=hH.below HB2.out
 have c0 : w.cell? ⟨b,off,none⟩ = some (.int .i64 ds[0].no):=by simpa [fTd] using hc 0 (by omega)
 have c1 : w.cell? ⟨b,off + 1,none⟩ = some (.int .i64 ds[0].at_):=by simpa [fTd] using hc 1 (by omega)
 have c2 : w.cell? ⟨b,off + 2,none⟩ = some (.string ds[0].source):=by simpa [fTd] using hc 2 (by omega)
 have c3 : w.cell? ⟨b,off + 3,none⟩ = some (.slice ds[0].ia ds[0].il ds[0].ic):=by simpa [fTd] using hc 3 (by omega)
 have c4 : w.cell? ⟨b,off + 4,none⟩ = some (.slice ds[0].fa ds[0].fl ds[0].fc):=by simpa [fTd] using hc 4 (by omega)
 have c5 : w.cell? ⟨b,off + 5,none⟩ = some (.int .i64 ds[0].kind):=by simpa [fTd] using hc 5 (by omega)
 have c6 : w.cell? ⟨b,off + 6,none⟩ = some (.string ds[0].text):=by simpa [fTd] using hc 6 (by omega)
 have c7 : w.cell? ⟨b,off + 7,none⟩ = some (.int .i64 ds[0].num):=by simpa [fTd] using hc 7 (by omega)
 have HE : Hid ((minT c ds 1) = ds[0]):=minT_one c h0
 have hn1 : ¬ (ds.length : Int) < 1:=by omega
 clear hp hR hH hc
 generalize ds[0] = d at *
 have HQ4 : Hid (((w.alloc (.cells #[.int .i64 0,.int .i64 0,.string ⟨#[]⟩,.slice none 0 0,.slice none 0 0,.int .i64 0,.string ⟨#[]⟩,.int .i64 0] 167)).alloc (.cells #[.int .i64 d.no,.int .i64 d.at_,.string d.source,.slice d.ia d.il d.ic,.slice d.fa d.fl d.fc,.int .i64 d.kind,.string d.text,.int .i64 d.num] 167)).heap[w.heap.size]? = some (.cells #[.int .i64 0,.int .i64 0,.string ⟨#[]⟩,.slice none 0 0,.slice none 0 0,.int .i64 0,.string ⟨#[]⟩,.int .i64 0] 167 (0,0))):=(heap_lt (by simp)).trans (heap_alloc_new _ _)
 have HQ5 : Hid (((w.alloc (.cells #[.int .i64 0,.int .i64 0,.string ⟨#[]⟩,.slice none 0 0,.slice none 0 0,.int .i64 0,.string ⟨#[]⟩,.int .i64 0] 167)).alloc (.cells #[.int .i64 d.no,.int .i64 d.at_,.string d.source,.slice d.ia d.il d.ic,.slice d.fa d.fl d.fc,.int .i64 d.kind,.string d.text,.int .i64 d.num] 167)).heap[w.heap.size + 1]? = some (.cells #[.int .i64 d.no,.int .i64 d.at_,.string d.source,.slice d.ia d.il d.ic,.slice d.fa d.fl d.fc,.int .i64 d.kind,.string d.text,.int .i64 d.num] 167)):=heap_at (by simp)
 have HIN2:=Lib.hid hin2
 clear hin2
 go_enter Tryz.func237,Tryz.ntmps237
 go_wp2_with fail
 clear c0 c1 c2 c3 c4 c5 c6 c7
 generalize (w.alloc (.cells #[.int .i64 0,.int .i64 0,.string ⟨#[]⟩,.slice none 0 0,.slice none 0 0,.int .i64 0,.string ⟨#[]⟩,.int .i64 0] 167)).alloc (.cells #[.int .i64 d.no,.int .i64 d.at_,.string d.source,.slice d.ia d.il d.ic,.slice d.fa d.fl d.fc,.int .i64 d.kind,.string d.text,.int .i64 d.num] 167) = w2 at *
 obtain ⟨q5,hq5⟩ : ∃ q5,q5 = w.heap.size + 1:=⟨_,rfl⟩
 obtain ⟨q4,hq4⟩ : ∃ q4,q4 = w.heap.size:=⟨_,rfl⟩
 rw [← hq5] at HQ5 ⊢
 rw [← hq4] at HQ4 ⊢
 have HNUM : Hid (q4 = w.heap.size ∧ q5 = w.heap.size + 1):=⟨hq4,hq5⟩
 clear hq4 hq5
 go_loopw [6] (fun t wr => ∃ i : Nat,1 ≤ i ∧ i ≤ ds.length ∧ t = .int .i64 i ∧ Hid (Below w.heap.size w wr) ∧ Hid (wr.heap[q4]? = some (.cells #[.int .i64 0,.int .i64 0,.string ⟨#[]⟩,.slice none 0 0,.slice none 0 0,.int .i64 0,.string ⟨#[]⟩,.int .i64 0] 167 (0,0))) ∧ Hid (∃ m,m = minT c ds i ∧ m ∈ ds ∧ wr.heap[q5]? = some (.cells #[.int .i64 m.no,.int .i64 m.at_,.string m.source,.slice m.ia m.il m.ic,.slice m.fa m.fl m.fc,.int .i64 m.kind,.string m.text,.int .i64 m.num] 167))) (fun t _ => ds.length - (intOf t).toNat)
 case atStart => exact ⟨1,by omega,by omega,rfl,HB2,HQ4,d,HE.out.symm,by rw [← HE.out]; exact MEM1.out,HQ5.out⟩
 case round =>
  obtain ⟨i,hi1,hi,rfl,HB,G4,G5⟩:=hrel
  clear HQ4 HQ5 HE HB2 HIN2 MEM1
  have hin:=HH.out.below HB.out
  obtain ⟨m,hm,hmm,g5⟩:=G5.out
  have HM : Hid (m = minT c ds i):=hm
  have HMM:=Lib.hid hmm
  have HG5:=Lib.hid g5
  have HIN:=Lib.hid hin
  have m0:=cell_h HG5.out 0 (v:=.int .i64 m.no) rfl
  have m1:=cell_h HG5.out 1 (v:=.int .i64 m.at_) rfl
  have m2:=cell_h HG5.out 2 (v:=.string m.source) rfl
  have m3:=cell_h HG5.out 3 (v:=.slice m.ia m.il m.ic) rfl
  have m4:=cell_h HG5.out 4 (v:=.slice m.fa m.fl m.fc) rfl
  have m5:=cell_h HG5.out 5 (v:=.int .i64 m.kind) rfl
  have m6:=cell_h HG5.out 6 (v:=.string m.text) rfl
  have m7:=cell_h HG5.out 7 (v:=.int .i64 m.num) rfl
  clear hm hmm g5 G5
  by_cases hlt : i < ds.length
  ·obtain ⟨b2,off2,e9,hbl2,hc⟩:=HR.out.at_ hin hlt (by omega)
   injection e9 with e9
   injection e9 with e9 e10 e11
   subst e9 e10
   have x0 : wr.cell? ⟨b,off + i * 8,none⟩ = some (.int .i64 ds[i].no):=hc 0 (by omega)
   have x1 : wr.cell? ⟨b,off + i * 8 + 1,none⟩ = some (.int .i64 ds[i].at_):=hc 1 (by omega)
   have x2 : wr.cell? ⟨b,off + i * 8 + 2,none⟩ = some (.string ds[i].source):=hc 2 (by omega)
   have x3 : wr.cell? ⟨b,off + i * 8 + 3,none⟩ = some (.slice ds[i].ia ds[i].il ds[i].ic):=hc 3 (by omega)
   have x4 : wr.cell? ⟨b,off + i * 8 + 4,none⟩ = some (.slice ds[i].fa ds[i].fl ds[i].fc):=hc 4 (by omega)
   have x5 : wr.cell? ⟨b,off + i * 8 + 5,none⟩ = some (.int .i64 ds[i].kind):=hc 5 (by omega)
   have x6 : wr.cell? ⟨b,off + i * 8 + 6,none⟩ = some (.string ds[i].text):=hc 6 (by omega)
   have x7 : wr.cell? ⟨b,off + i * 8 + 7,none⟩ = some (.int .i64 ds[i].num):=hc 7 (by omega)
   have HXM : Hid (ds[i] ∈ ds):=List.getElem_mem hlt
   have HSU:=Lib.hid (minT_succ c hlt (by omega))
   have HSU2 : Hid (minT c ds (i + 1) = if c ds[i] m < 0 then ds[i] else m):=by rw [HM.out]; exact HSU.out
   have hlt2 : (i : Int) < ds.length:=by omega
   clear hc hin HSU
   generalize ds[i] = x at *
   have HCX:=Lib.hid (fun W hW => HP.out W x m HXM.out HMM.out hW)
   generalize hz : c x m = z at HCX HSU2
   clear hz
   have K0:=lift_cell x0
   have K1:=lift_cell x1
   have K2:=lift_cell x2
   have K3:=lift_cell x3
   have K4:=lift_cell x4
   have K5:=lift_cell x5
   have K6:=lift_cell x6
   have K7:=lift_cell x7
   have J0:=lift_cell m0
   have J1:=lift_cell m1
   have J2:=lift_cell m2
   have J3:=lift_cell m3
   have J4:=lift_cell m4
   have J5:=lift_cell m5
   have J6:=lift_cell m6
   have J7:=lift_cell m7
   clear m0 m1 m2 m3 m4 m5 m6 m7 x0 x1 x2 x3 x4 x5 x6 x7
   go_upto_region 7 with (fail)
   (refine wp_region_det 6 33 (fun W => Below (wr).heap.size (wr) W) (by kernel_rfl) (by kernel_rfl) (by rfl) (Below.refl _ _).drew ?_; simp only [List.take_succ_cons,List.take_zero,List.drop_succ_cons,List.drop_zero])
   iterate 6 (refine detSeq_op rfl ?_ (fun W hW => ?_) ?_; rotate_left; (focus simp only [OpV]; go_simp; first | exact rfl | exact ⟨rfl,hW⟩))
   refine detSeq_nil (fun W3 hW3 => ?_)
   have HW3:=Lib.hid hW3
   have HIN3:=Lib.hid (HIN.out.below HW3.out)
   clear J0 J1 J2 J3 J4 J5 J6 J7 hW3
   go_wp2_with fail
   refine (HCX.out _ HIN3.out).mono ?_
   rintro e w1 ⟨rfl,hb1⟩
   have hb9:=Lib.hid (det_back HW3.out hb1)
   have HB9:=Lib.hid (HB.out.trans (hb9.out.mono HB.out.size))
   have G4n : Hid (w1.heap[q4]? = some (.cells #[.int .i64 0,.int .i64 0,.string ⟨#[]⟩,.slice none 0 0,.slice none 0 0,.int .i64 0,.string ⟨#[]⟩,.int .i64 0] 167 (0,0))):=(hb9.out.block _ (lt_of_heap G4.out)).trans G4.out
   have G5n : Hid (w1.heap[q5]? = some (.cells #[.int .i64 m.no,.int .i64 m.at_,.string m.source,.slice m.ia m.il m.ic,.slice m.fa m.fl m.fc,.int .i64 m.kind,.string m.text,.int .i64 m.num] 167)):=(hb9.out.block _ (lt_of_heap HG5.out)).trans HG5.out
   have y0:=K0 _ hb9.out
   have y1:=K1 _ hb9.out
   have y2:=K2 _ hb9.out
   have y3:=K3 _ hb9.out
   have y4:=K4 _ hb9.out
   have y5:=K5 _ hb9.out
   have y6:=K6 _ hb9.out
   have y7:=K7 _ hb9.out
   clear K0 K1 K2 K3 K4 K5 K6 K7 hb1 HB G4 HG5
   by_cases hq : z < 0
   ·have HS3 : Hid (x = minT c ds (i + 1)):=by have:=HSU2.out; rw [if_pos hq] at this; exact this.symm
    have HTH:=Lib.hid (there_of G5n.out)
    have HG9:=Lib.hid (setCells_grown q5 #[.int .i64 x.no,.int .i64 x.at_,.string x.source,.slice x.ia x.il x.ic,.slice x.fa x.fl x.fc,.int .i64 x.kind,.string x.text,.int .i64 x.num].toList 0 w1).1
    have H59:=Lib.hid (setCells_whole (cs:=#[.int .i64 x.no,.int .i64 x.at_,.string x.source,.slice x.ia x.il x.ic,.slice x.fa x.fl x.fc,.int .i64 x.kind,.string x.text,.int .i64 x.num]) G5n.out rfl)
    clear HSU2
    go_wp2_with (refine wpList_store_mid rfl 167 _ _ rfl q5 0 #[.int .i64 x.no,.int .i64 x.at_,.string x.source,.slice x.ia x.il x.ic,.slice x.fa x.fl x.fc,.int .i64 x.kind,.string x.text,.int .i64 x.num] rfl rfl HTH.out (by kernel_rfl) (by simp [Value.oneCell']) ?_; generalize w1.setCells q5 0 #[.int .i64 x.no,.int .i64 x.at_,.string x.source,.slice x.ia x.il x.ic,.slice x.fa x.fl x.fc,.int .i64 x.kind,.string x.text,.int .i64 x.num].toList = W9 at *)
    have HB10 : Hid (Below w.heap.size w W9):=by
     have h1:=HNUM.out
     have hg:=HG9.out
     have hb:=HB9.out
     exact ⟨hg.os.trans hb.os,hg.tape.trans hb.tape,hg.output.trans hb.output,Nat.le_trans hb.size hg.size,fun k hk => (hg.block k (Nat.lt_of_lt_of_le hk hb.size) (fun e => by injection e with e; omega)).trans (hb.block k hk)⟩
    have G49 : Hid (W9.heap[q4]? = some (.cells #[.int .i64 0,.int .i64 0,.string ⟨#[]⟩,.slice none 0 0,.slice none 0 0,.int .i64 0,.string ⟨#[]⟩,.int .i64 0] 167 (0,0))):=(HG9.out.block _ (lt_of_heap G4n.out) (fun e => by injection e with e; have h1:=HNUM.out; omega)).trans G4n.out
    clear y0 y1 y2 y3 y4 y5 y6 y7
    go_wp2_with fail
    go_roundw
    case rel => exact ⟨i + 1,by omega,by omega,by go_num,HB10,G49,x,HS3.out,HXM.out,H59.out⟩
    case measure => simp [intOf]; omega
   ·have HS3 : Hid (m = minT c ds (i + 1)):=by have:=HSU2.out; rw [if_neg hq] at this; exact this.symm
    clear HSU2 y0 y1 y2 y3 y4 y5 y6 y7
    go_wp2_with fail
    go_roundw
    case rel => exact ⟨i + 1,by omega,by omega,by go_num,HB9,G4n,m,HS3.out,HMM.out,G5n.out⟩
    case measure => simp [intOf]; omega
  ·have hie : i = ds.length:=by omega
   have HF : Hid (tdV m = tdV (minL c ds)):=by
    show _ = _
    rw [HM.out,hie,minT_all]
   clear hie
   have HK9:=Lib.hid (setCells_whole (w:=wr) (b:=q4) (cs:=#[.int .i64 m.no,.int .i64 m.at_,.string m.source,.slice m.ia m.il m.ic,.slice m.fa m.fl m.fc,.int .i64 m.kind,.string m.text,.int .i64 m.num]) G4.out rfl)
   have HG9:=Lib.hid (setCells_grown q4 #[.int .i64 m.no,.int .i64 m.at_,.string m.source,.slice m.ia m.il m.ic,.slice m.fa m.fl m.fc,.int .i64 m.kind,.string m.text,.int .i64 m.num].toList 0 wr).1
   have HTH:=Lib.hid (there_of G4.out)
   have HB10 : Hid (Below w.heap.size w (wr.setCells q4 0 #[.int .i64 m.no,.int .i64 m.at_,.string m.source,.slice m.ia m.il m.ic,.slice m.fa m.fl m.fc,.int .i64 m.kind,.string m.text,.int .i64 m.num].toList)):=by
    have h1:=HNUM.out
    have hg:=HG9.out
    have hb:=HB.out
    exact ⟨hg.os.trans hb.os,hg.tape.trans hb.tape,hg.output.trans hb.output,Nat.le_trans hb.size hg.size,fun k hk => (hg.block k (Nat.lt_of_lt_of_le hk hb.size) (fun e => by injection e with e; omega)).trans (hb.block k hk)⟩
   go_wp2_with (refine wpList_store_mid rfl 167 _ _ rfl q4 0 #[.int .i64 m.no,.int .i64 m.at_,.string m.source,.slice m.ia m.il m.ic,.slice m.fa m.fl m.fc,.int .i64 m.kind,.string m.text,.int .i64 m.num] rfl rfl HTH.out (by kernel_rfl) (by simp [Value.oneCell']) ?_; generalize wr.setCells q4 0 #[.int .i64 m.no,.int .i64 m.at_,.string m.source,.slice m.ia m.il m.ic,.slice m.fa m.fl m.fc,.int .i64 m.kind,.string m.text,.int .i64 m.num].toList = W9 at *)
   have v0:=cell_h HK9.out 0 (v:=.int .i64 m.no) rfl
   have v1:=cell_h HK9.out 1 (v:=.int .i64 m.at_) rfl
   have v2:=cell_h HK9.out 2 (v:=.string m.source) rfl
   have v3:=cell_h HK9.out 3 (v:=.slice m.ia m.il m.ic) rfl
   have v4:=cell_h HK9.out 4 (v:=.slice m.fa m.fl m.fc) rfl
   have v5:=cell_h HK9.out 5 (v:=.int .i64 m.kind) rfl
   have v6:=cell_h HK9.out 6 (v:=.string m.text) rfl
   have v7:=cell_h HK9.out 7 (v:=.int .i64 m.num) rfl
   refine bodyPost_ret (v:=.agg #[.int .i64 m.no,.int .i64 m.at_,.string m.source,.slice m.ia m.il m.ic,.slice m.fa m.fl m.fc,.int .i64 m.kind,.string m.text,.int .i64 m.num]) (by simp [results,Tryz.results237,go_sem,v0,v1,v2,v3,v4,v5,v6,v7]) rfl ⟨?_,HB10.out⟩
   exact congrArg Ending.returned HF.out
open Go.RowKit
theorem ret_b {a b : Bool} (h : a = b) : Ending.returned (.bool a) = .returned (.bool b):=by rw [h]
set_option maxHeartbeats 2000000 in
set_option maxRecDepth 100000 in
theorem later_any (a b : TdD) (w : World) : Calls Tryz.prog 238 #[tdV a,tdV b] w fun e w' => e = .returned (.int .i64 (laterC a b)) ∧ Below w.heap.size w w':=by
 rw [show tdV a = .agg #[.int .i64 a.no,.int .i64 a.at_,.string a.source,.slice a.ia a.il a.ic,.slice a.fa a.fl a.fc,.int .i64 a.kind,.string a.text,.int .i64 a.num] from rfl,show tdV b = .agg #[.int .i64 b.no,.int .i64 b.at_,.string b.source,.slice b.ia b.il b.ic,.slice b.fa b.fl b.fc,.int .i64 b.kind,.string b.text,.int .i64 b.num] from rfl]
 have hb:=Lib.hid (new2 (w:=w) (.cells #[.int .i64 a.no,.int .i64 a.at_,.string a.source,.slice a.ia a.il a.ic,.slice a.fa a.fl a.fc,.int .i64 a.kind,.string a.text,.int .i64 a.num] 167) (.cells #[.int .i64 b.no,.int .i64 b.at_,.string b.source,.slice b.ia b.il b.ic,.slice b.fa b.fl b.fc,.int .i64 b.kind,.string b.text,.int .i64 b.num] 167))
 have h1 : ((w.alloc (.cells #[.int .i64 a.no,.int .i64 a.at_,.string a.source,.slice a.ia a.il a.ic,.slice a.fa a.fl a.fc,.int .i64 a.kind,.string a.text,.int .i64 a.num] 167)).alloc (.cells #[.int .i64 b.no,.int .i64 b.at_,.string b.source,.slice b.ia b.il b.ic,.slice b.fa b.fl b.fc,.int .i64 b.kind,.string b.text,.int .i64 b.num] 167)).heap[w.heap.size]? = some (.cells #[.int .i64 a.no,.int .i64 a.at_,.string a.source,.slice a.ia a.il a.ic,.slice a.fa a.fl a.fc,.int .i64 a.kind,.string a.text,.int .i64 a.num] 167):=(heap_lt (by simp)).trans (heap_alloc_new _ _)
 have h2 : ((w.alloc (.cells #[.int .i64 a.no,.int .i64 a.at_,.string a.source,.slice a.ia a.il a.ic,.slice a.fa a.fl a.fc,.int .i64 a.kind,.string a.text,.int .i64 a.num] 167)).alloc (.cells #[.int .i64 b.no,.int .i64 b.at_,.string b.source,.slice b.ia b.il b.ic,.slice b.fa b.fl b.fc,.int .i64 b.kind,.string b.text,.int .i64 b.num] 167)).heap[w.heap.size + 1]? = some (.cells #[.int .i64 b.no,.int .i64 b.at_,.string b.source,.slice b.ia b.il b.ic,.slice b.fa b.fl b.fc,.int .i64 b.kind,.string b.text,.int .i64 b.num] 167):=heap_at (by simp)
 have H1:=Lib.hid h1
 have H2:=Lib.hid h2
 clear h1 h2
 go_enter Tryz.func238,Tryz.ntmps238
 go_upto_region 1 with (fail)
 generalize (w.alloc _).alloc _ = W2 at *
 have K0:=lift_cell (cell_h H1.out 0 (v:=.int .i64 a.no) rfl)
 have K1:=lift_cell (cell_h H1.out 1 (v:=.int .i64 a.at_) rfl)
 have J0:=lift_cell (cell_h H2.out 0 (v:=.int .i64 b.no) rfl)
 have J1:=lift_cell (cell_h H2.out 1 (v:=.int .i64 b.at_) rfl)
 clear H1 H2
 (refine wp_region_det 14 21 (fun W => Below (W2).heap.size (W2) W) (by kernel_rfl) (by kernel_rfl) (by rfl) (Below.refl _ _).drew ?_; simp only [List.take_succ_cons,List.take_zero,List.drop_succ_cons,List.drop_zero])
 iterate 6 (refine detSeq_op rfl ?_ (fun W hW => ?_) ?_; rotate_left; (focus simp only [OpV]; go_simp; first | exact rfl | exact ⟨rfl,hW⟩))
 (refine detSeq_op rfl ?_ (fun W hW => ?_) ?_; rotate_left; focus (simp only [OpV]; go_simp; refine (cmpInt_b a.at_ b.at_ W).mono ?_; rintro e w' ⟨rfl,hb⟩; refine ⟨_,rfl,?_,det_back hW hb⟩; exact rfl))
 iterate 6 (refine detSeq_op rfl ?_ (fun W hW => ?_) ?_; rotate_left; (focus simp only [OpV]; go_simp; first | exact rfl | exact ⟨rfl,hW⟩))
 (refine detSeq_op rfl ?_ (fun W hW => ?_) ?_; rotate_left; focus (simp only [OpV]; go_simp; refine (cmpInt_b a.no b.no W).mono ?_; rintro e w' ⟨rfl,hb⟩; refine ⟨_,rfl,?_,det_back hW hb⟩; exact rfl))
 refine detSeq_nil (fun W3 hW3 => ?_)
 have HB3:=Lib.hid (hb.out.trans (hW3.mono hb.out.size))
 have HIN : Hid (Ints (W3.alloc (.cells #[.int .i64 (cmpI a.at_ b.at_),.int .i64 (cmpI a.no b.no)] 3)) (some ⟨W3.heap.size,0,none⟩) [cmpI a.at_ b.at_,cmpI a.no b.no]):=Ints.of_row (heap_at rfl) rfl
 have HQ : Hid (orL [cmpI a.at_ b.at_,cmpI a.no b.no] = laterC a b):=rfl
 clear K0 K1 J0 J1 hW3
 generalize cmpI a.at_ b.at_ = u at *
 generalize cmpI a.no b.no = v at *
 go_wp2_with fail
 refine (orL_any _ _ [u,v] _ HIN.out (by simp)).mono ?_
 rintro e w' ⟨rfl,rfl⟩
 generalize orL [u,v] = q at HQ ⊢
 have HB4:=Lib.hid (HB3.out.alloc HB3.out.size (.cells #[.int .i64 u,.int .i64 v] 3))
 go_wp2_with fail
 go_ret
 exact ⟨ret_int HQ.out,HB4.out⟩
set_option maxHeartbeats 1000000 in
theorem longM_any (d : TdD) (hd : d.text.size ≤ 1000000) (w : World) : Calls Tryz.prog 240 #[tdV d] w fun e w' => e = .returned (.int .i64 (mLong d)) ∧ Below w.heap.size w w':=by
 rw [show tdV d = .agg #[.int .i64 d.no,.int .i64 d.at_,.string d.source,.slice d.ia d.il d.ic,.slice d.fa d.fl d.fc,.int .i64 d.kind,.string d.text,.int .i64 d.num] from rfl]
 have z0 : (w.alloc (.cells #[.int .i64 d.no,.int .i64 d.at_,.string d.source,.slice d.ia d.il d.ic,.slice d.fa d.fl d.fc,.int .i64 d.kind,.string d.text,.int .i64 d.num] 167)).cell? ⟨w.heap.size,0,none⟩ = some (.int .i64 d.no):=newc 0 rfl
 have z1 : (w.alloc (.cells #[.int .i64 d.no,.int .i64 d.at_,.string d.source,.slice d.ia d.il d.ic,.slice d.fa d.fl d.fc,.int .i64 d.kind,.string d.text,.int .i64 d.num] 167)).cell? ⟨w.heap.size,1,none⟩ = some (.int .i64 d.at_):=newc 1 rfl
 have z2 : (w.alloc (.cells #[.int .i64 d.no,.int .i64 d.at_,.string d.source,.slice d.ia d.il d.ic,.slice d.fa d.fl d.fc,.int .i64 d.kind,.string d.text,.int .i64 d.num] 167)).cell? ⟨w.heap.size,2,none⟩ = some (.string d.source):=newc 2 rfl
 have z3 : (w.alloc (.cells #[.int .i64 d.no,.int .i64 d.at_,.string d.source,.slice d.ia d.il d.ic,.slice d.fa d.fl d.fc,.int .i64 d.kind,.string d.text,.int .i64 d.num] 167)).cell? ⟨w.heap.size,3,none⟩ = some (.slice d.ia d.il d.ic):=newc 3 rfl
 have z4 : (w.alloc (.cells #[.int .i64 d.no,.int .i64 d.at_,.string d.source,.slice d.ia d.il d.ic,.slice d.fa d.fl d.fc,.int .i64 d.kind,.string d.text,.int .i64 d.num] 167)).cell? ⟨w.heap.size,4,none⟩ = some (.slice d.fa d.fl d.fc):=newc 4 rfl
 have z5 : (w.alloc (.cells #[.int .i64 d.no,.int .i64 d.at_,.string d.source,.slice d.ia d.il d.ic,.slice d.fa d.fl d.fc,.int .i64 d.kind,.string d.text,.int .i64 d.num] 167)).cell? ⟨w.heap.size,5,none⟩ = some (.int .i64 d.kind):=newc 5 rfl
 have z6 : (w.alloc (.cells #[.int .i64 d.no,.int .i64 d.at_,.string d.source,.slice d.ia d.il d.ic,.slice d.fa d.fl d.fc,.int .i64 d.kind,.string d.text,.int .i64 d.num] 167)).cell? ⟨w.heap.size,6,none⟩ = some (.string d.text):=newc 6 rfl
 have z7 : (w.alloc (.cells #[.int .i64 d.no,.int .i64 d.at_,.string d.source,.slice d.ia d.il d.ic,.slice d.fa d.fl d.fc,.int .i64 d.kind,.string d.text,.int .i64 d.num] 167)).cell? ⟨w.heap.size,7,none⟩ = some (.int .i64 d.num):=newc 7 rfl
 have HBN:=Lib.hid (new1 (w:=w) (.cells #[.int .i64 d.no,.int .i64 d.at_,.string d.source,.slice d.ia d.il d.ic,.slice d.fa d.fl d.fc,.int .i64 d.kind,.string d.text,.int .i64 d.num] 167))
 have HR:=Lib.hid (fun W => Any.utf8_RuneCountInString Tryz.laysRune d.text W (by omega))
 go_enter Tryz.func240,Tryz.ntmps240
 go_wp2_with fail
 refine (HR.out _).mono ?_
 rintro e w' ⟨rfl,pos,rfl⟩
 have hb:=Lib.hid (HBN.out.alloc HBN.out.size (.stringIter d.text pos))
 go_wp2_with fail
 go_ret
 exact ⟨rfl,hb.out⟩
theorem textual_any (d : TdD) (w : World) : Calls Tryz.prog 247 #[tdV d] w fun e w' => e = .returned (.bool (textT d)) ∧ Below w.heap.size w w':=by
 rw [show tdV d = .agg #[.int .i64 d.no,.int .i64 d.at_,.string d.source,.slice d.ia d.il d.ic,.slice d.fa d.fl d.fc,.int .i64 d.kind,.string d.text,.int .i64 d.num] from rfl]
 have z0 : (w.alloc (.cells #[.int .i64 d.no,.int .i64 d.at_,.string d.source,.slice d.ia d.il d.ic,.slice d.fa d.fl d.fc,.int .i64 d.kind,.string d.text,.int .i64 d.num] 167)).cell? ⟨w.heap.size,0,none⟩ = some (.int .i64 d.no):=newc 0 rfl
 have z1 : (w.alloc (.cells #[.int .i64 d.no,.int .i64 d.at_,.string d.source,.slice d.ia d.il d.ic,.slice d.fa d.fl d.fc,.int .i64 d.kind,.string d.text,.int .i64 d.num] 167)).cell? ⟨w.heap.size,1,none⟩ = some (.int .i64 d.at_):=newc 1 rfl
 have z2 : (w.alloc (.cells #[.int .i64 d.no,.int .i64 d.at_,.string d.source,.slice d.ia d.il d.ic,.slice d.fa d.fl d.fc,.int .i64 d.kind,.string d.text,.int .i64 d.num] 167)).cell? ⟨w.heap.size,2,none⟩ = some (.string d.source):=newc 2 rfl
 have z3 : (w.alloc (.cells #[.int .i64 d.no,.int .i64 d.at_,.string d.source,.slice d.ia d.il d.ic,.slice d.fa d.fl d.fc,.int .i64 d.kind,.string d.text,.int .i64 d.num] 167)).cell? ⟨w.heap.size,3,none⟩ = some (.slice d.ia d.il d.ic):=newc 3 rfl
 have z4 : (w.alloc (.cells #[.int .i64 d.no,.int .i64 d.at_,.string d.source,.slice d.ia d.il d.ic,.slice d.fa d.fl d.fc,.int .i64 d.kind,.string d.text,.int .i64 d.num] 167)).cell? ⟨w.heap.size,4,none⟩ = some (.slice d.fa d.fl d.fc):=newc 4 rfl
 have z5 : (w.alloc (.cells #[.int .i64 d.no,.int .i64 d.at_,.string d.source,.slice d.ia d.il d.ic,.slice d.fa d.fl d.fc,.int .i64 d.kind,.string d.text,.int .i64 d.num] 167)).cell? ⟨w.heap.size,5,none⟩ = some (.int .i64 d.kind):=newc 5 rfl
 have z6 : (w.alloc (.cells #[.int .i64 d.no,.int .i64 d.at_,.string d.source,.slice d.ia d.il d.ic,.slice d.fa d.fl d.fc,.int .i64 d.kind,.string d.text,.int .i64 d.num] 167)).cell? ⟨w.heap.size,6,none⟩ = some (.string d.text):=newc 6 rfl
 have z7 : (w.alloc (.cells #[.int .i64 d.no,.int .i64 d.at_,.string d.source,.slice d.ia d.il d.ic,.slice d.fa d.fl d.fc,.int .i64 d.kind,.string d.text,.int .i64 d.num] 167)).cell? ⟨w.heap.size,7,none⟩ = some (.int .i64 d.num):=newc 7 rfl
 have HBN:=Lib.hid (new1 (w:=w) (.cells #[.int .i64 d.no,.int .i64 d.at_,.string d.source,.slice d.ia d.il d.ic,.slice d.fa d.fl d.fc,.int .i64 d.kind,.string d.text,.int .i64 d.num] 167))
 go_enter Tryz.func247,Tryz.ntmps247
 go_wp2_with fail
 go_ret
 exact ⟨ret_b (by unfold textT; rfl),HBN.out⟩
theorem notText_any (d : TdD) (w : World) : Calls Tryz.prog 246 #[tdV d] w fun e w' => e = .returned (.bool (!textT d)) ∧ Below w.heap.size w w':=by
 rw [show tdV d = .agg #[.int .i64 d.no,.int .i64 d.at_,.string d.source,.slice d.ia d.il d.ic,.slice d.fa d.fl d.fc,.int .i64 d.kind,.string d.text,.int .i64 d.num] from rfl]
 have z0 : (w.alloc (.cells #[.int .i64 d.no,.int .i64 d.at_,.string d.source,.slice d.ia d.il d.ic,.slice d.fa d.fl d.fc,.int .i64 d.kind,.string d.text,.int .i64 d.num] 167)).cell? ⟨w.heap.size,0,none⟩ = some (.int .i64 d.no):=newc 0 rfl
 have z1 : (w.alloc (.cells #[.int .i64 d.no,.int .i64 d.at_,.string d.source,.slice d.ia d.il d.ic,.slice d.fa d.fl d.fc,.int .i64 d.kind,.string d.text,.int .i64 d.num] 167)).cell? ⟨w.heap.size,1,none⟩ = some (.int .i64 d.at_):=newc 1 rfl
 have z2 : (w.alloc (.cells #[.int .i64 d.no,.int .i64 d.at_,.string d.source,.slice d.ia d.il d.ic,.slice d.fa d.fl d.fc,.int .i64 d.kind,.string d.text,.int .i64 d.num] 167)).cell? ⟨w.heap.size,2,none⟩ = some (.string d.source):=newc 2 rfl
 have z3 : (w.alloc (.cells #[.int .i64 d.no,.int .i64 d.at_,.string d.source,.slice d.ia d.il d.ic,.slice d.fa d.fl d.fc,.int .i64 d.kind,.string d.text,.int .i64 d.num] 167)).cell? ⟨w.heap.size,3,none⟩ = some (.slice d.ia d.il d.ic):=newc 3 rfl
 have z4 : (w.alloc (.cells #[.int .i64 d.no,.int .i64 d.at_,.string d.source,.slice d.ia d.il d.ic,.slice d.fa d.fl d.fc,.int .i64 d.kind,.string d.text,.int .i64 d.num] 167)).cell? ⟨w.heap.size,4,none⟩ = some (.slice d.fa d.fl d.fc):=newc 4 rfl
 have z5 : (w.alloc (.cells #[.int .i64 d.no,.int .i64 d.at_,.string d.source,.slice d.ia d.il d.ic,.slice d.fa d.fl d.fc,.int .i64 d.kind,.string d.text,.int .i64 d.num] 167)).cell? ⟨w.heap.size,5,none⟩ = some (.int .i64 d.kind):=newc 5 rfl
 have z6 : (w.alloc (.cells #[.int .i64 d.no,.int .i64 d.at_,.string d.source,.slice d.ia d.il d.ic,.slice d.fa d.fl d.fc,.int .i64 d.kind,.string d.text,.int .i64 d.num] 167)).cell? ⟨w.heap.size,6,none⟩ = some (.string d.text):=newc 6 rfl
 have z7 : (w.alloc (.cells #[.int .i64 d.no,.int .i64 d.at_,.string d.source,.slice d.ia d.il d.ic,.slice d.fa d.fl d.fc,.int .i64 d.kind,.string d.text,.int .i64 d.num] 167)).cell? ⟨w.heap.size,7,none⟩ = some (.int .i64 d.num):=newc 7 rfl
 have HBN:=Lib.hid (new1 (w:=w) (.cells #[.int .i64 d.no,.int .i64 d.at_,.string d.source,.slice d.ia d.il d.ic,.slice d.fa d.fl d.fc,.int .i64 d.kind,.string d.text,.int .i64 d.num] 167))
 have HT:=Lib.hid (fun W => textual_any d W)
 rw [show tdV d = .agg #[.int .i64 d.no,.int .i64 d.at_,.string d.source,.slice d.ia d.il d.ic,.slice d.fa d.fl d.fc,.int .i64 d.kind,.string d.text,.int .i64 d.num] from rfl] at HT
 go_enter Tryz.func246,Tryz.ntmps246
 go_wp2_with fail
 refine (HT.out _).mono ?_
 rintro e w' ⟨rfl,hb⟩
 have hb2:=Lib.hid (HBN.out.trans (hb.mono HBN.out.size))
 clear hb
 go_wp2_with fail
 go_ret
 exact ⟨rfl,hb2.out⟩
set_option maxHeartbeats 1000000 in
set_option maxRecDepth 100000 in
theorem index_S (H : Frz) (A : Option Addr) (cap : Nat) (ss : List ByteArray) (x : ByteArray) (w : World) (hH : H.In w) (hR : Rw H A 1 fS ss) (hl : ss.length ≤ 1000000) :
  Calls Tryz.prog 244 #[.slice A ss.length cap,.string x] w fun e w' => e = .returned (.int .i64 (idxF (eqS x) ss)) ∧ Below w.heap.size w w':=by
 have HR:=Lib.hid hR
 have HIN:=Lib.hid hH
 clear hR hH
 go_enter Tryz.func244,Tryz.ntmps244
 go_wp2_with fail
 go_loopw [5,8] (fun _ t wr => ∃ i : Nat,i ≤ ss.length ∧ t = .int .i64 i ∧ Hid ((ss.take i).any (eqS x) = false) ∧ Hid (Below w.heap.size w wr)) (fun _ t _ => ss.length - (intOf t).toNat)
 case atStart => exact ⟨0,by omega,rfl,rfl,Below.refl _ _⟩
 case round =>
  obtain ⟨i,hi,rfl,hall,hb⟩:=hrel
  by_cases hlt : i < ss.length
  ·obtain ⟨b,off,rfl,hbl,hc⟩:=HR.out.at_ (HIN.out.below hb.out) hlt (by omega)
   have c0 : wr.cell? ⟨b,off + i,none⟩ = some (.string ss[i]):=by simpa [fS] using hc 0 (by omega)
   have ht:=Lib.hid (idxF_found (p:=eqS x) hlt hall.out)
   have ht2:=Lib.hid (any_take_succ (p:=eqS x) hlt hall.out)
   have heq : Hid (eqS x ss[i] = (x.toList == ss[i].toList)):=rfl
   clear hc
   generalize eqS x ss[i] = q at *
   generalize ss[i] = y at *
   cases k1 : (x.toList == y.toList) with
   | false =>
    have hq : q = false:=by rw [heq.out,k1]
    subst hq
    go_wp2_with fail
    go_roundw
    case rel => exact ⟨i + 1,by omega,by go_num,ht2.out (by simp),hb⟩
    case measure => simp [intOf]; omega
   | true =>
    have hq : q = true:=by rw [heq.out,k1]
    subst hq
    go_wp2_with fail
    go_ret
    exact ⟨ret_int (ht.out (by simp)).symm,hb.out⟩
  ·have hf:=Lib.hid (idxF_none (p:=eqS x) (show ss.any (eqS x) = false by have:=hall.out; rwa [List.take_of_length_le (by omega)] at this))
   go_wp2_with fail
   go_ret
   exact ⟨ret_int hf.out.symm,hb.out⟩
theorem mSrc_idx (srcs : List ByteArray) (d : TdD) : mSrc srcs d = if 0 ≤ idxF (eqS d.source) srcs then - idxF (eqS d.source) srcs else -(srcs.length : Int):=by
 unfold mSrc idxF
 cases e : srcs.findIdx? (fun s => eqS d.source s) with
 | none => rfl
 | some k =>
  show -(k : Int) = if 0 ≤ (k : Int) then -(k : Int) else _
  rw [if_pos (by omega)]
theorem idxS_le (p : ByteArray → Bool) (ss : List ByteArray) : -1 ≤ idxF p ss ∧ idxF p ss ≤ ss.length:=by
 unfold idxF
 cases e : ss.findIdx? p with
 | none => simp
 | some k =>
  have:=(List.findIdx?_eq_some_iff_getElem.1 e).1
  simp
  omega
set_option maxHeartbeats 1000000 in
set_option maxRecDepth 100000 in
theorem srcM_any {H : Frz} {g : Nat} {srcs : List ByteArray} {sa : Option Addr} {sc : Nat} (hc : H.cell? ⟨g,2,none⟩ = some (.slice sa srcs.length sc)) (hS : Rw H sa 1 fS srcs) (hl : srcs.length ≤ 1000) (d : TdD) (w : World) (hH : H.In w) :
  Calls Tryz.prog 243 #[tdV d,.pointer (some ⟨g,0,none⟩)] w fun e w' => e = .returned (.int .i64 (mSrc srcs d)) ∧ Below w.heap.size w w':=by
 have c5:=hH.cell hc
 rw [show tdV d = .agg #[.int .i64 d.no,.int .i64 d.at_,.string d.source,.slice d.ia d.il d.ic,.slice d.fa d.fl d.fc,.int .i64 d.kind,.string d.text,.int .i64 d.num] from rfl]
 have z0 : (w.alloc (.cells #[.int .i64 d.no,.int .i64 d.at_,.string d.source,.slice d.ia d.il d.ic,.slice d.fa d.fl d.fc,.int .i64 d.kind,.string d.text,.int .i64 d.num] 167)).cell? ⟨w.heap.size,0,none⟩ = some (.int .i64 d.no):=newc 0 rfl
 have z1 : (w.alloc (.cells #[.int .i64 d.no,.int .i64 d.at_,.string d.source,.slice d.ia d.il d.ic,.slice d.fa d.fl d.fc,.int .i64 d.kind,.string d.text,.int .i64 d.num] 167)).cell? ⟨w.heap.size,1,none⟩ = some (.int .i64 d.at_):=newc 1 rfl
 have z2 : (w.alloc (.cells #[.int .i64 d.no,.int .i64 d.at_,.string d.source,.slice d.ia d.il d.ic,.slice d.fa d.fl d.fc,.int .i64 d.kind,.string d.text,.int .i64 d.num] 167)).cell? ⟨w.heap.size,2,none⟩ = some (.string d.source):=newc 2 rfl
 have z3 : (w.alloc (.cells #[.int .i64 d.no,.int .i64 d.at_,.string d.source,.slice d.ia d.il d.ic,.slice d.fa d.fl d.fc,.int .i64 d.kind,.string d.text,.int .i64 d.num] 167)).cell? ⟨w.heap.size,3,none⟩ = some (.slice d.ia d.il d.ic):=newc 3 rfl
 have z4 : (w.alloc (.cells #[.int .i64 d.no,.int .i64 d.at_,.string d.source,.slice d.ia d.il d.ic,.slice d.fa d.fl d.fc,.int .i64 d.kind,.string d.text,.int .i64 d.num] 167)).cell? ⟨w.heap.size,4,none⟩ = some (.slice d.fa d.fl d.fc):=newc 4 rfl
 have z5 : (w.alloc (.cells #[.int .i64 d.no,.int .i64 d.at_,.string d.source,.slice d.ia d.il d.ic,.slice d.fa d.fl d.fc,.int .i64 d.kind,.string d.text,.int .i64 d.num] 167)).cell? ⟨w.heap.size,5,none⟩ = some (.int .i64 d.kind):=newc 5 rfl
 have z6 : (w.alloc (.cells #[.int .i64 d.no,.int .i64 d.at_,.string d.source,.slice d.ia d.il d.ic,.slice d.fa d.fl d.fc,.int .i64 d.kind,.string d.text,.int .i64 d.num] 167)).cell? ⟨w.heap.size,6,none⟩ = some (.string d.text):=newc 6 rfl
 have z7 : (w.alloc (.cells #[.int .i64 d.no,.int .i64 d.at_,.string d.source,.slice d.ia d.il d.ic,.slice d.fa d.fl d.fc,.int .i64 d.kind,.string d.text,.int .i64 d.num] 167)).cell? ⟨w.heap.size,7,none⟩ = some (.int .i64 d.num):=newc 7 rfl
 have HBN:=Lib.hid (new1 (w:=w) (.cells #[.int .i64 d.no,.int .i64 d.at_,.string d.source,.slice d.ia d.il d.ic,.slice d.fa d.fl d.fc,.int .i64 d.kind,.string d.text,.int .i64 d.num] 167))
 have c6 : (w.alloc (.cells #[.int .i64 d.no,.int .i64 d.at_,.string d.source,.slice d.ia d.il d.ic,.slice d.fa d.fl d.fc,.int .i64 d.kind,.string d.text,.int .i64 d.num] 167)).cell? ⟨g,2,none⟩ = some (.slice sa srcs.length sc):=(World.cell?_alloc_lt w _ _ (World.block_lt_of_cell? w _ c5)).trans c5
 have HI:=Lib.hid (index_S H sa sc srcs d.source _ (hH.alloc (.cells #[.int .i64 d.no,.int .i64 d.at_,.string d.source,.slice d.ia d.il d.ic,.slice d.fa d.fl d.fc,.int .i64 d.kind,.string d.text,.int .i64 d.num] 167)) hS (by omega))
 have HM:=Lib.hid (mSrc_idx srcs d)
 have hix:=idxS_le (eqS d.source) srcs
 have C6:=Lib.hid c6
 have HG : Hid (g < w.heap.size):=World.block_lt_of_cell? w _ c5
 clear c5 hc hS hH
 generalize idxF (eqS d.source) srcs = n at *
 go_enter Tryz.func243,Tryz.ntmps243
 go_wp2_with fail
 refine HI.out.mono ?_
 rintro e w1 ⟨rfl,hb⟩
 have c7:=lift_cell C6.out _ hb
 have HB:=Lib.hid (HBN.out.trans (hb.mono HBN.out.size))
 clear hb HI c6 z0 z1 z2 z3 z4 z5 z6 z7 C6
 by_cases h0 : 0 ≤ n
 ·have HV : Hid (-n = mSrc srcs d):=by rw [HM.out,if_pos h0]; exact rfl
  go_wp2_with fail
  go_ret
  exact ⟨ret_int HV.out,HB.out⟩
 ·have HV : Hid (-(srcs.length : Int) = mSrc srcs d):=by rw [HM.out,if_neg h0]; exact rfl
  go_wp2_with fail
  go_ret
  exact ⟨ret_int HV.out,HB.out⟩
theorem numM_any {H : Frz} {g : Nat} {sg : Int} (hc : H.cell? ⟨g,0,none⟩ = some (.int .i64 sg)) (d : TdD) (hn : -4611686018427387904 ≤ sg * d.num ∧ sg * d.num ≤ 4611686018427387904) (w : World) (hH : H.In w) :
  Calls Tryz.prog 250 #[tdV d,.pointer (some ⟨g,0,none⟩)] w fun e w' => e = .returned (.int .i64 (sg * d.num)) ∧ Below w.heap.size w w':=by
 have c5:=hH.cell hc
 rw [show tdV d = .agg #[.int .i64 d.no,.int .i64 d.at_,.string d.source,.slice d.ia d.il d.ic,.slice d.fa d.fl d.fc,.int .i64 d.kind,.string d.text,.int .i64 d.num] from rfl]
 have z0 : (w.alloc (.cells #[.int .i64 d.no,.int .i64 d.at_,.string d.source,.slice d.ia d.il d.ic,.slice d.fa d.fl d.fc,.int .i64 d.kind,.string d.text,.int .i64 d.num] 167)).cell? ⟨w.heap.size,0,none⟩ = some (.int .i64 d.no):=newc 0 rfl
 have z1 : (w.alloc (.cells #[.int .i64 d.no,.int .i64 d.at_,.string d.source,.slice d.ia d.il d.ic,.slice d.fa d.fl d.fc,.int .i64 d.kind,.string d.text,.int .i64 d.num] 167)).cell? ⟨w.heap.size,1,none⟩ = some (.int .i64 d.at_):=newc 1 rfl
 have z2 : (w.alloc (.cells #[.int .i64 d.no,.int .i64 d.at_,.string d.source,.slice d.ia d.il d.ic,.slice d.fa d.fl d.fc,.int .i64 d.kind,.string d.text,.int .i64 d.num] 167)).cell? ⟨w.heap.size,2,none⟩ = some (.string d.source):=newc 2 rfl
 have z3 : (w.alloc (.cells #[.int .i64 d.no,.int .i64 d.at_,.string d.source,.slice d.ia d.il d.ic,.slice d.fa d.fl d.fc,.int .i64 d.kind,.string d.text,.int .i64 d.num] 167)).cell? ⟨w.heap.size,3,none⟩ = some (.slice d.ia d.il d.ic):=newc 3 rfl
 have z4 : (w.alloc (.cells #[.int .i64 d.no,.int .i64 d.at_,.string d.source,.slice d.ia d.il d.ic,.slice d.fa d.fl d.fc,.int .i64 d.kind,.string d.text,.int .i64 d.num] 167)).cell? ⟨w.heap.size,4,none⟩ = some (.slice d.fa d.fl d.fc):=newc 4 rfl
 have z5 : (w.alloc (.cells #[.int .i64 d.no,.int .i64 d.at_,.string d.source,.slice d.ia d.il d.ic,.slice d.fa d.fl d.fc,.int .i64 d.kind,.string d.text,.int .i64 d.num] 167)).cell? ⟨w.heap.size,5,none⟩ = some (.int .i64 d.kind):=newc 5 rfl
 have z6 : (w.alloc (.cells #[.int .i64 d.no,.int .i64 d.at_,.string d.source,.slice d.ia d.il d.ic,.slice d.fa d.fl d.fc,.int .i64 d.kind,.string d.text,.int .i64 d.num] 167)).cell? ⟨w.heap.size,6,none⟩ = some (.string d.text):=newc 6 rfl
 have z7 : (w.alloc (.cells #[.int .i64 d.no,.int .i64 d.at_,.string d.source,.slice d.ia d.il d.ic,.slice d.fa d.fl d.fc,.int .i64 d.kind,.string d.text,.int .i64 d.num] 167)).cell? ⟨w.heap.size,7,none⟩ = some (.int .i64 d.num):=newc 7 rfl
 have HBN:=Lib.hid (new1 (w:=w) (.cells #[.int .i64 d.no,.int .i64 d.at_,.string d.source,.slice d.ia d.il d.ic,.slice d.fa d.fl d.fc,.int .i64 d.kind,.string d.text,.int .i64 d.num] 167))
 have c6 : (w.alloc (.cells #[.int .i64 d.no,.int .i64 d.at_,.string d.source,.slice d.ia d.il d.ic,.slice d.fa d.fl d.fc,.int .i64 d.kind,.string d.text,.int .i64 d.num] 167)).cell? ⟨g,0,none⟩ = some (.int .i64 sg):=(World.cell?_alloc_lt w _ _ (World.block_lt_of_cell? w _ c5)).trans c5
 have hw : IntKind.i64.wrap (sg * d.num) = sg * d.num:=by rw [IntKind.wrap_i64]; omega
 clear c5 hc
 go_enter Tryz.func250,Tryz.ntmps250
 go_wp2_with fail
 go_ret
 exact ⟨rfl,HBN.out⟩
open Go.RowKit
set_option maxHeartbeats 2000000 in
set_option maxRecDepth 100000 in
theorem best1_any {H : Frz} {p km : Nat} {mcaps : List Value} {mes : TdD → Int} (hc : H.cell? ⟨p,0,none⟩ = some (.func (.func km) #[] mcaps.toArray)) (hcall : ∀ (a : Value) (W : World),(callFunc km (a :: mcaps).toArray).run Tryz.prog W = .ok (.enter km (a :: mcaps).toArray) W) (a b : TdD)
  (ha : ∀ W,H.In W → Calls Tryz.prog km ((.agg #[.int .i64 a.no,.int .i64 a.at_,.string a.source,.slice a.ia a.il a.ic,.slice a.fa a.fl a.fc,.int .i64 a.kind,.string a.text,.int .i64 a.num] : Value) :: mcaps).toArray W fun e W' => e = .returned (.int .i64 (mes a)) ∧ Below W.heap.size W W')
  (hb : ∀ W,H.In W → Calls Tryz.prog km ((.agg #[.int .i64 b.no,.int .i64 b.at_,.string b.source,.slice b.ia b.il b.ic,.slice b.fa b.fl b.fc,.int .i64 b.kind,.string b.text,.int .i64 b.num] : Value) :: mcaps).toArray W fun e W' => e = .returned (.int .i64 (mes b)) ∧ Below W.heap.size W W') (w : World) (hH : H.In w) :
  Calls Tryz.prog 279 #[.agg #[.int .i64 a.no,.int .i64 a.at_,.string a.source,.slice a.ia a.il a.ic,.slice a.fa a.fl a.fc,.int .i64 a.kind,.string a.text,.int .i64 a.num],.agg #[.int .i64 b.no,.int .i64 b.at_,.string b.source,.slice b.ia b.il b.ic,.slice b.fa b.fl b.fc,.int .i64 b.kind,.string b.text,.int .i64 b.num],.pointer (some ⟨p,0,none⟩)] w fun e w' => e = .returned (.int .i64 (cmpBy mes a b)) ∧ Below w.heap.size w w':=by
 have HA:=Lib.hid ha
 have HBb:=Lib.hid hb
 have HB:=Lib.hid (new2 (w:=w) (.cells #[.int .i64 a.no,.int .i64 a.at_,.string a.source,.slice a.ia a.il a.ic,.slice a.fa a.fl a.fc,.int .i64 a.kind,.string a.text,.int .i64 a.num] 167) (.cells #[.int .i64 b.no,.int .i64 b.at_,.string b.source,.slice b.ia b.il b.ic,.slice b.fa b.fl b.fc,.int .i64 b.kind,.string b.text,.int .i64 b.num] 167))
 have HIN:=Lib.hid (hH.below HB.out)
 have h1 : ((w.alloc (.cells #[.int .i64 a.no,.int .i64 a.at_,.string a.source,.slice a.ia a.il a.ic,.slice a.fa a.fl a.fc,.int .i64 a.kind,.string a.text,.int .i64 a.num] 167)).alloc (.cells #[.int .i64 b.no,.int .i64 b.at_,.string b.source,.slice b.ia b.il b.ic,.slice b.fa b.fl b.fc,.int .i64 b.kind,.string b.text,.int .i64 b.num] 167)).heap[w.heap.size]? = some (.cells #[.int .i64 a.no,.int .i64 a.at_,.string a.source,.slice a.ia a.il a.ic,.slice a.fa a.fl a.fc,.int .i64 a.kind,.string a.text,.int .i64 a.num] 167):=(heap_lt (by simp)).trans (heap_alloc_new _ _)
 have h2 : ((w.alloc (.cells #[.int .i64 a.no,.int .i64 a.at_,.string a.source,.slice a.ia a.il a.ic,.slice a.fa a.fl a.fc,.int .i64 a.kind,.string a.text,.int .i64 a.num] 167)).alloc (.cells #[.int .i64 b.no,.int .i64 b.at_,.string b.source,.slice b.ia b.il b.ic,.slice b.fa b.fl b.fc,.int .i64 b.kind,.string b.text,.int .i64 b.num] 167)).heap[w.heap.size + 1]? = some (.cells #[.int .i64 b.no,.int .i64 b.at_,.string b.source,.slice b.ia b.il b.ic,.slice b.fa b.fl b.fc,.int .i64 b.kind,.string b.text,.int .i64 b.num] 167):=heap_at (by simp)
 have H1:=Lib.hid h1
 have H2:=Lib.hid h2
 have HL:=Lib.hid (fun W => later_any a b W)
 rw [show tdV a = .agg #[.int .i64 a.no,.int .i64 a.at_,.string a.source,.slice a.ia a.il a.ic,.slice a.fa a.fl a.fc,.int .i64 a.kind,.string a.text,.int .i64 a.num] from rfl,show tdV b = .agg #[.int .i64 b.no,.int .i64 b.at_,.string b.source,.slice b.ia b.il b.ic,.slice b.fa b.fl b.fc,.int .i64 b.kind,.string b.text,.int .i64 b.num] from rfl] at HL
 have L0:=lift_cell (HIN.out.cell hc)
 clear h1 h2 ha hb hH
 go_enter Tryz.func279,Tryz.ntmps279
 go_upto_region 1 with (fail)
 generalize (w.alloc _).alloc _ = W2 at *
 have K0:=lift_cell (cell_h H1.out 0 (v:=.int .i64 a.no) rfl)
 have K1:=lift_cell (cell_h H1.out 1 (v:=.int .i64 a.at_) rfl)
 have K2:=lift_cell (cell_h H1.out 2 (v:=.string a.source) rfl)
 have K3:=lift_cell (cell_h H1.out 3 (v:=.slice a.ia a.il a.ic) rfl)
 have K4:=lift_cell (cell_h H1.out 4 (v:=.slice a.fa a.fl a.fc) rfl)
 have K5:=lift_cell (cell_h H1.out 5 (v:=.int .i64 a.kind) rfl)
 have K6:=lift_cell (cell_h H1.out 6 (v:=.string a.text) rfl)
 have K7:=lift_cell (cell_h H1.out 7 (v:=.int .i64 a.num) rfl)
 have J0:=lift_cell (cell_h H2.out 0 (v:=.int .i64 b.no) rfl)
 have J1:=lift_cell (cell_h H2.out 1 (v:=.int .i64 b.at_) rfl)
 have J2:=lift_cell (cell_h H2.out 2 (v:=.string b.source) rfl)
 have J3:=lift_cell (cell_h H2.out 3 (v:=.slice b.ia b.il b.ic) rfl)
 have J4:=lift_cell (cell_h H2.out 4 (v:=.slice b.fa b.fl b.fc) rfl)
 have J5:=lift_cell (cell_h H2.out 5 (v:=.int .i64 b.kind) rfl)
 have J6:=lift_cell (cell_h H2.out 6 (v:=.string b.text) rfl)
 have J7:=lift_cell (cell_h H2.out 7 (v:=.int .i64 b.num) rfl)
 clear H1 H2
 (refine wp_region_det 10 18 (fun W => Below (W2).heap.size (W2) W) (by kernel_rfl) (by kernel_rfl) (by rfl) (Below.refl _ _).drew ?_; simp only [List.take_succ_cons,List.take_zero,List.drop_succ_cons,List.drop_zero])
 iterate 2 (refine detSeq_op rfl ?_ (fun W hW => ?_) ?_; rotate_left; (focus simp only [OpV]; go_simp; first | exact rfl | exact ⟨rfl,hW⟩))
 (refine detSeq_op rfl ?_ (fun W hW => ?_) ?_; rotate_left; focus (simp only [OpV]; go_simp; refine (HA.out W (HIN.out.below hW)).mono ?_; rintro e w' ⟨rfl,hb⟩; refine ⟨_,rfl,?_,det_back hW hb⟩; exact rfl))
 iterate 2 (refine detSeq_op rfl ?_ (fun W hW => ?_) ?_; rotate_left; (focus simp only [OpV]; go_simp; first | exact rfl | exact ⟨rfl,hW⟩))
 (refine detSeq_op rfl ?_ (fun W hW => ?_) ?_; rotate_left; focus (simp only [OpV]; go_simp; refine (HBb.out W (HIN.out.below hW)).mono ?_; rintro e w' ⟨rfl,hb⟩; refine ⟨_,rfl,?_,det_back hW hb⟩; exact rfl))
 (refine detSeq_op rfl ?_ (fun W hW => ?_) ?_; rotate_left; focus (simp only [OpV]; go_simp; refine (cmpInt_b (mes a) (mes b) W).mono ?_; rintro e w' ⟨rfl,hb⟩; refine ⟨_,rfl,?_,det_back hW hb⟩; exact rfl))
 iterate 2 (refine detSeq_op rfl ?_ (fun W hW => ?_) ?_; rotate_left; (focus simp only [OpV]; go_simp; first | exact rfl | exact ⟨rfl,hW⟩))
 (refine detSeq_op rfl ?_ (fun W hW => ?_) ?_; rotate_left; focus (simp only [OpV]; go_simp; refine (HL.out W).mono ?_; rintro e w' ⟨rfl,hb⟩; refine ⟨_,rfl,?_,det_back hW hb⟩; exact rfl))
 refine detSeq_nil (fun W3 hW3 => ?_)
 have HB3:=Lib.hid (HB.out.trans (hW3.mono HB.out.size))
 have HI : Hid (Ints (W3.alloc (.cells #[.int .i64 (cmpI (mes a) (mes b)),.int .i64 (laterC a b)] 3)) (some ⟨W3.heap.size,0,none⟩) [cmpI (mes a) (mes b),laterC a b]):=Ints.of_row (heap_at rfl) rfl
 have HQ : Hid (orL [cmpI (mes a) (mes b),laterC a b] = cmpBy mes a b):=rfl
 clear L0 K0 K1 K2 K3 K4 K5 K6 K7 J0 J1 J2 J3 J4 J5 J6 J7 hW3 HA HBb HL
 generalize cmpI (mes a) (mes b) = u at *
 generalize laterC a b = v at *
 go_wp2_with fail
 refine (orL_any _ _ [u,v] _ HI.out (by simp)).mono ?_
 rintro e w' ⟨rfl,rfl⟩
 generalize orL [u,v] = q at HQ ⊢
 have HB4:=Lib.hid (HB3.out.alloc HB3.out.size (.cells #[.int .i64 u,.int .i64 v] 3))
 go_wp2_with fail
 go_ret
 exact ⟨ret_int HQ.out,HB4.out⟩
set_option maxHeartbeats 2000000 in
set_option maxRecDepth 100000 in
theorem best_any (H : Frz) (km : Nat) (mcaps : List Value) (mes : TdD → Int) (hcall : ∀ (a : Value) (W : World),(callFunc km (a :: mcaps).toArray).run Tryz.prog W = .ok (.enter km (a :: mcaps).toArray) W) (ds : List TdD)
  (hm : ∀ (W : World) (d : TdD),d ∈ ds → H.In W → Calls Tryz.prog km (tdV d :: mcaps).toArray W fun e W' => e = .returned (.int .i64 (mes d)) ∧ Below W.heap.size W W')
  (A : Option Addr) (cap : Nat) (w : World) (hH : H.In w) (hR : Rw H A 8 fTd ds) (hl : ds.length ≤ 1000000) (h0 : 0 < ds.length) :
  Calls Tryz.prog 239 #[.slice A ds.length cap,.func (.func km) #[] mcaps.toArray] w fun e w' => e = .returned (vV (maxL (cmpBy mes) ds).v) ∧ Below w.heap.size w w':=by
 have HB:=Lib.hid (new2 (w:=w) (.cells #[.func (.func km) #[] mcaps.toArray] 283) (.cells #[.int .i64 0,.string ⟨#[]⟩,.int .i64 0] 37))
 have hle : H.Le (wholeH ((w.alloc (.cells #[.func (.func km) #[] mcaps.toArray] 283)).alloc (.cells #[.int .i64 0,.string ⟨#[]⟩,.int .i64 0] 37))):=fun b o h => (hH.below HB.out) b o h
 have h1 : ((w.alloc (.cells #[.func (.func km) #[] mcaps.toArray] 283)).alloc (.cells #[.int .i64 0,.string ⟨#[]⟩,.int .i64 0] 37)).heap[w.heap.size]? = some (.cells #[.func (.func km) #[] mcaps.toArray] 283):=(heap_lt (by simp)).trans (heap_alloc_new _ _)
 have H2 : Hid (((w.alloc (.cells #[.func (.func km) #[] mcaps.toArray] 283)).alloc (.cells #[.int .i64 0,.string ⟨#[]⟩,.int .i64 0] 37)).heap[w.heap.size + 1]? = some (.cells #[.int .i64 0,.string ⟨#[]⟩,.int .i64 0] 37)):=heap_at (by simp)
 have hcell : (wholeH ((w.alloc (.cells #[.func (.func km) #[] mcaps.toArray] 283)).alloc (.cells #[.int .i64 0,.string ⟨#[]⟩,.int .i64 0] 37))).cell? ⟨w.heap.size,0,none⟩ = some (.func (.func km) #[] mcaps.toArray):=by
  simp only [Frz.cell?,wholeH,h1]
  rfl
 have HMX:=Lib.hid (fun W (hW : (wholeH ((w.alloc (.cells #[.func (.func km) #[] mcaps.toArray] 283)).alloc (.cells #[.int .i64 0,.string ⟨#[]⟩,.int .i64 0] 37))).In W) => maxFunc_Td _ 279 [.pointer (some ⟨w.heap.size,0,none⟩)] (cmpBy mes) ds
  (fun W x y hx hy hW => best1_any hcell hcall x y (fun W hW => hm W x hx (hW.le hle)) (fun W hW => hm W y hy (hW.le hle)) W hW) (fun _ _ _ => by kernel_rfl) A cap W hW (hR.le hle) hl h0)
 have HIN:=Lib.hid (wholeH_in ((w.alloc (.cells #[.func (.func km) #[] mcaps.toArray] 283)).alloc (.cells #[.int .i64 0,.string ⟨#[]⟩,.int .i64 0] 37)))
 clear hle h1 hcell hm hR hH hcall
 go_enter Tryz.func239,Tryz.ntmps239
 go_wp2_with fail
 generalize (w.alloc _).alloc _ = W2 at *
 refine (HMX.out _ HIN.out).mono ?_
 rintro e w1 ⟨rfl,hb⟩
 have hk:=(hb.block _ (lt_of_heap H2.out)).trans H2.out
 have HB3:=Lib.hid (HB.out.trans (hb.mono HB.out.size))
 have x0 : w1.cell? ⟨w.heap.size + 1,0,none⟩ = some (.int .i64 0):=cell_h hk 0 rfl
 have x1 : w1.cell? ⟨w.heap.size + 1,1,none⟩ = some (.string ⟨#[]⟩):=cell_h hk 1 rfl
 have x2 : w1.cell? ⟨w.heap.size + 1,2,none⟩ = some (.int .i64 0):=cell_h hk 2 rfl
 have y0:=froz_h hk 0
 have y1:=froz_h hk 1
 have y2:=froz_h hk 2
 have HK9:=Lib.hid (fun a0 a1 a2 => set3 hk a0 a1 a2)
 have hfl : ∀ d : TdD,∀ W : World,(Instr.field 167 (tdV d) 1).run Tryz.prog W = .ok (.agg #[.int .i64 d.kind,.string d.text,.int .i64 d.num]) W:=fun d W => by kernel_rfl
 have hff:=hfl (maxL (cmpBy mes) ds)
 clear hfl hk hb HMX HIN H2 HB
 have hb2:=Lib.hid (((HB3.out.setCell (p:=⟨w.heap.size + 1,0,none⟩) (Nat.le_succ _) (.int .i64 (maxL (cmpBy mes) ds).kind)).setCell (p:=⟨w.heap.size + 1,1,none⟩) (Nat.le_succ _) (.string (maxL (cmpBy mes) ds).text)).setCell (p:=⟨w.heap.size + 1,2,none⟩) (Nat.le_succ _) (.int .i64 (maxL (cmpBy mes) ds).num))
 generalize hd : maxL (cmpBy mes) ds = d at *
 have HD:=Lib.hid hd
 clear hd
 go_wp2_with fail
 have z0:=cell_h (HK9.out (.int .i64 d.kind) (.string d.text) (.int .i64 d.num)) 0 (v:=.int .i64 d.kind) rfl
 have z1:=cell_h (HK9.out (.int .i64 d.kind) (.string d.text) (.int .i64 d.num)) 1 (v:=.string d.text) rfl
 have z2:=cell_h (HK9.out (.int .i64 d.kind) (.string d.text) (.int .i64 d.num)) 2 (v:=.int .i64 d.num) rfl
 refine bodyPost_ret (v:=.agg #[.int .i64 d.kind,.string d.text,.int .i64 d.num]) (by simp [results,Tryz.results239,go_sem,z0,z1,z2]) rfl ⟨?_,hb2.out⟩
 first | rfl | (rw [HD.out]; rfl)
end Go.Proofs.YtbidhpgjmcedaaaGreatDoor
