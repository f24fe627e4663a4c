/- Texts of this claim, put together: Often, Survivor, BsfSur, Survives, Record, ToldOk, RecordW. -/
import Derived.Test.YtbidhpgjmcedaaaGreatDoorGCF
import Derived.Test.YtbidhpgjmcedaaaGreatDoorGAB
import Derived.Test.YtbidhpgjmcedaaaGreatDoorGAC
import Derived.Test.YtbidhpgjmcedaaaGreatDoorGAM
import Derived.StillTailTactics
import Derived.Deep.Cut
import Derived.Test.YtbidhpgjmcedaaaGreatDoorGAY
import Derived.Test.YtbidhpgjmcedaaaGreatDoorGAN
import Derived.Test.YtbidhpgjmcedaaaGreatDoorGBY
import Derived.Test.YtbidhpgjmcedaaaGreatDoorGCD
import Derived.Test.YtbidhpgjmcedaaaGreatDoorGBL
namespace Go.Proofs.YtbidhpgjmcedaaaGreatDoor
set_option linter.unusedVariables false
open Go.RowKit
theorem Below.mkO {w W W' : World} {row : Option Nat} (h : Below w.heap.size w W) (g : W.grownBy W' row) (hr : ∀ b,row = some b → w.heap.size ≤ b) : Below w.heap.size w W' :=
 ⟨g.os.trans h.os,g.tape.trans h.tape,g.output.trans h.output,Nat.le_trans h.size g.size,fun k hk => (g.block k (Nat.lt_of_lt_of_le hk h.size) (fun c => by have:=hr k c.symm; omega)).trans (h.block k hk)⟩
theorem zeroIntO (w : World) : (zeroValue 3).run Tryz.prog w = .ok (.int .i64 0) w:=by kernel_rfl
set_option maxHeartbeats 1000000 in
set_option maxRecDepth 100000 in
theorem oftenM_any {H : Frz} {g b n : Nat} {m : Lit → Option Value} (hc : H.cell? ⟨g,0,none⟩ = some (.map (some b))) (hM : ∀ W,H.In W → Mp Tryz.prog 37 W b n m) (ds : List TdD) (ho : OftIs ds m) (d : TdD) (hd : FitV d.v) (w : World) (hH : H.In w) :
  Calls Tryz.prog 242 #[tdV d,.pointer (some ⟨g,0,none⟩)] w fun e w' => e = .returned (.int .i64 (mOften ds d)) ∧ Below w.heap.size w w':=by
 have c5:=hH.cell hc
 rw [show tdV d = .agg #[.int .i64 d.no,.int .i64 d.at_,.string d.source,.slice d.ia d.il d.ic,.slice d.fa d.fl d.fc,.int .i64 d.kind,.string d.text,.int .i64 d.num] from rfl]
 have z0 : (w.alloc (.cells #[.int .i64 d.no,.int .i64 d.at_,.string d.source,.slice d.ia d.il d.ic,.slice d.fa d.fl d.fc,.int .i64 d.kind,.string d.text,.int .i64 d.num] 167)).cell? ⟨w.heap.size,0,none⟩ = some (.int .i64 d.no):=newc 0 rfl
 have z1 : (w.alloc (.cells #[.int .i64 d.no,.int .i64 d.at_,.string d.source,.slice d.ia d.il d.ic,.slice d.fa d.fl d.fc,.int .i64 d.kind,.string d.text,.int .i64 d.num] 167)).cell? ⟨w.heap.size,1,none⟩ = some (.int .i64 d.at_):=newc 1 rfl
 have z2 : (w.alloc (.cells #[.int .i64 d.no,.int .i64 d.at_,.string d.source,.slice d.ia d.il d.ic,.slice d.fa d.fl d.fc,.int .i64 d.kind,.string d.text,.int .i64 d.num] 167)).cell? ⟨w.heap.size,2,none⟩ = some (.string d.source):=newc 2 rfl
 have z3 : (w.alloc (.cells #[.int .i64 d.no,.int .i64 d.at_,.string d.source,.slice d.ia d.il d.ic,.slice d.fa d.fl d.fc,.int .i64 d.kind,.string d.text,.int .i64 d.num] 167)).cell? ⟨w.heap.size,3,none⟩ = some (.slice d.ia d.il d.ic):=newc 3 rfl
 have z4 : (w.alloc (.cells #[.int .i64 d.no,.int .i64 d.at_,.string d.source,.slice d.ia d.il d.ic,.slice d.fa d.fl d.fc,.int .i64 d.kind,.string d.text,.int .i64 d.num] 167)).cell? ⟨w.heap.size,4,none⟩ = some (.slice d.fa d.fl d.fc):=newc 4 rfl
 have z5 : (w.alloc (.cells #[.int .i64 d.no,.int .i64 d.at_,.string d.source,.slice d.ia d.il d.ic,.slice d.fa d.fl d.fc,.int .i64 d.kind,.string d.text,.int .i64 d.num] 167)).cell? ⟨w.heap.size,5,none⟩ = some (.int .i64 d.kind):=newc 5 rfl
 have z6 : (w.alloc (.cells #[.int .i64 d.no,.int .i64 d.at_,.string d.source,.slice d.ia d.il d.ic,.slice d.fa d.fl d.fc,.int .i64 d.kind,.string d.text,.int .i64 d.num] 167)).cell? ⟨w.heap.size,6,none⟩ = some (.string d.text):=newc 6 rfl
 have z7 : (w.alloc (.cells #[.int .i64 d.no,.int .i64 d.at_,.string d.source,.slice d.ia d.il d.ic,.slice d.fa d.fl d.fc,.int .i64 d.kind,.string d.text,.int .i64 d.num] 167)).cell? ⟨w.heap.size,7,none⟩ = some (.int .i64 d.num):=newc 7 rfl
 have HBN:=Lib.hid (new1 (w:=w) (.cells #[.int .i64 d.no,.int .i64 d.at_,.string d.source,.slice d.ia d.il d.ic,.slice d.fa d.fl d.fc,.int .i64 d.kind,.string d.text,.int .i64 d.num] 167))
 have c6 : (w.alloc (.cells #[.int .i64 d.no,.int .i64 d.at_,.string d.source,.slice d.ia d.il d.ic,.slice d.fa d.fl d.fc,.int .i64 d.kind,.string d.text,.int .i64 d.num] 167)).cell? ⟨g,0,none⟩ = some (.map (some b)):=(World.cell?_alloc_lt w _ _ (World.block_lt_of_cell? w _ c5)).trans c5
 have hlk : (Instr.lookup 284 (.map (some b)) (.agg #[.int .i64 d.kind,.string d.text,.int .i64 d.num]) false).run Tryz.prog (w.alloc (.cells #[.int .i64 d.no,.int .i64 d.at_,.string d.source,.slice d.ia d.il d.ic,.slice d.fa d.fl d.fc,.int .i64 d.kind,.string d.text,.int .i64 d.num] 167)) = .ok (.int .i64 (mOften ds d)) (w.alloc (.cells #[.int .i64 d.no,.int .i64 d.at_,.string d.source,.slice d.ia d.il d.ic,.slice d.fa d.fl d.fc,.int .i64 d.kind,.string d.text,.int .i64 d.num] 167)):=by
  have h1:=(hM _ (hH.alloc (.cells #[.int .i64 d.no,.int .i64 d.at_,.string d.source,.slice d.ia d.il d.ic,.slice d.fa d.fl d.fc,.int .i64 d.kind,.string d.text,.int .i64 d.num] 167))).look valKeyed Tryz.underlying284 (zeroIntO _) (keyV hd) false
  rw [ho d.v hd] at h1
  exact h1
 clear c5 hc hM ho hH
 go_enter Tryz.func242,Tryz.ntmps242
 go_wp2_with fail
 go_ret
 exact ⟨rfl,HBN.out⟩
structure OftI (w : World) (rb b p n : Nat) (m : Lit → Option Value) (l : List TdD) (wr : World) : Prop where
 bel : Below w.heap.size w wr
 res : wr.heap[rb]? = some (.cells #[.int .i64 0,.string ⟨#[]⟩,.int .i64 0] 37 (0,0))
 var : wr.heap[p]? = some (.cells #[.map (some b)] 284 (0,0))
 map : Mp Tryz.prog 37 wr b n m
 oft : OftIs l m
 le : n ≤ l.length
 ge : w.heap.size ≤ b
 ne : rb ≠ b ∧ p ≠ b
theorem OftI.call {w wr wr' : World} {rb b p n : Nat} {m : Lit → Option Value} {l : List TdD} (h : OftI w rb b p n m l wr) (hb : Below wr.heap.size wr wr') : OftI w rb b p n m l wr' :=
 ⟨h.bel.trans (hb.mono h.bel.size),(hb.block _ (lt_of_heap h.res)).trans h.res,(hb.block _ (lt_of_heap h.var)).trans h.var,h.map.below hb,h.oft,h.le,h.ge,h.ne⟩
theorem OftI.put {w wr wr' : World} {rb b p n : Nat} {m : Lit → Option Value} {l : List TdD} (h : OftI w rb b p n m l wr) {x : TdD} (hx : FitV x.v) (hM : Mp Tryz.prog 37 wr' b (n + 1) (mpSet m (klV x.v) (.int .i64 (((l.filter fun y => sameV y.v x.v).length : Int) + 1)))) (hg : wr.grownBy wr' (some b)) :
  ∃ n m,OftI w rb b p n m (l ++ [x]) wr' :=
 ⟨_,_,Below.mkO h.bel hg (fun c e => by injection e with e; have:=h.ge; omega),(hg.block _ (lt_of_heap h.res) (fun c => by injection c with c; exact h.ne.1 c)).trans h.res,(hg.block _ (lt_of_heap h.var) (fun c => by injection c with c; exact h.ne.2 c)).trans h.var,hM,h.oft.set hx,by rw [List.length_append]; exact Nat.succ_le_succ h.le,h.ge,h.ne⟩
set_option maxHeartbeats 4000000 in
set_option maxRecDepth 100000 in
theorem surv_often (H : Frz) (name : ByteArray) (sa : Option Addr) (sc : Nat) (srcs : List ByteArray) (hS : Rw H sa 1 fS srcs) (hsl : srcs.length ≤ 1000) (ds : List TdD) (hok : TdOk ds) (A : Option Addr) (cap : Nat) (w : World) (hH : H.In w) (hR : Rw H A 8 fTd ds) :
  Calls Tryz.prog 188 #[.agg #[.string name,.int .i64 4,.slice sa srcs.length sc],.slice A ds.length cap] w fun e w' => e = .returned (vV (surT 4 srcs ds).v) ∧ Below w.heap.size w w':=by
 have HB:=Lib.hid (new2 (w:=w) (.cells #[.string name,.int .i64 4,.slice sa srcs.length sc] 210) (.cells #[.int .i64 0,.string ⟨#[]⟩,.int .i64 0] 37))
 have h1 : ((w.alloc (.cells #[.string name,.int .i64 4,.slice sa srcs.length sc] 210)).alloc (.cells #[.int .i64 0,.string ⟨#[]⟩,.int .i64 0] 37)).heap[w.heap.size]? = some (.cells #[.string name,.int .i64 4,.slice sa srcs.length sc] 210):=(heap_lt (by simp)).trans (heap_alloc_new _ _)
 have H2 : Hid (((w.alloc (.cells #[.string name,.int .i64 4,.slice sa srcs.length sc] 210)).alloc (.cells #[.int .i64 0,.string ⟨#[]⟩,.int .i64 0] 37)).heap[w.heap.size + 1]? = some (.cells #[.int .i64 0,.string ⟨#[]⟩,.int .i64 0] 37)):=heap_at (by simp)
 have L1:=lift_cell (cell_h h1 1 (v:=.int .i64 4) rfl)
 have b1:=L1 _ (Below.refl _ _)
 have HH:=Lib.hid hH
 have HR:=Lib.hid hR
 have HOK:=Lib.hid hok
 have hlen:=hok.len
 have hmm:=@run_makeMap Tryz.prog
 clear h1 hR hH hok hS
 go_enter Tryz.func188,Tryz.ntmps188
 go_upto_region 9 with (fail)
 have J0 : Hid (OftI w (w.heap.size + 1) (w.heap.size + 1 + 1) (w.heap.size + 1 + 1 + 1) 0 mpNew [] ((((w.alloc (.cells #[.string name,.int .i64 4,.slice sa srcs.length sc] 210)).alloc (.cells #[.int .i64 0,.string ⟨#[]⟩,.int .i64 0] 37)).alloc (.map #[] 0)).alloc (.cells #[.map (some (w.heap.size + 1 + 1))] 284))):=by
  have q1 : (((w.alloc (.cells #[.string name,.int .i64 4,.slice sa srcs.length sc] 210)).alloc (.cells #[.int .i64 0,.string ⟨#[]⟩,.int .i64 0] 37)).alloc (.map #[] 0)).heap.size = w.heap.size + 1 + 1 + 1:=by simp
  have q2 : ((w.alloc (.cells #[.string name,.int .i64 4,.slice sa srcs.length sc] 210)).alloc (.cells #[.int .i64 0,.string ⟨#[]⟩,.int .i64 0] 37)).heap.size = w.heap.size + 1 + 1:=by simp
  have hM:=Mp.made Tryz.prog 37 ((w.alloc (.cells #[.string name,.int .i64 4,.slice sa srcs.length sc] 210)).alloc (.cells #[.int .i64 0,.string ⟨#[]⟩,.int .i64 0] 37))
  rw [q2] at hM
  refine ⟨(HB.out.alloc (by rw [q2]; omega) _).alloc (by rw [q1]; omega) _,?_,?_,hM.alloc _,OftIs.new,Nat.le_refl _,by omega,by omega,by omega⟩
  ·exact (heap_lt (by rw [q1]; omega)).trans ((heap_lt (by rw [q2]; omega)).trans H2.out)
  ·exact heap_at q1.symm
 clear L1 b1 hmm HB H2
 generalize ((((w.alloc (.cells #[.string name,.int .i64 4,.slice sa srcs.length sc] 210)).alloc (.cells #[.int .i64 0,.string ⟨#[]⟩,.int .i64 0] 37)).alloc (.map #[] 0)).alloc (.cells #[.map (some (w.heap.size + 1 + 1))] 284)) = W4 at *
 obtain ⟨p,hp⟩ : ∃ p,p = w.heap.size + 1 + 1 + 1:=⟨_,rfl⟩
 rw [← hp] at J0
 try rw [← hp]
 clear hp
 obtain ⟨bm,hb⟩ : ∃ b,b = w.heap.size + 1 + 1:=⟨_,rfl⟩
 rw [← hb] at J0
 try rw [← hb]
 clear hb
 obtain ⟨rb,hrb⟩ : ∃ rb,rb = w.heap.size + 1:=⟨_,rfl⟩
 have HRB:=Lib.hid hrb
 rw [← hrb] at J0
 try rw [← hrb]
 clear hrb
 go_loopw [25] (fun t wr => ∃ i : Nat,i ≤ ds.length ∧ t = .int .i64 i ∧ Hid (∃ n m,OftI w rb bm p n m (ds.take i) wr)) (fun t _ => ds.length - (intOf t).toNat)
 case atStart => exact ⟨0,by omega,rfl,0,mpNew,J0.out⟩
 case round =>
  clear J0
  obtain ⟨i,hi,rfl,J⟩:=hrel
  obtain ⟨n,m,JS⟩:=J.out
  clear J
  by_cases hlt : i < ds.length
  ·have HIN:=Lib.hid (HH.out.below JS.bel)
   obtain ⟨b,off,hA,_,hc⟩:=HR.out.at_ HIN.out hlt (by omega)
   have e0 : wr.cell? ⟨b,off + i * 8,none⟩ = some (.int .i64 ds[i].no):=hc 0 (by omega)
   have e1 : wr.cell? ⟨b,off + i * 8 + 1,none⟩ = some (.int .i64 ds[i].at_):=hc 1 (by omega)
   have e2 : wr.cell? ⟨b,off + i * 8 + 2,none⟩ = some (.string ds[i].source):=hc 2 (by omega)
   have e3 : wr.cell? ⟨b,off + i * 8 + 3,none⟩ = some (.slice ds[i].ia ds[i].il ds[i].ic):=hc 3 (by omega)
   have e4 : wr.cell? ⟨b,off + i * 8 + 4,none⟩ = some (.slice ds[i].fa ds[i].fl ds[i].fc):=hc 4 (by omega)
   have e5 : wr.cell? ⟨b,off + i * 8 + 5,none⟩ = some (.int .i64 ds[i].kind):=hc 5 (by omega)
   have e6 : wr.cell? ⟨b,off + i * 8 + 6,none⟩ = some (.string ds[i].text):=hc 6 (by omega)
   have e7 : wr.cell? ⟨b,off + i * 8 + 7,none⟩ = some (.int .i64 ds[i].num):=hc 7 (by omega)
   have HF:=Lib.hid (HOK.out.fit (List.getElem_mem hlt))
   have HTK : Hid (ds.take (i + 1) = ds.take i ++ [ds[i]]):=List.take_succ_eq_append_getElem hlt
   have hlt2 : (i : Int) < ds.length:=by omega
   have hln : n ≤ i:=by have:=JS.le; rw [List.length_take] at this; omega
   subst hA
   clear hc
   generalize ds[i] = d at *
   have z0 : (wr.alloc (.cells #[.int .i64 d.no,.int .i64 d.at_,.string d.source,.slice d.ia d.il d.ic,.slice d.fa d.fl d.fc,.int .i64 d.kind,.string d.text,.int .i64 d.num] 167)).cell? ⟨wr.heap.size,0,none⟩ = some (.int .i64 d.no):=newc 0 rfl
   have z1 : (wr.alloc (.cells #[.int .i64 d.no,.int .i64 d.at_,.string d.source,.slice d.ia d.il d.ic,.slice d.fa d.fl d.fc,.int .i64 d.kind,.string d.text,.int .i64 d.num] 167)).cell? ⟨wr.heap.size,1,none⟩ = some (.int .i64 d.at_):=newc 1 rfl
   have z2 : (wr.alloc (.cells #[.int .i64 d.no,.int .i64 d.at_,.string d.source,.slice d.ia d.il d.ic,.slice d.fa d.fl d.fc,.int .i64 d.kind,.string d.text,.int .i64 d.num] 167)).cell? ⟨wr.heap.size,2,none⟩ = some (.string d.source):=newc 2 rfl
   have z3 : (wr.alloc (.cells #[.int .i64 d.no,.int .i64 d.at_,.string d.source,.slice d.ia d.il d.ic,.slice d.fa d.fl d.fc,.int .i64 d.kind,.string d.text,.int .i64 d.num] 167)).cell? ⟨wr.heap.size,3,none⟩ = some (.slice d.ia d.il d.ic):=newc 3 rfl
   have z4 : (wr.alloc (.cells #[.int .i64 d.no,.int .i64 d.at_,.string d.source,.slice d.ia d.il d.ic,.slice d.fa d.fl d.fc,.int .i64 d.kind,.string d.text,.int .i64 d.num] 167)).cell? ⟨wr.heap.size,4,none⟩ = some (.slice d.fa d.fl d.fc):=newc 4 rfl
   have z5 : (wr.alloc (.cells #[.int .i64 d.no,.int .i64 d.at_,.string d.source,.slice d.ia d.il d.ic,.slice d.fa d.fl d.fc,.int .i64 d.kind,.string d.text,.int .i64 d.num] 167)).cell? ⟨wr.heap.size,5,none⟩ = some (.int .i64 d.kind):=newc 5 rfl
   have z6 : (wr.alloc (.cells #[.int .i64 d.no,.int .i64 d.at_,.string d.source,.slice d.ia d.il d.ic,.slice d.fa d.fl d.fc,.int .i64 d.kind,.string d.text,.int .i64 d.num] 167)).cell? ⟨wr.heap.size,6,none⟩ = some (.string d.text):=newc 6 rfl
   have z7 : (wr.alloc (.cells #[.int .i64 d.no,.int .i64 d.at_,.string d.source,.slice d.ia d.il d.ic,.slice d.fa d.fl d.fc,.int .i64 d.kind,.string d.text,.int .i64 d.num] 167)).cell? ⟨wr.heap.size,7,none⟩ = some (.int .i64 d.num):=newc 7 rfl
   have HBN:=Lib.hid (new1 (w:=wr) (.cells #[.int .i64 d.no,.int .i64 d.at_,.string d.source,.slice d.ia d.il d.ic,.slice d.fa d.fl d.fc,.int .i64 d.kind,.string d.text,.int .i64 d.num] 167))
   go_upto_region 11 with (fail)
   clear e0 e1 e2 e3 e4 e5 e6 e7
   have JC:=Lib.hid (JS.call HBN.out)
   have HQ : Hid ((wr.alloc (.cells #[.int .i64 d.no,.int .i64 d.at_,.string d.source,.slice d.ia d.il d.ic,.slice d.fa d.fl d.fc,.int .i64 d.kind,.string d.text,.int .i64 d.num] 167)).heap[wr.heap.size]? = some (.cells #[.int .i64 d.no,.int .i64 d.at_,.string d.source,.slice d.ia d.il d.ic,.slice d.fa d.fl d.fc,.int .i64 d.kind,.string d.text,.int .i64 d.num] 167)):=heap_alloc_new _ _
   have HQB : Hid (wr.heap.size ≠ bm):=by have:=JS.map.lt; show _ ≠ _; omega
   clear JS HBN z0 z1 z2 z3 z4 z5 z6 z7
   generalize wr.alloc (.cells #[.int .i64 d.no,.int .i64 d.at_,.string d.source,.slice d.ia d.il d.ic,.slice d.fa d.fl d.fc,.int .i64 d.kind,.string d.text,.int .i64 d.num] 167) = W3 at *
   generalize wr.heap.size = q at *
   have HCT : Hid ((m (klV d.v)).getD (.int .i64 0) = .int .i64 (((ds.take i).filter fun x => sameV x.v d.v).length : Int)):=JC.out.oft d.v HF.out
   have hcl : ((ds.take i).filter fun x => sameV x.v d.v).length ≤ 100000:=Nat.le_trans (List.length_filter_le _ _) (by rw [List.length_take]; omega)
   have HPUT:=Lib.hid (fun (wr' : World) => JC.out.put (wr':=wr') HF.out)
   obtain ⟨st,es1,c1,h1,h2,h3⟩:=(JC.out.map.block (w':=W3.drew) rfl).entryL valLaw Tryz.underlying284 (fun u => zeroIntO u) (by simp only [maxLen]; omega) (keyV HF.out)
   have hm2:=(h2 (ChangeMaps.setBlock W3.drew bm (.map es1 c1)) (setBlock_at _ JC.out.map.lt)).look valKeyed Tryz.underlying284 (zeroIntO _) (keyV HF.out) false
   have hm1:=(JC.out.map.block (w':=W3.drew) rfl).look valKeyed Tryz.underlying284 (zeroIntO _) (keyV HF.out) false
   have hset : (mpSet m (klV d.v) ((m (klV d.v)).getD (.int .i64 0)) (klV d.v)).getD (.int .i64 0) = (m (klV d.v)).getD (.int .i64 0):=by
    unfold mpSet
    rw [if_pos (by simp [klV,Lit.sameKey])]
    rfl
   rw [hset] at hm2
   rw [HCT.out] at hm1 hm2 h1
   have hm1 : (Instr.lookup 284 (.map (some bm)) (.agg #[.int .i64 d.kind,.string d.text,.int .i64 d.num]) false).run Tryz.prog W3.drew = .ok (.int .i64 (((ds.take i).filter fun x => sameV x.v d.v).length : Int)) W3.drew:=hm1
   have hm2 : (Instr.lookup 284 (.map (some bm)) (.agg #[.int .i64 d.kind,.string d.text,.int .i64 d.num]) false).run Tryz.prog (ChangeMaps.setBlock W3.drew bm (.map es1 c1)) = .ok (.int .i64 (((ds.take i).filter fun x => sameV x.v d.v).length : Int)) (ChangeMaps.setBlock W3.drew bm (.map es1 c1)):=hm2
   have h1 : (Instr.mapEntry 284 (.map (some bm)) (.agg #[.int .i64 d.kind,.string d.text,.int .i64 d.num])).run Tryz.prog W3.drew = .ok (.tuple #[.int .i64 (((ds.take i).filter fun x => sameV x.v d.v).length : Int),goInt st]) (ChangeMaps.setBlock W3.drew bm (.map es1 c1)):=h1
   generalize ((ds.take i).filter fun x => sameV x.v d.v).length = cn at *
   obtain ⟨w3,k1,k2,k3,k4⟩:=h3 (ChangeMaps.setBlock W3.drew bm (.map es1 c1)) (.int .i64 ((cn : Int) + 1)) (setBlock_at _ JC.out.map.lt)
   have hgs:=grown_setBlock W3.drew bm (.map es1 c1)
   have hp2:=(hgs.block p (lt_of_heap JC.out.var) (fun c => by injection c with c; exact JC.out.ne.2 c)).trans JC.out.var
   have hq2:=(hgs.block q (lt_of_heap HQ.out) (fun c => by injection c with c; exact HQB.out c)).trans HQ.out
   have HJ5 : Hid (∃ n m,OftI w rb bm p n m (ds.take (i + 1)) w3):=by
    rw [HTK.out]
    exact HPUT.out w3 k2 ⟨k3.os.trans hgs.os,k3.tape.trans hgs.tape,k3.output.trans hgs.output,Nat.le_trans hgs.size k3.size,fun k e1 e2 => (k3.block k (Nat.lt_of_lt_of_le e1 hgs.size) e2).trans (hgs.block k e1 e2)⟩
   have p1:=cell_h JC.out.var 0 (v:=.map (some bm)) rfl
   have p2:=cell_h hp2 0 (v:=.map (some bm)) rfl
   have a5:=cell_h HQ.out 5 (v:=.int .i64 d.kind) rfl
   have a6:=cell_h HQ.out (5 + 1) (v:=.string d.text) rfl
   have a7:=cell_h HQ.out (5 + 2) (v:=.int .i64 d.num) rfl
   have b5:=cell_h hq2 5 (v:=.int .i64 d.kind) rfl
   have b6:=cell_h hq2 (5 + 1) (v:=.string d.text) rfl
   have b7:=cell_h hq2 (5 + 2) (v:=.int .i64 d.num) rfl
   clear HPUT hset h2 h3 hp2 hq2 hgs k2 k3 k4 JC HCT HQ HTK
   generalize ChangeMaps.setBlock W3.drew bm (.map es1 c1) = We at *
   have hwr : IntKind.i64.wrap ((cn : Int) + 1) = (cn : Int) + 1:=IntWalk.i64_in _ (by omega)
   simp only [goInt] at h1 k1
   go_region
   clear hm1 hm2 h1 k1 p1 p2 a5 a6 a7 b5 b6 b7 hwr
   go_wp2_with fail
   go_roundw
   case rel => exact ⟨i + 1,by omega,by go_num,HJ5⟩
   case measure => simp [intOf]; omega
  ·have hie : i = ds.length:=by omega
   subst hie
   rw [List.take_length] at JS
   have hrb:=HRB.out
   subst hrb
   have HB:=Lib.hid JS.bel
   have H2:=Lib.hid JS.res
   have HIN:=HH.out.below JS.bel
   have hle : H.Le (wholeH wr):=fun b o h => HIN b o h
   have hcell : (wholeH wr).cell? ⟨p,0,none⟩ = some (.map (some bm)):=by
    simp only [Frz.cell?,wholeH,JS.var]
    rfl
   obtain ⟨o9,ho9,hf9⟩:=JS.map.obj
   have HMX:=Lib.hid (best_any (wholeH wr) 242 [.pointer (some ⟨p,0,none⟩)] (mOften ds) (fun _ _ => by kernel_rfl) ds (fun W d hd hW => oftenM_any hcell (fun W' hW' => hf9 W' (hW' bm o9 ho9)) ds JS.oft d (HOK.out.fit hd) W hW) A cap wr (wholeH_in wr) (HR.out.le hle) (by omega) HOK.out.pos)
   clear JS HIN hle hcell ho9 hf9 HRB
   go_wp2_with fail
   refine HMX.out.mono ?_
   rintro e w1 ⟨rfl,hb⟩
   have hk:=(hb.block _ (lt_of_heap H2.out)).trans H2.out
   have HB3:=Lib.hid (HB.out.trans (hb.mono HB.out.size))
   have x0 : w1.cell? ⟨w.heap.size + 1,0,none⟩ = some (.int .i64 0):=cell_h hk 0 rfl
   have x1 : w1.cell? ⟨w.heap.size + 1,1,none⟩ = some (.string ⟨#[]⟩):=cell_h hk 1 rfl
   have x2 : w1.cell? ⟨w.heap.size + 1,2,none⟩ = some (.int .i64 0):=cell_h hk 2 rfl
   have y0:=froz_h hk 0
   have y1:=froz_h hk 1
   have y2:=froz_h hk 2
   have HK9:=Lib.hid (fun a0 a1 a2 => set3 hk a0 a1 a2)
   have hb2:=Lib.hid (((HB3.out.setCell (p:=⟨w.heap.size + 1,0,none⟩) (Nat.le_succ _) (.int .i64 (maxL (cmpBy (mOften ds)) ds).kind)).setCell (p:=⟨w.heap.size + 1,1,none⟩) (Nat.le_succ _) (.string (maxL (cmpBy (mOften ds)) ds).text)).setCell (p:=⟨w.heap.size + 1,2,none⟩) (Nat.le_succ _) (.int .i64 (maxL (cmpBy (mOften ds)) ds).num))
   have HV : Hid ((surT 4 srcs ds).v = (maxL (cmpBy (mOften ds)) ds).v):=by show _ = _; simp [surT]
   clear hk hb HMX H2 HB
   generalize maxL (cmpBy (mOften ds)) ds = d at *
   have hvv : vV d.v = .agg #[.int .i64 d.kind,.string d.text,.int .i64 d.num]:=rfl
   rw [hvv]
   clear hvv
   go_wp2_with fail
   have z0:=cell_h (HK9.out (.int .i64 d.kind) (.string d.text) (.int .i64 d.num)) 0 (v:=.int .i64 d.kind) rfl
   have z1:=cell_h (HK9.out (.int .i64 d.kind) (.string d.text) (.int .i64 d.num)) 1 (v:=.string d.text) rfl
   have z2:=cell_h (HK9.out (.int .i64 d.kind) (.string d.text) (.int .i64 d.num)) 2 (v:=.int .i64 d.num) rfl
   refine bodyPost_ret (v:=.agg #[.int .i64 d.kind,.string d.text,.int .i64 d.num]) (by simp [results,Tryz.results188,go_sem,z0,z1,z2]) rfl ⟨?_,hb2.out⟩
   rw [HV.out]; rfl
open Go.RowKit
theorem survivor_any (H : Frz) (name : ByteArray) (how : Int) (sa : Option Addr) (sc : Nat) (srcs : List ByteArray) (hS : Rw H sa 1 fS srcs) (hsl : srcs.length ≤ 1000) (ds : List TdD) (hok : TdOk ds) (A : Option Addr) (cap : Nat) (w : World) (hH : H.In w) (hR : Rw H A 8 fTd ds) :
  Calls Tryz.prog 188 #[.agg #[.string name,.int .i64 how,.slice sa srcs.length sc],.slice A ds.length cap] w fun e w' => e = .returned (vV (surT how srcs ds).v) ∧ Below w.heap.size w w':=by
 by_cases h2 : how = 2
 ·subst h2; exact surv_first H name sa sc srcs hS hsl ds hok A cap w hH hR
 by_cases h3 : how = 3
 ·subst h3; exact surv_long H name sa sc srcs hS hsl ds hok A cap w hH hR
 by_cases h4 : how = 4
 ·subst h4; exact surv_often H name sa sc srcs hS hsl ds hok A cap w hH hR
 by_cases h5 : how = 5
 ·subst h5; exact surv_src H name sa sc srcs hS hsl ds hok A cap w hH hR
 by_cases h6 : how = 6
 ·subst h6
  cases e : anyF (fun d => !textT d) ds with
  | false => exact surv_none6 H name sa sc srcs hS hsl ds hok A cap w hH hR e
  | true => exact surv_num6 H name sa sc srcs hS hsl ds hok A cap w hH hR e
 by_cases h7 : how = 7
 ·subst h7
  cases e : anyF (fun d => !textT d) ds with
  | false => exact surv_none7 H name sa sc srcs hS hsl ds hok A cap w hH hR e
  | true => exact surv_num7 H name sa sc srcs hS hsl ds hok A cap w hH hR e
 exact surv_last H name how (by rintro (h | h | h | h | h | h) <;> contradiction) sa sc srcs hS hsl ds hok A cap w hH hR
open Go.RowKit
section
variable {D : Type}
set_option maxHeartbeats 1000000 in
set_option maxRecDepth 100000 in
theorem bsf_Sur (H : Frz) (f : D → Nat → Value) (kf : Nat) (tv : Value) (c : D → Int) (ds : List D) (hp : ∀ (W : World) (d : D),d ∈ ds → H.In W → Calls Tryz.prog kf #[.agg #[f d 0,f d 1,f d 2],tv] W fun e W' => e = .returned (.int .i64 (c d)) ∧ Below W.heap.size W W')
  (hcall : ∀ (a b : Value) (W : World),(callFunc kf #[a,b]).run Tryz.prog W = .ok (.enter kf #[a,b]) W)
  (A : Option Addr) (cap : Nat) (w : World) (hH : H.In w) (hR : Rw H A 3 f ds) (hl : ds.length ≤ 1000000) (m : Nat) (hm : m ≤ ds.length) (hlo : ∀ i (h : i < ds.length),i < m → c ds[i] < 0) (hhi : ∀ i (h : i < ds.length),m ≤ i → 0 ≤ c ds[i]) :
  Calls Tryz.prog 186 #[.slice A ds.length cap,tv,.func (.func kf) #[] #[]] w fun e w' => e = .returned (.tuple #[.int .i64 m,.bool (hasAt c ds m)]) ∧ Below w.heap.size w w':=by
 have HP:=Lib.hid hp
 have HR:=Lib.hid hR
 have HH:=Lib.hid hH
 have HLO:=Lib.hid hlo
 have HHI:=Lib.hid hhi
 clear hp hR hH hlo hhi
 go_enter Tryz.func186,Tryz.ntmps186
 go_wp2_with fail
 go_loopw [9,10,11] (fun ti tj _ wr => ∃ i j : Nat,i ≤ m ∧ m ≤ j ∧ j ≤ ds.length ∧ ti = .int .i64 i ∧ tj = .int .i64 j ∧ Hid (Below w.heap.size w wr)) (fun ti tj _ _ => (intOf tj - intOf ti).toNat)
 case atStart => exact ⟨0,ds.length,by omega,by omega,by omega,rfl,rfl,Below.refl _ _⟩
 case round =>
  obtain ⟨i,j,hi,hj,hjl,rfl,rfl,hb⟩:=hrel
  by_cases hlt : i < j
  ·have e1 : IntKind.i64.wrap ((i : Int) + (j : Int)) = (i : Int) + (j : Int):=IntWalk.i64_in _ (by omega)
   obtain ⟨h,hh⟩ : ∃ h,h = (i + j) / 2:=⟨_,rfl⟩
   have hhl : h < ds.length:=by omega
   have hih : i ≤ h:=by omega
   have hhj : h < j:=by omega
   have k2 : ((i : Int) + (j : Int)) / 2 = (h : Int):=by omega
   obtain ⟨b,off,rfl,hbl,hc⟩:=HR.out.at_ (HH.out.below hb.out) hhl (by omega)
   have c0 : wr.cell? ⟨b,off + h * 3,none⟩ = some (f ds[h] 0):=hc 0 (by omega)
   have c1 : wr.cell? ⟨b,off + h * 3 + 1,none⟩ = some (f ds[h] 1):=hc 1 (by omega)
   have c2 : wr.cell? ⟨b,off + h * 3 + 2,none⟩ = some (f ds[h] 2):=hc 2 (by omega)
   have HC:=Lib.hid (fun W hW => HP.out W ds[h] (List.getElem_mem hhl) hW)
   have HL:=Lib.hid (HLO.out h hhl)
   have HU:=Lib.hid (HHI.out h hhl)
   clear hc hh
   generalize hpd : c ds[h] = q at HC HL HU
   generalize f ds[h] 0 = x0 at c0 HC
   generalize f ds[h] 1 = x1 at c1 HC
   generalize f ds[h] 2 = x2 at c2 HC
   clear hpd
   go_wp2_with fail
   refine (HC.out _ (HH.out.below hb.out)).mono ?_
   rintro e w1 ⟨rfl,hb1⟩
   have hb2:=Lib.hid (hb.out.trans (hb1.mono hb.out.size))
   clear hb1 hb k2
   by_cases hq : q < 0
   ·have hhm : h < m:=by
     apply Classical.byContradiction
     intro hn
     have:=HU.out (by omega)
     omega
    go_wp2_with fail
    go_roundw
    case rel => exact ⟨h + 1,j,by omega,by omega,by omega,by go_num,rfl,hb2⟩
    case measure => simp [intOf]; omega
   ·have hhm : m ≤ h:=by
     apply Classical.byContradiction
     intro hn
     exact hq (HL.out (by omega))
    go_wp2_with fail
    go_roundw
    case rel => exact ⟨i,h,by omega,by omega,by omega,rfl,rfl,hb2⟩
    case measure => simp [intOf]; omega
  ·have him : i = m:=by omega
   subst him
   by_cases hml : i < ds.length
   ·have d1 : decide ((i : Int) < (ds.length : Int)) = true:=by simpa using hml
    obtain ⟨b,off,rfl,hbl,hc⟩:=HR.out.at_ (HH.out.below hb.out) hml (by omega)
    have c0 : wr.cell? ⟨b,off + i * 3,none⟩ = some (f ds[i] 0):=hc 0 (by omega)
    have c1 : wr.cell? ⟨b,off + i * 3 + 1,none⟩ = some (f ds[i] 1):=hc 1 (by omega)
    have c2 : wr.cell? ⟨b,off + i * 3 + 2,none⟩ = some (f ds[i] 2):=hc 2 (by omega)
    have HC:=Lib.hid (fun W hW => HP.out W ds[i] (List.getElem_mem hml) hW)
    have HV:=Lib.hid (hasAt_lt (c:=c) hml)
    clear hc
    generalize hpd : c ds[i] = q at HC HV
    generalize f ds[i] 0 = x0 at c0 HC
    generalize f ds[i] 1 = x1 at c1 HC
    generalize f ds[i] 2 = x2 at c2 HC
    clear hpd
    go_wp2_with fail
    refine (HC.out _ (HH.out.below hb.out)).mono ?_
    rintro e w1 ⟨rfl,hb1⟩
    have hb2:=Lib.hid (hb.out.trans (hb1.mono hb.out.size))
    clear hb1 hb
    go_wp2_with fail
    go_ret2
    exact ⟨by rw [HV.out]; simp,hb2.out⟩
   ·have hf:=Lib.hid (hasAt_ge (c:=c) (show ds.length ≤ i by omega))
    go_wp2_with fail
    go_ret2
    exact ⟨by rw [hf.out]; simp,hb.out⟩
end
open Go.RowKit
def SurSorted (us : List SurD) : Prop:=us.Pairwise fun a b => cmpS a.name b.name < 0
theorem sur_steps {us : List SurD} (h : SurSorted us) (name : ByteArray) : ∀ i j (hi : i < us.length) (hj : j < us.length),i < j → 0 ≤ cmpS us[i].name name → 0 < cmpS us[j].name name:=by
 intro i j hi hj hij h0
 have h1:=List.pairwise_iff_getElem.1 h i j hi hj hij
 have h2:=cmpS_swap us[i].name name
 have h3:=cmpS_swap name us[j].name
 have : cmpS name us[i].name ≤ 0:=by omega
 have h4:=cmpS_le_trans this h1
 omega
theorem sur_one {us : List SurD} {i : Nat} (hi : i < us.length) (h : sur1 us i = 0) : (us[i].srcs.length ≤ 20) ∧ (0 < i → cmpS (us.getD (i - 1) us[i]).name us[i].name < 0):=by
 unfold sur1 at h
 rw [List.getElem?_eq_getElem hi] at h
 simp only at h
 split at h
 ·cases h
 ·split at h
  ·cases h
  ·split at h
   ·rename_i h3; exact absurd h h3
   ·rename_i h3
    refine ⟨?_,fun h0 => ?_⟩
    ·have h4 : srcsE us[i] = 0:=by simpa using h3
     unfold srcsE at h4
     split at h4
     ·cases h4
     ·split at h4
      ·cases h4
      ·omega
    ·split at h
     ·cases h
     ·rename_i h5
      have:=cmpS_vals (us.getD (i - 1) us[i]).name us[i].name
      omega
theorem surs_right {us : List SurD} (h : sursE us = 0) : SurSorted us ∧ (∀ s ∈ us,s.srcs.length ≤ 20) ∧ us.length ≤ 30:=by
 unfold sursE at h
 split at h
 ·cases h
 ·rename_i hl
  have h0:=fstErr_zero.1 h
  refine ⟨?_,fun s hs => ?_,by omega⟩
  ·have step : ∀ k,∀ i (hi : i + k + 1 < us.length),cmpS us[i].name us[i + k + 1].name < 0:=by
    intro k
    induction k with
    | zero =>
     intro i hi
     have:=(sur_one hi (h0 _ hi)).2 (by omega)
     rw [show i + 0 + 1 - 1 = i from rfl] at this
     rw [show us.getD i us[i + 0 + 1] = us[i]'(by omega) by rw [List.getD_eq_getElem?_getD,List.getElem?_eq_getElem (by omega)]; rfl] at this
     exact this
    | succ k ih =>
     intro i hi
     have h1:=ih i (by omega)
     have:=(sur_one hi (h0 _ hi)).2 (by omega)
     rw [show i + (k + 1) + 1 - 1 = i + k + 1 from by omega] at this
     rw [show us.getD (i + k + 1) us[i + (k + 1) + 1] = us[i + k + 1]'(by omega) by rw [List.getD_eq_getElem?_getD,List.getElem?_eq_getElem (by omega)]; rfl] at this
     exact cmpS_trans h1 this
   refine List.pairwise_iff_getElem.2 fun i j hi hj hij => ?_
   have:=step (j - i - 1) i (by omega)
   rw [show us[i + (j - i - 1) + 1]'(by omega) = us[j] by congr 1; omega] at this
   exact this
  ·obtain ⟨i,hi,rfl⟩:=List.getElem_of_mem hs
   exact (sur_one hi (h0 i hi)).1
set_option maxHeartbeats 400000 in
theorem surName_any (d : SurD) (name : ByteArray) (w : World) : Calls Tryz.prog 187 #[.agg #[fSur d 0,fSur d 1,fSur d 2],.string name] w fun e w' => e = .returned (.int .i64 (cmpS d.name name)) ∧ Below w.heap.size w w':=by
 have hb:=Lib.hid ((Below.refl w.heap.size w).alloc (Nat.le_refl _) (.cells #[.string d.name,.int .i64 d.how,.slice d.sa d.srcs.length d.sc] 210))
 rw [show fSur d 0 = .string d.name from rfl,show fSur d 1 = .int .i64 d.how from rfl,show fSur d 2 = .slice d.sa d.srcs.length d.sc from rfl]
 go_enter Tryz.func187,Tryz.ntmps187
 go_wp2_with fail
 refine (cmpStr_any _ _ _).mono ?_
 rintro e w' ⟨rfl,rfl⟩
 generalize hc : cmpS d.name name = c
 have HC:=Lib.hid hc
 clear hc
 go_wp2_with fail
 go_ret
 exact ⟨ret_int HC.out.symm,hb.out⟩
set_option maxHeartbeats 4000000 in
set_option maxRecDepth 100000 in
theorem survives_any (H : Frz) (gp bm nm : Nat) (m : Lit → Option Value) (r : RulD) (A : Option Addr) (cap : Nat) (ts : List TchD) (hG : GrpIn H gp bm nm m r A cap ts) (hu : sursE r.surs = 0) (name : ByteArray) (ds : List TdD) (hok : TdOk ds) (Ad : Option Addr) (cd : Nat) (w : World) (hH : H.In w) (hR : Rw H Ad 8 fTd ds) :
  Calls Tryz.prog 114 #[.pointer (some ⟨gp,0,none⟩),.string name,.slice Ad ds.length cd] w fun e w' => e = .returned (vV (survT r.surs name ds).v) ∧ Below w.heap.size w w':=by
 obtain ⟨hso,hsl,hul⟩:=surs_right hu
 obtain ⟨k,-,hm,hlo,hhi,hf⟩:=splitC_at (fun p : SurD => cmpS p.name name) r.surs (sur_steps hso name)
 have hF:=hf (fun p => p.name.toList == name.toList) (fun d => by rw [show (d.name.toList == name.toList) = eqS d.name name from rfl,eqS_iff]; exact ⟨fun e => by rw [e]; exact cmpS_self _,cmpS_zero⟩)
 have HF : Hid (surOf r.surs name = if hasAt (fun p : SurD => cmpS p.name name) r.surs k = true then r.surs[k]? else none):=hF
 have HB:=Lib.hid (fun W hW => bsf_Sur H fSur 187 (.string name) (fun p => cmpS p.name name) r.surs (fun W d _ _ => surName_any d name W) (fun _ _ _ => by kernel_rfl) r.sa r.sc W hW hG.rul.u (by omega) k hm hlo hhi)
 have HIN:=Lib.hid (hH.alloc (.cells #[.int .i64 0,.string ⟨#[]⟩,.int .i64 0] 37))
 have HRU:=Lib.hid hG.rul
 have HSV:=Lib.hid (fun nm9 how sa sc srcs hS hl W hW => survivor_any H nm9 how sa sc srcs hS hl ds hok Ad cd W hW hR)
 have HSL:=Lib.hid hsl
 have HGO:=Lib.hid (fun W (hW : H.In W) => hW gp _ hG.obj)
 simp only [grpObj] at HGO
 have g3 : (w.alloc (.cells #[.int .i64 0,.string ⟨#[]⟩,.int .i64 0] 37)).cell? ⟨gp,3,none⟩ = some (.slice r.sa r.surs.length r.sc):=cell_h (HGO.out _ HIN.out) 3 rfl
 have hb0:=Lib.hid (new1 (w:=w) (.cells #[.int .i64 0,.string ⟨#[]⟩,.int .i64 0] 37))
 clear hf hF hlo hhi hR hok hH hG hu hso hsl
 go_enter Tryz.func114,Tryz.ntmps114
 go_wp2_with fail
 refine (HB.out _ HIN.out).mono ?_
 rintro e w1 ⟨rfl,hb⟩
 have HK:=Lib.hid (keep2 hb)
 have HIN1:=Lib.hid (HIN.out.below hb)
 have HB1:=Lib.hid (hb0.out.trans (hb.mono hb0.out.size))
 have g4 : w1.cell? ⟨gp,3,none⟩ = some (.slice r.sa r.surs.length r.sc):=cell_h (HGO.out _ HIN1.out) 3 rfl
 clear hb g3 HB HIN HGO hb0
 generalize hgh : hasAt (fun p : SurD => cmpS p.name name) r.surs k = hh at HF
 have HGH:=Lib.hid hgh
 clear hgh
 cases hh with
 | true =>
  obtain ⟨hml,hme⟩:=hasC_some HGH.out
  obtain ⟨b,off,hA,hbl,hc⟩:=HRU.out.u.at_ HIN1.out hml (by omega)
  have c0 : w1.cell? ⟨b,off + k * 3,none⟩ = some (.string r.surs[k].name):=hc 0 (by omega)
  have c1 : w1.cell? ⟨b,off + k * 3 + 1,none⟩ = some (.int .i64 r.surs[k].how):=hc 1 (by omega)
  have c2 : w1.cell? ⟨b,off + k * 3 + 2,none⟩ = some (.slice r.surs[k].sa r.surs[k].srcs.length r.surs[k].sc):=hc 2 (by omega)
  have hso : surOf r.surs name = some r.surs[k]:=HF.out.trans (by simp [hme])
  have HV : Hid (survT r.surs name ds = surT r.surs[k].how r.surs[k].srcs ds):=by show _ = _; unfold survT; rw [hso]
  have HS9:=Lib.hid (HSV.out r.surs[k].name r.surs[k].how r.surs[k].sa r.surs[k].sc r.surs[k].srcs (HRU.out.s _ (List.getElem_mem hml)) (by have:=HSL.out _ (List.getElem_mem hml); omega))
  have hml2 : (k : Int) < r.surs.length:=by omega
  rw [hA] at g4
  clear hc hme hso hA HSV HRU HSL HF HGH
  generalize r.surs[k] = s at *
  go_wp2_with fail
  clear c0 c1 c2 g4
  refine (HS9.out _ (HIN1.out)).mono ?_
  rintro e w2 ⟨rfl,hb2⟩
  have hk2:=(hb2.block _ (lt_of_heap HK.out)).trans HK.out
  have HB9:=Lib.hid (HB1.out.trans (hb2.mono HB1.out.size))
  have x0 : w2.cell? ⟨w.heap.size,0,none⟩ = some (.int .i64 0):=cell_h hk2 0 rfl
  have x1 : w2.cell? ⟨w.heap.size,1,none⟩ = some (.string ⟨#[]⟩):=cell_h hk2 1 rfl
  have x2 : w2.cell? ⟨w.heap.size,2,none⟩ = some (.int .i64 0):=cell_h hk2 2 rfl
  have y0:=froz_h hk2 0
  have y1:=froz_h hk2 1
  have y2:=froz_h hk2 2
  have HK9:=Lib.hid (fun a0 a1 a2 => set3 hk2 a0 a1 a2)
  clear hk2 hb2 HS9
  generalize surT s.how s.srcs ds = d at *
  have hb9:=Lib.hid (((HB9.out.setCell (p:=⟨w.heap.size,0,none⟩) (Nat.le_refl _) (.int .i64 d.v.kind)).setCell (p:=⟨w.heap.size,1,none⟩) (Nat.le_refl _) (.string d.v.text)).setCell (p:=⟨w.heap.size,2,none⟩) (Nat.le_refl _) (.int .i64 d.v.num))
  have hvv : vV d.v = .agg #[.int .i64 d.v.kind,.string d.v.text,.int .i64 d.v.num]:=rfl
  rw [hvv]
  clear hvv
  go_wp2_with fail
  have z0:=cell_h (HK9.out (.int .i64 d.v.kind) (.string d.v.text) (.int .i64 d.v.num)) 0 (v:=.int .i64 d.v.kind) rfl
  have z1:=cell_h (HK9.out (.int .i64 d.v.kind) (.string d.v.text) (.int .i64 d.v.num)) 1 (v:=.string d.v.text) rfl
  have z2:=cell_h (HK9.out (.int .i64 d.v.kind) (.string d.v.text) (.int .i64 d.v.num)) 2 (v:=.int .i64 d.v.num) rfl
  refine bodyPost_ret (v:=.agg #[.int .i64 d.v.kind,.string d.v.text,.int .i64 d.v.num]) (by simp [results,Tryz.results114,go_sem,z0,z1,z2]) rfl ⟨by rw [HV.out]; rfl,hb9.out⟩
 | false =>
  have hso : surOf r.surs name = none:=HF.out
  have HV : Hid (survT r.surs name ds = surT 1 [] ds):=by show _ = _; unfold survT; rw [hso]
  have HS9:=Lib.hid (HSV.out ⟨#[]⟩ 1 none 0 [] Rw.nil (by simp))
  clear hso HSV HRU HSL HF HGH
  go_wp2_with fail
  clear g4
  refine (HS9.out _ (HIN1.out)).mono ?_
  rintro e w2 ⟨rfl,hb2⟩
  have hk2:=(hb2.block _ (lt_of_heap HK.out)).trans HK.out
  have HB9:=Lib.hid (HB1.out.trans (hb2.mono HB1.out.size))
  have x0 : w2.cell? ⟨w.heap.size,0,none⟩ = some (.int .i64 0):=cell_h hk2 0 rfl
  have x1 : w2.cell? ⟨w.heap.size,1,none⟩ = some (.string ⟨#[]⟩):=cell_h hk2 1 rfl
  have x2 : w2.cell? ⟨w.heap.size,2,none⟩ = some (.int .i64 0):=cell_h hk2 2 rfl
  have y0:=froz_h hk2 0
  have y1:=froz_h hk2 1
  have y2:=froz_h hk2 2
  have HK9:=Lib.hid (fun a0 a1 a2 => set3 hk2 a0 a1 a2)
  clear hk2 hb2 HS9
  generalize surT 1 [] ds = d at *
  have hb9:=Lib.hid (((HB9.out.setCell (p:=⟨w.heap.size,0,none⟩) (Nat.le_refl _) (.int .i64 d.v.kind)).setCell (p:=⟨w.heap.size,1,none⟩) (Nat.le_refl _) (.string d.v.text)).setCell (p:=⟨w.heap.size,2,none⟩) (Nat.le_refl _) (.int .i64 d.v.num))
  have hvv : vV d.v = .agg #[.int .i64 d.v.kind,.string d.v.text,.int .i64 d.v.num]:=rfl
  rw [hvv]
  clear hvv
  go_wp2_with fail
  have z0:=cell_h (HK9.out (.int .i64 d.v.kind) (.string d.v.text) (.int .i64 d.v.num)) 0 (v:=.int .i64 d.v.kind) rfl
  have z1:=cell_h (HK9.out (.int .i64 d.v.kind) (.string d.v.text) (.int .i64 d.v.num)) 1 (v:=.string d.v.text) rfl
  have z2:=cell_h (HK9.out (.int .i64 d.v.kind) (.string d.v.text) (.int .i64 d.v.num)) 2 (v:=.int .i64 d.v.num) rfl
  refine bodyPost_ret (v:=.agg #[.int .i64 d.v.kind,.string d.v.text,.int .i64 d.v.num]) (by simp [results,Tryz.results114,go_sem,z0,z1,z2]) rfl ⟨by rw [HV.out]; rfl,hb9.out⟩
open Go.RowKit
theorem infoFdR : (Tryz.prog.info? 78).map (fun i => (i.zero,i.size,i.bytes)) = some (some (.agg #[.string ⟨#[]⟩,.int .i64 0,.string ⟨#[]⟩,.int .i64 0]),4,48):=by kernel_rfl
def RecPost (surs : List SurD) (ps : List (ByteArray × TdD)) (w : World) (e : Ending) (w' : World) : Prop :=
 Below w.heap.size w w' ∧ ∃ (v : Value) (fs : List FD),e = .returned v ∧ Orow w' w.heap.size 78 4 fFd v fs ∧ RecD surs ps fs ∧ fs.length ≤ ps.length
theorem Below.mkR {w W W' : World} {row : Option Nat} (h : Below w.heap.size w W) (g : W.grownBy W' row) (hr : ∀ b,row = some b → w.heap.size ≤ b) : Below w.heap.size w W' :=
 ⟨g.os.trans h.os,g.tape.trans h.tape,g.output.trans h.output,Nat.le_trans h.size g.size,fun k hk => (g.block k (Nat.lt_of_lt_of_le hk h.size) (fun c => by have:=hr k c.symm; omega)).trans (h.block k hk)⟩
set_option maxHeartbeats 8000000 in
set_option maxRecDepth 100000 in
theorem record_any (H : Frz) (gp bm nm : Nat) (m0 : Lit → Option Value) (r : RulD) (A : Option Addr) (cap : Nat) (ts : List TchD) (hG : GrpIn H gp bm nm m0 r A cap ts) (hu : sursE r.surs = 0) (kk : Int) (kt : ByteArray) (Ta : Option Addr) (Tl Tc : Nat) (Ia : Option Addr) (Il Ic : Nat) (Aa : Option Addr) (ca : Nat) (qs : List Nat)
  (hA : Rw H Aa 1 fI (qs.map fun q : Nat => (q : Int))) (hq : ∀ q ∈ qs,q < ts.length) (hql : qs.length ≤ 1000) (hfl : ∀ t ∈ ts,t.fields.length ≤ 1000 ∧ ∀ f ∈ t.fields,FitN f.name) (hok : ∀ x,telN (tellA ts qs) x ≠ [] → TdOk (telN (tellA ts qs) x)) (hpl : (tellA ts qs).length ≤ 1000000) (w : World) (hH : H.In w) :
  Calls Tryz.prog 112 #[.pointer (some ⟨gp,0,none⟩),.agg #[.int .i64 kk,.string kt,.slice Ta Tl Tc,.slice Ia Il Ic,.slice Aa qs.length ca]] w (RecPost r.surs (tellA ts qs) w):=by
 obtain ⟨j0,hj9,hj0,hj1,hj2⟩:=info_parts infoFdR
 have HJ0:=Lib.hid hj9
 have HB1:=Lib.hid (new1 (w:=w) (.cells #[.int .i64 kk,.string kt,.slice Ta Tl Tc,.slice Ia Il Ic,.slice Aa qs.length ca] 147))
 have h1:=heap_alloc_new w (.cells #[.int .i64 kk,.string kt,.slice Ta Tl Tc,.slice Ia Il Ic,.slice Aa qs.length ca] 147)
 have z0:=cell_h h1 0 (v:=.int .i64 kk) rfl
 have z1:=cell_h h1 1 (v:=.string kt) rfl
 have z2:=cell_h h1 2 (v:=.slice Ta Tl Tc) rfl
 have z3:=cell_h h1 3 (v:=.slice Ia Il Ic) rfl
 have z4:=cell_h h1 4 (v:=.slice Aa qs.length ca) rfl
 have HTE:=Lib.hid (tellings_any H gp bm nm m0 r A cap ts hG kk kt Ta Tl Tc Ia Il Ic Aa ca qs hA hq hql hfl _ (hH.below HB1.out))
 have HG:=Lib.hid hG
 have HOK:=Lib.hid hok
 have HU:=Lib.hid hu
 have HIN:=Lib.hid (hH.below HB1.out)
 clear h1 hj9 hG hA hq hfl hok hH hu
 go_enter Tryz.func112,Tryz.ntmps112
 go_wp2_with fail
 clear z0 z1 z2 z3 z4
 generalize w.alloc (.cells #[.int .i64 kk,.string kt,.slice Ta Tl Tc,.slice Ia Il Ic,.slice Aa qs.length ca] 147) = W1 at *
 refine HTE.out.mono ?_
 rintro e W3 ⟨bt,n,m,rfl,hS⟩
 have HB3:=Lib.hid (HB1.out.trans (hS.bel.mono HB1.out.size))
 have HS:=Lib.hid hS
 have HSB:=Lib.hid hS.bel
 have HMP:=Lib.hid hS.map
 have HLB : Hid (bt < W3.heap.size):=hS.map.lt
 have HGI:=Lib.hid (HG.out.leR (fun b o h => (HIN.out.below HSB.out) b o h : H.Le (wholeH W3)))
 generalize tellA ts qs = ps at *
 have JL0 : Hid (∀ (w4 : World) (left0 : Lit → Bool) (cnt0 : Nat),(∀ l,WideAt.IsKeyLit l → left0 l = (m l).isSome) → Rg Tryz.prog 9 w4 bt W3.heap.size n m left0 cnt0 → W3.grownBy w4 none → RcL W3 bt W3.heap.size n m r.surs ps left0 cnt0 [] w4):=by
  intro w4 left0 cnt0 h1 h2 h3
  refine ⟨h2,⟨h3.os,h3.tape,h3.output,h3.size,fun q hq => h3.block q hq (by simp)⟩,fun l hl e => by rw [← h1 l hl]; exact e,List.nodup_nil,by simp,fun x hx hp => Or.inr ?_⟩
  rw [h1 _ (strKeyed.key (strKey hx))]
  exact HS.out.vals x hx hp
 have HRW : Hid (∀ x,FitN x → ∀ c,m (codeLit x) = some c → ∃ Ad cd,c = .slice Ad (telN ps x).length cd ∧ Rw (wholeH W3) Ad 8 fTd (telN ps x) ∧ telN ps x ≠ []):=by
  intro x hx c hc
  have ho:=HS.out.row hx
  rw [hc] at ho
  obtain ⟨Ad,cd,e,-,hR⟩:=ho.memR
  refine ⟨Ad,cd,e,hR,?_⟩
  obtain ⟨y,hy,e2,hne⟩:=HS.out.keys (codeLit x) (by rw [hc]; rfl)
  rw [codeLit_inj e2]
  exact hne
 have HKE : Hid (∀ l,(m l).isSome = true → ∃ x,FitN x ∧ l = codeLit x):=fun l hl => by
  obtain ⟨x,hx,e,_⟩:=HS.out.keys l hl
  exact ⟨x,hx,e⟩
 have HHI:=Lib.hid (fun W (hW : Below W3.heap.size W3 W) => (wholeH_in W3).below hW)
 clear hS HS HTE HG HSB HIN HB1
 go_wp2_with (at_range; refine wpList_range_mp _ rfl _ _ rfl _ _ strKeyed Tryz.underlying163 bt n m rfl HMP.out ?_; intro w4 left0 cnt0 hlf hrg hgr hsz4; have M0:=Lib.hid (JL0.out w4 left0 cnt0 hlf hrg hgr); have HRB:=Lib.hid hsz4; clear hlf hrg hgr hsz4 JL0 HMP)
 go_frame
 have HO0 : Hid (Orow w4 w4.heap.size 78 4 fFd (.slice none 0 0) ([] : List FD)):=Orow.nil _ _ _ _ _
 have HBZ : Hid (w.heap.size ≤ W3.heap.size ∧ W3.heap.size < w4.heap.size):=⟨HB3.out.size,by have:=HRB.out; omega⟩
 obtain ⟨bs,hbs⟩ : ∃ bs,bs = w4.heap.size:=⟨_,rfl⟩
 have HBS : Hid (bs ≤ w4.heap.size):=Nat.le_of_eq hbs
 rw [← hbs] at HO0 HBZ
 clear HRB hbs
 go_loopw [5] (fun t wr => ∃ (va : Option Addr) (vc : Nat) (fs : List FD) (left : Lit → Bool) (cnt : Nat),t = .slice va fs.length vc ∧ Hid (RcL W3 bt W3.heap.size n m r.surs ps left cnt fs wr) ∧ Hid (Orow wr bs 78 4 fFd (.slice va fs.length vc) fs) ∧ Hid (bs ≤ wr.heap.size)) (fun _ wr => wr.rangeLeft bt W3.heap.size)
 case atStart => exact ⟨none,0,[],left0,cnt0,rfl,M0,HO0,HBS⟩
 case round =>
  obtain ⟨va,vc,fs,left,cnt,rfl,M,HO,HS⟩:=hrel
  clear M0 HO0 HBS
  have hzl:=M.out.len
  go_wp2_with (at_next; refine wpList_next_mp (α:={x : ByteArray // FitN x}) _ rfl _ rfl _ strKeyed (fun x => .string x.1) bt W3.heap.size n m left cnt rfl M.out.rg (fun l h1 h2 => ?_) ?_ ?_)
  ·obtain ⟨x,hx,e⟩:=HKE.out l (M.out.lft l h2 h1)
   exact ⟨⟨x,hx⟩,by rw [e]; exact strKey hx⟩
  ·intro hc0 hl0
   have HSF:=Lib.hid (sortFunc_Fd fdCmp fdCmp_ok 185 #[] (fun _ _ => by kernel_rfl) (fun W a b => fdCmp_g a b W) bs (.slice va fs.length vc) fs wr HO.out (by omega))
   have HFIN:=Lib.hid (fun fs' h1 h2 => M.out.fin hl0 (fs':=fs') h1 h2)
   have HBM:=Lib.hid (HB3.out.trans (M.out.bel.mono HB3.out.size))
   have HOL : Hid (∀ q,(Value.slice va fs.length vc).ownBlock = some q → bs ≤ q ∧ q < wr.heap.size):=fun q hq => HO.out.lt hq
   have HZL:=Lib.hid hzl
   clear M HO hzl
   go_wp2_with fail
   refine HSF.out.mono ?_
   rintro e W12 ⟨rfl,fs',hperm,hsrt,ho12,hg12⟩
   have HE : Hid (RecPost r.surs ps w (.returned (.slice va fs.length vc)) W12):=⟨Below.mkR HBM.out hg12 (fun q hq => Nat.le_trans HBZ.out.1 (Nat.le_trans (Nat.le_of_lt HBZ.out.2) (HOL.out q hq).1)),_,fs',rfl,Orow.mono ho12 (Nat.le_trans HBZ.out.1 (Nat.le_of_lt HBZ.out.2)),HFIN.out fs' hperm hsrt,by rw [hperm.length_eq]; exact HZL.out⟩
   clear hperm hsrt ho12 hg12 HSF
   go_wp2_with fail
   exact bodyPost_ret (by kernel_rfl) rfl HE.out
  ·intro x hx c kl w5 cnt5 hkl hlx hmc hrg5 hlt5 hg5 hs5 hen
   obtain rfl : codeLit x = kl:=Option.some.inj ((strKey hx).symm.trans hkl)
   obtain ⟨Ad,cd,rfl,hR5,hp⟩:=HRW.out x hx c hmc
   have hb5 : Below W3.heap.size W3 w5:=Below.mkR M.out.bel hg5 (fun q hq => by injection hq with hq; omega)
   have HB5:=Lib.hid hb5
   have HSV:=Lib.hid (survives_any (wholeH W3) gp bm nm m0 r A cap ts HGI.out HU.out x (telN ps x) (HOK.out x hp) Ad cd w5 (HHI.out w5 hb5) hR5)
   have HX:=Lib.hid hx
   have HP:=Lib.hid hp
   have HLX:=Lib.hid hlx
   have HCN : Hid (cnt5 < cnt ∧ wr.rangeLeft bt W3.heap.size = cnt):=⟨hlt5,M.out.rg.left_eq⟩
   have HRG:=Lib.hid hrg5
   have HO5 : Hid (Orow w5 bs 78 4 fFd (.slice va fs.length vc) fs):=HO.out.far hg5 HBZ.out.2
   have HS5 : Hid (bs ≤ w5.heap.size):=by have:=HS.out; show _ ≤ _; omega
   clear hkl hlx hmc hrg5 hlt5 hg5 hs5 hR5 hp hb5 HO HS
   go_wp2_with fail
   refine HSV.out.mono ?_
   rintro e W6 ⟨rfl,hb6⟩
   have HB6:=Lib.hid (HB5.out.trans (hb6.mono HB5.out.size))
   have HO6:=Lib.hid (HO5.out.below hb6)
   have HRG6:=Lib.hid (HRG.out.below hb6)
   have hB6 : bs ≤ W6.heap.size:=Nat.le_trans HS5.out hb6.size
   have HTAKE : Hid (∀ W',Rg Tryz.prog 9 W' bt W3.heap.size n m (fun z => left z && !z.sameKey (codeLit x)) cnt5 → Below W3.heap.size W3 W' → Hid (RcL W3 bt W3.heap.size n m r.surs ps (fun z => left z && !z.sameKey (codeLit x)) cnt5 (fs ++ [⟨x,(survT r.surs x (telN ps x)).v⟩]) W')):=fun W' h1 h2 => M.out.take HX.out HLX.out HP.out h1 h2
   clear HB5 HO5 HRG HS5 hb6 HSV M hen
   generalize (survT r.surs x (telN ps x)).v = d at *
   have hvv : vV d = .agg #[.int .i64 d.kind,.string d.text,.int .i64 d.num]:=rfl
   rw [hvv]
   clear hvv
   go_wp2_with (at_builtin; refine wpList_app_at rfl _ _ 28 rfl bs 78 j0 (.agg #[.string ⟨#[]⟩,.int .i64 0,.string ⟨#[]⟩,.int .i64 0]) 4 48 Tryz.underlying28 HJ0.out hj0 hj1 hj2 rfl (by decide) fFd _ fs rfl HO6.out ⟨x,d⟩ #[.string x,.int .i64 d.kind,.string d.text,.int .i64 d.num] 78 rfl rfl (by simp [Value.oneCell']) (by omega) (by omega) hB6 ?_; intro v1 w9 o1 g1 b1 at1; have HO9:=Lib.hid o1; have HGW:=Lib.hid g1; have HBW:=Lib.hid b1; clear o1 g1 b1 at1)
   have HRG9 : Rg Tryz.prog 9 w9 bt W3.heap.size n m (fun z => left z && !z.sameKey (codeLit x)) cnt5:=HRG6.out.kept HGW.out (fun c => by
    have h1:=(HO6.out.lt c.symm).1
    have h2:=HBZ.out.2
    have h3:=HLB.out
    omega) (fun c => by
    have h1:=(HO6.out.lt c.symm).1
    have h2:=HBZ.out.2
    omega)
   have HB9 : Below W3.heap.size W3 w9:=HB6.out.trans (HBW.out.mono (Nat.le_of_lt HBZ.out.2))
   have M9:=HTAKE.out w9 HRG9 HB9
   have HS9 : Hid (bs ≤ w9.heap.size):=Nat.le_trans hB6 HBW.out.size
   obtain ⟨A9,c9,e9,_⟩:=HO9.out.slice
   subst e9
   exact ⟨⟨A9,c9,fs ++ [⟨x,d⟩],_,_,rfl,M9,HO9,HS9⟩,by rw [M9.out.rg.left_eq,HCN.out.2]; exact HCN.out.1⟩
open Go.RowKit
theorem valErr_ok {ok : ByteArray → Bool} {v : VD} (h : valErr ok v = 0) : (0 ≤ v.kind ∧ v.kind ≤ 100) ∧ -4611686018427387904 ≤ v.num ∧ v.num ≤ 4611686018427387904:=by
 unfold valErr at h
 by_cases c1 : v.kind = 1
 ·rw [if_pos c1] at h
  by_cases n0 : v.num = 0
  ·omega
  ·rw [if_neg n0] at h; cases h
 ·rw [if_neg c1] at h
  by_cases c2 : v.kind = 2 ∨ v.kind = 3 ∨ v.kind = 4
  ·rw [if_pos c2] at h
   by_cases c3 : v.text.size ≠ 0
   ·rw [if_pos c3] at h; cases h
   ·rw [if_neg c3] at h
    by_cases c4 : (if v.kind = 2 then -1000000000000 else 0) ≤ v.num ∧ v.num ≤ (if v.kind = 2 then 1000000000000 else if v.kind = 3 then 1 else 4321439)
    ·refine ⟨by omega,?_⟩
     rcases c2 with h2 | h2 | h2 <;> simp [h2] at c4 <;> omega
    ·rw [if_neg c4] at h; cases h
  ·rw [if_neg c2] at h; cases h
theorem told_fields {H : Frz} {A : Option Addr} {r : RulD} {ts : List TchD} (h : Told H A r ts) : ∀ t ∈ ts,fdsE okT t.fields = 0:=by
 intro t ht
 obtain ⟨i,hi,rfl⟩:=List.getElem_of_mem ht
 have h1:=h.right
 unfold RightTs at h1
 have h2:=fstErr_zero.1 h1 i hi
 unfold tch1 at h2
 rw [List.getElem?_eq_getElem hi] at h2
 exact (tchE_zero h2).2.2
theorem told_ok {H : Frz} {A : Option Addr} {r : RulD} {ts : List TchD} (h : Told H A r ts) {C : List Nat} (hC : ∀ q ∈ C,q < ts.length) (hl : C.length ≤ 100) :
  (tellA ts C).length ≤ 100000 ∧ ∀ x,telN (tellA ts C) x ≠ [] → TdOk (telN (tellA ts C) x):=by
 have h1:=flatMap_le (m:=1000) (fun q => tellT (tAt ts q)) C (fun q hq => by
  rw [tAt_lt (hC q hq)]
  unfold tellT
  rw [List.length_map]
  exact (h.inn _ (List.getElem_mem (hC q hq))).fl)
 have h2 : C.length * 1000 ≤ 100 * 1000:=Nat.mul_le_mul_right _ hl
 have h3 : (tellA ts C).length ≤ 100000:=by unfold tellA; omega
 have hf:=told_fields h
 have key : ∀ x,∀ d ∈ telN (tellA ts C) x,∃ t ∈ ts,∃ f ∈ t.fields,d = mkTd t f.v:=fun x d hd => by
  obtain ⟨q,hq,f,hf,_,rfl⟩:=telN_mem.1 hd
  exact ⟨_,tAt_mem (hC q hq),f,hf,rfl⟩
 refine ⟨h3,fun x hne => ⟨Nat.le_trans (telN_len _ _) h3,List.length_pos_iff.2 hne,fun d hd => ?_,fun d hd => ?_,fun d hd => ?_⟩⟩
 ·obtain ⟨t,ht,f,hfm,rfl⟩:=key x d hd
  have:=((h.inn t ht).fdt.sz hfm).2
  show f.v.text.size ≤ _
  omega
 ·obtain ⟨t,ht,f,hfm,rfl⟩:=key x d hd
  exact (valErr_ok (fdsE_mem (hf t ht) hfm).2).2
 ·obtain ⟨t,ht,f,hfm,rfl⟩:=key x d hd
  exact (valErr_ok (fdsE_mem (hf t ht) hfm).2).1
theorem told_fl {H : Frz} {A : Option Addr} {r : RulD} {ts : List TchD} (h : Told H A r ts) : ∀ t ∈ ts,t.fields.length ≤ 1000 ∧ ∀ f ∈ t.fields,FitN f.name:=fun t ht =>
 ⟨(h.inn t ht).fl,fun f hf => by have:=((h.inn t ht).fdt.sz hf).1; show _ ≤ _; omega⟩
theorem told_names {H : Frz} {A : Option Addr} {r : RulD} {ts : List TchD} (h : Told H A r ts) : ∀ t ∈ ts,∀ f ∈ t.fields,f.name ∈ nmK:=fun t ht f hf =>
 ((h.inn t ht).fdt f hf).1.2 (fdsE_mem (told_fields h t ht) hf).1
open Go.RowKit
def RecordPost (r : RulD) (ts : List TchD) (key : IdD) (w : World) (e : Ending) (w' : World) : Prop :=
 Below w.heap.size w w' ∧ ∃ (rr : List Nat) (k : Nat) (v : Value) (fs : List FD),e = .returned (.tuple #[v,.int .i64 0]) ∧ Uf (Share (JD r ts) ts) rr ∧ KeyAt (JD r ts) ts (repN rr) key k ∧ Orow w' w.heap.size 78 4 fFd v fs ∧ fs.length ≤ 30 ∧
  ∀ (h : k < (rts (repN rr) ts.length).length),RecD r.surs (tellA ts (cls (repN rr) ts.length (rts (repN rr) ts.length)[k])) fs
set_option maxHeartbeats 8000000 in
set_option maxRecDepth 100000 in
theorem Record_any (H : Frz) (hU : UtfIn H) (hM : MLen H) (r : RulD) (A : Option Addr) (cap : Nat) (ts : List TchD) (ht : Told H A r ts) (key : IdD) (hk : KeyIn (JD r ts) ts key) (hz : idErr key.kind key.text = 0) (w : World) (hH : H.In w) :
  Calls Tryz.prog 41 #[.agg #[.slice r.ka r.kinds.length r.kc,.int .i64 r.most,.slice r.wa r.weaks.length r.wc,.slice r.sa r.surs.length r.sc],.slice A ts.length cap,.agg #[.int .i64 key.kind,.string key.text]] w (RecordPost r ts key w):=by
 have hrul:=(rul_right ht.rz).2
 have hlen : ts.length ≤ 100:=ht.len
 have z0 : (w.alloc (.cells #[.slice r.ka r.kinds.length r.kc,.int .i64 r.most,.slice r.wa r.weaks.length r.wc,.slice r.sa r.surs.length r.sc] 44)).cell? ⟨w.heap.size,0,none⟩ = some (.slice r.ka r.kinds.length r.kc):=newc 0 rfl
 have z1 : (w.alloc (.cells #[.slice r.ka r.kinds.length r.kc,.int .i64 r.most,.slice r.wa r.weaks.length r.wc,.slice r.sa r.surs.length r.sc] 44)).cell? ⟨w.heap.size,1,none⟩ = some (.int .i64 r.most):=newc 1 rfl
 have z2 : (w.alloc (.cells #[.slice r.ka r.kinds.length r.kc,.int .i64 r.most,.slice r.wa r.weaks.length r.wc,.slice r.sa r.surs.length r.sc] 44)).cell? ⟨w.heap.size,2,none⟩ = some (.slice r.wa r.weaks.length r.wc):=newc 2 rfl
 have z3 : (w.alloc (.cells #[.slice r.ka r.kinds.length r.kc,.int .i64 r.most,.slice r.wa r.weaks.length r.wc,.slice r.sa r.surs.length r.sc] 44)).cell? ⟨w.heap.size,3,none⟩ = some (.slice r.sa r.surs.length r.sc):=newc 3 rfl
 have HBN:=Lib.hid (new1 (w:=w) (.cells #[.slice r.ka r.kinds.length r.kc,.int .i64 r.most,.slice r.wa r.weaks.length r.wc,.slice r.sa r.surs.length r.sc] 44))
 have hb1 : Below (w.alloc (.cells #[.slice r.ka r.kinds.length r.kc,.int .i64 r.most,.slice r.wa r.weaks.length r.wc,.slice r.sa r.surs.length r.sc] 44)).heap.size (w.alloc (.cells #[.slice r.ka r.kinds.length r.kc,.int .i64 r.most,.slice r.wa r.weaks.length r.wc,.slice r.sa r.surs.length r.sc] 44)) ((w.alloc (.cells #[.slice r.ka r.kinds.length r.kc,.int .i64 r.most,.slice r.wa r.weaks.length r.wc,.slice r.sa r.surs.length r.sc] 44)).alloc (.cells #[.int .i64 key.kind,.string key.text] 55)):=new1 _
 have e1 : (w.alloc (.cells #[.slice r.ka r.kinds.length r.kc,.int .i64 r.most,.slice r.wa r.weaks.length r.wc,.slice r.sa r.surs.length r.sc] 44)).heap.size = w.heap.size + 1:=by simp
 have x0 : ((w.alloc (.cells #[.slice r.ka r.kinds.length r.kc,.int .i64 r.most,.slice r.wa r.weaks.length r.wc,.slice r.sa r.surs.length r.sc] 44)).alloc (.cells #[.int .i64 key.kind,.string key.text] 55)).cell? ⟨(w.alloc (.cells #[.slice r.ka r.kinds.length r.kc,.int .i64 r.most,.slice r.wa r.weaks.length r.wc,.slice r.sa r.surs.length r.sc] 44)).heap.size,0,none⟩ = some (.int .i64 key.kind):=newc 0 rfl
 have x1 : ((w.alloc (.cells #[.slice r.ka r.kinds.length r.kc,.int .i64 r.most,.slice r.wa r.weaks.length r.wc,.slice r.sa r.surs.length r.sc] 44)).alloc (.cells #[.int .i64 key.kind,.string key.text] 55)).cell? ⟨(w.alloc (.cells #[.slice r.ka r.kinds.length r.kc,.int .i64 r.most,.slice r.wa r.weaks.length r.wc,.slice r.sa r.surs.length r.sc] 44)).heap.size,1,none⟩ = some (.string key.text):=newc 1 rfl
 replace z0:=lift_cell z0 _ hb1
 replace z1:=lift_cell z1 _ hb1
 replace z2:=lift_cell z2 _ hb1
 replace z3:=lift_cell z3 _ hb1
 rw [e1] at x0 x1
 have HBN:=Lib.hid (HBN.out.trans (hb1.mono HBN.out.size))
 have HIN:=Lib.hid (hH.below HBN.out)
 have HKD:=Lib.hid (fun W (hW : H.In W) => keyed_any H hU hM r A cap ts ht key hk hz W hW)
 have HTO:=Lib.hid ht
 have HSU:=Lib.hid hrul
 have HNM:=Lib.hid (told_names ht)
 clear hb1 e1 hU hM ht hk hz hrul hH
 go_enter Tryz.func41,Tryz.ntmps41
 go_upto_region 1 with (fail)
 generalize (w.alloc (.cells #[.slice r.ka r.kinds.length r.kc,.int .i64 r.most,.slice r.wa r.weaks.length r.wc,.slice r.sa r.surs.length r.sc] 44)).alloc (.cells #[.int .i64 key.kind,.string key.text] 55) = W1 at *
 go_wp2_with fail
 refine (HKD.out W1 HIN.out).mono ?_
 rintro e W3 ⟨hb3,gp,bm,nm,m,rr,k,vT,vI,vA,nos,ats,ids,rfl,hG,huf,hka,oT,oI,oA,hnos⟩
 have hkl:=hka.lt
 obtain ⟨hno,hat,hids⟩:=hnos hkl
 obtain ⟨ρ,hρ⟩ : ∃ ρ,ρ = (rts (repN rr) ts.length)[k]:=⟨_,rfl⟩
 rw [← hρ] at hno hat hids
 obtain ⟨C,hC⟩ : ∃ C,C = cls (repN rr) ts.length ρ:=⟨_,rfl⟩
 rw [← hC] at hno hat hids
 have HPOST : Hid (∀ (W' : World) (v : Value) (fs : List FD),Below w.heap.size w W' → Orow W' w.heap.size 78 4 fFd v fs → RecD r.surs (tellA ts C) fs → fs.length ≤ 30 → RecordPost r ts key w (.returned (.tuple #[v,.int .i64 0])) W'):=by
  intro W' v fs h1 h2 h3 h4
  refine ⟨h1,rr,k,v,fs,rfl,huf,hka,h2,h4,fun h => ?_⟩
  rw [← hρ,← hC]
  exact h3
 have hCl : C.length ≤ 100:=by rw [hC]; have:=cls_le (repN rr) ts.length ρ; omega
 have HATL : Hid (ats.length = C.length):=by show _ = _; rw [hat,List.length_map]
 have HCT : Hid (∀ q ∈ C,q < ts.length):=fun q hq => by rw [hC] at hq; exact cls_lt hq
 have HG:=Lib.hid hG
 obtain ⟨tA,tc,rfl,-⟩:=oT.slice
 obtain ⟨iA,ic,rfl,-⟩:=oI.slice
 obtain ⟨aA,ac,rfl,-⟩:=oA.slice
 obtain ⟨aA',ac',eA,-,hrA⟩:=oA.memR
 injection eA with eA _ eA2
 subst eA
 rw [hat] at hrA
 have HRA:=Lib.hid hrA
 have hb03:=HBN.out.trans (hb3.mono HBN.out.size)
 have HB3:=Lib.hid hb03
 have HTK:=Lib.hid (told_ok HTO.out HCT.out hCl)
 have HFL:=Lib.hid (told_fl HTO.out)
 clear hb3 hG huf hka oT oI oA hnos hkl hno hat hids hρ hC hrA eA2 hb03 z0 z1 z2 z3 x0 x1 HKD HBN HIN
 rw [HATL.out]
 have HM3:=Lib.hid (heap_alloc_new W3 (.cells #[.int .i64 key.kind,.string key.text,.slice tA nos.length tc,.slice iA ids.length ic,.slice aA C.length ac] 147))
 have HN3:=Lib.hid (new1 (w:=W3) (.cells #[.int .i64 key.kind,.string key.text,.slice tA nos.length tc,.slice iA ids.length ic,.slice aA C.length ac] 147))
 go_upto_region 2 with (fail)
 generalize hmb : W3.heap.size = mb at *
 have HMB:=Lib.hid hmb
 clear hmb
 have HIN3 : Hid ((wholeH W3).In (W3.alloc (.cells #[.int .i64 key.kind,.string key.text,.slice tA nos.length tc,.slice iA ids.length ic,.slice aA C.length ac] 147))):=fun b o h => (HN3.out.block b (by rw [← HMB.out]; exact lt_of_heap h)).trans h
 have HB4:=Lib.hid (HB3.out.trans (HN3.out.mono (by rw [← HMB.out]; exact HB3.out.size)))
 generalize W3.alloc (.cells #[.int .i64 key.kind,.string key.text,.slice tA nos.length tc,.slice iA ids.length ic,.slice aA C.length ac] 147) = W4 at *
 have k0:=cell_h HM3.out 0 (v:=.int .i64 key.kind) rfl
 have k1:=cell_h HM3.out 1 (v:=.string key.text) rfl
 have k2:=cell_h HM3.out 2 (v:=.slice tA nos.length tc) rfl
 have k3:=cell_h HM3.out 3 (v:=.slice iA ids.length ic) rfl
 have k4:=cell_h HM3.out 4 (v:=.slice aA C.length ac) rfl
 have HRC:=Lib.hid (record_any (wholeH W3) gp bm nm m r A cap ts HG.out HSU.out key.kind key.text tA nos.length tc iA ids.length ic aA ac C HRA.out HCT.out (by omega) HFL.out HTK.out.2 (by have:=HTK.out.1; omega) W4 HIN3.out)
 clear HM3 HN3
 go_wp2_with fail
 refine HRC.out.mono ?_
 rintro e W5 ⟨hb5,v,fs,rfl,o5,hrd,-⟩
 have hfl:=rec_len HCT.out hrd HNM.out
 have hfl : fs.length ≤ 30:=Nat.le_trans hfl (by decide)
 have HF:=Lib.hid (HPOST.out W5 v fs (HB4.out.trans (hb5.mono HB4.out.size)) (o5.mono HB4.out.size) hrd hfl)
 obtain ⟨vA,vc,rfl,-⟩:=o5.slice
 clear hb5 o5 hrd HRC k0 k1 k2 k3 k4 HPOST
 have hgt : ¬ ((fs.length : Int) > 30):=by omega
 have hgt2 : decide ((30 : Int) < (fs.length : Int)) = false:=by simp; omega
 go_wp2_with fail
 exact bodyPost_ret (by kernel_rfl) rfl HF.out
end Go.Proofs.YtbidhpgjmcedaaaGreatDoor
