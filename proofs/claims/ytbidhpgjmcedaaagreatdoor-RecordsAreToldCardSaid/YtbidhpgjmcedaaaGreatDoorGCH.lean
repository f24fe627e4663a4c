/- Texts of this claim, put together: Sources, IdxFd. -/
import Derived.Test.YtbidhpgjmcedaaaGreatDoorGCG
import Derived.Test.YtbidhpgjmcedaaaGreatDoorGAH
import Derived.Test.YtbidhpgjmcedaaaGreatDoorGAE
import Derived.Test.YtbidhpgjmcedaaaGreatDoorGAC
import Derived.Test.YtbidhpgjmcedaaaGreatDoorGAG
namespace Go.Proofs.YtbidhpgjmcedaaaGreatDoor
set_option linter.unusedVariables false
open Go.RowKit
def SourcesPost (r : RulD) (ts : List TchD) (key : IdD) (name : ByteArray) (w : World) (e : Ending) (w' : World) : Prop :=
 Below w.heap.size w w' ∧ ∃ (rr : List Nat) (k : Nat) (v : Value) (ns : List Int),e = .returned (.tuple #[v,.int .i64 0]) ∧ Uf (Share (JD r ts) ts) rr ∧ KeyAt (JD r ts) ts (repN rr) key k ∧ Orow w' w.heap.size 3 1 fI v ns ∧ ns.length ≤ 100000 ∧
  ∀ (h : k < (rts (repN rr) ts.length).length),ns = srcL r.surs (tellA ts (cls (repN rr) ts.length (rts (repN rr) ts.length)[k])) name
theorem infoIntS : (Tryz.prog.info? 3).map (fun i => (i.zero,i.size,i.bytes)) = some (some (.int .i64 0),1,8):=by kernel_rfl
theorem src_take {L : List TdD} {v : VD} {i : Nat} (h : i < L.length) : ((L.take (i + 1)).filter fun x => sameV x.v v).map (·.no) = ((L.take i).filter fun x => sameV x.v v).map (·.no) ++ if sameV L[i].v v = true then [L[i].no] else []:=by
 rw [List.take_succ_eq_append_getElem h,List.filter_append,List.map_append]
 congr 1
 by_cases c : sameV L[i].v v = true
 ·rw [if_pos c,List.filter_cons_of_pos (by simpa using c)]; rfl
 ·rw [if_neg c,List.filter_cons_of_neg (by simpa using c)]; rfl
set_option maxHeartbeats 8000000 in
set_option maxRecDepth 100000 in
theorem Sources_any (H : Frz) (hU : UtfIn H) (hM : MLen H) (r : RulD) (A : Option Addr) (cap : Nat) (ts : List TchD) (ht : Told H A r ts) (key : IdD) (hk : KeyIn (JD r ts) ts key) (hz : idErr key.kind key.text = 0) (name : ByteArray) (hfn : FitN name) (hne : ∀ rr k,Uf (Share (JD r ts) ts) rr → KeyAt (JD r ts) ts (repN rr) key k → ∀ h : k < (rts (repN rr) ts.length).length,telN (tellA ts (cls (repN rr) ts.length (rts (repN rr) ts.length)[k])) name ≠ []) (w : World) (hH : H.In w) :
  Calls Tryz.prog 42 #[.agg #[.slice r.ka r.kinds.length r.kc,.int .i64 r.most,.slice r.wa r.weaks.length r.wc,.slice r.sa r.surs.length r.sc],.slice A ts.length cap,.agg #[.int .i64 key.kind,.string key.text],.string name] w (SourcesPost r ts key name w):=by
 have hrul:=(rul_right ht.rz).2
 have hlen : ts.length ≤ 100:=ht.len
 have z0 : (w.alloc (.cells #[.slice r.ka r.kinds.length r.kc,.int .i64 r.most,.slice r.wa r.weaks.length r.wc,.slice r.sa r.surs.length r.sc] 44)).cell? ⟨w.heap.size,0,none⟩ = some (.slice r.ka r.kinds.length r.kc):=newc 0 rfl
 have z1 : (w.alloc (.cells #[.slice r.ka r.kinds.length r.kc,.int .i64 r.most,.slice r.wa r.weaks.length r.wc,.slice r.sa r.surs.length r.sc] 44)).cell? ⟨w.heap.size,1,none⟩ = some (.int .i64 r.most):=newc 1 rfl
 have z2 : (w.alloc (.cells #[.slice r.ka r.kinds.length r.kc,.int .i64 r.most,.slice r.wa r.weaks.length r.wc,.slice r.sa r.surs.length r.sc] 44)).cell? ⟨w.heap.size,2,none⟩ = some (.slice r.wa r.weaks.length r.wc):=newc 2 rfl
 have z3 : (w.alloc (.cells #[.slice r.ka r.kinds.length r.kc,.int .i64 r.most,.slice r.wa r.weaks.length r.wc,.slice r.sa r.surs.length r.sc] 44)).cell? ⟨w.heap.size,3,none⟩ = some (.slice r.sa r.surs.length r.sc):=newc 3 rfl
 have HBN:=Lib.hid (new1 (w:=w) (.cells #[.slice r.ka r.kinds.length r.kc,.int .i64 r.most,.slice r.wa r.weaks.length r.wc,.slice r.sa r.surs.length r.sc] 44))
 have hb1 : Below (w.alloc (.cells #[.slice r.ka r.kinds.length r.kc,.int .i64 r.most,.slice r.wa r.weaks.length r.wc,.slice r.sa r.surs.length r.sc] 44)).heap.size (w.alloc (.cells #[.slice r.ka r.kinds.length r.kc,.int .i64 r.most,.slice r.wa r.weaks.length r.wc,.slice r.sa r.surs.length r.sc] 44)) ((w.alloc (.cells #[.slice r.ka r.kinds.length r.kc,.int .i64 r.most,.slice r.wa r.weaks.length r.wc,.slice r.sa r.surs.length r.sc] 44)).alloc (.cells #[.int .i64 key.kind,.string key.text] 55)):=new1 _
 have e1 : (w.alloc (.cells #[.slice r.ka r.kinds.length r.kc,.int .i64 r.most,.slice r.wa r.weaks.length r.wc,.slice r.sa r.surs.length r.sc] 44)).heap.size = w.heap.size + 1:=by simp
 have x0 : ((w.alloc (.cells #[.slice r.ka r.kinds.length r.kc,.int .i64 r.most,.slice r.wa r.weaks.length r.wc,.slice r.sa r.surs.length r.sc] 44)).alloc (.cells #[.int .i64 key.kind,.string key.text] 55)).cell? ⟨(w.alloc (.cells #[.slice r.ka r.kinds.length r.kc,.int .i64 r.most,.slice r.wa r.weaks.length r.wc,.slice r.sa r.surs.length r.sc] 44)).heap.size,0,none⟩ = some (.int .i64 key.kind):=newc 0 rfl
 have x1 : ((w.alloc (.cells #[.slice r.ka r.kinds.length r.kc,.int .i64 r.most,.slice r.wa r.weaks.length r.wc,.slice r.sa r.surs.length r.sc] 44)).alloc (.cells #[.int .i64 key.kind,.string key.text] 55)).cell? ⟨(w.alloc (.cells #[.slice r.ka r.kinds.length r.kc,.int .i64 r.most,.slice r.wa r.weaks.length r.wc,.slice r.sa r.surs.length r.sc] 44)).heap.size,1,none⟩ = some (.string key.text):=newc 1 rfl
 replace z0:=lift_cell z0 _ hb1
 replace z1:=lift_cell z1 _ hb1
 replace z2:=lift_cell z2 _ hb1
 replace z3:=lift_cell z3 _ hb1
 rw [e1] at x0 x1
 have HBN:=Lib.hid (HBN.out.trans (hb1.mono HBN.out.size))
 have HIN:=Lib.hid (hH.below HBN.out)
 have HKD:=Lib.hid (fun W (hW : H.In W) => keyed_any H hU hM r A cap ts ht key hk hz W hW)
 have HTO:=Lib.hid ht
 have HSU:=Lib.hid hrul
 have HNE:=Lib.hid hne
 have HFN:=Lib.hid hfn
 obtain ⟨j0,hj9,hj0,hj1,hj2⟩:=info_parts infoIntS
 have HJ0:=Lib.hid hj9
 clear hj9 hne hfn
 clear hb1 e1 hU hM ht hk hz hrul hH
 go_enter Tryz.func42,Tryz.ntmps42
 go_upto_region 1 with (fail)
 generalize (w.alloc (.cells #[.slice r.ka r.kinds.length r.kc,.int .i64 r.most,.slice r.wa r.weaks.length r.wc,.slice r.sa r.surs.length r.sc] 44)).alloc (.cells #[.int .i64 key.kind,.string key.text] 55) = W1 at *
 go_wp2_with fail
 refine (HKD.out W1 HIN.out).mono ?_
 rintro e W3 ⟨hb3,gp,bm,nm,m,rr,k,vT,vI,vA,nos,ats,ids,rfl,hG,huf,hka,oT,oI,oA,hnos⟩
 have hkl:=hka.lt
 obtain ⟨hno,hat,hids⟩:=hnos hkl
 obtain ⟨ρ,hρ⟩ : ∃ ρ,ρ = (rts (repN rr) ts.length)[k]:=⟨_,rfl⟩
 rw [← hρ] at hno hat hids
 obtain ⟨C,hC⟩ : ∃ C,C = cls (repN rr) ts.length ρ:=⟨_,rfl⟩
 rw [← hC] at hno hat hids
 have HN0 : Hid (telN (tellA ts C) name ≠ []):=by
  have:=HNE.out rr k huf hka hkl
  rw [← hρ,← hC] at this
  exact this
 have HPOST : Hid (∀ (W' : World) (v : Value) (ns : List Int),Below w.heap.size w W' → Orow W' w.heap.size 3 1 fI v ns → ns = srcL r.surs (tellA ts C) name → ns.length ≤ 100000 → SourcesPost r ts key name w (.returned (.tuple #[v,.int .i64 0])) W'):=by
  intro W' v ns h1 h2 h3 h4
  refine ⟨h1,rr,k,v,ns,rfl,huf,hka,h2,h4,fun h => ?_⟩
  rw [← hρ,← hC]
  exact h3
 have hCl : C.length ≤ 100:=by rw [hC]; have:=cls_le (repN rr) ts.length ρ; omega
 have HATL : Hid (ats.length = C.length):=by show _ = _; rw [hat,List.length_map]
 have HCT : Hid (∀ q ∈ C,q < ts.length):=fun q hq => by rw [hC] at hq; exact cls_lt hq
 have HG:=Lib.hid hG
 obtain ⟨tA,tc,rfl,-⟩:=oT.slice
 obtain ⟨iA,ic,rfl,-⟩:=oI.slice
 obtain ⟨aA,ac,rfl,-⟩:=oA.slice
 obtain ⟨aA',ac',eA,-,hrA⟩:=oA.memR
 injection eA with eA _ eA2
 subst eA
 rw [hat] at hrA
 have HRA:=Lib.hid hrA
 have hb03:=HBN.out.trans (hb3.mono HBN.out.size)
 have HB3:=Lib.hid hb03
 have HTK:=Lib.hid (told_ok HTO.out HCT.out hCl)
 have HFL:=Lib.hid (told_fl HTO.out)
 clear hb3 hG huf hka oT oI oA hnos hkl hno hat hids hρ hC hrA eA2 hb03 z0 z1 z2 z3 x0 x1 HKD HBN HIN
 rw [HATL.out]
 have HM3:=Lib.hid (heap_alloc_new W3 (.cells #[.int .i64 key.kind,.string key.text,.slice tA nos.length tc,.slice iA ids.length ic,.slice aA C.length ac] 147))
 have HN3:=Lib.hid (new1 (w:=W3) (.cells #[.int .i64 key.kind,.string key.text,.slice tA nos.length tc,.slice iA ids.length ic,.slice aA C.length ac] 147))
 go_upto_region 2 with (fail)
 generalize hmb : W3.heap.size = mb at *
 have HMB:=Lib.hid hmb
 clear hmb
 have HIN3 : Hid ((wholeH W3).In (W3.alloc (.cells #[.int .i64 key.kind,.string key.text,.slice tA nos.length tc,.slice iA ids.length ic,.slice aA C.length ac] 147))):=fun b o h => (HN3.out.block b (by rw [← HMB.out]; exact lt_of_heap h)).trans h
 have HB4:=Lib.hid (HB3.out.trans (HN3.out.mono (by rw [← HMB.out]; exact HB3.out.size)))
 generalize W3.alloc (.cells #[.int .i64 key.kind,.string key.text,.slice tA nos.length tc,.slice iA ids.length ic,.slice aA C.length ac] 147) = W4 at *
 have k0:=cell_h HM3.out 0 (v:=.int .i64 key.kind) rfl
 have k1:=cell_h HM3.out 1 (v:=.string key.text) rfl
 have k2:=cell_h HM3.out 2 (v:=.slice tA nos.length tc) rfl
 have k3:=cell_h HM3.out 3 (v:=.slice iA ids.length ic) rfl
 have k4:=cell_h HM3.out 4 (v:=.slice aA C.length ac) rfl
 have HTE:=Lib.hid (tellings_any (wholeH W3) gp bm nm m r A cap ts HG.out key.kind key.text tA nos.length tc iA ids.length ic aA ac C HRA.out HCT.out (by omega) HFL.out W4 HIN3.out)
 clear HM3 HN3 HNE
 go_wp2_with fail
 refine HTE.out.mono ?_
 rintro e W5 ⟨bt,n,m2,rfl,hS⟩
 generalize tellA ts C = ps at *
 have HB5:=Lib.hid (HB4.out.trans (hS.bel.mono HB4.out.size))
 have hlk : (Instr.lookup 163 (.map (some bt)) (.string name) false).run Tryz.prog W5 = .ok ((m2 (codeLit name)).getD nilV) W5:=hS.map.look strKeyed Tryz.underlying163 (zeroTds W5) (strKey HFN.out) false
 obtain ⟨Ad,cd,e0,-,hR⟩:=(hS.row HFN.out).memR
 rw [e0] at hlk
 have hle5 : Frz.Le (wholeH W3) (wholeH W5):=fun b o h => (HIN3.out.below hS.bel) b o h
 have HOK:=Lib.hid (HTK.out.2 name HN0.out)
 have HSV:=Lib.hid (survives_any (wholeH W5) gp bm nm m r A cap ts (HG.out.leR hle5) HSU.out name (telN ps name) (HTK.out.2 name HN0.out) Ad cd W5 (wholeH_in W5) hR)
 have HSR : Hid (srcL r.surs ps name = ((telN ps name).filter fun x => sameV x.v (survT r.surs name (telN ps name)).v).map (·.no)):=rfl
 have HR:=Lib.hid hR
 have hl0 : 0 < (telN ps name).length:=HOK.out.pos
 have hl1 : (telN ps name).length ≤ 100000:=HOK.out.len
 clear hle5 hR hS e0 HTE k0 k1 k2 k3 k4 HN0 HTK HG HRA HFL HIN3
 generalize telN ps name = L at *
 have hz1 : ((L.length : Int) == 0) = false:=by
  rw [beq_eq_false_iff_ne]; omega
 go_wp2_with fail
 refine HSV.out.mono ?_
 rintro e W6 ⟨rfl,hb6⟩
 generalize (survT r.surs name L).v = v at *
 have hvv : vV v = .agg #[.int .i64 v.kind,.string v.text,.int .i64 v.num]:=rfl
 rw [hvv]
 have HB6:=Lib.hid (HB5.out.trans (hb6.mono HB5.out.size))
 have HVB:=Lib.hid (heap_alloc_new W6 (.cells #[.int .i64 v.kind,.string v.text,.int .i64 v.num] 37))
 have HN6:=Lib.hid (new1 (w:=W6) (.cells #[.int .i64 v.kind,.string v.text,.int .i64 v.num] 37))
 have HI6 : Hid ((wholeH W5).In (W6.alloc (.cells #[.int .i64 v.kind,.string v.text,.int .i64 v.num] 37))):=((wholeH_in W5).below hb6).below HN6.out
 have HB7:=Lib.hid (HB6.out.trans (HN6.out.mono HB6.out.size))
 clear hvv hlk hz1 hb6 HSV HB6
 go_upto_region 8 with (fail)
 generalize W6.alloc (.cells #[.int .i64 v.kind,.string v.text,.int .i64 v.num] 37) = W7 at *
 generalize W6.heap.size = vb at *
 go_wp2_with fail
 have J0 : Hid (Orow W7 W7.heap.size 3 1 fI (.slice none 0 0) ([] : List Int)):=Orow.nil _ _ _ _ _
 go_loopw [15,43] (fun a t wr => ∃ (i : Nat) (ns : List Int) (vA : Option Addr) (vc : Nat),i ≤ L.length ∧ t = .int .i64 i ∧ a = .slice vA ns.length vc ∧ Hid (Orow wr W7.heap.size 3 1 fI (.slice vA ns.length vc) ns) ∧ Hid (ns = ((L.take i).filter fun x => sameV x.v v).map (·.no)) ∧ Hid (Below W7.heap.size W7 wr)) (fun _ t _ => L.length - (intOf t).toNat)
 case atStart => exact ⟨0,[],none,0,by omega,rfl,rfl,J0,rfl,Below.refl _ _⟩
 case round =>
  clear J0
  obtain ⟨i,ns,vA,vc,hi,rfl,rfl,HO,HNS,HB⟩:=hrel
  have hnl : ns.length ≤ 100000:=by
   rw [HNS.out,List.length_map]
   exact Nat.le_trans (List.length_filter_le _ _) (by rw [List.length_take]; omega)
  by_cases hlt : i < L.length
  ·have HIN:=Lib.hid (HI6.out.below HB.out)
   obtain ⟨b,off,hA,_,hc⟩:=HR.out.at_ HIN.out hlt (by omega)
   have e0 : wr.cell? ⟨b,off + i * 8,none⟩ = some (.int .i64 L[i].no):=hc 0 (by omega)
   have e1 : wr.cell? ⟨b,off + i * 8 + 1,none⟩ = some (.int .i64 L[i].at_):=hc 1 (by omega)
   have e2 : wr.cell? ⟨b,off + i * 8 + 2,none⟩ = some (.string L[i].source):=hc 2 (by omega)
   have e3 : wr.cell? ⟨b,off + i * 8 + 3,none⟩ = some (.slice L[i].ia L[i].il L[i].ic):=hc 3 (by omega)
   have e4 : wr.cell? ⟨b,off + i * 8 + 4,none⟩ = some (.slice L[i].fa L[i].fl L[i].fc):=hc 4 (by omega)
   have e5 : wr.cell? ⟨b,off + i * 8 + 5,none⟩ = some (.int .i64 L[i].kind):=hc 5 (by omega)
   have e6 : wr.cell? ⟨b,off + i * 8 + 6,none⟩ = some (.string L[i].text):=hc 6 (by omega)
   have e7 : wr.cell? ⟨b,off + i * 8 + 7,none⟩ = some (.int .i64 L[i].num):=hc 7 (by omega)
   have HTK:=Lib.hid (src_take (v:=v) hlt)
   have hlt2 : (i : Int) < L.length:=by omega
   subst hA
   clear hc
   generalize L[i] = d at *
   have z0 : (wr.alloc (.cells #[.int .i64 d.no,.int .i64 d.at_,.string d.source,.slice d.ia d.il d.ic,.slice d.fa d.fl d.fc,.int .i64 d.kind,.string d.text,.int .i64 d.num] 167)).cell? ⟨wr.heap.size,0,none⟩ = some (.int .i64 d.no):=newc 0 rfl
   have z1 : (wr.alloc (.cells #[.int .i64 d.no,.int .i64 d.at_,.string d.source,.slice d.ia d.il d.ic,.slice d.fa d.fl d.fc,.int .i64 d.kind,.string d.text,.int .i64 d.num] 167)).cell? ⟨wr.heap.size,1,none⟩ = some (.int .i64 d.at_):=newc 1 rfl
   have z2 : (wr.alloc (.cells #[.int .i64 d.no,.int .i64 d.at_,.string d.source,.slice d.ia d.il d.ic,.slice d.fa d.fl d.fc,.int .i64 d.kind,.string d.text,.int .i64 d.num] 167)).cell? ⟨wr.heap.size,2,none⟩ = some (.string d.source):=newc 2 rfl
   have z3 : (wr.alloc (.cells #[.int .i64 d.no,.int .i64 d.at_,.string d.source,.slice d.ia d.il d.ic,.slice d.fa d.fl d.fc,.int .i64 d.kind,.string d.text,.int .i64 d.num] 167)).cell? ⟨wr.heap.size,3,none⟩ = some (.slice d.ia d.il d.ic):=newc 3 rfl
   have z4 : (wr.alloc (.cells #[.int .i64 d.no,.int .i64 d.at_,.string d.source,.slice d.ia d.il d.ic,.slice d.fa d.fl d.fc,.int .i64 d.kind,.string d.text,.int .i64 d.num] 167)).cell? ⟨wr.heap.size,4,none⟩ = some (.slice d.fa d.fl d.fc):=newc 4 rfl
   have z5 : (wr.alloc (.cells #[.int .i64 d.no,.int .i64 d.at_,.string d.source,.slice d.ia d.il d.ic,.slice d.fa d.fl d.fc,.int .i64 d.kind,.string d.text,.int .i64 d.num] 167)).cell? ⟨wr.heap.size,5,none⟩ = some (.int .i64 d.kind):=newc 5 rfl
   have z6 : (wr.alloc (.cells #[.int .i64 d.no,.int .i64 d.at_,.string d.source,.slice d.ia d.il d.ic,.slice d.fa d.fl d.fc,.int .i64 d.kind,.string d.text,.int .i64 d.num] 167)).cell? ⟨wr.heap.size,6,none⟩ = some (.string d.text):=newc 6 rfl
   have z7 : (wr.alloc (.cells #[.int .i64 d.no,.int .i64 d.at_,.string d.source,.slice d.ia d.il d.ic,.slice d.fa d.fl d.fc,.int .i64 d.kind,.string d.text,.int .i64 d.num] 167)).cell? ⟨wr.heap.size,7,none⟩ = some (.int .i64 d.num):=newc 7 rfl
   have HBN:=Lib.hid (new1 (w:=wr) (.cells #[.int .i64 d.no,.int .i64 d.at_,.string d.source,.slice d.ia d.il d.ic,.slice d.fa d.fl d.fc,.int .i64 d.kind,.string d.text,.int .i64 d.num] 167))
   go_upto_region 12 with (fail)
   clear e0 e1 e2 e3 e4 e5 e6 e7
   have HO1:=Lib.hid (HO.out.below HBN.out)
   have HB1:=Lib.hid (HB.out.trans (HBN.out.mono HB.out.size))
   have hvb:=(HB1.out.block vb (lt_of_heap HVB.out)).trans HVB.out
   have q0:=cell_h hvb 0 (v:=.int .i64 v.kind) rfl
   have q1:=cell_h hvb 1 (v:=.string v.text) rfl
   have q2:=cell_h hvb 2 (v:=.int .i64 v.num) rfl
   have hS7 : W7.heap.size ≤ (wr.alloc (.cells #[.int .i64 d.no,.int .i64 d.at_,.string d.source,.slice d.ia d.il d.ic,.slice d.fa d.fl d.fc,.int .i64 d.kind,.string d.text,.int .i64 d.num] 167)).heap.size:=HB1.out.size
   clear HO HB HBN hvb
   generalize wr.alloc (.cells #[.int .i64 d.no,.int .i64 d.at_,.string d.source,.slice d.ia d.il d.ic,.slice d.fa d.fl d.fc,.int .i64 d.kind,.string d.text,.int .i64 d.num] 167) = W8 at *
   have HSV : Hid (sameV d.v v = ((d.kind == v.kind) && (d.text.toList == v.text.toList) && (d.num == v.num))):=rfl
   have hnl3 : ns.length ≤ 4294967296:=by omega
   cases k1 : (d.kind == v.kind) with
   | false =>
    have HK : Hid (ns = ((L.take (i + 1)).filter fun x => sameV x.v v).map (·.no)):=by
     show _ = _
     rw [HTK.out,HSV.out,k1]
     simpa using HNS.out
    go_wp2_with fail
    go_roundw
    case rel => exact ⟨i + 1,ns,vA,vc,by omega,by go_num,rfl,HO1,HK,HB1⟩
    case measure => simp [intOf]; omega
   | true =>
    cases k2 : (d.text.toList == v.text.toList) with
    | false =>
     have HK : Hid (ns = ((L.take (i + 1)).filter fun x => sameV x.v v).map (·.no)):=by
      show _ = _
      rw [HTK.out,HSV.out,k1,k2]
      simpa using HNS.out
     go_wp2_with fail
     go_roundw
     case rel => exact ⟨i + 1,ns,vA,vc,by omega,by go_num,rfl,HO1,HK,HB1⟩
     case measure => simp [intOf]; omega
    | true =>
     cases k3 : (d.num == v.num) with
     | false =>
      have HK : Hid (ns = ((L.take (i + 1)).filter fun x => sameV x.v v).map (·.no)):=by
       show _ = _
       rw [HTK.out,HSV.out,k1,k2,k3]
       simpa using HNS.out
      go_wp2_with fail
      go_roundw
      case rel => exact ⟨i + 1,ns,vA,vc,by omega,by go_num,rfl,HO1,HK,HB1⟩
      case measure => simp [intOf]; omega
     | true =>
      have HK : Hid (ns ++ [d.no] = ((L.take (i + 1)).filter fun x => sameV x.v v).map (·.no)):=by
       show _ = _
       rw [HTK.out,HSV.out,k1,k2,k3,← HNS.out]
       rfl
      go_wp2_with (at_builtin; refine wpList_app_at rfl _ _ 22 rfl W7.heap.size 3 j0 (.int .i64 0) 1 8 Tryz.underlying22 HJ0.out hj0 hj1 hj2 rfl (by decide) fI _ ns rfl HO1.out d.no #[.int .i64 d.no] 3 rfl rfl (by simp [Value.oneCell']) (by omega) (by omega) hS7 ?_; intro v1 w9 o1 g1 b1 at1; have HO9:=Lib.hid o1; have HBW:=Lib.hid (HB1.out.trans b1); clear o1 g1 b1 at1)
      obtain ⟨A9,c9,e9,_⟩:=HO9.out.slice
      subst e9
      go_roundw
      case rel => exact ⟨i + 1,ns ++ [d.no],A9,c9,by omega,by go_num,rfl,HO9,HK,HBW⟩
      case measure => simp [intOf]; omega
  ·have hie : i = L.length:=by omega
   subst hie
   have HF:=Lib.hid (HPOST.out wr _ ns (HB7.out.trans (HB.out.mono HB7.out.size)) (HO.out.mono HB7.out.size) (by rw [HSR.out,HNS.out,List.take_length]) hnl)
   clear HO HB HNS
   go_wp2_with fail
   exact bodyPost_ret (by kernel_rfl) rfl HF.out
open Go.RowKit
def eqFd (a b : FD) : Bool:=(a.name.toList == b.name.toList) && ((a.v.kind == b.v.kind) && ((a.v.text.toList == b.v.text.toList) && (a.v.num == b.v.num)))
theorem eqFd_iff {a b : FD} : eqFd a b = true ↔ a = b:=by
 obtain ⟨n1,⟨k1,t1,m1⟩⟩:=a
 obtain ⟨n2,⟨k2,t2,m2⟩⟩:=b
 unfold eqFd
 simp only [Bool.and_eq_true]
 constructor
 ·rintro ⟨h1,h2,h3,h4⟩
  have e1 : n1 = n2:=eqS_iff.1 h1
  have e3 : t1 = t2:=eqS_iff.1 h3
  have e2 : k1 = k2:=by simpa using h2
  have e4 : m1 = m2:=by simpa using h4
  rw [e1,e2,e3,e4]
 ·intro h
  injection h with h1 h2
  injection h2 with h2 h3 h4
  subst h1 h2 h3 h4
  simp
theorem belowD {B : Nat} {a w : World} (h : Below B a w) (n : Nat) : Below B a (w.drewN n):=⟨h.os,h.tape,h.output,h.size,fun k hk => h.block k hk⟩
set_option maxHeartbeats 1000000 in
set_option maxRecDepth 100000 in
theorem index_Fd (H : Frz) (A : Option Addr) (cap : Nat) (ids : List FD) (x : FD) (w : World) (hH : H.In w) (hR : Rw H A 4 fFd ids) (hl : ids.length ≤ 1000000) :
  Calls Tryz.prog 115 #[.slice A ids.length cap,.agg #[.string x.name,.int .i64 x.v.kind,.string x.v.text,.int .i64 x.v.num]] w fun e w' => e = .returned (.int .i64 (idxF (eqFd x) ids)) ∧ Below w.heap.size w w':=by
 have HR:=Lib.hid hR
 have HIN:=Lib.hid (hH.alloc (.cells #[.string x.name,.int .i64 x.v.kind,.string x.v.text,.int .i64 x.v.num] 78))
 have HB0:=Lib.hid (new1 (w:=w) (.cells #[.string x.name,.int .i64 x.v.kind,.string x.v.text,.int .i64 x.v.num] 78))
 have HX0 : Hid ((w.alloc (.cells #[.string x.name,.int .i64 x.v.kind,.string x.v.text,.int .i64 x.v.num] 78)).heap[w.heap.size]? = some (.cells #[.string x.name,.int .i64 x.v.kind,.string x.v.text,.int .i64 x.v.num] 78)):=heap_alloc_new _ _
 clear hR hH
 go_enter Tryz.func115,Tryz.ntmps115
 go_wp2_with fail
 generalize w.alloc (.cells #[.string x.name,.int .i64 x.v.kind,.string x.v.text,.int .i64 x.v.num] 78) = W0 at *
 go_loopw [5,8] (fun _ t wr => ∃ i : Nat,i ≤ ids.length ∧ t = .int .i64 i ∧ Hid ((ids.take i).any (eqFd x) = false) ∧ Hid (Below W0.heap.size W0 wr)) (fun _ t _ => ids.length - (intOf t).toNat)
 case atStart => exact ⟨0,by omega,rfl,rfl,Below.refl _ _⟩
 case round =>
  obtain ⟨i,hi,rfl,hall,hb⟩:=hrel
  have hx:=(hb.out.block _ (lt_of_heap HX0.out)).trans HX0.out
  have x0 : wr.cell? ⟨w.heap.size,0,none⟩ = some (.string x.name):=cell_h hx 0 rfl
  have x1 : wr.cell? ⟨w.heap.size,1,none⟩ = some (.int .i64 x.v.kind):=cell_h hx 1 rfl
  have x2 : wr.cell? ⟨w.heap.size,2,none⟩ = some (.string x.v.text):=cell_h hx 2 rfl
  have x3 : wr.cell? ⟨w.heap.size,3,none⟩ = some (.int .i64 x.v.num):=cell_h hx 3 rfl
  clear hx
  have HF:=Lib.hid (HB0.out.trans (hb.out.mono HB0.out.size))
  by_cases hlt : i < ids.length
  ·obtain ⟨b,off,rfl,hbl,hc⟩:=HR.out.at_ (HIN.out.below hb.out) hlt (by omega)
   have c0 : wr.cell? ⟨b,off + i * 4,none⟩ = some (.string ids[i].name):=hc 0 (by omega)
   have c1 : wr.cell? ⟨b,off + i * 4 + 1,none⟩ = some (.int .i64 ids[i].v.kind):=hc 1 (by omega)
   have c2 : wr.cell? ⟨b,off + i * 4 + 2,none⟩ = some (.string ids[i].v.text):=hc 2 (by omega)
   have c3 : wr.cell? ⟨b,off + i * 4 + 3,none⟩ = some (.int .i64 ids[i].v.num):=hc 3 (by omega)
   have ht:=Lib.hid (idxF_found (p:=eqFd x) hlt hall.out)
   have ht2:=Lib.hid (any_take_succ (p:=eqFd x) hlt hall.out)
   have heq : Hid (eqFd x ids[i] = ((x.name.toList == ids[i].name.toList) && ((x.v.kind == ids[i].v.kind) && ((x.v.text.toList == ids[i].v.text.toList) && (x.v.num == ids[i].v.num))))):=rfl
   clear hc
   generalize eqFd x ids[i] = q at *
   generalize ids[i] = y at *
   cases k0 : (x.name.toList == y.name.toList) with
   | false =>
    have hq : q = false:=by
     rw [heq.out,k0]
     rfl
    subst hq
    go_wp2_with fail
    go_quiet (fail)
    have HB1:=Lib.hid (fun n => belowD hb.out n)
    go_wp2_with fail
    go_roundw
    case rel => exact ⟨i + 1,by omega,by go_num,ht2.out (by simp),Lib.hid (HB1.out _)⟩
    case measure => simp [intOf]; omega
   | true =>
    cases k1 : (x.v.kind == y.v.kind) with
    | false =>
     have hq : q = false:=by
      rw [heq.out,k0,k1]
      rfl
     subst hq
     go_wp2_with fail
     go_quiet (fail)
     have HB1:=Lib.hid (fun n => belowD hb.out n)
     go_wp2_with fail
     go_roundw
     case rel => exact ⟨i + 1,by omega,by go_num,ht2.out (by simp),Lib.hid (HB1.out _)⟩
     case measure => simp [intOf]; omega
    | true =>
     cases k2 : (x.v.text.toList == y.v.text.toList) with
     | false =>
      have hq : q = false:=by
       rw [heq.out,k0,k1,k2]
       rfl
      subst hq
      go_wp2_with fail
      go_quiet (fail)
      have HB1:=Lib.hid (fun n => belowD hb.out n)
      go_wp2_with fail
      go_roundw
      case rel => exact ⟨i + 1,by omega,by go_num,ht2.out (by simp),Lib.hid (HB1.out _)⟩
      case measure => simp [intOf]; omega
     | true =>
      cases k3 : (x.v.num == y.v.num) with
      | false =>
       have hq : q = false:=by
        rw [heq.out,k0,k1,k2,k3]
        rfl
       subst hq
       go_wp2_with fail
       go_quiet (fail)
       have HB1:=Lib.hid (fun n => belowD hb.out n)
       go_wp2_with fail
       go_roundw
       case rel => exact ⟨i + 1,by omega,by go_num,ht2.out (by simp),Lib.hid (HB1.out _)⟩
       case measure => simp [intOf]; omega
      | true =>
       have hq : q = true:=by
        rw [heq.out,k0,k1,k2,k3]
        rfl
       subst hq
       go_wp2_with fail
       go_quiet (fail)
       have HB1:=Lib.hid (fun n => belowD HF.out n)
       go_wp2_with fail
       go_ret
       exact ⟨ret_int (ht.out (by simp)).symm,HB1.out _⟩
  ·have hf:=Lib.hid (idxF_none (p:=eqFd x) (show ids.any (eqFd x) = false by have:=hall.out; rwa [List.take_of_length_le (by omega)] at this))
   go_wp2_with fail
   go_ret
   exact ⟨ret_int hf.out.symm,HF.out⟩
set_option maxHeartbeats 1000000 in
set_option maxRecDepth 100000 in
theorem contains_Fd (H : Frz) (A : Option Addr) (cap : Nat) (ids : List FD) (x : FD) (w : World) (hH : H.In w) (hR : Rw H A 4 fFd ids) (hl : ids.length ≤ 1000000) :
  Calls Tryz.prog 43 #[.slice A ids.length cap,.agg #[.string x.name,.int .i64 x.v.kind,.string x.v.text,.int .i64 x.v.num]] w fun e w' => e = .returned (.bool (anyF (eqFd x) ids)) ∧ Below w.heap.size w w':=by
 have hX : (w.alloc (.cells #[.string x.name,.int .i64 x.v.kind,.string x.v.text,.int .i64 x.v.num] 78)).heap[w.heap.size]? = some (.cells #[.string x.name,.int .i64 x.v.kind,.string x.v.text,.int .i64 x.v.num] 78):=heap_alloc_new _ _
 have HI:=Lib.hid (index_Fd H A cap ids x _ (hH.alloc (.cells #[.string x.name,.int .i64 x.v.kind,.string x.v.text,.int .i64 x.v.num] 78)) hR hl)
 have HB0:=Lib.hid (new1 (w:=w) (.cells #[.string x.name,.int .i64 x.v.kind,.string x.v.text,.int .i64 x.v.num] 78))
 have hx:=Lib.hid (idxF_any (eqFd x) ids)
 clear hR hH
 go_enter Tryz.func43,Tryz.ntmps43
 go_wp2_with fail
 refine HI.out.mono ?_
 rintro e w1 ⟨rfl,hb⟩
 have HB:=Lib.hid (HB0.out.trans (hb.mono HB0.out.size))
 generalize idxF (eqFd x) ids = n at hx
 clear hb HI HB0 hX
 go_wp2_with fail
 go_ret
 exact ⟨ret_bool' hx.out,HB.out⟩
end Go.Proofs.YtbidhpgjmcedaaaGreatDoor
