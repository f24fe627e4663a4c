/- Texts of this claim, put together: Tellings, BoxV. -/
import Derived.Test.YtbidhpgjmcedaaaGreatDoorGBY
import Derived.Test.YtbidhpgjmcedaaaGreatDoorGAN
import Derived.Test.YtbidhpgjmcedaaaGreatDoorGAJ
import Derived.Test.YtbidhpgjmcedaaaGreatDoorGAI
import Derived.Test.YtbidhpgjmcedaaaGreatDoorGAB
import Derived.Deep.MidRow
namespace Go.Proofs.YtbidhpgjmcedaaaGreatDoor
set_option linter.unusedVariables false
open Go.RowKit
def φTl (S : Nat) (bt p9 : Nat) (f : FD) (v0 : Value) (gp b off n cap q : Nat) (d : TchD) (i : Nat) (v : Value) (w : World) : Prop :=
 match i with
 | 0 => v = .map (some bt)
 | 1 => v = .pointer (some ⟨p9,0,none⟩)
 | 2 => v = .string f.name
 | 3 => v = .map (some bt)
 | 4 => v = .pointer (some ⟨p9,0,none⟩)
 | 5 => v = .string f.name
 | 6 => v = v0
 | 7 => v = .pointer (some ⟨gp,0,none⟩)
 | 8 => v = .pointer (some ⟨gp,0,none⟩)
 | 9 => v = .pointer (some ⟨gp,4,none⟩)
 | 10 => v = .slice (some ⟨b,off,none⟩) n cap
 | 11 => v = .int .i64 q
 | 12 => v = .pointer (some ⟨b,off + q * 5,none⟩)
 | 13 => v = .agg #[.int .i64 d.no,.int .i64 d.at_,.string d.source,.slice d.ia d.ids.length d.ic,.slice d.fa d.fields.length d.fc]
 | 14 => v = .pointer (some ⟨p9,1,none⟩)
 | 15 => v = .agg #[.int .i64 f.v.kind,.string f.v.text,.int .i64 f.v.num]
 | 16 => v = .agg #[.int .i64 d.no,.int .i64 d.at_,.string d.source,.slice d.ia d.ids.length d.ic,.slice d.fa d.fields.length d.fc,.int .i64 f.v.kind,.string f.v.text,.int .i64 f.v.num]
 | 17 => TmpS S v #[.int .i64 d.no,.int .i64 d.at_,.string d.source,.slice d.ia d.ids.length d.ic,.slice d.fa d.fields.length d.fc,.int .i64 f.v.kind,.string f.v.text,.int .i64 f.v.num] 167 w
 | 18 => True
 | _ => True
theorem φTl_mono {W0 : World} {bt p9 : Nat} {f : FD} {v0 : Value} {gp b off n cap q : Nat} {d : TchD} (i : Nat) (x : Value) (w w' : World) (e : RowsE W0 w w') (h : φTl W0.heap.size bt p9 f v0 gp b off n cap q d i x w) : φTl W0.heap.size bt p9 f v0 gp b off n cap q d i x w':=by
 match i,h with
 | 0,h => exact h
 | 1,h => exact h
 | 2,h => exact h
 | 3,h => exact h
 | 4,h => exact h
 | 5,h => exact h
 | 6,h => exact h
 | 7,h => exact h
 | 8,h => exact h
 | 9,h => exact h
 | 10,h => exact h
 | 11,h => exact h
 | 12,h => exact h
 | 13,h => exact h
 | 14,h => exact h
 | 15,h => exact h
 | 16,h => exact h
 | 17,h => exact TmpS.mono e h
 | 18,h => exact h
 | i + 19,h => exact trivial
def tsTl (v0 : Value) (B n : Nat) (x y : List Value) : List RowT:=[⟨18,49,v0,B,167,8,n,x,n + 1,y⟩]
theorem tsTl_own {v0 : Value} {B n : Nat} {x y : List Value} {W0 W : World} {L : Array Bool} {a : Act} (h : RowsJ W0 (tsTl v0 B n x y) L a W) (h10 : L.getD 18 false = true) {z : Value} (e : a.tmps.getD 49 undef = z) : W.ownsRow B 167 8 z (n + 1) y ∧ (z.ownBlock = v0.ownBlock ∨ ∃ g,z.ownBlock = some g ∧ W0.heap.size ≤ g):=by
 have o1:=h.own ⟨18,49,v0,B,167,8,n,x,n + 1,y⟩ (by simp [tsTl])
 have o2:=h.lies ⟨18,49,v0,B,167,8,n,x,n + 1,y⟩ (by simp [tsTl])
 unfold RowT.own at o1
 unfold RowT.val at o2
 simp only [h10,e,if_true] at o1 o2
 exact ⟨o1,o2⟩
def TellPost (w : World) (ts : List TchD) (qs : List Nat) (e : Ending) (w' : World) : Prop:=∃ bt n m,e = .returned (.map (some bt)) ∧ HavT w (w.heap.size + 2) bt (tellA ts qs) n m w'
theorem zeroTds (w : World) : (zeroValue 162).run Tryz.prog w = .ok nilV w:=by kernel_rfl
theorem tell_put {w W2 W9 w5 : World} {B bt n zn : Nat} {ps ps' : List (ByteArray × TdD)} {m : Lit → Option Value} {f : ByteArray} {d : TdD} {v0 v9 : Value} {x12 y12 : List Value} {L : Array Bool} {a : Act}
  (hput : ∀ (W' : World) (v' : Value),W2.heap.size ≤ W'.heap.size → W'.os = W2.os → W'.tape = W2.tape → W'.output = W2.output → (∀ k,k < W2.heap.size → k ≠ bt → some k ≠ v0.ownBlock → W'.heap[k]? = W2.heap[k]?) → Mp Tryz.prog 9 W' bt (n + 1) (mpSet m (codeLit f) v') → Orow W' B 167 8 fTd v' (telN ps f ++ [d]) → (v'.ownBlock = v0.ownBlock ∨ ∃ g,v'.ownBlock = some g ∧ W2.heap.size ≤ g) → HavT w B bt (ps ++ [(f,d)]) (n + 1) (mpSet m (codeLit f) v') W')
  (hps : ps' = ps ++ [(f,d)]) (hc : cellsOf 8 fTd (telN ps f ++ [d]) = x12 ++ y12) (hz : zn = (telN ps f).length) (hbt : bt < B) (hW : RowsJ W2 (tsTl v0 B zn x12 (x12 ++ y12)) L a W9) (ho : W9.ownsRow B 167 8 v9 (zn + 1) (x12 ++ y12)) (hat : v9.ownBlock = v0.ownBlock ∨ ∃ g,v9.ownBlock = some g ∧ W2.heap.size ≤ g)
  (hM : Mp Tryz.prog 9 w5 bt (n + 1) (mpSet m (codeLit f) v9)) (hg : W9.grownBy w5 (some bt)) (hsz : w5.heap.size = W9.heap.size) : ∃ n m,HavT w B bt ps' n m w5:=by
 subst hps
 refine ⟨_,_,hput w5 v9 (by rw [hsz]; exact hW.size) (hg.os.trans hW.os) (hg.tape.trans hW.tape) (hg.output.trans hW.output) (fun k k1 k2 k3 => ?_) hM ?_ hat⟩
 ·refine (hg.block k (Nat.lt_of_lt_of_le k1 hW.size) (fun c => by injection c with c; exact k2 c)).trans (hW.keep k k1 (fun t ht c => ?_))
  simp only [tsTl,List.mem_cons,List.not_mem_nil,or_false] at ht
  subst ht
  exact k3 c.symm
 ·show World.ownsRow _ _ _ _ _ _ _
  rw [hc,List.length_append,← hz]
  exact ownsRow_heap ho (fun g hgo => hg.block g (World.ownsRow.lt ho g hgo).2 (fun c => by
   injection c with c
   have:=(World.ownsRow.lt ho g hgo).1
   omega))
set_option maxHeartbeats 8000000 in
set_option maxRecDepth 100000 in
theorem tellings_any (H : Frz) (gp bm nm : Nat) (m0 : Lit → Option Value) (r : RulD) (A : Option Addr) (cap : Nat) (ts : List TchD) (hG : GrpIn H gp bm nm m0 r A cap ts) (kk : Int) (kt : ByteArray) (Ta : Option Addr) (Tl Tc : Nat) (Ia : Option Addr) (Il Ic : Nat) (Aa : Option Addr) (ca : Nat) (qs : List Nat)
  (hA : Rw H Aa 1 fI (qs.map fun q : Nat => (q : Int))) (hq : ∀ q ∈ qs,q < ts.length) (hql : qs.length ≤ 1000) (hfl : ∀ t ∈ ts,t.fields.length ≤ 1000 ∧ ∀ f ∈ t.fields,FitN f.name) (w : World) (hH : H.In w) :
  Calls Tryz.prog 113 #[.pointer (some ⟨gp,0,none⟩),.agg #[.int .i64 kk,.string kt,.slice Ta Tl Tc,.slice Ia Il Ic,.slice Aa qs.length ca]] w (TellPost w ts qs):=by
 obtain ⟨i0,hi0,hz0,hz1,hz2⟩:=info_parts infoTd
 have HI0:=Lib.hid hi0
 have HH:=Lib.hid hH
 have HG:=Lib.hid hG
 have HGO : Hid (H gp = some (grpObj r A ts.length cap bm)):=hG.obj
 have HAR:=Lib.hid hA
 have HQ:=Lib.hid hq
 have HFL:=Lib.hid hfl
 have hmm:=@run_makeMap Tryz.prog
 have HB1:=Lib.hid (new1 (w:=w) (.cells #[.int .i64 kk,.string kt,.slice Ta Tl Tc,.slice Ia Il Ic,.slice Aa qs.length ca] 147))
 have J0 : Hid (HavT w (w.heap.size + 2) (w.heap.size + 1) [] 0 mpNew ((w.alloc (.cells #[.int .i64 kk,.string kt,.slice Ta Tl Tc,.slice Ia Il Ic,.slice Aa qs.length ca] 147)).alloc (.map #[] 0))):=by
  refine HavT.start ((HB1.out).alloc HB1.out.size _) ?_ (by omega) (by omega)
  have:=Mp.made Tryz.prog 9 (w.alloc (.cells #[.int .i64 kk,.string kt,.slice Ta Tl Tc,.slice Ia Il Ic,.slice Aa qs.length ca] 147))
  simpa using this
 have c4 : ((w.alloc (.cells #[.int .i64 kk,.string kt,.slice Ta Tl Tc,.slice Ia Il Ic,.slice Aa qs.length ca] 147)).alloc (.map #[] 0)).cell? ⟨w.heap.size,4,none⟩ = some (.slice Aa qs.length ca):=cell_h ((heap_lt (by simp)).trans (heap_alloc_new _ _)) 4 rfl
 clear hG hA hq hfl hH hi0 HB1
 go_enter Tryz.func113,Tryz.ntmps113
 go_wp2_with fail
 clear c4 hmm
 obtain ⟨bt,hbt⟩ : ∃ bt,bt = w.heap.size + 1:=⟨_,rfl⟩
 obtain ⟨B,hB⟩ : ∃ B,B = w.heap.size + 2:=⟨_,rfl⟩
 rw [← hbt,← hB] at J0
 try rw [← hbt]
 have HNUM : Hid (bt = w.heap.size + 1 ∧ B = w.heap.size + 2):=⟨hbt,hB⟩
 clear hbt hB
 generalize (w.alloc (.cells #[.int .i64 kk,.string kt,.slice Ta Tl Tc,.slice Ia Il Ic,.slice Aa qs.length ca] 147)).alloc (.map #[] 0) = W0 at *
 go_loopw [14] (fun t wr => ∃ i : Nat,i ≤ qs.length ∧ t = .int .i64 i ∧ Hid (∃ n m,HavT w B bt (tellA ts (qs.take i)) n m wr)) (fun t _ => qs.length - (intOf t).toNat)
 case atStart => exact ⟨0,by omega,rfl,0,mpNew,J0.out⟩
 case round =>
  obtain ⟨i,hi,rfl,J⟩:=hrel
  clear J0
  by_cases hlt : i < qs.length
  ·have HIN : Hid (H.In wr):=by
    obtain ⟨n,m,JS⟩:=J.out
    exact HH.out.below JS.bel
   have hlm : i < (qs.map fun q : Nat => (q : Int)).length:=by rw [List.length_map]; exact hlt
   obtain ⟨ba,offa,hAa,_,hca⟩:=HAR.out.at_ HIN.out hlm (by omega)
   have d0 : wr.cell? ⟨ba,offa + i,none⟩ = some (.int .i64 (qs[i] : Nat)):=by simpa [fI] using hca 0 (by omega)
   have hqi:=HQ.out _ (List.getElem_mem hlt)
   obtain ⟨tb,to9,hAt,_,hct⟩:=HG.out.tch.1.at_ HIN.out hqi (by omega)
   have e4 : wr.cell? ⟨tb,to9 + qs[i] * 5 + 4,none⟩ = some (.slice ts[qs[i]].fa ts[qs[i]].fields.length ts[qs[i]].fc):=hct 4 (by omega)
   have hgo:=HIN.out gp _ HGO.out
   simp only [grpObj] at hgo
   have g4 : wr.cell? ⟨gp,4,none⟩ = some (.slice A ts.length cap):=cell_h hgo 4 rfl
   have HFI:=Lib.hid (HG.out.tch.2 _ (List.getElem_mem hqi)).2
   have HFF:=Lib.hid (HFL.out _ (List.getElem_mem hqi))
   have HFULL:=Lib.hid (tellIJ_full ts hlt)
   have HSUC:=Lib.hid (fun j (hj : j < (tAt ts qs[i]).fields.length) => tellIJ_succ ts hlt hj)
   have HQT : Hid (tAt ts qs[i] = ts[qs[i]]):=tAt_lt hqi
   have HTL : Hid (∀ j,j ≤ ts[qs[i]].fields.length → (tellIJ ts qs i j).length ≤ 4000000):=fun j hj => by
    have h1:=flatMap_le (m:=1000) (fun q => tellT (tAt ts q)) (qs.take i) (fun q hq2 => by
     have hq3:=HQ.out q (List.mem_of_mem_take hq2)
     rw [tAt_lt hq3]
     unfold tellT
     rw [List.length_map]
     exact (HFL.out _ (List.getElem_mem hq3)).1)
    have h2 : (qs.take i).length ≤ 1000:=by rw [List.length_take]; omega
    have h3 : (qs.take i).length * 1000 ≤ 1000 * 1000:=Nat.mul_le_mul_right _ h2
    have h4:=(HFL.out _ (List.getElem_mem hqi)).1
    unfold tellIJ tellA
    rw [List.length_append,List.length_take]
    omega
   rw [HQT.out] at HFULL HSUC
   have hlt2 : (i : Int) < qs.length:=by omega
   have HQL : Hid (((qs[i] : Nat) : Int) < ts.length):=by show _ < _; omega
   have JA : Hid (∃ n m,HavT w B bt (tellIJ ts qs i 0) n m wr):=by rw [tellIJ_zero]; exact J.out
   have HTC : Hid (∀ W : World,H.In W → W.cell? ⟨tb,to9 + qs[i] * 5,none⟩ = some (.int .i64 ts[qs[i]].no) ∧ W.cell? ⟨tb,to9 + qs[i] * 5 + 1,none⟩ = some (.int .i64 ts[qs[i]].at_) ∧ W.cell? ⟨tb,to9 + qs[i] * 5 + 2,none⟩ = some (.string ts[qs[i]].source) ∧ W.cell? ⟨tb,to9 + qs[i] * 5 + 3,none⟩ = some (.slice ts[qs[i]].ia ts[qs[i]].ids.length ts[qs[i]].ic) ∧ W.cell? ⟨tb,to9 + qs[i] * 5 + 4,none⟩ = some (.slice ts[qs[i]].fa ts[qs[i]].fields.length ts[qs[i]].fc)):=fun W hW => by
    obtain ⟨b',off',hAt',_,hct'⟩:=HG.out.tch.1.at_ hW hqi (by omega)
    rw [hAt] at hAt'
    simp only [Option.some.injEq,Addr.mk.injEq] at hAt'
    obtain ⟨rfl,rfl,-⟩:=hAt'
    exact ⟨hct' 0 (by omega),hct' 1 (by omega),hct' 2 (by omega),hct' 3 (by omega),hct' 4 (by omega)⟩
   subst hAa
   subst hAt
   clear hca hct hgo J HQT hlm
   have hq2 : ((qs[i] : Nat) : Int) < ts.length:=HQL.out
   generalize ts[qs[i]] = d at *
   obtain ⟨fa,hfa⟩ : ∃ fa,d.fa = fa:=⟨_,rfl⟩
   have HFA:=Lib.hid hfa
   rw [hfa] at e4
   generalize qs[i] = q at *
   go_wp2_with fail
   clear d0 e4 g4 hfa hq2
   go_loopw [27] (fun t wr => ∃ j : Nat,j ≤ d.fields.length ∧ t = .int .i64 j ∧ Hid (∃ n m,HavT w B bt (tellIJ ts qs i j) n m wr)) (fun t _ => d.fields.length - (intOf t).toNat)
   case atStart => exact ⟨0,by omega,rfl,JA⟩
   case round =>
    obtain ⟨j,hj,rfl,J⟩:=hrel
    clear JA
    by_cases hlj : j < d.fields.length
    ·obtain ⟨n,m,JS⟩:=J.out
     have HIN2:=Lib.hid (HH.out.below JS.bel)
     have HFI2:=HFI.out
     rw [HFA.out] at HFI2
     obtain ⟨b,off,hAf,_,hc⟩:=HFI2.at_ HIN2.out hlj (by omega)
     have e0 : wr.cell? ⟨b,off + j * 4,none⟩ = some (.string d.fields[j].name):=hc 0 (by omega)
     have e1 : wr.cell? ⟨b,off + j * 4 + 1,none⟩ = some (.int .i64 d.fields[j].v.kind):=hc 1 (by omega)
     have e2 : wr.cell? ⟨b,off + j * 4 + 2,none⟩ = some (.string d.fields[j].v.text):=hc 2 (by omega)
     have e3 : wr.cell? ⟨b,off + j * 4 + 3,none⟩ = some (.int .i64 d.fields[j].v.num):=hc 3 (by omega)
     have HX:=Lib.hid (HFF.out.2 _ (List.getElem_mem hlj))
     have HSU:=Lib.hid (HSUC.out j hlj)
     have hlj2 : (j : Int) < d.fields.length:=by omega
     subst hAf
     clear J hc HFI2
     generalize d.fields[j] = f at *
     have z0 : (wr.alloc (.cells #[.string f.name,.int .i64 f.v.kind,.string f.v.text,.int .i64 f.v.num] 78)).cell? ⟨wr.heap.size,0,none⟩ = some (.string f.name):=newc 0 rfl
     have z1 : (wr.alloc (.cells #[.string f.name,.int .i64 f.v.kind,.string f.v.text,.int .i64 f.v.num] 78)).cell? ⟨wr.heap.size,1,none⟩ = some (.int .i64 f.v.kind):=newc 1 rfl
     have z2 : (wr.alloc (.cells #[.string f.name,.int .i64 f.v.kind,.string f.v.text,.int .i64 f.v.num] 78)).cell? ⟨wr.heap.size,2,none⟩ = some (.string f.v.text):=newc 2 rfl
     have z3 : (wr.alloc (.cells #[.string f.name,.int .i64 f.v.kind,.string f.v.text,.int .i64 f.v.num] 78)).cell? ⟨wr.heap.size,3,none⟩ = some (.int .i64 f.v.num):=newc 3 rfl
     have HBN:=Lib.hid (new1 (w:=wr) (.cells #[.string f.name,.int .i64 f.v.kind,.string f.v.text,.int .i64 f.v.num] 78))
     go_upto_region 8 with (fail)
     clear e0 e1 e2 e3
     have JC:=Lib.hid (JS.call HBN.out)
     have XC : Hid ((wr.alloc (.cells #[.string f.name,.int .i64 f.v.kind,.string f.v.text,.int .i64 f.v.num] 78)).heap[wr.heap.size]? = some (.cells #[.string f.name,.int .i64 f.v.kind,.string f.v.text,.int .i64 f.v.num] 78)):=heap_alloc_new _ _
     have HQV : Hid (∀ g,((m (codeLit f.name)).getD nilV).ownBlock = some g → B ≤ g ∧ g < wr.heap.size):=fun g hg => (JS.row HX.out).lt hg
     have HQS : Hid (wr.heap.size < (wr.alloc (.cells #[.string f.name,.int .i64 f.v.kind,.string f.v.text,.int .i64 f.v.num] 78)).heap.size):=by show _ < _; simp
     have HQB : Hid (bt < wr.heap.size):=JS.map.lt
     have HIN3:=Lib.hid (HIN2.out.below HBN.out)
     have HNB : Hid (∀ g,B ≤ g → H g = none):=fun g hg => HH.out.none_ (by have:=HNUM.out; omega)
     clear JS HBN
     generalize wr.heap.size = p9 at *
     generalize wr.alloc (.cells #[.string f.name,.int .i64 f.v.kind,.string f.v.text,.int .i64 f.v.num] 78) = W2 at *
     have HBB : Hid (p9 ≠ bt ∧ B ≤ W2.heap.size ∧ bt < W2.heap.size ∧ bt < B):=by
      have h1:=HNUM.out
      have h2:=JC.out.bel.size
      have h3:=HQS.out
      have h4:=HQB.out
      have h5:=JC.out.lt
      show _ ∧ _
      omega
     have HROW:=Lib.hid (JC.out.row HX.out)
     have HVB:=Lib.hid (JC.out.row_ne HX.out)
     have HLK : Hid (∀ W : World,W.heap[bt]? = W2.heap[bt]? → (Instr.lookup 163 (.map (some bt)) (.string f.name) false).run Tryz.prog W = .ok ((m (codeLit f.name)).getD nilV) W):=fun W hW =>
      (JC.out.map.block hW).look strKeyed Tryz.underlying163 (zeroTds W) (strKey HX.out) false
     have HMP:=Lib.hid (fun (W : World) (hW : W.heap[bt]? = W2.heap[bt]?) => JC.out.map.block hW)
     have HNL : Hid (n < maxLen):=by
      have h1:=JC.out.le
      have h2 : (tellIJ ts qs i j).length ≤ 4000000:=HTL.out j hj
      show n < _
      simp only [maxLen]; omega
     have HPUT:=Lib.hid (fun (W : World) (v' : Value) => JC.out.put (W':=W) (v':=v') (d:=mkTd d f.v) HX.out)
     have HZN : Hid ((telN (tellIJ ts qs i j) f.name).length ≤ 4000000):=Nat.le_trans (telN_len _ _) (HTL.out j hj)
     have HKY:=Lib.hid (strKey HX.out)
     generalize hv0 : (m (codeLit f.name)).getD nilV = v0 at *
     have hcell9 : cellsOf 8 fTd (telN (tellIJ ts qs i j) f.name ++ [mkTd d f.v]) = cellsOf 8 fTd (telN (tellIJ ts qs i j) f.name) ++ [.int .i64 d.no,.int .i64 d.at_,.string d.source,.slice d.ia d.ids.length d.ic,.slice d.fa d.fields.length d.fc,.int .i64 f.v.kind,.string f.v.text,.int .i64 f.v.num]:=by rw [cellsOf_snoc]; rfl
     have HCELL:=Lib.hid hcell9
     have R12:=HROW.out.own
     obtain ⟨x12,hx12⟩ : ∃ x,x = cellsOf 8 fTd (telN (tellIJ ts qs i j) f.name):=⟨_,rfl⟩
     rw [← hx12] at R12 HCELL
     obtain ⟨zn,hzn⟩ : ∃ z,z = (telN (tellIJ ts qs i j) f.name).length:=⟨_,rfl⟩
     rw [← hzn] at R12 HZN
     have HZL:=Lib.hid hzn
     clear hcell9 hzn hx12 hv0
     have HROWS : Hid (∀ t ∈ tsTl v0 B zn x12 (x12 ++ [.int .i64 d.no,.int .i64 d.at_,.string d.source,.slice d.ia d.ids.length d.ic,.slice d.fa d.fields.length d.fc,.int .i64 f.v.kind,.string f.v.text,.int .i64 f.v.num]),W2.ownsRow t.B t.T t.k t.v t.n t.xs):=by
      intro t ht
      simp only [tsTl,List.mem_cons,List.not_mem_nil,or_false] at ht
      subst ht
      exact R12
     have HAPT : Hid ((tsTl v0 B zn x12 (x12 ++ [.int .i64 d.no,.int .i64 d.at_,.string d.source,.slice d.ia d.ids.length d.ic,.slice d.fa d.fields.length d.fc,.int .i64 f.v.kind,.string f.v.text,.int .i64 f.v.num])).Pairwise fun t u => apart t.v u.v):=List.pairwise_singleton _ _
     have HLT0 : Hid (∀ g,v0.ownBlock = some g → g < W2.heap.size):=fun g hg => (World.ownsRow.lt R12 g hg).2
     have HCC : Hid (∀ W L a,RowsJ W2 (tsTl v0 B zn x12 (x12 ++ [.int .i64 d.no,.int .i64 d.at_,.string d.source,.slice d.ia d.ids.length d.ic,.slice d.fa d.fields.length d.fc,.int .i64 f.v.kind,.string f.v.text,.int .i64 f.v.num])) L a W → H.In W ∧ W.heap[p9]? = some (.cells #[.string f.name,.int .i64 f.v.kind,.string f.v.text,.int .i64 f.v.num] 78 (0,0)) ∧ W.heap[bt]? = W2.heap[bt]?):=fun W L a h => by
      have h1:=HBB.out
      refine ⟨h.inn HIN3.out (fun t ht g hg => ?_),(h.keep p9 HQS.out (fun t ht c => ?_)).trans XC.out,h.keep bt h1.2.2.1 (fun t ht c => ?_)⟩
      ·simp only [tsTl,List.mem_cons,List.not_mem_nil,or_false] at ht
       subst ht
       exact HNB.out g (World.ownsRow.lt R12 g hg).1
      ·simp only [tsTl,List.mem_cons,List.not_mem_nil,or_false] at ht
       subst ht
       have:=HQV.out p9 c
       omega
      ·simp only [tsTl,List.mem_cons,List.not_mem_nil,or_false] at ht
       subst ht
       exact HVB.out c
     clear R12
     refine wp_region_concV 19 53 (φTl W2.heap.size bt p9 f v0 gp tb to9 ts.length cap q d) (RowsJ W2 (tsTl v0 B zn x12 (x12 ++ [.int .i64 d.no,.int .i64 d.at_,.string d.source,.slice d.ia d.ids.length d.ic,.slice d.fa d.fields.length d.fc,.int .i64 f.v.kind,.string f.v.text,.int .i64 f.v.num]))) (RowsE W2) (by kernel_rfl) (by kernel_rfl) (by rfl) (RowsJ.start HROWS.out HAPT.out _ _) (fun i x w w' _ e h => φTl_mono i x w w' e h) (fun i x w hi e _ => absurd e (by have hcs : i = 0 ∨ i = 1 ∨ i = 2 ∨ i = 3 ∨ i = 4 ∨ i = 5 ∨ i = 6 ∨ i = 7 ∨ i = 8 ∨ i = 9 ∨ i = 10 ∨ i = 11 ∨ i = 12 ∨ i = 13 ∨ i = 14 ∨ i = 15 ∨ i = 16 ∨ i = 17 ∨ i = 18:=(by omega); rcases hcs with rfl | rfl | rfl | rfl | rfl | rfl | rfl | rfl | rfl | rfl | rfl | rfl | rfl | rfl | rfl | rfl | rfl | rfl | rfl <;> decide)) ?_ ?_
     ·intro n o hn ho a W3 L hr hsN hLs hJ hkn
      replace hsN : a.tmps.size = 53:=hsN
      have hcs : n = 0 ∨ n = 1 ∨ n = 2 ∨ n = 3 ∨ n = 4 ∨ n = 5 ∨ n = 6 ∨ n = 7 ∨ n = 8 ∨ n = 9 ∨ n = 10 ∨ n = 11 ∨ n = 12 ∨ n = 13 ∨ n = 14 ∨ n = 15 ∨ n = 16 ∨ n = 17 ∨ n = 18:=by omega
      rcases hcs with rfl | rfl | rfl | rfl | rfl | rfl | rfl | rfl | rfl | rfl | rfl | rfl | rfl | rfl | rfl | rfl | rfl | rfl | rfl
      ·obtain rfl:=Option.some.inj ho
       refine OpV.mono (R:=fun v w' => φTl W2.heap.size bt p9 f v0 gp tb to9 ts.length cap q d 0 v w' ∧ Below W3.heap.size W3 w') ?_ (fun v w' h => ⟨h.1,hJ.step h.2 (rows_ne (li:=[18]) (ls:=[49]) rfl rfl (by decide) (by decide)) v,RowsE.of h.2⟩)
       exact ⟨hkn 5 (by decide),Below.refl _ _⟩
      ·obtain rfl:=Option.some.inj ho
       refine OpV.mono (R:=fun v w' => φTl W2.heap.size bt p9 f v0 gp tb to9 ts.length cap q d 1 v w' ∧ Below W3.heap.size W3 w') ?_ (fun v w' h => ⟨h.1,hJ.step h.2 (rows_ne (li:=[18]) (ls:=[49]) rfl rfl (by decide) (by decide)) v,RowsE.of h.2⟩)
       have h0:=slotv (hkn 9 (by decide) : a.tmps.getD 9 undef = .pointer (some ⟨p9,0,none⟩))
       clear hkn ho
       simp only [OpV,execOp]
       simp [go_sem,h0]
       all_goals first | exact ⟨rfl,Below.refl _ _⟩ | exact Below.refl _ _
      ·obtain rfl:=Option.some.inj ho
       refine OpV.mono (R:=fun v w' => φTl W2.heap.size bt p9 f v0 gp tb to9 ts.length cap q d 2 v w' ∧ Below W3.heap.size W3 w') ?_ (fun v w' h => ⟨h.1,hJ.step h.2 (rows_ne (li:=[18]) (ls:=[49]) rfl rfl (by decide) (by decide)) v,RowsE.of h.2⟩)
       have h0:=slotv (hkn 32 (by decide) : a.tmps.getD 32 undef = .pointer (some ⟨p9,0,none⟩))
       have hfb:=(HCC.out W3 _ _ hJ).2.1
       have hcc : W3.cell? ⟨p9,0,none⟩ = some (.string f.name):=cell_h hfb 0 rfl
       clear hfb
       clear hkn ho
       simp only [OpV,execOp]
       simp [go_sem,h0,hcc]
       all_goals first | exact ⟨rfl,Below.refl _ _⟩ | exact Below.refl _ _
      ·obtain rfl:=Option.some.inj ho
       refine OpV.mono (R:=fun v w' => φTl W2.heap.size bt p9 f v0 gp tb to9 ts.length cap q d 3 v w' ∧ Below W3.heap.size W3 w') ?_ (fun v w' h => ⟨h.1,hJ.step h.2 (rows_ne (li:=[18]) (ls:=[49]) rfl rfl (by decide) (by decide)) v,RowsE.of h.2⟩)
       exact ⟨hkn 5 (by decide),Below.refl _ _⟩
      ·obtain rfl:=Option.some.inj ho
       refine OpV.mono (R:=fun v w' => φTl W2.heap.size bt p9 f v0 gp tb to9 ts.length cap q d 4 v w' ∧ Below W3.heap.size W3 w') ?_ (fun v w' h => ⟨h.1,hJ.step h.2 (rows_ne (li:=[18]) (ls:=[49]) rfl rfl (by decide) (by decide)) v,RowsE.of h.2⟩)
       have h0:=slotv (hkn 9 (by decide) : a.tmps.getD 9 undef = .pointer (some ⟨p9,0,none⟩))
       clear hkn ho
       simp only [OpV,execOp]
       simp [go_sem,h0]
       all_goals first | exact ⟨rfl,Below.refl _ _⟩ | exact Below.refl _ _
      ·obtain rfl:=Option.some.inj ho
       refine OpV.mono (R:=fun v w' => φTl W2.heap.size bt p9 f v0 gp tb to9 ts.length cap q d 5 v w' ∧ Below W3.heap.size W3 w') ?_ (fun v w' h => ⟨h.1,hJ.step h.2 (rows_ne (li:=[18]) (ls:=[49]) rfl rfl (by decide) (by decide)) v,RowsE.of h.2⟩)
       have h0:=slotv (hkn 35 (by decide) : a.tmps.getD 35 undef = .pointer (some ⟨p9,0,none⟩))
       have hfb:=(HCC.out W3 _ _ hJ).2.1
       have hcc : W3.cell? ⟨p9,0,none⟩ = some (.string f.name):=cell_h hfb 0 rfl
       clear hfb
       clear hkn ho
       simp only [OpV,execOp]
       simp [go_sem,h0,hcc]
       all_goals first | exact ⟨rfl,Below.refl _ _⟩ | exact Below.refl _ _
      ·obtain rfl:=Option.some.inj ho
       refine OpV.mono (R:=fun v w' => φTl W2.heap.size bt p9 f v0 gp tb to9 ts.length cap q d 6 v w' ∧ Below W3.heap.size W3 w') ?_ (fun v w' h => ⟨h.1,hJ.step h.2 (rows_ne (li:=[18]) (ls:=[49]) rfl rfl (by decide) (by decide)) v,RowsE.of h.2⟩)
       have h0:=slotv (hkn 34 (by decide) : a.tmps.getD 34 undef = .map (some bt))
       have h1:=slotv (hkn 36 (by decide) : a.tmps.getD 36 undef = .string f.name)
       have hlk:=HLK.out W3 (HCC.out W3 _ _ hJ).2.2
       clear hkn ho
       simp only [OpV,execOp]
       simp [go_sem,h0,h1,hlk]
       all_goals first | exact ⟨rfl,Below.refl _ _⟩ | exact Below.refl _ _
      ·obtain rfl:=Option.some.inj ho
       refine OpV.mono (R:=fun v w' => φTl W2.heap.size bt p9 f v0 gp tb to9 ts.length cap q d 7 v w' ∧ Below W3.heap.size W3 w') ?_ (fun v w' h => ⟨h.1,hJ.step h.2 (rows_ne (li:=[18]) (ls:=[49]) rfl rfl (by decide) (by decide)) v,RowsE.of h.2⟩)
       exact ⟨hkn 0 (by decide),Below.refl _ _⟩
      ·obtain rfl:=Option.some.inj ho
       refine OpV.mono (R:=fun v w' => φTl W2.heap.size bt p9 f v0 gp tb to9 ts.length cap q d 8 v w' ∧ Below W3.heap.size W3 w') ?_ (fun v w' h => ⟨h.1,hJ.step h.2 (rows_ne (li:=[18]) (ls:=[49]) rfl rfl (by decide) (by decide)) v,RowsE.of h.2⟩)
       have h0:=slotv (hkn 38 (by decide) : a.tmps.getD 38 undef = .pointer (some ⟨gp,0,none⟩))
       clear hkn ho
       simp only [OpV,execOp]
       simp [go_sem,h0]
       all_goals first | exact ⟨rfl,Below.refl _ _⟩ | exact Below.refl _ _
      ·obtain rfl:=Option.some.inj ho
       refine OpV.mono (R:=fun v w' => φTl W2.heap.size bt p9 f v0 gp tb to9 ts.length cap q d 9 v w' ∧ Below W3.heap.size W3 w') ?_ (fun v w' h => ⟨h.1,hJ.step h.2 (rows_ne (li:=[18]) (ls:=[49]) rfl rfl (by decide) (by decide)) v,RowsE.of h.2⟩)
       have h0:=slotv (hkn 39 (by decide) : a.tmps.getD 39 undef = .pointer (some ⟨gp,0,none⟩))
       clear hkn ho
       simp only [OpV,execOp]
       simp [go_sem,h0]
       all_goals first | exact ⟨rfl,Below.refl _ _⟩ | exact Below.refl _ _
      ·obtain rfl:=Option.some.inj ho
       refine OpV.mono (R:=fun v w' => φTl W2.heap.size bt p9 f v0 gp tb to9 ts.length cap q d 10 v w' ∧ Below W3.heap.size W3 w') ?_ (fun v w' h => ⟨h.1,hJ.step h.2 (rows_ne (li:=[18]) (ls:=[49]) rfl rfl (by decide) (by decide)) v,RowsE.of h.2⟩)
       have h0:=slotv (hkn 40 (by decide) : a.tmps.getD 40 undef = .pointer (some ⟨gp,4,none⟩))
       have hgk:=(HCC.out W3 _ _ hJ).1 gp _ HGO.out
       simp only [grpObj] at hgk
       have hcc : W3.cell? ⟨gp,4,none⟩ = some (.slice (some ⟨tb,to9,none⟩) ts.length cap):=cell_h hgk 4 rfl
       clear hgk
       clear hkn ho
       simp only [OpV,execOp]
       simp [go_sem,h0,hcc]
       all_goals first | exact ⟨rfl,Below.refl _ _⟩ | exact Below.refl _ _
      ·obtain rfl:=Option.some.inj ho
       refine OpV.mono (R:=fun v w' => φTl W2.heap.size bt p9 f v0 gp tb to9 ts.length cap q d 11 v w' ∧ Below W3.heap.size W3 w') ?_ (fun v w' h => ⟨h.1,hJ.step h.2 (rows_ne (li:=[18]) (ls:=[49]) rfl rfl (by decide) (by decide)) v,RowsE.of h.2⟩)
       exact ⟨hkn 7 (by decide),Below.refl _ _⟩
      ·obtain rfl:=Option.some.inj ho
       refine OpV.mono (R:=fun v w' => φTl W2.heap.size bt p9 f v0 gp tb to9 ts.length cap q d 12 v w' ∧ Below W3.heap.size W3 w') ?_ (fun v w' h => ⟨h.1,hJ.step h.2 (rows_ne (li:=[18]) (ls:=[49]) rfl rfl (by decide) (by decide)) v,RowsE.of h.2⟩)
       have h0:=slotv (hkn 41 (by decide) : a.tmps.getD 41 undef = .slice (some ⟨tb,to9,none⟩) ts.length cap)
       have h1:=slotv (hkn 42 (by decide) : a.tmps.getD 42 undef = .int .i64 (q : Nat))
       have hq0 : (0 : Int) ≤ (q : Int):=by omega
       have hq9:=HQL.out
       clear hkn ho
       simp only [OpV,execOp]
       simp [go_sem,h0,h1,hq9]
       all_goals first | exact ⟨rfl,Below.refl _ _⟩ | exact Below.refl _ _
      ·obtain rfl:=Option.some.inj ho
       refine OpV.mono (R:=fun v w' => φTl W2.heap.size bt p9 f v0 gp tb to9 ts.length cap q d 13 v w' ∧ Below W3.heap.size W3 w') ?_ (fun v w' h => ⟨h.1,hJ.step h.2 (rows_ne (li:=[18]) (ls:=[49]) rfl rfl (by decide) (by decide)) v,RowsE.of h.2⟩)
       have h0:=slotv (hkn 43 (by decide) : a.tmps.getD 43 undef = .pointer (some ⟨tb,to9 + q * 5,none⟩))
       obtain ⟨k0,k1,k2,k3,k4⟩:=HTC.out W3 (HCC.out W3 _ _ hJ).1
       clear hkn ho
       simp only [OpV,execOp]
       simp [go_sem,h0,k0,k1,k2,k3,k4]
       all_goals first | exact ⟨rfl,Below.refl _ _⟩ | exact Below.refl _ _
      ·obtain rfl:=Option.some.inj ho
       refine OpV.mono (R:=fun v w' => φTl W2.heap.size bt p9 f v0 gp tb to9 ts.length cap q d 14 v w' ∧ Below W3.heap.size W3 w') ?_ (fun v w' h => ⟨h.1,hJ.step h.2 (rows_ne (li:=[18]) (ls:=[49]) rfl rfl (by decide) (by decide)) v,RowsE.of h.2⟩)
       have h0:=slotv (hkn 9 (by decide) : a.tmps.getD 9 undef = .pointer (some ⟨p9,0,none⟩))
       clear hkn ho
       simp only [OpV,execOp]
       simp [go_sem,h0]
       all_goals first | exact ⟨rfl,Below.refl _ _⟩ | exact Below.refl _ _
      ·obtain rfl:=Option.some.inj ho
       refine OpV.mono (R:=fun v w' => φTl W2.heap.size bt p9 f v0 gp tb to9 ts.length cap q d 15 v w' ∧ Below W3.heap.size W3 w') ?_ (fun v w' h => ⟨h.1,hJ.step h.2 (rows_ne (li:=[18]) (ls:=[49]) rfl rfl (by decide) (by decide)) v,RowsE.of h.2⟩)
       have h0:=slotv (hkn 45 (by decide) : a.tmps.getD 45 undef = .pointer (some ⟨p9,1,none⟩))
       have hfb:=(HCC.out W3 _ _ hJ).2.1
       have k0 : W3.cell? ⟨p9,1,none⟩ = some (.int .i64 f.v.kind):=cell_h hfb 1 rfl
       have k1 : W3.cell? ⟨p9,1 + 1,none⟩ = some (.string f.v.text):=cell_h hfb 2 rfl
       have k2 : W3.cell? ⟨p9,1 + 2,none⟩ = some (.int .i64 f.v.num):=cell_h hfb 3 rfl
       clear hfb
       clear hkn ho
       simp only [OpV,execOp]
       simp [go_sem,h0,k0,k1,k2]
       all_goals first | exact ⟨rfl,Below.refl _ _⟩ | exact Below.refl _ _
      ·obtain rfl:=Option.some.inj ho
       refine OpV.mono (R:=fun v w' => φTl W2.heap.size bt p9 f v0 gp tb to9 ts.length cap q d 16 v w' ∧ Below W3.heap.size W3 w') ?_ (fun v w' h => ⟨h.1,hJ.step h.2 (rows_ne (li:=[18]) (ls:=[49]) rfl rfl (by decide) (by decide)) v,RowsE.of h.2⟩)
       have h0:=slotv (hkn 44 (by decide) : a.tmps.getD 44 undef = .agg #[.int .i64 d.no,.int .i64 d.at_,.string d.source,.slice d.ia d.ids.length d.ic,.slice d.fa d.fields.length d.fc])
       have h1:=slotv (hkn 46 (by decide) : a.tmps.getD 46 undef = .agg #[.int .i64 f.v.kind,.string f.v.text,.int .i64 f.v.num])
       clear hkn ho
       simp only [OpV,execOp]
       simp [go_sem,h0,h1]
       all_goals first | exact ⟨rfl,Below.refl _ _⟩ | exact Below.refl _ _
      ·obtain rfl:=Option.some.inj ho
       refine OpV.mono (R:=fun v w' => φTl W2.heap.size bt p9 f v0 gp tb to9 ts.length cap q d 17 v w' ∧ Below W3.heap.size W3 w') ?_ (fun v w' h => ⟨h.1,hJ.step h.2 (rows_ne (li:=[18]) (ls:=[49]) rfl rfl (by decide) (by decide)) v,RowsE.of h.2⟩)
       have h0:=slotv (hkn 47 (by decide) : a.tmps.getD 47 undef = .agg #[.int .i64 d.no,.int .i64 d.at_,.string d.source,.slice d.ia d.ids.length d.ic,.slice d.fa d.fields.length d.fc,.int .i64 f.v.kind,.string f.v.text,.int .i64 f.v.num])
       clear hkn ho
       simp only [OpV,execOp]
       simp [go_sem,h0]
       exact ⟨⟨W3.heap.size,rfl,hJ.size,heap_alloc_new _ _⟩,new1 _⟩
      ·obtain rfl:=Option.some.inj ho
       have h1:=slotv (hkn 37 (by decide) : a.tmps.getD 37 undef = v0)
       obtain ⟨bq,h2,hb0,hh⟩ : TmpS W2.heap.size (a.tmps.getD 48 undef) #[.int .i64 d.no,.int .i64 d.at_,.string d.source,.slice d.ia d.ids.length d.ic,.slice d.fa d.fields.length d.fc,.int .i64 f.v.kind,.string f.v.text,.int .i64 f.v.num] 167 W3:=hkn 48 (by decide)
       replace h2:=slotv h2
       refine OpV.mono (hJ.app (t:=⟨18,49,v0,B,167,8,zn,x12,zn + 1,x12 ++ [.int .i64 d.no,.int .i64 d.at_,.string d.source,.slice d.ia d.ids.length d.ic,.slice d.fa d.fields.length d.fc,.int .i64 f.v.kind,.string f.v.text,.int .i64 f.v.num]⟩) (by simp [tsTl]) rfl (ready_not hr (by show (18 : Nat) < L.size; rw [hLs]; decide)) (by show (18 : Nat) < L.size; rw [hLs]; decide) (by show (49 : Nat) < a.tmps.size; rw [hsN]; decide) (rows_other (li:=[18]) (ls:=[49]) rfl rfl (by decide) (by decide) (by simp [tsTl])) (nodup_of_map (f:=RowT.i) (show ([18] : List Nat).Nodup by decide)) (HLT0.out) (.tmp 37) (.tmp 48) 162 rfl i0 (.agg #[.int .i64 0,.int .i64 0,.string ⟨#[]⟩,.slice none 0 0,.slice none 0 0,.int .i64 0,.string ⟨#[]⟩,.int .i64 0]) 112 Tryz.underlying162 HI0.out hz0 hz1 hz2 rfl (show (0 : Nat) < 8 by decide) (by simpa [Act.eval,tsTl] using h1) bq #[.int .i64 d.no,.int .i64 d.at_,.string d.source,.slice d.ia d.ids.length d.ic,.slice d.fa d.fields.length d.fc,.int .i64 f.v.kind,.string f.v.text,.int .i64 f.v.num] 167 (by simpa [Act.eval] using h2) hh rfl (by simp [Value.oneCell']) rfl rfl (by have:=HZN.out; show zn ≤ _; omega) (by decide) (by have:=HBB.out; show B ≤ _; omega)) (fun v w' h => ⟨trivial,h.1,h.2⟩)
     ·intro yv W9 L9 hL9 hW9 hgt hφ
      obtain ⟨ho9,ha9⟩:=tsTl_own hW9 (hL9 18 (by decide)) (hgt 18 49 rfl)
      have hcc9:=HCC.out _ _ _ hW9
      have hφ0 : yv 0 = .map (some bt):=by
       rcases hφ 0 (by decide) with h | h
       ·exact h
       ·exact absurd h.1 (by decide)
      have hφ2 : yv 2 = .string f.name:=by
       rcases hφ 2 (by decide) with h | h
       ·exact h
       ·exact absurd h.1 (by decide)
      have hM9:=HMP.out W9 hcc9.2.2
      have HO9:=Lib.hid ho9
      have HA9:=Lib.hid ha9
      have HW9:=Lib.hid hW9
      have HM9:=Lib.hid hM9
      clear hgt hφ hL9 HROWS HAPT HLT0 HCC ho9 ha9 hW9 hcc9 hM9 HLK HMP
      simp only [List.drop_succ_cons,List.drop_zero,List.take_succ_cons,List.take_zero,putAll,Nat.reduceAdd,hφ0,hφ2]
      clear hφ0 hφ2
      generalize yv 18 = v9 at *
      generalize yv 1 = y1
      generalize yv 3 = y3
      generalize yv 4 = y4
      generalize yv 5 = y5
      generalize yv 6 = y6
      generalize yv 7 = y7
      generalize yv 8 = y8
      generalize yv 9 = y9
      generalize yv 10 = y10
      generalize yv 11 = y11
      generalize yv 12 = y12
      generalize yv 13 = y13
      generalize yv 14 = y14
      generalize yv 15 = y15
      generalize yv 16 = y16
      generalize yv 17 = y17
      have hdl:=HFF.out.1
      go_wp2_with (at_mapUpdate; refine wpList_mp_set W9 rfl (.tmp 31) (.tmp 33) (.tmp 49) 163 rfl 9 162 strKeyed Tryz.underlying163 bt n m (by go_simp) HM9.out HNL.out (.string f.name) v9 (codeLit f.name) (by go_simp) (by go_simp) HKY.out ?_; intro w5 hM5 hg5 hz5; have J5:=Lib.hid (tell_put HPUT.out HSU.out HCELL.out HZL.out HBB.out.2.2.2 HW9.out HO9.out HA9.out hM5 hg5 hz5); clear hM5 hg5 hz5)
      go_roundw
      case rel => exact ⟨j + 1,by omega,by go_num,J5⟩
      case measure => simp [intOf]; omega
    ·have hje : j = d.fields.length:=by omega
     subst hje
     have JE : Hid (∃ n m,HavT w B bt (tellA ts (qs.take (i + 1))) n m wr):=by rw [← HFULL.out]; exact J.out
     clear J
     go_wp2_with fail
     go_roundw
     case rel => exact ⟨i + 1,by omega,by go_num,JE⟩
     case measure => simp [intOf]; omega
  ·have hie : i = qs.length:=by omega
   subst hie
   have HF : Hid (TellPost w ts qs (.returned (.map (some bt))) wr):=by
    obtain ⟨n,m,h⟩:=J.out
    rw [List.take_length] at h
    have h3:=HNUM.out
    refine ⟨bt,n,m,rfl,?_⟩
    rw [← h3.2]
    exact h
   clear J
   go_wp2_with fail
   go_ret
   exact HF.out
open Go.RowKit
theorem setCells_at (b : Nat) (T : TypeId) (f : Nat × Nat) : ∀ (vs : List Value) (o : Nat) (w : World) (c : Array Value),w.heap[b]? = some (.cells c T f) → o + vs.length ≤ c.size →
  ∃ c' : Array Value,(w.setCells b o vs).heap[b]? = some (.cells c' T f) ∧ c'.size = c.size ∧ ∀ j,c'[j]? = if o ≤ j ∧ j < o + vs.length then vs[j - o]? else c[j]?
 | [],o,w,c,h,_ => ⟨c,h,rfl,fun j => by rw [if_neg (by rintro ⟨h1,h2⟩; have : ([] : List Value).length = 0:=rfl; omega)]⟩
 | v :: vs,o,w,c,h,hl => by
  have h1 : (w.setCell ⟨b,o,none⟩ v).heap[b]? = some (.cells (c.setIfInBounds o v) T f):=by
   simp [World.setCell,Array.getElem?_modify,h]
  have hl' : o + 1 + vs.length ≤ c.size:=by simp at hl; omega
  obtain ⟨c',h2,h3,h4⟩:=setCells_at b T f vs (o + 1) _ _ h1 (by simpa using hl')
  refine ⟨c',h2,by rw [h3]; simp,fun j => ?_⟩
  rw [h4 j]
  by_cases hj : o = j
  ·subst hj
   rw [if_neg (by omega),if_pos (by simp),Array.getElem?_setIfInBounds]
   simp
   omega
  ·by_cases hj2 : o + 1 ≤ j ∧ j < o + 1 + vs.length
   ·rw [if_pos hj2,if_pos (by simp; omega),show j - o = (j - (o + 1)) + 1 from by omega]
    simp
   ·rw [if_neg hj2,if_neg (by simp; omega),Array.getElem?_setIfInBounds,if_neg hj]
theorem setCells_whole {w : World} {b : Nat} {T : TypeId} {f : Nat × Nat} {c cs : Array Value} (h : w.heap[b]? = some (.cells c T f)) (hs : cs.size = c.size) : (w.setCells b 0 cs.toList).heap[b]? = some (.cells cs T f):=by
 obtain ⟨c',h1,h2,h3⟩:=setCells_at b T f cs.toList 0 w c h (by simp [hs])
 rw [h1]
 congr 2
 apply Array.ext
 ·rw [h2,hs]
 ·intro j hj1 hj2
  have:=h3 j
  rw [if_pos (by simp; omega)] at this
  simp at this
  rw [Array.getElem?_eq_getElem hj1,Array.getElem?_eq_getElem hj2] at this
  exact Option.some.inj this
theorem setCells_grown (b : Nat) : ∀ (vs : List Value) (o : Nat) (w : World),w.grownBy (w.setCells b o vs) (some b) ∧ (w.setCells b o vs).heap.size = w.heap.size
 | [],o,w => ⟨World.grownBy.refl _ _,rfl⟩
 | v :: vs,o,w => by
  obtain ⟨h1,h2⟩:=setCells_grown b vs (o + 1) (w.setCell ⟨b,o,none⟩ v)
  have h3 : (w.setCell ⟨b,o,none⟩ v).heap.size = w.heap.size:=by simp [World.setCell]
  refine ⟨⟨h1.os,h1.tape,h1.output,Nat.le_trans (Nat.le_of_eq h3.symm) h1.size,fun k hk hne => ?_⟩,h2.trans h3⟩
  exact (h1.block k (by omega) hne).trans (Below.heap_setCell w _ _ k (fun e => hne (by rw [e])))
def isT (T : TypeId) (o : Obj) : Prop:=∃ cs fr,o = .cells cs T fr
def ET (T : TypeId) (w w' : World) : Prop:=w.heap.size ≤ w'.heap.size ∧ (∀ (p : Nat) (o : Obj),w.heap[p]? = some o → ¬ isT T o → w'.heap[p]? = some o) ∧ (∀ (p : Nat) (cs : Array Value),w.heap[p]? = some (.cells cs T (0,0)) → ∃ cs' : Array Value,w'.heap[p]? = some (.cells cs' T (0,0)) ∧ cs'.size = cs.size)
section
variable {T : TypeId} {w w' : World}
theorem ET.of (h : Below w.heap.size w w') : ET T w w':=⟨h.size,fun p o e _ => (h.block p (lt_of_heap e)).trans e,fun p cs e => ⟨cs,(h.block p (lt_of_heap e)).trans e,rfl⟩⟩
theorem ET.store {b : Nat} {c cs : Array Value} (hb : w.heap[b]? = some (.cells c T (0,0))) (hs : cs.size = c.size) (hg : w.grownBy w' (some b)) (hn : w'.heap[b]? = some (.cells cs T (0,0))) : ET T w w':=by
 refine ⟨hg.size,fun p o e hno => ?_,fun p c2 e => ?_⟩
 ·by_cases hp : p = b
  ·subst hp
   exact absurd ⟨c,(0,0),Option.some.inj (e.symm.trans hb)⟩ hno
  ·exact (hg.block p (lt_of_heap e) (fun c => hp (by injection c))).trans e
 ·by_cases hp : p = b
  ·subst hp
   have:=Option.some.inj (e.symm.trans hb)
   injection this with h1
   exact ⟨cs,hn,by rw [hs,h1]⟩
  ·exact ⟨c2,(hg.block p (lt_of_heap e) (fun c => hp (by injection c))).trans e,rfl⟩
theorem ET.row {D : Type} {B U k : Nat} {f : D → Nat → Value} {v : Value} {ds : List D} (h : ET T w w') (hU : U ≠ T) (ho : Orow w B U k f v ds) : Orow w' B U k f v ds:=by
 refine ⟨ho.1,?_⟩
 rcases ho.2 with h1 | ⟨g,cap,cur,hv,hg,hh,r⟩
 ·exact Or.inl h1
 ·refine Or.inr ⟨g,cap,cur,hv,hg,h.2.1 g _ hh ?_,r⟩
  rintro ⟨cs,fr,e⟩
  injection e with _ e2
  exact hU e2
def NT (T : TypeId) (H : Frz) : Prop:=∀ p o,H p = some o → ¬ isT T o
theorem ET.inn {H : Frz} (h : ET T w w') (hn : NT T H) (hi : H.In w) : H.In w':=fun b o e => h.2.1 b o (hi b o e) (hn b o e)
theorem NT.empty (T : TypeId) : NT T Frz.empty:=fun _ _ h => by cases h
theorem NT.add {H : Frz} (h : NT T H) {n : Nat} {o : Obj} (ho : ¬ isT T o) : NT T (H.add n o):=fun p o' e => by
 unfold Frz.add at e
 split at e
 ·injection e with e; subst e; exact ho
 ·exact h p o' e
end
structure BoxJ (T : TypeId) (ia sa js : Nat) (H : Frz) (W0 : World) (G : Array Value → World → Prop) (L : Array Bool) (a : Act) (w : World) : Prop where
 inn : H.In w
 bel : Below W0.heap.size W0 w
 st : L.getD js false = true → L.getD ia false = true ∧ ∃ (b : Nat) (cs : Array Value),a.tmps.getD sa undef = .pointer (some ⟨b,0,none⟩) ∧ W0.heap.size ≤ b ∧ w.heap[b]? = some (.cells cs T (0,0)) ∧ G cs w
section
variable {T : TypeId} {ia sa js : Nat} {H : Frz} {W0 : World} {G : Array Value → World → Prop} {L : Array Bool} {a : Act} {w w' : World}
theorem BoxJ.start (hH : H.In W0) (m : Nat) (a : Act) : BoxJ T ia sa js H W0 G (Array.replicate m false) a W0.drew :=
 ⟨hH,(Below.refl _ _).drew,fun h => by rw [getD_replicate_false] at h; cases h⟩
theorem BoxJ.step (h : BoxJ T ia sa js H W0 G L a w) (hG : ∀ cs,Below w.heap.size w w' → G cs w → G cs w') (hb : Below w.heap.size w w') {i d : Nat} (hi : i ≠ js) (hi2 : i ≠ ia) (hd : d ≠ sa) (v : Value) : BoxJ T ia sa js H W0 G (L.setIfInBounds i true) (a.put (some d) v) w':=by
 refine ⟨h.inn.below hb,h.bel.trans (hb.mono h.bel.size),fun hl => ?_⟩
 rw [getD_set_ne false hi] at hl
 obtain ⟨h1,b,cs,h2,h3,h4,h5⟩:=h.st hl
 refine ⟨by rw [getD_set_ne false hi2]; exact h1,b,cs,?_,h3,(hb.block b (lt_of_heap h4)).trans h4,hG cs hb h5⟩
 simp only [Act.put,Array.getD_eq_getD_getElem?,Array.getElem?_setIfInBounds]
 rw [if_neg hd,← Array.getD_eq_getD_getElem?]
 exact h2
theorem BoxJ.new (h : BoxJ T ia sa js H W0 G L a w) (hb : Below w.heap.size w w') (hia : L.getD ia true = false) (hne : ia ≠ js) (v : Value) : BoxJ T ia sa js H W0 G (L.setIfInBounds ia true) (a.put (some sa) v) w':=by
 refine ⟨h.inn.below hb,h.bel.trans (hb.mono h.bel.size),fun hl => ?_⟩
 rw [getD_set_ne false hne] at hl
 obtain ⟨h1,-⟩:=h.st hl
 simp only [Array.getD_eq_getD_getElem?] at h1 hia
 cases e : L[ia]? with
 | none => rw [e] at h1; cases h1
 | some x => rw [e] at h1 hia; simp at h1 hia; rw [h1] at hia; cases hia
theorem BoxJ.store (h : BoxJ T ia sa js H W0 G L a w) {b : Nat} {cs : Array Value} (hp : a.tmps.getD sa undef = .pointer (some ⟨b,0,none⟩)) (hb0 : W0.heap.size ≤ b) (hia : L.getD ia false = true) (hne : js ≠ ia) (hno : H b = none)
  (hg : w.grownBy w' (some b)) (hn : w'.heap[b]? = some (.cells cs T (0,0))) (hG : G cs w') (v : Value) : BoxJ T ia sa js H W0 G (L.setIfInBounds js true) (a.put none v) w' :=
 ⟨h.inn.grown hg hno,h.bel.grown hg h.bel.size (fun q hq => by injection hq with hq; omega),fun _ => ⟨by rw [getD_set_ne false hne]; exact hia,b,cs,hp,hb0,hn,hG⟩⟩
end
def BoxP (T : TypeId) (S n : Nat) (v : Value) (w : World) : Prop:=∃ (b : Nat) (cs : Array Value),v = .pointer (some ⟨b,0,none⟩) ∧ S ≤ b ∧ w.heap[b]? = some (.cells cs T (0,0)) ∧ cs.size = n
theorem BoxP.mono {T : TypeId} {S n : Nat} {v : Value} {w w' : World} (e : ET T w w') (h : BoxP T S n v w) : BoxP T S n v w':=by
 obtain ⟨b,cs,h1,h2,h3,h4⟩:=h
 obtain ⟨cs',h5,h6⟩:=e.2.2 b cs h3
 exact ⟨b,cs',h1,h2,h5,h6.trans h4⟩
end Go.Proofs.YtbidhpgjmcedaaaGreatDoor
