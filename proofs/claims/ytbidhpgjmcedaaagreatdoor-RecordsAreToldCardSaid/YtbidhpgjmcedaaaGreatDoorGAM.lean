/- Texts of this claim, put together: NewG, Bsf, BsfId. -/
import Derived.Test.YtbidhpgjmcedaaaGreatDoorGAL
import Derived.StillTailTactics
import Derived.Deep.Cut
import Derived.Test.YtbidhpgjmcedaaaGreatDoorGAB
import Derived.IntWalk
import Derived.Test.YtbidhpgjmcedaaaGreatDoorGAC
import Derived.Test.YtbidhpgjmcedaaaGreatDoorGAE
namespace Go.Proofs.YtbidhpgjmcedaaaGreatDoor
set_option linter.unusedVariables false
open Go.RowKit
def grpObj (r : RulD) (A : Option Addr) (n cap bm : Nat) : Obj:=.cells #[.slice r.ka r.kinds.length r.kc,.int .i64 r.most,.slice r.wa r.weaks.length r.wc,.slice r.sa r.surs.length r.sc,.slice A n cap,.map (some bm)] 152
def φNg {gp bm : Nat} (x : IdD) (v0 : Value) (ii : Int) (i : Nat) (v : Value) (_ : World) : Prop :=
 match i with
 | 0 => v = .pointer (some ⟨gp,0,none⟩)
 | 1 => v = .pointer (some ⟨gp,0,none⟩)
 | 2 => v = .pointer (some ⟨gp,5,none⟩)
 | 3 => v = .map (some bm)
 | 4 => v = .agg #[.int .i64 x.kind,.string x.text]
 | 5 => v = .int .i64 ii
 | 7 => ∃ st : Nat,v = .tuple #[v0,goInt st]
 | 8 => v = v0
 | _ => True
def NewGPost (w : World) (r : RulD) (A : Option Addr) (cap : Nat) (ts : List TchD) (e : Ending) (w' : World) : Prop:=∃ gp bm n m,e = .returned (.pointer (some ⟨gp,0,none⟩)) ∧ HavS w (w.heap.size + 3) bm (20 * ts.length) (posL ts) n m w' ∧ w'.heap[gp]? = some (grpObj r A ts.length cap bm) ∧ w.heap.size ≤ gp
set_option maxHeartbeats 4000000 in
set_option maxRecDepth 100000 in
theorem newGroup_any (H : Frz) (r : RulD) (A : Option Addr) (cap : Nat) (ts : List TchD) (w : World) (hH : H.In w) (hT : TchIn H A ts) (hl : ts.length ≤ 100000) (hil : ∀ t ∈ ts,t.ids.length ≤ 20 ∧ (∀ x ∈ t.ids,FitId x) ∧ t.ids.Pairwise (· ≠ ·)) :
  Calls Tryz.prog 84 #[.agg #[.slice r.ka r.kinds.length r.kc,.int .i64 r.most,.slice r.wa r.weaks.length r.wc,.slice r.sa r.surs.length r.sc],.slice A ts.length cap] w (NewGPost w r A cap ts):=by
 have HT:=Lib.hid hT
 have HH:=Lib.hid hH
 have HIL:=Lib.hid hil
 have hmm:=@run_makeMap Tryz.prog
 have HB1:=Lib.hid (new1 (w:=w) (.cells #[.slice r.ka r.kinds.length r.kc,.int .i64 r.most,.slice r.wa r.weaks.length r.wc,.slice r.sa r.surs.length r.sc] 44))
 have HM:=Lib.hid (((Mp.made Tryz.prog 55 (w.alloc (.cells #[.slice r.ka r.kinds.length r.kc,.int .i64 r.most,.slice r.wa r.weaks.length r.wc,.slice r.sa r.surs.length r.sc] 44))).alloc (grpObj r A ts.length cap (w.heap.size + 1))))
 have J0 : Hid (HavS w (w.heap.size + 3) (w.heap.size + 1) 0 (fun _ => []) 0 mpNew (((w.alloc (.cells #[.slice r.ka r.kinds.length r.kc,.int .i64 r.most,.slice r.wa r.weaks.length r.wc,.slice r.sa r.surs.length r.sc] 44)).alloc (.map #[] 0)).alloc (grpObj r A ts.length cap (w.heap.size + 1)))):=by
  refine HavS.start (((HB1.out).alloc HB1.out.size _).alloc (by simp; omega) _) ?_ (by omega) (by omega)
  have:=HM.out
  simpa using this
 have G0 : Hid ((((w.alloc (.cells #[.slice r.ka r.kinds.length r.kc,.int .i64 r.most,.slice r.wa r.weaks.length r.wc,.slice r.sa r.surs.length r.sc] 44)).alloc (.map #[] 0)).alloc (grpObj r A ts.length cap (w.heap.size + 1))).heap[w.heap.size + 2]? = some (grpObj r A ts.length cap (w.heap.size + 1))):=heap_at (by simp)
 clear hT hH hil HB1 HM
 have c0 : (w.alloc (.cells #[.slice r.ka r.kinds.length r.kc,.int .i64 r.most,.slice r.wa r.weaks.length r.wc,.slice r.sa r.surs.length r.sc] 44)).cell? ⟨w.heap.size,0,none⟩ = some (.slice r.ka r.kinds.length r.kc):=newc 0 rfl
 have c1 : (w.alloc (.cells #[.slice r.ka r.kinds.length r.kc,.int .i64 r.most,.slice r.wa r.weaks.length r.wc,.slice r.sa r.surs.length r.sc] 44)).cell? ⟨w.heap.size,1,none⟩ = some (.int .i64 r.most):=newc 1 rfl
 have c2 : (w.alloc (.cells #[.slice r.ka r.kinds.length r.kc,.int .i64 r.most,.slice r.wa r.weaks.length r.wc,.slice r.sa r.surs.length r.sc] 44)).cell? ⟨w.heap.size,2,none⟩ = some (.slice r.wa r.weaks.length r.wc):=newc 2 rfl
 have c3 : (w.alloc (.cells #[.slice r.ka r.kinds.length r.kc,.int .i64 r.most,.slice r.wa r.weaks.length r.wc,.slice r.sa r.surs.length r.sc] 44)).cell? ⟨w.heap.size,3,none⟩ = some (.slice r.sa r.surs.length r.sc):=newc 3 rfl
 go_enter Tryz.func84,Tryz.ntmps84
 go_wp2_with fail
 simp only [grpObj] at J0 G0
 clear c0 c1 c2 c3 hmm
 generalize ((w.alloc (.cells #[.slice r.ka r.kinds.length r.kc,.int .i64 r.most,.slice r.wa r.weaks.length r.wc,.slice r.sa r.surs.length r.sc] 44)).alloc (.map #[] 0)).alloc (.cells #[.slice r.ka r.kinds.length r.kc,.int .i64 r.most,.slice r.wa r.weaks.length r.wc,.slice r.sa r.surs.length r.sc,.slice A ts.length cap,.map (some (w.heap.size + 1))] 152) = W0 at *
 obtain ⟨sz,hsz⟩ : ∃ sz,sz = w.heap.size:=⟨_,rfl⟩
 obtain ⟨gp,hgp⟩ : ∃ gp,gp = w.heap.size + 1 + 1:=⟨_,rfl⟩
 obtain ⟨bm,hbm⟩ : ∃ bm,bm = w.heap.size + 1:=⟨_,rfl⟩
 obtain ⟨B,hB⟩ : ∃ B,B = w.heap.size + 3:=⟨_,rfl⟩
 rw [show w.heap.size + 2 = w.heap.size + 1 + 1 from rfl] at G0
 rw [← hgp,← hbm] at G0 ⊢
 rw [← hbm,← hB] at J0
 have HNUM : Hid (gp = w.heap.size + 2 ∧ bm = w.heap.size + 1 ∧ B = w.heap.size + 3):=⟨hgp,hbm,hB⟩
 clear hsz hgp hbm hB
 obtain ⟨GO,hGO⟩ : ∃ GO,GO = grpObj r A ts.length cap bm:=⟨_,rfl⟩
 have G0 : Hid (W0.heap[gp]? = some GO):=by rw [hGO]; exact G0.out
 have HGO:=Lib.hid hGO
 clear hGO
 go_loopw [17] (fun t wr => ∃ i : Nat,i ≤ ts.length ∧ t = .int .i64 i ∧ Hid (∃ n m,HavS w B bm (20 * i) (fun x => posN ts x i) n m wr) ∧ Hid (wr.heap[gp]? = some GO)) (fun t _ => ts.length - (intOf t).toNat)
 case atStart => exact ⟨0,by omega,rfl,⟨0,mpNew,J0.out.congr (fun x => rfl) (by omega)⟩,G0⟩
 case round =>
  obtain ⟨i,hi,rfl,J,G⟩:=hrel
  clear J0 G0
  by_cases hlt : i < ts.length
  ·obtain ⟨n,m,JS⟩:=J.out
   have HIN:=Lib.hid (HH.out.below JS.bel)
   obtain ⟨b,off,hA,_,hc⟩:=HT.out.1.at_ HIN.out hlt (by omega)
   have c0 : wr.cell? ⟨b,off + i * 5,none⟩ = some (.int .i64 ts[i].no):=hc 0 (by omega)
   have c1 : wr.cell? ⟨b,off + i * 5 + 1,none⟩ = some (.int .i64 ts[i].at_):=hc 1 (by omega)
   have c2 : wr.cell? ⟨b,off + i * 5 + 2,none⟩ = some (.string ts[i].source):=hc 2 (by omega)
   have c3 : wr.cell? ⟨b,off + i * 5 + 3,none⟩ = some (.slice ts[i].ia ts[i].ids.length ts[i].ic):=hc 3 (by omega)
   have c4 : wr.cell? ⟨b,off + i * 5 + 4,none⟩ = some (.slice ts[i].fa ts[i].fields.length ts[i].fc):=hc 4 (by omega)
   have HTI:=Lib.hid (HT.out.2 _ (List.getElem_mem hlt)).1
   have HTL:=Lib.hid (HIL.out _ (List.getElem_mem hlt))
   have HFULL:=Lib.hid (posIJ_full ts hlt)
   have hlt2 : (i : Int) < ts.length:=by omega
   have JA : Hid (∃ n m,HavS w B bm (20 * i + 0) (posIJ ts ts[i].ids i 0) n m wr):=⟨n,m,JS.congr (posIJ_zero ts _ i) (by omega)⟩
   subst hA
   clear hc J JS
   generalize ts[i] = d at *
   have z0 : (wr.alloc (.cells #[.int .i64 d.no,.int .i64 d.at_,.string d.source,.slice d.ia d.ids.length d.ic,.slice d.fa d.fields.length d.fc] 53)).cell? ⟨wr.heap.size,0,none⟩ = some (.int .i64 d.no):=newc 0 rfl
   have z1 : (wr.alloc (.cells #[.int .i64 d.no,.int .i64 d.at_,.string d.source,.slice d.ia d.ids.length d.ic,.slice d.fa d.fields.length d.fc] 53)).cell? ⟨wr.heap.size,1,none⟩ = some (.int .i64 d.at_):=newc 1 rfl
   have z2 : (wr.alloc (.cells #[.int .i64 d.no,.int .i64 d.at_,.string d.source,.slice d.ia d.ids.length d.ic,.slice d.fa d.fields.length d.fc] 53)).cell? ⟨wr.heap.size,2,none⟩ = some (.string d.source):=newc 2 rfl
   have z3 : (wr.alloc (.cells #[.int .i64 d.no,.int .i64 d.at_,.string d.source,.slice d.ia d.ids.length d.ic,.slice d.fa d.fields.length d.fc] 53)).cell? ⟨wr.heap.size,3,none⟩ = some (.slice d.ia d.ids.length d.ic):=newc 3 rfl
   have z4 : (wr.alloc (.cells #[.int .i64 d.no,.int .i64 d.at_,.string d.source,.slice d.ia d.ids.length d.ic,.slice d.fa d.fields.length d.fc] 53)).cell? ⟨wr.heap.size,4,none⟩ = some (.slice d.fa d.fields.length d.fc):=newc 4 rfl
   have HBN:=Lib.hid (new1 (w:=wr) (.cells #[.int .i64 d.no,.int .i64 d.at_,.string d.source,.slice d.ia d.ids.length d.ic,.slice d.fa d.fields.length d.fc] 53))
   go_upto_region 5 with (fail)
   clear c0 c1 c2 c3 c4
   have JB : Hid (∃ n m,HavS w B bm (20 * i + 0) (posIJ ts d.ids i 0) n m (wr.alloc (.cells #[.int .i64 d.no,.int .i64 d.at_,.string d.source,.slice d.ia d.ids.length d.ic,.slice d.fa d.fields.length d.fc] 53))):=by
    obtain ⟨n,m,h⟩:=JA.out
    exact ⟨n,m,h.call HBN.out⟩
   have GB : Hid ((wr.alloc (.cells #[.int .i64 d.no,.int .i64 d.at_,.string d.source,.slice d.ia d.ids.length d.ic,.slice d.fa d.fields.length d.fc] 53)).heap[gp]? = some GO):=(HBN.out.block _ (lt_of_heap G.out)).trans G.out
   clear JA G HBN
   generalize wr.alloc (.cells #[.int .i64 d.no,.int .i64 d.at_,.string d.source,.slice d.ia d.ids.length d.ic,.slice d.fa d.fields.length d.fc] 53) = W1 at *
   generalize d.ia = ia at *
   obtain ⟨W1',rfl⟩ : ∃ W1' : World,W1' = W1:=⟨_,rfl⟩
   go_wp2_with fail
   go_loopw [25] (fun t wr => ∃ j : Nat,j ≤ d.ids.length ∧ t = .int .i64 j ∧ Hid (∃ n m,HavS w B bm (20 * i + j) (posIJ ts d.ids i j) n m wr) ∧ Hid (wr.heap[gp]? = some GO)) (fun t _ => d.ids.length - (intOf t).toNat)
   case atStart => exact ⟨0,by omega,rfl,JB,GB⟩
   case round =>
    obtain ⟨j,hj,rfl,J,G⟩:=hrel
    clear JB GB
    by_cases hlj : j < d.ids.length
    ·obtain ⟨n,m,JS⟩:=J.out
     have HIN2:=Lib.hid (HH.out.below JS.bel)
     obtain ⟨b,off,hA2,_,hc⟩:=HTI.out.at_ HIN2.out hlj (by omega)
     have e0 : wr.cell? ⟨b,off + j * 2,none⟩ = some (.int .i64 d.ids[j].kind):=hc 0 (by omega)
     have e1 : wr.cell? ⟨b,off + j * 2 + 1,none⟩ = some (.string d.ids[j].text):=hc 1 (by omega)
     have HX:=Lib.hid (HTL.out.2.1 _ (List.getElem_mem hlj))
     have HSUC:=Lib.hid (posIJ_succ ts HTL.out.2.2 i hlj)
     have hlj2 : (j : Int) < d.ids.length:=by omega
     have hi0' : ∃ i0,Tryz.prog.info? 3 = some i0 ∧ i0.zero = some (.int .i64 0) ∧ i0.size = 1 ∧ i0.bytes = 8:=by
      obtain ⟨i0,h1,h2,h3,h4⟩:=info_parts (show (Tryz.prog.info? 3).map (fun i => (i.zero,i.size,i.bytes)) = some (some (.int .i64 0),1,8) by kernel_rfl)
      exact ⟨i0,h1,h2,h3,h4⟩
     obtain ⟨i0,hi0,hz0,hz1,hz2⟩:=hi0'
     have HI0:=Lib.hid hi0
     subst hA2
     clear J hc hi0
     generalize d.ids[j] = x at *
     have z0 : (wr.alloc (.cells #[.int .i64 x.kind,.string x.text] 55)).cell? ⟨wr.heap.size,0,none⟩ = some (.int .i64 x.kind):=newc 0 rfl
     have z1 : (wr.alloc (.cells #[.int .i64 x.kind,.string x.text] 55)).cell? ⟨wr.heap.size,1,none⟩ = some (.string x.text):=newc 1 rfl
     have HBN:=Lib.hid (new1 (w:=wr) (.cells #[.int .i64 x.kind,.string x.text] 55))
     go_upto_region 8 with (fail)
     clear e0 e1
     have JC:=Lib.hid (JS.call HBN.out)
     have GC : Hid ((wr.alloc (.cells #[.int .i64 x.kind,.string x.text] 55)).heap[gp]? = some GO):=(HBN.out.block _ (lt_of_heap G.out)).trans G.out
     have XC : Hid ((wr.alloc (.cells #[.int .i64 x.kind,.string x.text] 55)).heap[wr.heap.size]? = some (.cells #[.int .i64 x.kind,.string x.text] 55)):=heap_alloc_new _ _
     have HQX : Hid (gp < wr.heap.size):=lt_of_heap G.out
     have HQV : Hid (∀ g,((m (klId x)).getD nilV).ownBlock = some g → B ≤ g ∧ g < wr.heap.size):=fun g hg => (JS.row HX.out).lt hg
     have HQS : Hid (wr.heap.size < (wr.alloc (.cells #[.int .i64 x.kind,.string x.text] 55)).heap.size):=by show _ < _; simp
     clear JS G HBN
     generalize wr.heap.size = qx at *
     generalize wr.alloc (.cells #[.int .i64 x.kind,.string x.text] 55) = W2 at *
     have HGB : Hid (gp ≠ bm ∧ qx ≠ bm ∧ B ≤ W2.heap.size ∧ bm < W2.heap.size ∧ gp < W2.heap.size ∧ gp < B):=by
      have h1:=HNUM.out
      have h2:=HQX.out
      have h3:=HQS.out
      show _ ∧ _
      omega
     have HROW:=Lib.hid (JC.out.row HX.out)
     have HVB:=Lib.hid (JC.out.row_ne HX.out)
     have HENT : Hid (∀ W : World,W.heap[bm]? = W2.heap[bm]? → ∃ (st : Nat) (es1 : Array MapEntry) (c1 : Nat),(Instr.mapEntry 150 (.map (some bm)) (.agg #[.int .i64 x.kind,.string x.text])).run Tryz.prog W = .ok (.tuple #[(m (klId x)).getD nilV,goInt st]) (ChangeMaps.setBlock W bm (.map es1 c1)) ∧ StoreOk bm n m (klId x) st es1 c1):=fun W hW =>
      (JC.out.map.block hW).entry idLaw Tryz.underlying150 (fun u => by kernel_rfl) (by have:=JC.out.le; have:=HTL.out.1; simp only [maxLen]; omega) (keyId HX.out)
     have HPL:=Lib.hid (posIJ_le ts d.ids i j x)
     have HPUT:=Lib.hid (fun (W : World) (v' : Value) => JC.out.put (W':=W) (v':=v') (i:=(i : Int)) HX.out)
     obtain ⟨zs,hzs⟩ : ∃ zs,zs = posIJ ts d.ids i j x:=⟨_,rfl⟩
     rw [← hzs] at HROW HPL HSUC HPUT
     generalize hv0 : (m (klId x)).getD nilV = v0 at *
     have HVL : Hid (∀ g,v0.ownBlock = some g → g < W2.heap.size):=fun g hg => by
      have h1:=HQV.out g hg
      have h3:=HQS.out
      omega
     clear hv0 hzs JC
     have HGK : Hid (∃ c0 c1 c2 c3 c4,GO = .cells #[c0,c1,c2,c3,c4,.map (some bm)] 152 (0,0)):=⟨_,_,_,_,_,HGO.out⟩
     obtain ⟨g0,g1,g2,g3,g4,hGK⟩:=HGK.out
     have HGG : Hid (∀ L a W,EnJ W2 B bm n m (klId x) v0 zs i L a W → W.heap[gp]? = some (.cells #[g0,g1,g2,g3,g4,.map (some bm)] 152 (0,0))):=fun L a W h => by
      have h1:=HGB.out
      rw [← hGK]
      refine (h.keep gp h1.2.2.2.2.1 h1.1 (fun c => ?_)).trans GC.out
      have:=HQV.out gp c.symm
      omega
     have HXX : Hid (∀ L a W,EnJ W2 B bm n m (klId x) v0 zs i L a W → W.heap[qx]? = some (.cells #[.int .i64 x.kind,.string x.text] 55)):=fun L a W h => by
      have h1:=HGB.out
      refine (h.keep qx HQS.out h1.2.1 (fun c => ?_)).trans XC.out
      have:=HQV.out qx c.symm
      omega
     clear hGK HGK
     go_wp2_with fail
     refine wp_region_concV 11 43 (φNg (gp:=gp) (bm:=bm) x v0 i) (EnJ W2 B bm n m (klId x) v0 zs i) (fun _ _ => True) (by kernel_rfl) (by kernel_rfl) (by rfl) (EnJ.start HROW.out _ _) (fun i x w w' _ _ h => h) (fun i x w hi e _ => absurd e (by have hcs : i = 0 ∨ i = 1 ∨ i = 2 ∨ i = 3 ∨ i = 4 ∨ i = 5 ∨ i = 6 ∨ i = 7 ∨ i = 8 ∨ i = 9 ∨ i = 10:=(by omega); rcases hcs with rfl | rfl | rfl | rfl | rfl | rfl | rfl | rfl | rfl | rfl | rfl <;> decide)) ?_ ?_
     ·intro ii o hi8 ho a W3 L hr hsN hLs hJ hkn
      replace hsN : a.tmps.size = 43:=hsN
      have hcs : ii = 0 ∨ ii = 1 ∨ ii = 2 ∨ ii = 3 ∨ ii = 4 ∨ ii = 5 ∨ ii = 6 ∨ ii = 7 ∨ ii = 8 ∨ ii = 9 ∨ ii = 10:=by omega
      rcases hcs with rfl | rfl | rfl | rfl | rfl | rfl | rfl | rfl | rfl | rfl | rfl
      ·obtain rfl:=Option.some.inj ho
       refine OpV.mono (R:=fun v w' => φNg (gp:=gp) (bm:=bm) x v0 i 0 v w' ∧ w' = W3) ?_ (fun v w' h => ⟨h.1,h.2 ▸ hJ.read (by decide) (fun e => absurd e (by decide)) (by decide) _,trivial⟩)
       exact ⟨hkn 5 (by decide),rfl⟩
      ·obtain rfl:=Option.some.inj ho
       refine OpV.mono (R:=fun v w' => φNg (gp:=gp) (bm:=bm) x v0 i 1 v w' ∧ w' = W3) ?_ (fun v w' h => ⟨h.1,h.2 ▸ hJ.read (by decide) (fun e => absurd e (by decide)) (by decide) _,trivial⟩)
       have h0:=slotv (hkn 29 (by decide) : a.tmps.getD 29 undef = .pointer (some ⟨gp,0,none⟩))
       clear hkn ho
       simp only [OpV,execOp]
       simp [go_sem,h0]
       all_goals first | exact ⟨rfl,rfl⟩ | exact rfl
      ·obtain rfl:=Option.some.inj ho
       refine OpV.mono (R:=fun v w' => φNg (gp:=gp) (bm:=bm) x v0 i 2 v w' ∧ w' = W3) ?_ (fun v w' h => ⟨h.1,h.2 ▸ hJ.read (by decide) (fun e => absurd e (by decide)) (by decide) _,trivial⟩)
       have h0:=slotv (hkn 30 (by decide) : a.tmps.getD 30 undef = .pointer (some ⟨gp,0,none⟩))
       clear hkn ho
       simp only [OpV,execOp]
       simp [go_sem,h0]
       all_goals first | exact ⟨rfl,rfl⟩ | exact rfl
      ·obtain rfl:=Option.some.inj ho
       refine OpV.mono (R:=fun v w' => φNg (gp:=gp) (bm:=bm) x v0 i 3 v w' ∧ w' = W3) ?_ (fun v w' h => ⟨h.1,h.2 ▸ hJ.read (by decide) (fun e => absurd e (by decide)) (by decide) _,trivial⟩)
       have h0:=slotv (hkn 31 (by decide) : a.tmps.getD 31 undef = .pointer (some ⟨gp,5,none⟩))
       have hgk:=HGG.out _ _ _ hJ
       have p5 : W3.cell? ⟨gp,5,none⟩ = some (.map (some bm)):=cell_h hgk 5 rfl
       clear hkn ho hgk
       simp only [OpV,execOp]
       simp [go_sem,h0,p5]
       all_goals first | exact ⟨rfl,rfl⟩ | exact rfl
      ·obtain rfl:=Option.some.inj ho
       refine OpV.mono (R:=fun v w' => φNg (gp:=gp) (bm:=bm) x v0 i 4 v w' ∧ w' = W3) ?_ (fun v w' h => ⟨h.1,h.2 ▸ hJ.read (by decide) (fun e => absurd e (by decide)) (by decide) _,trivial⟩)
       have h0:=slotv (hkn 9 (by decide) : a.tmps.getD 9 undef = .pointer (some ⟨qx,0,none⟩))
       have hxk:=HXX.out _ _ _ hJ
       have z0 : W3.cell? ⟨qx,0,none⟩ = some (.int .i64 x.kind):=cell_h hxk 0 rfl
       have z1 : W3.cell? ⟨qx,1,none⟩ = some (.string x.text):=cell_h hxk 1 rfl
       clear hkn ho hxk
       simp only [OpV,execOp]
       simp [go_sem,h0,z0,z1]
       all_goals first | exact ⟨rfl,rfl⟩ | exact rfl
      ·obtain rfl:=Option.some.inj ho
       refine OpV.mono (R:=fun v w' => φNg (gp:=gp) (bm:=bm) x v0 i 5 v w' ∧ w' = W3) ?_ (fun v w' h => ⟨h.1,h.2 ▸ hJ.read (by decide) (fun e => absurd e (by decide)) (by decide) _,trivial⟩)
       exact ⟨hkn 6 (by decide),rfl⟩
      ·obtain rfl:=Option.some.inj ho
       have h0:=slotv (hkn 35 (by decide) : a.tmps.getD 35 undef = .int .i64 (i : Int))
       refine OpV.mono (R:=fun v w' => v = .slice (some ⟨W3.heap.size,0,none⟩) 1 1 ∧ w' = W3.alloc (.cells #[.int .i64 (i : Int)] 3)) ?_ (fun v w' h => ⟨trivial,?_,trivial⟩)
       ·clear hkn ho
        simp only [OpV,execOp]
        simp [go_sem,h0]
        all_goals first | exact ⟨rfl,rfl⟩ | exact rfl
       ·rw [h.1,h.2]
        exact hJ.build (by rw [hsN]; decide) HGB.out.2.2.2.1
      ·obtain rfl:=Option.some.inj ho
       have hnot:=ready_not hr (by show (7 : Nat) < L.size; rw [hLs]; decide)
       have h0:=slotv (hkn 32 (by decide) : a.tmps.getD 32 undef = .map (some bm))
       have h1:=slotv (hkn 33 (by decide) : a.tmps.getD 33 undef = .agg #[.int .i64 x.kind,.string x.text])
       obtain ⟨st,es1,c1,hrun,hst⟩:=HENT.out W3 (hJ.map0 hnot)
       refine OpV.mono (R:=fun v w' => v = .tuple #[v0,goInt st] ∧ w' = ChangeMaps.setBlock W3 bm (.map es1 c1)) ?_ (fun v w' h => ⟨⟨st,h.1⟩,?_,trivial⟩)
       ·clear hkn ho
        simp only [OpV,execOp]
        simp [go_sem,h0,h1,hrun]
        all_goals first | exact ⟨rfl,rfl⟩ | exact rfl
       ·rw [h.1,h.2]
        exact hJ.entry hnot (by show (7 : Nat) < L.size; rw [hLs]; decide) (by rw [hsN]; decide) HGB.out.2.2.2.1 HVB.out hst
      ·obtain rfl:=Option.some.inj ho
       have h7 : L.getD 7 false = true:=by
        obtain ⟨_,oi,hoi,hall⟩:=mem_ready.1 hr
        obtain rfl:=Option.some.inj hoi
        exact hall ⟨7,.data⟩ (by simp) rfl
       obtain ⟨st,h0⟩:=(hkn 37 (by decide) : ∃ st : Nat,a.tmps.getD 37 undef = .tuple #[v0,goInt st])
       have h0:=slotv h0
       refine OpV.mono (R:=fun v w' => v = v0 ∧ w' = W3) ?_ (fun v w' h => ⟨h.1,h.2 ▸ hJ.read (by decide) (fun _ => h7) (by decide) _,trivial⟩)
       clear hkn ho
       simp only [OpV,execOp]
       simp [go_sem,h0]
       all_goals first | exact ⟨rfl,rfl⟩ | exact rfl
      ·obtain rfl:=Option.some.inj ho
       have h8 : L.getD 8 false = true:=by
        obtain ⟨_,oi,hoi,hall⟩:=mem_ready.1 hr
        obtain rfl:=Option.some.inj hoi
        exact hall ⟨8,.data⟩ (by simp) rfl
       have h6 : L.getD 6 false = true:=by
        obtain ⟨_,oi,hoi,hall⟩:=mem_ready.1 hr
        obtain rfl:=Option.some.inj hoi
        exact hall ⟨6,.data⟩ (by simp) rfl
       have h0:=(hkn 34 (by decide) : a.tmps.getD 34 undef = v0)
       exact OpV.mono (hJ.appV (hJ.dep.1 h8) h6 (ready_not hr (by show (9 : Nat) < L.size; rw [hLs]; decide)) (by show (9 : Nat) < L.size; rw [hLs]; decide) (by rw [hsN]; decide) HGB.out.2.2.2.1 HVB.out HVL.out rfl rfl h0 i0 HI0.out hz0 hz1 hz2 (by have:=HPL.out; omega) HGB.out.2.2.1) (fun v w' h => ⟨trivial,h,trivial⟩)
      ·obtain rfl:=Option.some.inj ho
       have h7 : L.getD 7 false = true:=by
        obtain ⟨_,oi,hoi,hall⟩:=mem_ready.1 hr
        obtain rfl:=Option.some.inj hoi
        exact hall ⟨7,.data⟩ (by simp) rfl
       obtain ⟨st,h0⟩:=(hkn 37 (by decide) : ∃ st : Nat,a.tmps.getD 37 undef = .tuple #[v0,goInt st])
       have h0':=slotv h0
       refine OpV.mono (R:=fun v w' => v = goInt st ∧ w' = W3) ?_ (fun v w' h => ⟨trivial,h.2 ▸ hJ.stamp h7 (by rw [hsN]; decide) (fun st' e => ?_),trivial⟩)
       ·clear hkn ho
        simp only [OpV,execOp]
        simp [go_sem,h0']
        all_goals first | exact ⟨rfl,rfl⟩ | exact rfl
       ·rw [h.1]
        rw [h0] at e
        simp at e
        rw [e]
     ·intro yv W9 L9 hL9 hW9 hgt hφ
      obtain ⟨st,es1,c1,q1,q2,q3,q4⟩:=hW9.map1 (hL9 7 (by decide))
      obtain ⟨o1,o2⟩:=hW9.row1 (hL9 9 (by decide))
      have q4:=q4 (hL9 10 (by decide))
      rw [hgt 10 39 rfl] at q4
      rw [hgt 9 38 rfl] at o1 o2
      have hφ3 : yv 3 = .map (some bm):=by
       rcases hφ 3 (by decide) with h | h
       ·exact h
       ·exact absurd h.1 (by decide)
      obtain ⟨W10,hrun,m1,m2,m3⟩:=q3 W9 (yv 9) q2
      have hrun' : (Instr.entryStore 150 (.map (some bm)) (.int .i64 (st : Int)) (yv 9)).run Tryz.prog W9 = .ok () W10:=hrun
      have hst : yv 10 = .int .i64 (st : Int):=q4
      have hg9 : ∀ k,k < W2.heap.size → k ≠ bm → some k ≠ v0.ownBlock → W10.heap[k]? = W2.heap[k]?:=fun k k1 k2 k3 => (m2.block k (Nat.lt_of_lt_of_le k1 hW9.size) (fun c => by injection c with c; exact k2 c)).trans (hW9.keep k k1 k2 k3)
      have hj:=HPUT.out W10 (yv 9) (by rw [m3]; exact hW9.size) (m2.os.trans hW9.os) (m2.tape.trans hW9.tape) (m2.output.trans hW9.output) hg9 m1 (ownsRow_heap o1 (fun g hg => m2.block g (o1.lt hg).2 (fun c => by
       injection c with c
       have h1:=HGB.out
       have h2:=(o1.lt hg).1
       have h3:=HNUM.out
       omega))) o2
      have JN : Hid (∃ n m,HavS w B bm (20 * i + (j + 1)) (posIJ ts d.ids i (j + 1)) n m W10):=⟨_,_,hj.congr (fun y => HSUC.out y) (by omega)⟩
      have GN : Hid (W10.heap[gp]? = some GO):=by
       have h1:=HGB.out
       refine (hg9 gp h1.2.2.2.2.1 h1.1 (fun c => ?_)).trans GC.out
       have:=HQV.out gp c.symm
       omega
      clear q1 q2 q3 q4 o1 o2 hrun m1 m2 m3 hg9 hj hW9 hL9 hgt hφ HPUT HENT HGG HXX HSUC HVL HVB HROW GC XC HIN HIN2
      simp only [List.drop_succ_cons,List.drop_zero,List.take_succ_cons,List.take_zero,putAll,Nat.reduceAdd,hφ3,hst]
      clear hφ3 hst
      generalize yv 9 = v9 at *
      generalize yv 0 = y0
      generalize yv 1 = y1
      generalize yv 2 = y2
      generalize yv 4 = y4
      generalize yv 5 = y5
      generalize yv 6 = y6
      generalize yv 7 = y7
      generalize yv 8 = y8
      have hids:=HTL.out.1
      go_wp2_with fail
      go_roundw
      case rel => exact ⟨j + 1,by omega,by go_num,JN,GN⟩
      case measure => simp [intOf]; omega
    ·have hje : j = d.ids.length:=by omega
     subst hje
     have JE : Hid (∃ n m,HavS w B bm (20 * (i + 1)) (fun x => posN ts x (i + 1)) n m wr):=by
      obtain ⟨n,m,h⟩:=J.out
      exact ⟨n,m,h.congr (fun x => (HFULL.out x).symm) (by have:=HTL.out.1; omega)⟩
     clear J
     go_wp2_with fail
     go_roundw
     case rel => exact ⟨i + 1,by omega,by go_num,JE,G⟩
     case measure => simp [intOf]; omega
  ·have hie : i = ts.length:=by omega
   subst hie
   have HF : Hid (NewGPost w r A cap ts (.returned (.pointer (some ⟨gp,0,none⟩))) wr):=by
    obtain ⟨n,m,h⟩:=J.out
    have h3:=HNUM.out
    refine ⟨gp,bm,n,m,rfl,?_,by rw [G.out,HGO.out],by omega⟩
    have:=h.congr (pos':=posL ts) (fun x => rfl) (Nat.le_refl _)
    rw [h3.2.2] at this
    exact this
   clear J G
   go_wp2_with fail
   go_ret
   exact HF.out
open Go.RowKit
def hasAt {D : Type} (c : D → Int) (ds : List D) (m : Nat) : Bool:=match ds[m]? with | some d => c d == 0 | none => false
theorem hasAt_lt {D : Type} {c : D → Int} {ds : List D} {m : Nat} (h : m < ds.length) : hasAt c ds m = (c ds[m] == 0):=by
 unfold hasAt; rw [List.getElem?_eq_getElem h]
theorem hasAt_ge {D : Type} {c : D → Int} {ds : List D} {m : Nat} (h : ds.length ≤ m) : hasAt c ds m = false:=by
 unfold hasAt; rw [List.getElem?_eq_none h]
open Go.RowKit
section
variable {D : Type}
set_option maxHeartbeats 2000000 in
set_option maxRecDepth 100000 in
theorem bsf_Id (H : Frz) (f : D → Nat → Value) (kf : Nat) (tv : Nat → Value) (c : D → Int) (ds : List D) (hp : ∀ (W : World) (d : D),d ∈ ds → H.In W → Calls Tryz.prog kf #[.agg #[f d 0,f d 1],.agg #[tv 0,tv 1]] W fun e W' => e = .returned (.int .i64 (c d)) ∧ Below W.heap.size W W')
  (hcall : ∀ (a b : Value) (W : World),(callFunc kf #[a,b]).run Tryz.prog W = .ok (.enter kf #[a,b]) W)
  (A : Option Addr) (cap : Nat) (w : World) (hH : H.In w) (hR : Rw H A 2 f ds) (hl : ds.length ≤ 1000000) (m : Nat) (hm : m ≤ ds.length) (hlo : ∀ i (h : i < ds.length),i < m → c ds[i] < 0) (hhi : ∀ i (h : i < ds.length),m ≤ i → 0 ≤ c ds[i]) :
  Calls Tryz.prog 170 #[.slice A ds.length cap,.agg #[tv 0,tv 1],.func (.func kf) #[] #[]] w fun e w' => e = .returned (.tuple #[.int .i64 m,.bool (hasAt c ds m)]) ∧ Below w.heap.size w w':=by
 have HP:=Lib.hid hp
 have HR:=Lib.hid hR
 have HH:=Lib.hid hH
 have HLO:=Lib.hid hlo
 have HHI:=Lib.hid hhi
 have HB0:=Lib.hid ((Below.refl w.heap.size w).alloc (Nat.le_refl _) (.cells #[tv 0,tv 1] 55))
 have HZ0 : Hid (∀ m,m < 2 → (w.alloc (.cells #[tv 0,tv 1] 55)).cell? ⟨w.heap.size,m,none⟩ = some (tv m)):=fun m hm => by
  rw [World.cell?_alloc_new]
  have : m = 0 ∨ m = 1:=by omega
  rcases this with rfl | rfl <;> rfl
 clear hp hR hH hlo hhi
 go_enter Tryz.func170,Tryz.ntmps170
 go_wp2_with fail
 generalize hwq : w.heap.size = tb at HZ0
 generalize hW1 : w.alloc _ = W1 at HB0 HZ0
 clear hW1
 go_loopw [9,10,11] (fun ti tj _ wr => ∃ i j : Nat,i ≤ m ∧ m ≤ j ∧ j ≤ ds.length ∧ ti = .int .i64 i ∧ tj = .int .i64 j ∧ Hid (Below w.heap.size w wr) ∧ Hid (∀ m,m < 2 → wr.cell? ⟨tb,m,none⟩ = some (tv m))) (fun ti tj _ _ => (intOf tj - intOf ti).toNat)
 case atStart => exact ⟨0,ds.length,by omega,by omega,by omega,rfl,rfl,HB0,HZ0⟩
 case round =>
  obtain ⟨i,j,hi,hj,hjl,rfl,rfl,hb,hz⟩:=hrel
  clear HB0 HZ0
  have HIN:=Lib.hid (fun W (hW : Below wr.heap.size wr W) => (HH.out.below hb.out).below hW)
  by_cases hlt : i < j
  ·have e1 : IntKind.i64.wrap ((i : Int) + (j : Int)) = (i : Int) + (j : Int):=IntWalk.i64_in _ (by omega)
   obtain ⟨h,hh⟩ : ∃ h,h = (i + j) / 2:=⟨_,rfl⟩
   have hhl : h < ds.length:=by omega
   have hih : i ≤ h:=by omega
   have hhj : h < j:=by omega
   have k2 : ((i : Int) + (j : Int)) / 2 = (h : Int):=by omega
   obtain ⟨b,off,rfl,hbl,hc⟩:=HR.out.at_ (HH.out.below hb.out) hhl (by omega)
   have c0 : wr.cell? ⟨b,off + h * 2,none⟩ = some (f ds[h] 0):=hc 0 (by omega)
   have c1 : wr.cell? ⟨b,off + h * 2 + 1,none⟩ = some (f ds[h] 1):=hc 1 (by omega)
   have HC:=Lib.hid (fun W hW => HP.out W ds[h] (List.getElem_mem hhl) hW)
   have HL:=Lib.hid (HLO.out h hhl)
   have HU:=Lib.hid (HHI.out h hhl)
   clear hc hh
   generalize hpd : c ds[h] = q at HC HL HU
   generalize f ds[h] 0 = x0 at c0 HC
   generalize f ds[h] 1 = x1 at c1 HC
   clear hpd
   have K0:=lift_cell c0
   have K1:=lift_cell c1
   have J0:=lift_cell (hz.out 0 (by omega))
   have J1:=lift_cell (hz.out 1 (by omega))
   clear c0 c1
   go_upto_region 5 with (fail)
   clear k2
   (refine wp_region_det 6 49 (fun W => Below (wr).heap.size (wr) W) (by kernel_rfl) (by kernel_rfl) (by rfl) (Below.refl _ _).drew ?_; simp only [List.take_succ_cons,List.take_zero,List.drop_succ_cons,List.drop_zero])
   iterate 6 (refine detSeq_op rfl ?_ (fun W hW => ?_) ?_; rotate_left; (focus simp only [OpV]; go_simp; first | exact rfl | exact ⟨rfl,hW⟩))
   refine detSeq_nil (fun W3 hW3 => ?_)
   have HW3:=Lib.hid hW3
   clear K0 K1 J0 J1 hW3
   go_wp2_with fail
   refine (HC.out _ (HIN.out _ HW3.out)).mono ?_
   rintro e w1 ⟨rfl,hb1⟩
   have hb9:=Lib.hid (det_back HW3.out hb1)
   have hb2:=Lib.hid (hb.out.trans (hb9.out.mono hb.out.size))
   have hz2 : Hid (∀ m,m < 2 → w1.cell? ⟨tb,m,none⟩ = some (tv m)):=fun m hm => lift_cell (hz.out m hm) _ hb9.out
   clear hb1 hb hz hb9
   by_cases hq : q < 0
   ·have hhm : h < m:=by
     apply Classical.byContradiction
     intro hn
     have:=HU.out (by omega)
     omega
    go_wp2_with fail
    go_roundw
    case rel => exact ⟨h + 1,j,by omega,by omega,by omega,by go_num,rfl,hb2,hz2⟩
    case measure => simp [intOf]; omega
   ·have hhm : m ≤ h:=by
     apply Classical.byContradiction
     intro hn
     exact hq (HL.out (by omega))
    go_wp2_with fail
    go_roundw
    case rel => exact ⟨i,h,by omega,by omega,by omega,rfl,rfl,hb2,hz2⟩
    case measure => simp [intOf]; omega
  ·have him : i = m:=by omega
   subst him
   by_cases hml : i < ds.length
   ·have d1 : decide ((i : Int) < (ds.length : Int)) = true:=by simpa using hml
    obtain ⟨b,off,rfl,hbl,hc⟩:=HR.out.at_ (HH.out.below hb.out) hml (by omega)
    have c0 : wr.cell? ⟨b,off + i * 2,none⟩ = some (f ds[i] 0):=hc 0 (by omega)
    have c1 : wr.cell? ⟨b,off + i * 2 + 1,none⟩ = some (f ds[i] 1):=hc 1 (by omega)
    have HC:=Lib.hid (fun W hW => HP.out W ds[i] (List.getElem_mem hml) hW)
    have HV:=Lib.hid (hasAt_lt (c:=c) hml)
    clear hc
    generalize hpd : c ds[i] = q at HC HV
    generalize f ds[i] 0 = x0 at c0 HC
    generalize f ds[i] 1 = x1 at c1 HC
    clear hpd
    have K0:=lift_cell c0
    have K1:=lift_cell c1
    have J0:=lift_cell (hz.out 0 (by omega))
    have J1:=lift_cell (hz.out 1 (by omega))
    clear c0 c1
    go_upto_region 8 with (fail)
    (refine wp_region_det 15 49 (fun W => Below (wr).heap.size (wr) W) (by kernel_rfl) (by kernel_rfl) (by rfl) (Below.refl _ _).drew ?_; simp only [List.take_succ_cons,List.take_zero,List.drop_succ_cons,List.drop_zero])
    iterate 3 (refine detSeq_op rfl ?_ (fun W hW => ?_) ?_; rotate_left; (focus simp only [OpV]; go_simp; first | exact rfl | exact ⟨rfl,hW⟩))
    (refine detSeq_op rfl (.bool true) (fun W hW => ?_) ?_; focus (simp only [OpV]; go_simp; first | exact rfl | exact ⟨by rw [d1],hW⟩ | skip))
    iterate 1 (refine detSeq_op rfl ?_ (fun W hW => ?_) ?_; rotate_left; (focus simp only [OpV]; go_simp; first | exact rfl | exact ⟨rfl,hW⟩))
    iterate 6 (refine detSeq_yes (by kernel_rfl) ?_ (fun W hW => ?_) ?_; rotate_left; (focus simp only [OpV]; go_simp; first | exact rfl | exact ⟨rfl,hW⟩))
    (refine detSeq_yes (by kernel_rfl) ?_ (fun W hW => ?_) ?_; rotate_left; focus (simp only [OpV]; go_simp; refine (HC.out W (HIN.out W hW)).mono ?_; rintro e w' ⟨rfl,hb⟩; refine ⟨_,rfl,?_,det_back hW hb⟩; exact rfl))
    iterate 1 (refine detSeq_yes (by kernel_rfl) ?_ (fun W hW => ?_) ?_; rotate_left; (focus simp only [OpV]; go_simp; first | exact rfl | exact ⟨rfl,hW⟩))
    iterate 2 (refine detSeq_op rfl ?_ (fun W hW => ?_) ?_; rotate_left; (focus simp only [OpV]; go_simp; first | exact rfl | exact ⟨rfl,hW⟩))
    refine detSeq_nil (fun W3 hW3 => ?_)
    have hb2:=Lib.hid (hb.out.trans (hW3.mono hb.out.size))
    clear K0 K1 J0 J1 hW3 hb hz
    go_wp2_with fail
    go_ret2
    exact ⟨by rw [HV.out]; simp,hb2.out⟩
   ·have d1 : decide ((i : Int) < (ds.length : Int)) = false:=by simpa using hml
    have hf:=Lib.hid (hasAt_ge (c:=c) (show ds.length ≤ i by omega))
    go_upto_region 8 with (fail)
    (refine wp_region_det 15 49 (fun W => Below (wr).heap.size (wr) W) (by kernel_rfl) (by kernel_rfl) (by rfl) (Below.refl _ _).drew ?_; simp only [List.take_succ_cons,List.take_zero,List.drop_succ_cons,List.drop_zero])
    iterate 3 (refine detSeq_op rfl ?_ (fun W hW => ?_) ?_; rotate_left; (focus simp only [OpV]; go_simp; first | exact rfl | exact ⟨rfl,hW⟩))
    (refine detSeq_op rfl (.bool false) (fun W hW => ?_) ?_; focus (simp only [OpV]; go_simp; first | exact rfl | exact ⟨by rw [d1],hW⟩ | skip))
    iterate 1 (refine detSeq_op rfl ?_ (fun W hW => ?_) ?_; rotate_left; (focus simp only [OpV]; go_simp; first | exact rfl | exact ⟨rfl,hW⟩))
    iterate 8 (refine detSeq_no (by kernel_rfl) ?_)
    iterate 2 (refine detSeq_op rfl ?_ (fun W hW => ?_) ?_; rotate_left; (focus simp only [OpV]; go_simp; first | exact rfl | exact ⟨rfl,hW⟩))
    refine detSeq_nil (fun W3 hW3 => ?_)
    have hb2:=Lib.hid (hb.out.trans (hW3.mono hb.out.size))
    clear hW3 hb hz
    go_wp2_with fail
    go_ret2
    exact ⟨by rw [hf.out]; simp,hb2.out⟩
end
end Go.Proofs.YtbidhpgjmcedaaaGreatDoor
