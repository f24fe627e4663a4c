/- Texts of this claim, put together: ConsA5, ConsA6. -/
import Derived.Test.YtcncifmanodabaaGreatDoorGAG
namespace Go.Proofs.YtcncifmanodabaaGreatDoor
set_option linter.unusedVariables false
open Go.RowKit
theorem bestF_snoc {l gs:List StD} {t:TermD} {at_:Int} {i:Nat} (h:i < gs.length):bestF l t at_ (gs.take (i + 1)) = bestStep l t at_ (bestF l t at_ (gs.take i)) gs[i]:=by
 unfold bestF
 rw [List.take_succ_eq_append_getElem h,List.foldl_append]
 rfl
def BI (W2:World) (l gs:List StD) (t:TermD) (at_:Int) (i:Nat) (why:Int) (wr:World):Prop :=
 ∃ d:StD,bestF l t at_ (gs.take i) = ⟨why,d.at_,d.no⟩ ∧ Below W2.heap.size W2 wr ∧ wr.heap[W2.heap.size]? = some (.cells #[.int .i64 d.no,.int .i64 d.at_,.int .i64 d.kind,.string d.text,.string d.purp,.string d.region,.int .i64 d.ch,.int .i64 d.what] 53)
theorem BI.upd {W2 W:World} {l gs:List StD} {t:TermD} {at_:Int} {i:Nat} {g d0:StD} {why2:Int} (h:bestF l t at_ (gs.take (i + 1)) = ⟨why2,g.at_,g.no⟩) (hb:Below W2.heap.size W2 W) (hk:W.heap[W2.heap.size]? = some (.cells #[.int .i64 d0.no,.int .i64 d0.at_,.int .i64 d0.kind,.string d0.text,.string d0.purp,.string d0.region,.int .i64 d0.ch,.int .i64 d0.what] 53)) :
  BI W2 l gs t at_ (i + 1) why2 ((((((((W.setCell ⟨W2.heap.size,0,none⟩ (.int .i64 g.no)).setCell ⟨W2.heap.size,1,none⟩ (.int .i64 g.at_)).setCell ⟨W2.heap.size,2,none⟩ (.int .i64 g.kind)).setCell ⟨W2.heap.size,3,none⟩ (.string g.text)).setCell ⟨W2.heap.size,4,none⟩ (.string g.purp)).setCell ⟨W2.heap.size,5,none⟩ (.string g.region)).setCell ⟨W2.heap.size,6,none⟩ (.int .i64 g.ch)).setCell ⟨W2.heap.size,7,none⟩ (.int .i64 g.what)) :=
 ⟨g,h,below_set8 hb (Nat.le_refl _) _ _ _ _ _ _ _ _,set8 hk _ _ _ _ _ _ _ _⟩
def Bd (l:List StD):Prop:=∀ s ∈ l,-1000000000000 ≤ s.at_ ∧ s.at_ ≤ 1000000000000
theorem Rw.len {D:Type} {H:Frz} {k:Nat} {f:D → Nat → Value} {ds:List D} (h:Rw H none k f ds):ds = []:=by
 cases ds with
 | nil => rfl
 | cons d ds => obtain ⟨b,off,e,_⟩:=h 0 (by simp);cases e
def ansO (a:AnsD):Obj:=.cells #[.bool a.may,.int .i64 a.why,.int .i64 a.no] 44
set_option maxHeartbeats 4000000 in
set_option maxRecDepth 100000 in
theorem allowed_any (H:Frz) (A:Option Addr) (cap:Nat) (l:List StD) (t:TermD) (purp:ByteArray) (at_:Int) (w:World) (hH:H.In w) (hR:Rw H A 8 fSt l) (hl:l.length ≤ 1000000) (hbd:Bd l)
  (hd0:0 ≤ t.days) (hd1:t.days ≤ 2000) (hw0:0 ≤ t.wait) (hw1:t.wait ≤ 100000) :
  Calls Tryz.prog 57 #[.slice A l.length cap,.agg #[.string t.region,.int .i64 t.ch,.bool t.free,.int .i64 t.days,.int .i64 t.wait],.string purp,.int .i64 at_] w fun e w' => e = .returned (ansV (allowF l t purp at_)) ∧ Below w.heap.size w w':=by
 have HG:=Lib.hid (fun W (hW:H.In W) => grants_any H A cap l purp W hW hR hl)
 have hs2:((w.alloc (.cells #[.string t.region,.int .i64 t.ch,.bool t.free,.int .i64 t.days,.int .i64 t.wait] 68)).alloc (ansO ⟨false,0,0⟩)).heap.size = w.heap.size + 2:=by simp
 have hkt:((w.alloc (.cells #[.string t.region,.int .i64 t.ch,.bool t.free,.int .i64 t.days,.int .i64 t.wait] 68)).alloc (ansO ⟨false,0,0⟩)).heap[w.heap.size]? = some (.cells #[.string t.region,.int .i64 t.ch,.bool t.free,.int .i64 t.days,.int .i64 t.wait] 68):=(heap_lt (by simp)).trans (heap_alloc_new _ _)
 have hka:((w.alloc (.cells #[.string t.region,.int .i64 t.ch,.bool t.free,.int .i64 t.days,.int .i64 t.wait] 68)).alloc (ansO ⟨false,0,0⟩)).heap[w.heap.size + 1]? = some (ansO ⟨false,0,0⟩):=heap_at (by simp)
 have hin:=(hH.alloc (.cells #[.string t.region,.int .i64 t.ch,.bool t.free,.int .i64 t.days,.int .i64 t.wait] 68)).alloc (ansO ⟨false,0,0⟩)
 have hb:=new2 (w:=w) (.cells #[.string t.region,.int .i64 t.ch,.bool t.free,.int .i64 t.days,.int .i64 t.wait] 68) (ansO ⟨false,0,0⟩)
 have HKT:=Lib.hid hkt
 have HKA:=Lib.hid hka
 have HIN:=Lib.hid hin
 have HB:=Lib.hid hb
 have HS2:=Lib.hid hs2
 have HR:=Lib.hid hR
 have HBD:=Lib.hid hbd
 clear hs2 hkt hka hin hb hH hR hbd
 unfold ansO at HKT HKA HIN HB HS2
 go_enter Tryz.func57,Tryz.ntmps57
 go_wp2_with fail
 refine (HG.out _ HIN.out).mono ?_
 rintro e w1 ⟨v,rfl,hO,hb1⟩
 obtain ⟨A2,cap2,H2,hv,hle,q1,q2,hR2,-⟩:=hO.freeze H
 subst hv
 have hin1:=q1 (HIN.out.below hb1)
 have hH2:H.Le H2:=q2 (fun g hg => HIN.out.none_ (hO.lt hg).1)
 have HKT1:=Lib.hid ((hb1.block _ (by rw [HS2.out];omega)).trans HKT.out)
 have HKA1:=Lib.hid ((hb1.block _ (by rw [HS2.out];omega)).trans HKA.out)
 have HB1:=Lib.hid (HB.out.trans (hb1.mono HB.out.size))
 have HSV:Hid (∃ d:StD,d = (wdF purp l).getD zeroSt ∧ stV (wdF purp l) = .agg #[.int .i64 d.no,.int .i64 d.at_,.int .i64 d.kind,.string d.text,.string d.purp,.string d.region,.int .i64 d.ch,.int .i64 d.what]):=⟨_,rfl,stV_eq rfl⟩
 obtain ⟨d,hd,hst⟩:=HSV.out
 rw [hst]
 have hsz1:w.heap.size + 1 < w1.heap.size:=lt_of_heap HKA1.out
 have HD:=Lib.hid hd
 have HIN1:=Lib.hid hin1
 have HR2:=Lib.hid hR2
 have HRL:=Lib.hid (HR.out.le hH2)
 have hgl:(grF purp l).length ≤ 1000000:=by
  have:=List.length_filter_le (grB purp (wdF purp l)) l
  unfold grF;omega
 have HBG:Hid (Bd (grF purp l)):=fun s hs => HBD.out s (List.mem_filter.1 hs).1
 have HAL:Hid (allowF l t purp at_ = if (wdF purp l).isSome = true ∧ (grF purp l).length = 0 then ⟨false,5,d.no⟩ else if t.free = true then ⟨true,1,0⟩ else if (grF purp l).length = 0 then ⟨false,4,0⟩ else ⟨decide ((bestF l t at_ (grF purp l)).why = 2),(bestF l t at_ (grF purp l)).why,(bestF l t at_ (grF purp l)).no⟩):=by
  show _ = _
  rw [hd];rfl
 clear HG hO hb1 q1 q2 hR2 hin1 hH2 HSV hst hd HIN HKT HKA HB HS2 HR
 generalize hws:(wdF purp l).isSome = ws at *
 generalize hgs:grF purp l = gs at *
 generalize hal:allowF l t purp at_ = al at *
 have HAL2:=Lib.hid hal
 clear hws hgs hal
 have HB2:=Lib.hid (HB1.out.alloc HB1.out.size (.cells #[.int .i64 d.no,.int .i64 d.at_,.int .i64 d.kind,.string d.text,.string d.purp,.string d.region,.int .i64 d.ch,.int .i64 d.what] 53))
 have hs2:(w1.alloc (.cells #[.int .i64 d.no,.int .i64 d.at_,.int .i64 d.kind,.string d.text,.string d.purp,.string d.region,.int .i64 d.ch,.int .i64 d.what] 53)).heap.size = w1.heap.size + 1:=sizeA _ _
 have HKT2:=Lib.hid ((heap_lt (o:=(.cells #[.int .i64 d.no,.int .i64 d.at_,.int .i64 d.kind,.string d.text,.string d.purp,.string d.region,.int .i64 d.ch,.int .i64 d.what] 53)) (show w.heap.size < w1.heap.size by omega)).trans HKT1.out)
 have HKA2:=Lib.hid ((heap_lt (o:=(.cells #[.int .i64 d.no,.int .i64 d.at_,.int .i64 d.kind,.string d.text,.string d.purp,.string d.region,.int .i64 d.ch,.int .i64 d.what] 53)) (show w.heap.size + 1 < w1.heap.size by omega)).trans HKA1.out)
 have HKD2:=Lib.hid (heap_alloc_new w1 (.cells #[.int .i64 d.no,.int .i64 d.at_,.int .i64 d.kind,.string d.text,.string d.purp,.string d.region,.int .i64 d.ch,.int .i64 d.what] 53))
 have HIN2:=Lib.hid (HIN1.out.alloc (.cells #[.int .i64 d.no,.int .i64 d.at_,.int .i64 d.kind,.string d.text,.string d.purp,.string d.region,.int .i64 d.ch,.int .i64 d.what] 53))
 clear HKT1 HKA1 HB1 HIN1
 have HSZ2:=Lib.hid hs2
 clear hs2
 have hpd:¬ w1.heap.size = w.heap.size + 1:=by omega
 have hpd':¬ w.heap.size + 1 = w1.heap.size:=by omega
 have hpt:¬ w1.heap.size = w.heap.size:=by omega
 have hpt':¬ w.heap.size = w1.heap.size:=by omega
 have a0:(w1.alloc (.cells #[.int .i64 d.no,.int .i64 d.at_,.int .i64 d.kind,.string d.text,.string d.purp,.string d.region,.int .i64 d.ch,.int .i64 d.what] 53)).cell? ⟨w.heap.size + 1,0,none⟩ = some (.bool false):=cell_h HKA2.out 0 rfl
 have a1:(w1.alloc (.cells #[.int .i64 d.no,.int .i64 d.at_,.int .i64 d.kind,.string d.text,.string d.purp,.string d.region,.int .i64 d.ch,.int .i64 d.what] 53)).cell? ⟨w.heap.size + 1,1,none⟩ = some (.int .i64 0):=cell_h HKA2.out 1 rfl
 have a2:(w1.alloc (.cells #[.int .i64 d.no,.int .i64 d.at_,.int .i64 d.kind,.string d.text,.string d.purp,.string d.region,.int .i64 d.ch,.int .i64 d.what] 53)).cell? ⟨w.heap.size + 1,2,none⟩ = some (.int .i64 0):=cell_h HKA2.out 2 rfl
 have b0:=froz_h HKA2.out 0
 have b1:=froz_h HKA2.out 1
 have b2:=froz_h HKA2.out 2
 have g0:(w1.alloc (.cells #[.int .i64 d.no,.int .i64 d.at_,.int .i64 d.kind,.string d.text,.string d.purp,.string d.region,.int .i64 d.ch,.int .i64 d.what] 53)).cell? ⟨w1.heap.size,0,none⟩ = some (.int .i64 d.no):=cell_h HKD2.out 0 rfl
 have e2:(w1.alloc (.cells #[.int .i64 d.no,.int .i64 d.at_,.int .i64 d.kind,.string d.text,.string d.purp,.string d.region,.int .i64 d.ch,.int .i64 d.what] 53)).cell? ⟨w.heap.size,2,none⟩ = some (.bool t.free):=cell_h HKT2.out 2 rfl
 have hzero:decide ((0:Int) = gs.length) = decide (gs.length = 0):=by congr 1;apply propext;omega
 by_cases hW:ws = true ∧ gs.length = 0
 ·have HV:=Lib.hid (HAL.out.trans (if_pos hW))
  obtain ⟨rfl,hg0⟩:=hW
  have k1:((gs.length:Int) == 0) = true:=by simp;exact List.length_eq_zero_iff.1 hg0
  clear hg0 hzero
  go_upto_region 2 with (fail)
  generalize w1.alloc (.cells #[.int .i64 d.no,.int .i64 d.at_,.int .i64 d.kind,.string d.text,.string d.purp,.string d.region,.int .i64 d.ch,.int .i64 d.what] 53) = W2 at *
  have HK9:=Lib.hid (set3 HKA2.out (.bool false) (.int .i64 5) (.int .i64 d.no))
  have HB9:=Lib.hid (below_set3 HB2.out (show w.heap.size ≤ w.heap.size + 1 by omega) (.bool false) (.int .i64 5) (.int .i64 d.no))
  go_wp2_with fail
  have u0:=cell_h HK9.out 0 (v:=.bool false) rfl
  have u1:=cell_h HK9.out 1 (v:=.int .i64 5) rfl
  have u2:=cell_h HK9.out 2 (v:=.int .i64 d.no) rfl
  refine bodyPost_ret (v:=.agg #[.bool false,.int .i64 5,.int .i64 d.no]) (by simp [results,Tryz.results57,go_sem,u0,u1,u2]) rfl ⟨?_,HB9.out⟩
  rw [HAL2.out,HV.out];rfl
 ·have hV1:=HAL.out.trans (if_neg hW)
  have hE:ws = false ∨ (ws = true ∧ ((gs.length:Int) == 0) = false):=by
   cases ws with
   | false => left;rfl
   | true => right;refine ⟨rfl,?_⟩;simp;intro c;exact hW ⟨rfl,by rw [c];rfl⟩
  by_cases hfree:t.free = true
  ·have HV:=Lib.hid (hV1.trans (if_pos hfree))
   rw [hfree] at e2
   clear hV1 hfree hW hzero HKT2
   rcases hE with rfl | ⟨rfl,k1⟩
   all_goals
    go_upto_region 2 with (fail)
    generalize w1.alloc (.cells #[.int .i64 d.no,.int .i64 d.at_,.int .i64 d.kind,.string d.text,.string d.purp,.string d.region,.int .i64 d.ch,.int .i64 d.what] 53) = W2 at *
    have HK9:=Lib.hid (set3 HKA2.out (.bool true) (.int .i64 1) (.int .i64 0))
    have HB9:=Lib.hid (below_set3 HB2.out (show w.heap.size ≤ w.heap.size + 1 by omega) (.bool true) (.int .i64 1) (.int .i64 0))
    go_wp2_with fail
    have u0:=cell_h HK9.out 0 (v:=.bool true) rfl
    have u1:=cell_h HK9.out 1 (v:=.int .i64 1) rfl
    have u2:=cell_h HK9.out 2 (v:=.int .i64 0) rfl
    refine bodyPost_ret (v:=.agg #[.bool true,.int .i64 1,.int .i64 0]) (by simp [results,Tryz.results57,go_sem,u0,u1,u2]) rfl ⟨?_,HB9.out⟩
    rw [HAL2.out,HV.out];rfl
  ·have hV2:=hV1.trans (if_neg hfree)
   have hf2:t.free = false:=by simpa using hfree
   have HKT3:=HKT2
   rw [hf2] at e2
   by_cases hg0:gs.length = 0
   ·have HV:=Lib.hid (hV2.trans (if_pos hg0))
    have k1:((gs.length:Int) == 0) = true:=by simp;exact List.length_eq_zero_iff.1 hg0
    have k2:ws = false:=by
     cases ws with
     | false => rfl
     | true => exact absurd ⟨rfl,hg0⟩ hW
    subst k2
    clear hV1 hV2 hg0 hW hE hzero HKT2 HKT3 hfree hf2
    go_upto_region 2 with (fail)
    generalize w1.alloc (.cells #[.int .i64 d.no,.int .i64 d.at_,.int .i64 d.kind,.string d.text,.string d.purp,.string d.region,.int .i64 d.ch,.int .i64 d.what] 53) = W2 at *
    have HK9:=Lib.hid (set3 HKA2.out (.bool false) (.int .i64 4) (.int .i64 0))
    have HB9:=Lib.hid (below_set3 HB2.out (show w.heap.size ≤ w.heap.size + 1 by omega) (.bool false) (.int .i64 4) (.int .i64 0))
    go_wp2_with fail
    have u0:=cell_h HK9.out 0 (v:=.bool false) rfl
    have u1:=cell_h HK9.out 1 (v:=.int .i64 4) rfl
    have u2:=cell_h HK9.out 2 (v:=.int .i64 0) rfl
    refine bodyPost_ret (v:=.agg #[.bool false,.int .i64 4,.int .i64 0]) (by simp [results,Tryz.results57,go_sem,u0,u1,u2]) rfl ⟨?_,HB9.out⟩
    rw [HAL2.out,HV.out];rfl
   ·have HV:=Lib.hid (hV2.trans (if_neg hg0))
    have k1:((gs.length:Int) == 0) = false:=by simp;intro c;exact hg0 (by rw [c];rfl)
    have HF2:=Lib.hid hf2
    clear hV1 hV2 hg0 hW hzero hE hfree hf2
    have hws2:ws = false ∨ ws = true:=by cases ws <;> simp
    rcases hws2 with rfl | rfl
    all_goals
     go_upto_region 2 with (fail)
     generalize w1.alloc (.cells #[.int .i64 d.no,.int .i64 d.at_,.int .i64 d.kind,.string d.text,.string d.purp,.string d.region,.int .i64 d.ch,.int .i64 d.what] 53) = W2 at *
     have hsz2:w.heap.size + 1 < W2.heap.size:=lt_of_heap HKA2.out
     have HI0:Hid (BI W2 l gs t at_ 0 0 (W2.alloc (.cells #[.int .i64 zeroSt.no,.int .i64 zeroSt.at_,.int .i64 zeroSt.kind,.string zeroSt.text,.string zeroSt.purp,.string zeroSt.region,.int .i64 zeroSt.ch,.int .i64 zeroSt.what] 53))):=⟨zeroSt,rfl,new1 _,heap_alloc_new _ _⟩
     clear g0 a0 a1 a2 b0 b1 b2 hpd hpd' hpt hpt' HKT3 HKD2
     go_wp2_with fail
     clear e2
     go_loopw [13,45] (fun s tt wr => ∃ (i:Nat) (why:Int),i ≤ gs.length ∧ tt = .int .i64 i ∧ s = .int .i64 why ∧ Hid (BI W2 l gs t at_ i why wr)) (fun _ tt _ => gs.length - (intOf tt).toNat)
     case atStart => exact ⟨0,0,by omega,rfl,rfl,HI0⟩
     case round =>
      obtain ⟨i,why,hi,rfl,rfl,hI⟩:=hrel
      obtain ⟨bd,hbf,hb,hkb⟩:=hI.out
      clear HI0
      by_cases hlt:i < gs.length
      ·have hinr:=HIN2.out.below hb
       obtain ⟨b,off,rfl,hbl,hc⟩:=HR2.out.at_ hinr hlt (by omega)
       have c0:wr.cell? ⟨b,off + i * 8,none⟩ = some (.int .i64 gs[i].no):=hc 0 (by omega)
       have c1:wr.cell? ⟨b,off + i * 8 + 1,none⟩ = some (.int .i64 gs[i].at_):=hc 1 (by omega)
       have c2:wr.cell? ⟨b,off + i * 8 + 2,none⟩ = some (.int .i64 gs[i].kind):=hc 2 (by omega)
       have c3:wr.cell? ⟨b,off + i * 8 + 3,none⟩ = some (.string gs[i].text):=hc 3 (by omega)
       have c4:wr.cell? ⟨b,off + i * 8 + 4,none⟩ = some (.string gs[i].purp):=hc 4 (by omega)
       have c5:wr.cell? ⟨b,off + i * 8 + 5,none⟩ = some (.string gs[i].region):=hc 5 (by omega)
       have c6:wr.cell? ⟨b,off + i * 8 + 6,none⟩ = some (.int .i64 gs[i].ch):=hc 6 (by omega)
       have c7:wr.cell? ⟨b,off + i * 8 + 7,none⟩ = some (.int .i64 gs[i].what):=hc 7 (by omega)
       have HST0:Hid (bestF l t at_ (gs.take (i + 1)) = bestStep l t at_ ⟨why,bd.at_,bd.no⟩ gs[i]):=(bestF_snoc hlt).trans (by rw [hbf])
       have hgb:=HBG.out _ (List.getElem_mem hlt)
       clear hc hbf
       generalize gs[i] = g at *
       have z0:(wr.alloc (.cells #[.int .i64 g.no,.int .i64 g.at_,.int .i64 g.kind,.string g.text,.string g.purp,.string g.region,.int .i64 g.ch,.int .i64 g.what] 53)).cell? ⟨wr.heap.size,0,none⟩ = some (.int .i64 g.no):=newc 0 rfl
       have z1:(wr.alloc (.cells #[.int .i64 g.no,.int .i64 g.at_,.int .i64 g.kind,.string g.text,.string g.purp,.string g.region,.int .i64 g.ch,.int .i64 g.what] 53)).cell? ⟨wr.heap.size,1,none⟩ = some (.int .i64 g.at_):=newc 1 rfl
       have z2:(wr.alloc (.cells #[.int .i64 g.no,.int .i64 g.at_,.int .i64 g.kind,.string g.text,.string g.purp,.string g.region,.int .i64 g.ch,.int .i64 g.what] 53)).cell? ⟨wr.heap.size,2,none⟩ = some (.int .i64 g.kind):=newc 2 rfl
       have z3:(wr.alloc (.cells #[.int .i64 g.no,.int .i64 g.at_,.int .i64 g.kind,.string g.text,.string g.purp,.string g.region,.int .i64 g.ch,.int .i64 g.what] 53)).cell? ⟨wr.heap.size,3,none⟩ = some (.string g.text):=newc 3 rfl
       have z4:(wr.alloc (.cells #[.int .i64 g.no,.int .i64 g.at_,.int .i64 g.kind,.string g.text,.string g.purp,.string g.region,.int .i64 g.ch,.int .i64 g.what] 53)).cell? ⟨wr.heap.size,4,none⟩ = some (.string g.purp):=newc 4 rfl
       have z5:(wr.alloc (.cells #[.int .i64 g.no,.int .i64 g.at_,.int .i64 g.kind,.string g.text,.string g.purp,.string g.region,.int .i64 g.ch,.int .i64 g.what] 53)).cell? ⟨wr.heap.size,5,none⟩ = some (.string g.region):=newc 5 rfl
       have z6:(wr.alloc (.cells #[.int .i64 g.no,.int .i64 g.at_,.int .i64 g.kind,.string g.text,.string g.purp,.string g.region,.int .i64 g.ch,.int .i64 g.what] 53)).cell? ⟨wr.heap.size,6,none⟩ = some (.int .i64 g.ch):=newc 6 rfl
       have z7:(wr.alloc (.cells #[.int .i64 g.no,.int .i64 g.at_,.int .i64 g.kind,.string g.text,.string g.purp,.string g.region,.int .i64 g.ch,.int .i64 g.what] 53)).cell? ⟨wr.heap.size,7,none⟩ = some (.int .i64 g.what):=newc 7 rfl
       have HBN:=Lib.hid (new1 (w:=wr) (.cells #[.int .i64 g.no,.int .i64 g.at_,.int .i64 g.kind,.string g.text,.string g.purp,.string g.region,.int .i64 g.ch,.int .i64 g.what] 53))
       have hkt:=(hb.block _ (lt_of_heap HKT2.out)).trans HKT2.out
       have hkt1:=(HBN.out.block _ (lt_of_heap hkt)).trans hkt
       have HKE1:=Lib.hid (heap_alloc_new wr (.cells #[.int .i64 g.no,.int .i64 g.at_,.int .i64 g.kind,.string g.text,.string g.purp,.string g.region,.int .i64 g.ch,.int .i64 g.what] 53))
       have hkb1:=Lib.hid ((HBN.out.block _ (lt_of_heap hkb)).trans hkb)
       have HINA:=Lib.hid (hinr.below HBN.out)
       have hbA:=Lib.hid (hb.trans (HBN.out.mono hb.size))
       have hwr:W2.heap.size < wr.heap.size:=lt_of_heap hkb
       have he1:¬ wr.heap.size = w.heap.size:=by omega
       have he2:¬ w.heap.size = wr.heap.size:=by omega
       go_upto_region 13 with (fail)
       clear c0 c1 c2 c3 c4 c5 c6 c7
       generalize wr.alloc (.cells #[.int .i64 g.no,.int .i64 g.at_,.int .i64 g.kind,.string g.text,.string g.purp,.string g.region,.int .i64 g.ch,.int .i64 g.what] 53) = W4 at *
       have te0:W4.cell? ⟨w.heap.size,0,none⟩ = some (.string t.region):=cell_h hkt1 0 rfl
       have tf0:=froz_h hkt1 0
       have te1:W4.cell? ⟨w.heap.size,1,none⟩ = some (.int .i64 t.ch):=cell_h hkt1 1 rfl
       have tf1:=froz_h hkt1 1
       have te2:W4.cell? ⟨w.heap.size,2,none⟩ = some (.bool t.free):=cell_h hkt1 2 rfl
       have tf2:=froz_h hkt1 2
       have te3:W4.cell? ⟨w.heap.size,3,none⟩ = some (.int .i64 t.days):=cell_h hkt1 3 rfl
       have tf3:=froz_h hkt1 3
       have te4:W4.cell? ⟨w.heap.size,4,none⟩ = some (.int .i64 t.wait):=cell_h hkt1 4 rfl
       have tf4:=froz_h hkt1 4
       clear hkt hkt1 hinr hb hkb hI HBN
       go_wp2_with fail
       refine (stateOf_any H2 A cap l t g at_ _ HINA.out HRL.out hl hd0 hd1 hw0 hw1 hgb.1 hgb.2).mono ?_
       rintro e W5 ⟨rfl,hb5⟩
       have HKE:=Lib.hid ((hb5.block _ (lt_of_heap HKE1.out)).trans HKE1.out)
       have HKB:=Lib.hid ((hb5.block _ (lt_of_heap hkb1.out)).trans hkb1.out)
       have HBW:=Lib.hid (hbA.out.trans (hb5.mono hbA.out.size))
       have HST:Hid (bestF l t at_ (gs.take (i + 1)) = if why = 0 ∨ rankF (stateF l t g at_) < rankF why ∨ (stateF l t g at_ = why ∧ bd.at_ < g.at_) then ⟨stateF l t g at_,g.at_,g.no⟩ else ⟨why,bd.at_,bd.no⟩):=HST0.out
       clear HKE1 hkb1 hbA HINA hb5 HST0 z0 z1 z2 z3 z4 z5 z6 z7 te0 te1 te2 te3 te4 tf0 tf1 tf2 tf3 tf4
       generalize stateF l t g at_ = st at HST
       by_cases hw0:why = 0
       ·have k0:(why == 0) = true:=by simpa using hw0
        have HSN:=Lib.hid (HST.out.trans (if_pos (Or.inl hw0)))
        have HF:=Lib.hid (BI.upd HSN.out HBW.out HKB.out)
        have hkb:=HKB.out
        have hke:=HKE.out
        have x0:W5.cell? ⟨W2.heap.size,0,none⟩ = some (.int .i64 bd.no):=cell_h hkb 0 rfl
        have y0:=froz_h hkb 0
        have x1:W5.cell? ⟨W2.heap.size,1,none⟩ = some (.int .i64 bd.at_):=cell_h hkb 1 rfl
        have y1:=froz_h hkb 1
        have x2:W5.cell? ⟨W2.heap.size,2,none⟩ = some (.int .i64 bd.kind):=cell_h hkb 2 rfl
        have y2:=froz_h hkb 2
        have x3:W5.cell? ⟨W2.heap.size,3,none⟩ = some (.string bd.text):=cell_h hkb 3 rfl
        have y3:=froz_h hkb 3
        have x4:W5.cell? ⟨W2.heap.size,4,none⟩ = some (.string bd.purp):=cell_h hkb 4 rfl
        have y4:=froz_h hkb 4
        have x5:W5.cell? ⟨W2.heap.size,5,none⟩ = some (.string bd.region):=cell_h hkb 5 rfl
        have y5:=froz_h hkb 5
        have x6:W5.cell? ⟨W2.heap.size,6,none⟩ = some (.int .i64 bd.ch):=cell_h hkb 6 rfl
        have y6:=froz_h hkb 6
        have x7:W5.cell? ⟨W2.heap.size,7,none⟩ = some (.int .i64 bd.what):=cell_h hkb 7 rfl
        have y7:=froz_h hkb 7
        have z0:W5.cell? ⟨wr.heap.size,0,none⟩ = some (.int .i64 g.no):=cell_h hke 0 rfl
        have zf0:=froz_h hke 0
        have z1:W5.cell? ⟨wr.heap.size,1,none⟩ = some (.int .i64 g.at_):=cell_h hke 1 rfl
        have zf1:=froz_h hke 1
        have z2:W5.cell? ⟨wr.heap.size,2,none⟩ = some (.int .i64 g.kind):=cell_h hke 2 rfl
        have zf2:=froz_h hke 2
        have z3:W5.cell? ⟨wr.heap.size,3,none⟩ = some (.string g.text):=cell_h hke 3 rfl
        have zf3:=froz_h hke 3
        have z4:W5.cell? ⟨wr.heap.size,4,none⟩ = some (.string g.purp):=cell_h hke 4 rfl
        have zf4:=froz_h hke 4
        have z5:W5.cell? ⟨wr.heap.size,5,none⟩ = some (.string g.region):=cell_h hke 5 rfl
        have zf5:=froz_h hke 5
        have z6:W5.cell? ⟨wr.heap.size,6,none⟩ = some (.int .i64 g.ch):=cell_h hke 6 rfl
        have zf6:=froz_h hke 6
        have z7:W5.cell? ⟨wr.heap.size,7,none⟩ = some (.int .i64 g.what):=cell_h hke 7 rfl
        have zf7:=froz_h hke 7
        clear HST hkb hke hw0
        go_wp2_with fail
        go_roundw
        case rel => exact ⟨i + 1,_,by omega,by go_num,rfl,HF⟩
        case measure => simp [intOf];omega
       ·have k0:(why == 0) = false:=by simpa using hw0
        go_wp2_with fail
        refine (rank_any st _).mono ?_
        rintro e W6 ⟨rfl,hb6⟩
        have HKE6:=Lib.hid ((hb6.block _ (lt_of_heap HKE.out)).trans HKE.out)
        have HKB6:=Lib.hid ((hb6.block _ (lt_of_heap HKB.out)).trans HKB.out)
        have HBW6:=Lib.hid (HBW.out.trans (hb6.mono HBW.out.size))
        clear HKE HKB HBW hb6
        go_wp2_with fail
        refine (rank_any why _).mono ?_
        rintro e W5 ⟨rfl,hb6⟩
        have HKE:=Lib.hid ((hb6.block _ (lt_of_heap HKE6.out)).trans HKE6.out)
        have HKB:=Lib.hid ((hb6.block _ (lt_of_heap HKB6.out)).trans HKB6.out)
        have HBW:=Lib.hid (HBW6.out.trans (hb6.mono HBW6.out.size))
        clear HKE6 HKB6 HBW6 hb6
        by_cases hr:rankF st < rankF why
        ·have k1:decide (rankF st < rankF why) = true:=by simpa using hr
         have HSN:=Lib.hid (HST.out.trans (if_pos (Or.inr (Or.inl hr))))
         have HF:=Lib.hid (BI.upd HSN.out HBW.out HKB.out)
         have hkb:=HKB.out
         have hke:=HKE.out
         have x0:W5.cell? ⟨W2.heap.size,0,none⟩ = some (.int .i64 bd.no):=cell_h hkb 0 rfl
         have y0:=froz_h hkb 0
         have x1:W5.cell? ⟨W2.heap.size,1,none⟩ = some (.int .i64 bd.at_):=cell_h hkb 1 rfl
         have y1:=froz_h hkb 1
         have x2:W5.cell? ⟨W2.heap.size,2,none⟩ = some (.int .i64 bd.kind):=cell_h hkb 2 rfl
         have y2:=froz_h hkb 2
         have x3:W5.cell? ⟨W2.heap.size,3,none⟩ = some (.string bd.text):=cell_h hkb 3 rfl
         have y3:=froz_h hkb 3
         have x4:W5.cell? ⟨W2.heap.size,4,none⟩ = some (.string bd.purp):=cell_h hkb 4 rfl
         have y4:=froz_h hkb 4
         have x5:W5.cell? ⟨W2.heap.size,5,none⟩ = some (.string bd.region):=cell_h hkb 5 rfl
         have y5:=froz_h hkb 5
         have x6:W5.cell? ⟨W2.heap.size,6,none⟩ = some (.int .i64 bd.ch):=cell_h hkb 6 rfl
         have y6:=froz_h hkb 6
         have x7:W5.cell? ⟨W2.heap.size,7,none⟩ = some (.int .i64 bd.what):=cell_h hkb 7 rfl
         have y7:=froz_h hkb 7
         have z0:W5.cell? ⟨wr.heap.size,0,none⟩ = some (.int .i64 g.no):=cell_h hke 0 rfl
         have zf0:=froz_h hke 0
         have z1:W5.cell? ⟨wr.heap.size,1,none⟩ = some (.int .i64 g.at_):=cell_h hke 1 rfl
         have zf1:=froz_h hke 1
         have z2:W5.cell? ⟨wr.heap.size,2,none⟩ = some (.int .i64 g.kind):=cell_h hke 2 rfl
         have zf2:=froz_h hke 2
         have z3:W5.cell? ⟨wr.heap.size,3,none⟩ = some (.string g.text):=cell_h hke 3 rfl
         have zf3:=froz_h hke 3
         have z4:W5.cell? ⟨wr.heap.size,4,none⟩ = some (.string g.purp):=cell_h hke 4 rfl
         have zf4:=froz_h hke 4
         have z5:W5.cell? ⟨wr.heap.size,5,none⟩ = some (.string g.region):=cell_h hke 5 rfl
         have zf5:=froz_h hke 5
         have z6:W5.cell? ⟨wr.heap.size,6,none⟩ = some (.int .i64 g.ch):=cell_h hke 6 rfl
         have zf6:=froz_h hke 6
         have z7:W5.cell? ⟨wr.heap.size,7,none⟩ = some (.int .i64 g.what):=cell_h hke 7 rfl
         have zf7:=froz_h hke 7
         clear HST hkb hke hr hw0
         generalize rankF st = r1 at *
         generalize rankF why = r2 at *
         go_wp2_with fail
         go_roundw
         case rel => exact ⟨i + 1,_,by omega,by go_num,rfl,HF⟩
         case measure => simp [intOf];omega
        ·have k1:decide (rankF st < rankF why) = false:=by simpa using hr
         by_cases hs:st = why
         ·have k2:(st == why) = true:=by simpa using hs
          by_cases ha:bd.at_ < g.at_
          ·have k3:decide (bd.at_ < g.at_) = true:=by simpa using ha
           have HSN:=Lib.hid (HST.out.trans (if_pos (Or.inr (Or.inr ⟨hs,ha⟩))))
           have HF:=Lib.hid (BI.upd HSN.out HBW.out HKB.out)
           have hkb:=HKB.out
           have hke:=HKE.out
           have x0:W5.cell? ⟨W2.heap.size,0,none⟩ = some (.int .i64 bd.no):=cell_h hkb 0 rfl
           have y0:=froz_h hkb 0
           have x1:W5.cell? ⟨W2.heap.size,1,none⟩ = some (.int .i64 bd.at_):=cell_h hkb 1 rfl
           have y1:=froz_h hkb 1
           have x2:W5.cell? ⟨W2.heap.size,2,none⟩ = some (.int .i64 bd.kind):=cell_h hkb 2 rfl
           have y2:=froz_h hkb 2
           have x3:W5.cell? ⟨W2.heap.size,3,none⟩ = some (.string bd.text):=cell_h hkb 3 rfl
           have y3:=froz_h hkb 3
           have x4:W5.cell? ⟨W2.heap.size,4,none⟩ = some (.string bd.purp):=cell_h hkb 4 rfl
           have y4:=froz_h hkb 4
           have x5:W5.cell? ⟨W2.heap.size,5,none⟩ = some (.string bd.region):=cell_h hkb 5 rfl
           have y5:=froz_h hkb 5
           have x6:W5.cell? ⟨W2.heap.size,6,none⟩ = some (.int .i64 bd.ch):=cell_h hkb 6 rfl
           have y6:=froz_h hkb 6
           have x7:W5.cell? ⟨W2.heap.size,7,none⟩ = some (.int .i64 bd.what):=cell_h hkb 7 rfl
           have y7:=froz_h hkb 7
           have z0:W5.cell? ⟨wr.heap.size,0,none⟩ = some (.int .i64 g.no):=cell_h hke 0 rfl
           have zf0:=froz_h hke 0
           have z1:W5.cell? ⟨wr.heap.size,1,none⟩ = some (.int .i64 g.at_):=cell_h hke 1 rfl
           have zf1:=froz_h hke 1
           have z2:W5.cell? ⟨wr.heap.size,2,none⟩ = some (.int .i64 g.kind):=cell_h hke 2 rfl
           have zf2:=froz_h hke 2
           have z3:W5.cell? ⟨wr.heap.size,3,none⟩ = some (.string g.text):=cell_h hke 3 rfl
           have zf3:=froz_h hke 3
           have z4:W5.cell? ⟨wr.heap.size,4,none⟩ = some (.string g.purp):=cell_h hke 4 rfl
           have zf4:=froz_h hke 4
           have z5:W5.cell? ⟨wr.heap.size,5,none⟩ = some (.string g.region):=cell_h hke 5 rfl
           have zf5:=froz_h hke 5
           have z6:W5.cell? ⟨wr.heap.size,6,none⟩ = some (.int .i64 g.ch):=cell_h hke 6 rfl
           have zf6:=froz_h hke 6
           have z7:W5.cell? ⟨wr.heap.size,7,none⟩ = some (.int .i64 g.what):=cell_h hke 7 rfl
           have zf7:=froz_h hke 7
           clear HST hkb hke hr hs ha hw0
           generalize rankF st = r1 at *
           generalize rankF why = r2 at *
           go_wp2_with fail
           go_roundw
           case rel => exact ⟨i + 1,_,by omega,by go_num,rfl,HF⟩
           case measure => simp [intOf];omega
          ·have k3:decide (bd.at_ < g.at_) = false:=by simpa using ha
           have HSN:=Lib.hid (HST.out.trans (if_neg (by intro c;rcases c with c | c | c;exact hw0 c;exact hr c;exact ha c.2)))
           have HF:Hid (BI W2 l gs t at_ (i + 1) why W5):=⟨bd,HSN.out,HBW.out,HKB.out⟩
           have hkb:=HKB.out
           have hke:=HKE.out
           have x0:W5.cell? ⟨W2.heap.size,0,none⟩ = some (.int .i64 bd.no):=cell_h hkb 0 rfl
           have y0:=froz_h hkb 0
           have x1:W5.cell? ⟨W2.heap.size,1,none⟩ = some (.int .i64 bd.at_):=cell_h hkb 1 rfl
           have y1:=froz_h hkb 1
           have x2:W5.cell? ⟨W2.heap.size,2,none⟩ = some (.int .i64 bd.kind):=cell_h hkb 2 rfl
           have y2:=froz_h hkb 2
           have x3:W5.cell? ⟨W2.heap.size,3,none⟩ = some (.string bd.text):=cell_h hkb 3 rfl
           have y3:=froz_h hkb 3
           have x4:W5.cell? ⟨W2.heap.size,4,none⟩ = some (.string bd.purp):=cell_h hkb 4 rfl
           have y4:=froz_h hkb 4
           have x5:W5.cell? ⟨W2.heap.size,5,none⟩ = some (.string bd.region):=cell_h hkb 5 rfl
           have y5:=froz_h hkb 5
           have x6:W5.cell? ⟨W2.heap.size,6,none⟩ = some (.int .i64 bd.ch):=cell_h hkb 6 rfl
           have y6:=froz_h hkb 6
           have x7:W5.cell? ⟨W2.heap.size,7,none⟩ = some (.int .i64 bd.what):=cell_h hkb 7 rfl
           have y7:=froz_h hkb 7
           have z0:W5.cell? ⟨wr.heap.size,0,none⟩ = some (.int .i64 g.no):=cell_h hke 0 rfl
           have zf0:=froz_h hke 0
           have z1:W5.cell? ⟨wr.heap.size,1,none⟩ = some (.int .i64 g.at_):=cell_h hke 1 rfl
           have zf1:=froz_h hke 1
           have z2:W5.cell? ⟨wr.heap.size,2,none⟩ = some (.int .i64 g.kind):=cell_h hke 2 rfl
           have zf2:=froz_h hke 2
           have z3:W5.cell? ⟨wr.heap.size,3,none⟩ = some (.string g.text):=cell_h hke 3 rfl
           have zf3:=froz_h hke 3
           have z4:W5.cell? ⟨wr.heap.size,4,none⟩ = some (.string g.purp):=cell_h hke 4 rfl
           have zf4:=froz_h hke 4
           have z5:W5.cell? ⟨wr.heap.size,5,none⟩ = some (.string g.region):=cell_h hke 5 rfl
           have zf5:=froz_h hke 5
           have z6:W5.cell? ⟨wr.heap.size,6,none⟩ = some (.int .i64 g.ch):=cell_h hke 6 rfl
           have zf6:=froz_h hke 6
           have z7:W5.cell? ⟨wr.heap.size,7,none⟩ = some (.int .i64 g.what):=cell_h hke 7 rfl
           have zf7:=froz_h hke 7
           clear HST hkb hke hr hs ha hw0
           generalize rankF st = r1 at *
           generalize rankF why = r2 at *
           go_wp2_with fail
           go_roundw
           case rel => exact ⟨i + 1,_,by omega,by go_num,rfl,HF⟩
           case measure => simp [intOf];omega
         ·have k2:(st == why) = false:=by simpa using hs
          have HSN:=Lib.hid (HST.out.trans (if_neg (by intro c;rcases c with c | c | c;exact hw0 c;exact hr c;exact hs c.1)))
          have HF:Hid (BI W2 l gs t at_ (i + 1) why W5):=⟨bd,HSN.out,HBW.out,HKB.out⟩
          have hkb:=HKB.out
          have hke:=HKE.out
          have x0:W5.cell? ⟨W2.heap.size,0,none⟩ = some (.int .i64 bd.no):=cell_h hkb 0 rfl
          have y0:=froz_h hkb 0
          have x1:W5.cell? ⟨W2.heap.size,1,none⟩ = some (.int .i64 bd.at_):=cell_h hkb 1 rfl
          have y1:=froz_h hkb 1
          have x2:W5.cell? ⟨W2.heap.size,2,none⟩ = some (.int .i64 bd.kind):=cell_h hkb 2 rfl
          have y2:=froz_h hkb 2
          have x3:W5.cell? ⟨W2.heap.size,3,none⟩ = some (.string bd.text):=cell_h hkb 3 rfl
          have y3:=froz_h hkb 3
          have x4:W5.cell? ⟨W2.heap.size,4,none⟩ = some (.string bd.purp):=cell_h hkb 4 rfl
          have y4:=froz_h hkb 4
          have x5:W5.cell? ⟨W2.heap.size,5,none⟩ = some (.string bd.region):=cell_h hkb 5 rfl
          have y5:=froz_h hkb 5
          have x6:W5.cell? ⟨W2.heap.size,6,none⟩ = some (.int .i64 bd.ch):=cell_h hkb 6 rfl
          have y6:=froz_h hkb 6
          have x7:W5.cell? ⟨W2.heap.size,7,none⟩ = some (.int .i64 bd.what):=cell_h hkb 7 rfl
          have y7:=froz_h hkb 7
          have z0:W5.cell? ⟨wr.heap.size,0,none⟩ = some (.int .i64 g.no):=cell_h hke 0 rfl
          have zf0:=froz_h hke 0
          have z1:W5.cell? ⟨wr.heap.size,1,none⟩ = some (.int .i64 g.at_):=cell_h hke 1 rfl
          have zf1:=froz_h hke 1
          have z2:W5.cell? ⟨wr.heap.size,2,none⟩ = some (.int .i64 g.kind):=cell_h hke 2 rfl
          have zf2:=froz_h hke 2
          have z3:W5.cell? ⟨wr.heap.size,3,none⟩ = some (.string g.text):=cell_h hke 3 rfl
          have zf3:=froz_h hke 3
          have z4:W5.cell? ⟨wr.heap.size,4,none⟩ = some (.string g.purp):=cell_h hke 4 rfl
          have zf4:=froz_h hke 4
          have z5:W5.cell? ⟨wr.heap.size,5,none⟩ = some (.string g.region):=cell_h hke 5 rfl
          have zf5:=froz_h hke 5
          have z6:W5.cell? ⟨wr.heap.size,6,none⟩ = some (.int .i64 g.ch):=cell_h hke 6 rfl
          have zf6:=froz_h hke 6
          have z7:W5.cell? ⟨wr.heap.size,7,none⟩ = some (.int .i64 g.what):=cell_h hke 7 rfl
          have zf7:=froz_h hke 7
          clear HST hkb hke hr hs hw0
          generalize rankF st = r1 at *
          generalize rankF why = r2 at *
          go_wp2_with fail
          go_roundw
          case rel => exact ⟨i + 1,_,by omega,by go_num,rfl,HF⟩
          case measure => simp [intOf];omega
      ·have hie:i = gs.length:=by omega
       subst hie
       have hbf2:bestF l t at_ gs = ⟨why,bd.at_,bd.no⟩:=by rw [List.take_length] at hbf;exact hbf
       have hka:=(hb.block _ (lt_of_heap HKA2.out)).trans HKA2.out
       have a0:wr.cell? ⟨w.heap.size + 1,0,none⟩ = some (.bool false):=cell_h hka 0 rfl
       have a1:wr.cell? ⟨w.heap.size + 1,1,none⟩ = some (.int .i64 0):=cell_h hka 1 rfl
       have a2:wr.cell? ⟨w.heap.size + 1,2,none⟩ = some (.int .i64 0):=cell_h hka 2 rfl
       have b0:=froz_h hka 0
       have b1:=froz_h hka 1
       have b2:=froz_h hka 2
       have g0:wr.cell? ⟨W2.heap.size,0,none⟩ = some (.int .i64 bd.no):=cell_h hkb 0 rfl
       have hbw:=HB2.out.trans (hb.mono HB2.out.size)
       have HK9:=Lib.hid (set3 hka (.bool (why == 2)) (.int .i64 why) (.int .i64 bd.no))
       have HB9:=Lib.hid (below_set3 hbw (show w.heap.size ≤ w.heap.size + 1 by omega) (.bool (why == 2)) (.int .i64 why) (.int .i64 bd.no))
       have HV9:Hid (al = ⟨why == 2,why,bd.no⟩):=by
        show _ = _
        rw [HV.out,hbf2]
        simp only [AnsD.mk.injEq,and_true]
        rw [Bool.eq_iff_iff];simp
       have hn1:¬ W2.heap.size = w.heap.size + 1:=by omega
       have hn2:¬ w.heap.size + 1 = W2.heap.size:=by omega
       clear hka hkb hbf hbf2 hbw hb hI
       go_wp2_with fail
       have u0:=cell_h HK9.out 0 (v:=.bool (why == 2)) rfl
       have u1:=cell_h HK9.out 1 (v:=.int .i64 why) rfl
       have u2:=cell_h HK9.out 2 (v:=.int .i64 bd.no) rfl
       refine bodyPost_ret (v:=.agg #[.bool (why == 2),.int .i64 why,.int .i64 bd.no]) (by simp [results,Tryz.results57,go_sem,u0,u1,u2]) rfl ⟨?_,HB9.out⟩
       rw [HAL2.out,HV9.out];rfl
open Go.RowKit
def TB (t:TermD):Prop:=(0 ≤ t.days ∧ t.days ≤ 2000) ∧ 0 ≤ t.wait ∧ t.wait ≤ 100000
theorem Bd.upTo {l:List StD} (h:Bd l) (at_:Int):Bd (upTo l at_):=fun s hs => h s (List.takeWhile_sublist _ |>.mem hs)
theorem Rw.upTo {H:Frz} {A:Option Addr} {l:List StD} (h:Rw H A 8 fSt l) (at_:Int):Rw H A 8 fSt (Go.Proofs.YtcncifmanodabaaGreatDoor.upTo l at_):=by
 rw [upTo_pre];exact h.take _
set_option maxHeartbeats 2000000 in
set_option maxRecDepth 100000 in
theorem answer_none (t:TermD) (purp:ByteArray) (A:Option Addr) (n cap:Nat) (at_:Int) (w:World) :
  Calls Tryz.prog 28 #[.agg #[.string t.region,.int .i64 t.ch,.bool t.free,.int .i64 t.days,.int .i64 t.wait,.bool false,.string purp,.slice A n cap],.int .i64 at_] w fun e w' => e = .returned (.agg #[.bool false,.int .i64 3,.int .i64 0]) ∧ Below w.heap.size w w':=by
 have HB9:=Lib.hid (new2 (w:=w) (.cells #[.string t.region,.int .i64 t.ch,.bool t.free,.int .i64 t.days,.int .i64 t.wait,.bool false,.string purp,.slice A n cap] 81) (.cells #[.bool false,.int .i64 3,.int .i64 0] 44))
 go_enter Tryz.func28,Tryz.ntmps28
 go_wp2_with fail
 refine bodyPost_ret (v:=.agg #[.bool false,.int .i64 3,.int .i64 0]) (by simp [results,Tryz.results28,go_sem]) rfl ⟨rfl,HB9.out⟩
set_option maxHeartbeats 4000000 in
set_option maxRecDepth 100000 in
theorem answer_some (H:Frz) (A:Option Addr) (cap:Nat) (l:List StD) (t:TermD) (purp:ByteArray) (at_:Int) (w:World) (hH:H.In w) (hR:Rw H A 8 fSt l) (hs:l.Pairwise fun a b => a.at_ ≤ b.at_) (hl:l.length ≤ 1000000) (hcap:l.length ≤ cap) (hbd:Bd l) (htb:TB t)
  (h0:-1000000000000 ≤ at_) (h1:at_ ≤ 1000000000000) :
  Calls Tryz.prog 28 #[.agg #[.string t.region,.int .i64 t.ch,.bool t.free,.int .i64 t.days,.int .i64 t.wait,.bool true,.string purp,.slice A l.length cap],.int .i64 at_] w fun e w' => e = .returned (ansV (answerF (some t) purp l at_)) ∧ Below w.heap.size w w':=by
 have hsz:((w.alloc (.cells #[.string t.region,.int .i64 t.ch,.bool t.free,.int .i64 t.days,.int .i64 t.wait,.bool true,.string purp,.slice A l.length cap] 81)).alloc (.cells #[.bool false,.int .i64 0,.int .i64 0] 44)).heap.size = w.heap.size + 2:=by simp
 have hkq:((w.alloc (.cells #[.string t.region,.int .i64 t.ch,.bool t.free,.int .i64 t.days,.int .i64 t.wait,.bool true,.string purp,.slice A l.length cap] 81)).alloc (.cells #[.bool false,.int .i64 0,.int .i64 0] 44)).heap[w.heap.size]? = some (.cells #[.string t.region,.int .i64 t.ch,.bool t.free,.int .i64 t.days,.int .i64 t.wait,.bool true,.string purp,.slice A l.length cap] 81):=(heap_lt (by simp)).trans (heap_alloc_new _ _)
 have hka:((w.alloc (.cells #[.string t.region,.int .i64 t.ch,.bool t.free,.int .i64 t.days,.int .i64 t.wait,.bool true,.string purp,.slice A l.length cap] 81)).alloc (.cells #[.bool false,.int .i64 0,.int .i64 0] 44)).heap[w.heap.size + 1]? = some (.cells #[.bool false,.int .i64 0,.int .i64 0] 44):=heap_at (by simp)
 have HB:=Lib.hid (new2 (w:=w) (.cells #[.string t.region,.int .i64 t.ch,.bool t.free,.int .i64 t.days,.int .i64 t.wait,.bool true,.string purp,.slice A l.length cap] 81) (.cells #[.bool false,.int .i64 0,.int .i64 0] 44))
 have HKQ:=Lib.hid hkq
 have HKA:=Lib.hid hka
 have HSZ:=Lib.hid hsz
 have HIN:=Lib.hid ((hH.alloc (.cells #[.string t.region,.int .i64 t.ch,.bool t.free,.int .i64 t.days,.int .i64 t.wait,.bool true,.string purp,.slice A l.length cap] 81)).alloc (.cells #[.bool false,.int .i64 0,.int .i64 0] 44))
 have HUP:=Lib.hid (fun W hW => upTo_any H A cap l at_ W hW hR hs hl hcap h0 h1)
 have hul:(upTo l at_).length ≤ 1000000:=by have:=(upTo_cut hs at_).1;omega
 have HOB:=Lib.hid (fun W hW => objected_any H A cap (upTo l at_) W hW (hR.upTo at_) hul)
 have HAL:=Lib.hid (fun W hW => allowed_any H A cap (upTo l at_) t purp at_ W hW (hR.upTo at_) hul (hbd.upTo at_) htb.1.1 htb.1.2 htb.2.1 htb.2.2)
 have HV:Hid (answerF (some t) purp l at_ = if (objF (upTo l at_)).is = true then ⟨false,6,(objF (upTo l at_)).no⟩ else allowF (upTo l at_) t purp at_):=rfl
 clear hsz hkq hka hH hR hs hl hcap hbd htb h0 h1 hul
 generalize hans:answerF (some t) purp l at_ = ans at HV
 have HANS:=Lib.hid hans
 clear hans
 generalize upTo l at_ = pre at *
 go_enter Tryz.func28,Tryz.ntmps28
 go_wp2_with fail
 refine (HUP.out _ HIN.out).mono ?_
 rintro e w1 ⟨rfl,hb⟩
 have HKQ1:=Lib.hid ((hb.block _ (lt_of_heap HKQ.out)).trans HKQ.out)
 have HKA1:=Lib.hid ((hb.block _ (lt_of_heap HKA.out)).trans HKA.out)
 have HB1:=Lib.hid (HB.out.trans (hb.mono HB.out.size))
 have HIN1:=Lib.hid (HIN.out.below hb)
 clear hb HKQ HKA HB HIN HUP HSZ
 go_wp2_with fail
 refine (HOB.out _ HIN1.out).mono ?_
 rintro e w2 ⟨rfl,hb⟩
 have hkq:=(hb.block _ (lt_of_heap HKQ1.out)).trans HKQ1.out
 have hka:=(hb.block _ (lt_of_heap HKA1.out)).trans HKA1.out
 have HB2:=Lib.hid (HB1.out.trans (hb.mono HB1.out.size))
 have HIN2:=Lib.hid (HIN1.out.below hb)
 have a0:w2.cell? ⟨w.heap.size + 1,0,none⟩ = some (.bool false):=cell_h hka 0 rfl
 have a1:w2.cell? ⟨w.heap.size + 1,1,none⟩ = some (.int .i64 0):=cell_h hka 1 rfl
 have a2:w2.cell? ⟨w.heap.size + 1,2,none⟩ = some (.int .i64 0):=cell_h hka 2 rfl
 have b0:=froz_h hka 0
 have b1:=froz_h hka 1
 have b2:=froz_h hka 2
 have HKQ2:=Lib.hid hkq
 have HKA2:=Lib.hid hka
 clear hb HKQ1 HKA1 HB1 HIN1 HOB
 generalize hob:objF pre = ob at HV ⊢
 obtain ⟨ono,olast,ois⟩:=ob
 clear hob
 cases ois with
 | true =>
  have HV2:Hid (ans = ⟨false,6,ono⟩):=HV.out
  have HK9:=Lib.hid (set3 hka (.bool false) (.int .i64 6) (.int .i64 ono))
  have HB9:=Lib.hid (below_set3 HB2.out (show w.heap.size ≤ w.heap.size + 1 by omega) (.bool false) (.int .i64 6) (.int .i64 ono))
  clear hkq hka
  go_wp2_with fail
  have u0:=cell_h HK9.out 0 (v:=.bool false) rfl
  have u1:=cell_h HK9.out 1 (v:=.int .i64 6) rfl
  have u2:=cell_h HK9.out 2 (v:=.int .i64 ono) rfl
  refine bodyPost_ret (v:=.agg #[.bool false,.int .i64 6,.int .i64 ono]) (by simp [results,Tryz.results28,go_sem,u0,u1,u2]) rfl ⟨?_,HB9.out⟩
  rw [HV2.out];rfl
 | false =>
  have HV2:Hid (ans = allowF pre t purp at_):=HV.out
  have q0:w2.cell? ⟨w.heap.size,0,none⟩ = some (.string t.region):=cell_h hkq 0 rfl
  have q1:w2.cell? ⟨w.heap.size,1,none⟩ = some (.int .i64 t.ch):=cell_h hkq 1 rfl
  have q2:w2.cell? ⟨w.heap.size,2,none⟩ = some (.bool t.free):=cell_h hkq 2 rfl
  have q3:w2.cell? ⟨w.heap.size,3,none⟩ = some (.int .i64 t.days):=cell_h hkq 3 rfl
  have q4:w2.cell? ⟨w.heap.size,4,none⟩ = some (.int .i64 t.wait):=cell_h hkq 4 rfl
  have q6:w2.cell? ⟨w.heap.size,6,none⟩ = some (.string purp):=cell_h hkq 6 rfl
  clear hkq hka a0 a1 a2 b0 b1 b2
  go_wp2_with fail
  refine (HAL.out _ HIN2.out).mono ?_
  rintro e w3 ⟨rfl,hb⟩
  have hka:=(hb.block _ (lt_of_heap HKA2.out)).trans HKA2.out
  have HB3:=Lib.hid (HB2.out.trans (hb.mono HB2.out.size))
  have a0:w3.cell? ⟨w.heap.size + 1,0,none⟩ = some (.bool false):=cell_h hka 0 rfl
  have a1:w3.cell? ⟨w.heap.size + 1,1,none⟩ = some (.int .i64 0):=cell_h hka 1 rfl
  have a2:w3.cell? ⟨w.heap.size + 1,2,none⟩ = some (.int .i64 0):=cell_h hka 2 rfl
  have b0:=froz_h hka 0
  have b1:=froz_h hka 1
  have b2:=froz_h hka 2
  rw [← HV2.out]
  obtain ⟨am,ay,an⟩:=ans
  rw [show ansV ⟨am,ay,an⟩ = .agg #[.bool am,.int .i64 ay,.int .i64 an] from rfl]
  have HK9:=Lib.hid (set3 hka (.bool am) (.int .i64 ay) (.int .i64 an))
  have HB9:=Lib.hid (below_set3 HB3.out (show w.heap.size ≤ w.heap.size + 1 by omega) (.bool am) (.int .i64 ay) (.int .i64 an))
  clear hka hb q0 q1 q2 q3 q4 q6
  go_wp2_with fail
  have u0:=cell_h HK9.out 0 (v:=.bool am) rfl
  have u1:=cell_h HK9.out 1 (v:=.int .i64 ay) rfl
  have u2:=cell_h HK9.out 2 (v:=.int .i64 an) rfl
  refine bodyPost_ret (v:=.agg #[.bool am,.int .i64 ay,.int .i64 an]) (by simp [results,Tryz.results28,go_sem,u0,u1,u2]) rfl ⟨?_,HB9.out⟩
  rfl
theorem answer_any (H:Frz) (A:Option Addr) (cap:Nat) (l:List StD) (o:Option TermD) (purp:ByteArray) (at_:Int) (w:World) (hH:H.In w) (hR:Rw H A 8 fSt l) (hs:l.Pairwise fun a b => a.at_ ≤ b.at_) (hl:l.length ≤ 1000000) (hcap:l.length ≤ cap) (hbd:Bd l) (htb:∀ t,o = some t → TB t)
  (h0:-1000000000000 ≤ at_) (h1:at_ ≤ 1000000000000) :
  Calls Tryz.prog 28 #[.agg #[.string (o.getD zeroTe).region,.int .i64 (o.getD zeroTe).ch,.bool (o.getD zeroTe).free,.int .i64 (o.getD zeroTe).days,.int .i64 (o.getD zeroTe).wait,.bool o.isSome,.string purp,.slice A l.length cap],.int .i64 at_] w fun e w' => e = .returned (ansV (answerF o purp l at_)) ∧ Below w.heap.size w w':=by
 cases o with
 | none => exact answer_none zeroTe purp A l.length cap at_ w
 | some t => exact answer_some H A cap l t purp at_ w hH hR hs hl hcap hbd (htb t rfl) h0 h1
end Go.Proofs.YtcncifmanodabaaGreatDoor
