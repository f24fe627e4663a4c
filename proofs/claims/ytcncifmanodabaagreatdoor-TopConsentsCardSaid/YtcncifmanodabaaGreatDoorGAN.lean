/- Texts of this claim, put together: MayOf, Make, LwMore, AppG. -/
import Derived.Test.YtcncifmanodabaaGreatDoorGAE
import Derived.Test.YtcncifmanodabaaGreatDoorGAM
import Derived.Test.YtcncifmanodabaaGreatDoorGAD
import Derived.Test.YtcncifmanodabaaGreatDoorGAC
import Derived.Test.YtcncifmanodabaaGreatDoorGAB
import Derived.ArgAppend
namespace Go.Proofs.YtcncifmanodabaaGreatDoor
set_option linter.unusedVariables false
open Go.RowKit
def denyB (a:AnsD):Bool:=decide (a.why = 6) || decide (a.why = 5)
def ofOne (ask:IdD → AnsD) (x y:IdD):Bool:=!eqId y x && denyB (ask y)
def ofF (ask:IdD → AnsD) (x:IdD) (ids:List IdD):AnsD:=if (ask x).may = false then ask x else match ids.find? (ofOne ask x) with | some y => ask y | none => ask x
def ofErr (ps:List PurD) (ss:List StD) (ids:List IdD) (x:IdD) (purp region:ByteArray) (ch at_:Int):Int :=
 if sayErr idErr ps ss ≠ 0 then sayErr idErr ps ss else if idsErr ids 100 ≠ 0 then idsErr ids 100 else if idErr x.kind x.text ≠ 0 then idErr x.kind x.text
 else if queErr ps purp region ch at_ ≠ 0 then queErr ps purp region ch at_ else if anyF (eqId x) ids = false then 8 else 0
def askI (ps:List PurD) (ss:List StD) (purp region:ByteArray) (ch at_:Int) (y:IdD):AnsD:=askF ps ss y.kind y.text purp region ch at_
def mayOfA (ps:List PurD) (ss:List StD) (ids:List IdD) (x:IdD) (purp region:ByteArray) (ch at_:Int):AnsD :=
 if ofErr ps ss ids x purp region ch at_ ≠ 0 then ⟨false,0,0⟩ else ofF (askI ps ss purp region ch at_) x ids
structure MSo (H:Frz) (w:World) (x:IdD) (qv:Array Value) (W:World):Prop where
 inn:H.In W
 bel:Below w.heap.size w W
 h1:W.heap[w.heap.size]? = some (.cells #[.int .i64 x.kind,.string x.text] 36)
 h2:W.heap[w.heap.size + 1]? = some (.cells #[.bool false,.int .i64 0,.int .i64 0] 44)
 h3:W.heap[w.heap.size + 2]? = some (.cells qv 74)
theorem MSo.below {H:Frz} {w W W':World} {x:IdD} {qv:Array Value} (h:MSo H w x qv W) (hb:Below W.heap.size W W'):MSo H w x qv W' :=
 ⟨h.inn.below hb,h.bel.trans (hb.mono h.bel.size),(hb.block _ (lt_of_heap h.h1)).trans h.h1,(hb.block _ (lt_of_heap h.h2)).trans h.h2,(hb.block _ (lt_of_heap h.h3)).trans h.h3⟩
theorem MSo.start {H:Frz} {w:World} (hH:H.In w) (x:IdD) (qv:Array Value):MSo H w x qv (((w.alloc (.cells #[.int .i64 x.kind,.string x.text] 36)).alloc (.cells #[.bool false,.int .i64 0,.int .i64 0] 44)).alloc (.cells qv 74)) :=
 ⟨((hH.alloc _).alloc _).alloc _,(new2 (w:=w) _ _).alloc (by simp;omega) _,(heap_lt (by simp;omega)).trans ((heap_lt (by simp)).trans (heap_alloc_new _ _)),(heap_lt (by simp)).trans (heap_at (by simp)),heap_at (by simp)⟩
theorem ofErr_1 {ps ss ids x purp region ch at_} (h:sayErr idErr ps ss ≠ 0):ofErr ps ss ids x purp region ch at_ = sayErr idErr ps ss:=by unfold ofErr;rw [if_pos h]
theorem ofErr_2 {ps ss ids x purp region ch at_} (h:sayErr idErr ps ss = 0) (h2:idsErr ids 100 ≠ 0):ofErr ps ss ids x purp region ch at_ = idsErr ids 100:=by unfold ofErr;rw [if_neg (by simpa using h),if_pos h2]
theorem ofErr_3 {ps ss ids} {x:IdD} {purp region ch at_} (h:sayErr idErr ps ss = 0) (h2:idsErr ids 100 = 0) (h3:idErr x.kind x.text ≠ 0):ofErr ps ss ids x purp region ch at_ = idErr x.kind x.text:=by unfold ofErr;rw [if_neg (by simpa using h),if_neg (by simpa using h2),if_pos h3]
theorem ofErr_4 {ps ss ids} {x:IdD} {purp region ch at_} (h:sayErr idErr ps ss = 0) (h2:idsErr ids 100 = 0) (h3:idErr x.kind x.text = 0) (h4:queErr ps purp region ch at_ ≠ 0):ofErr ps ss ids x purp region ch at_ = queErr ps purp region ch at_:=by unfold ofErr;rw [if_neg (by simpa using h),if_neg (by simpa using h2),if_neg (by simpa using h3),if_pos h4]
theorem ofErr_5 {ps ss ids} {x:IdD} {purp region ch at_} (h:sayErr idErr ps ss = 0) (h2:idsErr ids 100 = 0) (h3:idErr x.kind x.text = 0) (h4:queErr ps purp region ch at_ = 0):ofErr ps ss ids x purp region ch at_ = if anyF (eqId x) ids = false then 8 else 0:=by unfold ofErr;rw [if_neg (by simpa using h),if_neg (by simpa using h2),if_neg (by simpa using h3),if_neg (by simpa using h4)]
theorem mayOf_err {ps ss ids x purp region ch at_} (h:ofErr ps ss ids x purp region ch at_ ≠ 0):mayOfA ps ss ids x purp region ch at_ = ⟨false,0,0⟩:=by unfold mayOfA;rw [if_pos h]
theorem mayOf_ok {ps ss ids x purp region ch at_} (h:ofErr ps ss ids x purp region ch at_ = 0):mayOfA ps ss ids x purp region ch at_ = ofF (askI ps ss purp region ch at_) x ids:=by unfold mayOfA;rw [if_neg (by simpa using h)]
theorem find_none_snoc {D:Type} {p:D → Bool} {l:List D} {i:Nat} (hi:i < l.length) (h:(l.take i).find? p = none) (h2:p l[i] = false):(l.take (i + 1)).find? p = none:=by
 rw [List.take_succ_eq_append_getElem hi,List.find?_append,h]
 simp [h2]
theorem find_some_at {D:Type} {p:D → Bool} {l:List D} {i:Nat} (hi:i < l.length) (h:(l.take i).find? p = none) (h2:p l[i] = true):l.find? p = some l[i]:=by
 conv => lhs;rw [← List.take_append_drop i l,List.find?_append,h,List.drop_eq_getElem_cons hi,List.find?_cons,h2]
 rfl
set_option maxHeartbeats 8000000 in
set_option maxRecDepth 100000 in
theorem mayOf_any (H:Frz) (hM:MLen H) (A:Option Addr) (cap:Nat) (ps:List PurD) (A2:Option Addr) (cap2:Nat) (ss:List StD) (A3:Option Addr) (cap3:Nat) (ids:List IdD) (x:IdD) (purp region:ByteArray) (ch at_:Int) (w:World) (hH:H.In w)
  (hP:PolIn H A ps) (hl:ps.length ≤ 1000000) (hR:Rw H A2 8 fSt ss) (hl2:ss.length < 20) (hsz:SzSt ss) (hR3:Rw H A3 2 fId ids) (hl3:ids.length ≤ 1000000) (hsz3:∀ y ∈ ids,y.text.size ≤ 1000000) (htz:x.text.size ≤ 1000000) (hrz:region.size ≤ 1000000) :
  Calls Tryz.prog 9 #[.slice A ps.length cap,.slice A2 ss.length cap2,.slice A3 ids.length cap3,.agg #[.int .i64 x.kind,.string x.text],.string purp,.string region,.int .i64 ch,.int .i64 at_] w fun e w' => e = .returned (.tuple #[ansV (mayOfA ps ss ids x purp region ch at_),.int .i64 (ofErr ps ss ids x purp region ch at_)]) ∧ Below w.heap.size w w':=by
 have HM0:=Lib.hid (MSo.start hH x #[.slice A ps.length cap,.string purp,.string region,.int .i64 ch,.int .i64 at_])
 have HCK:=Lib.hid (fun W (hW:H.In W) => check_any H hM A cap ps A2 cap2 ss W hW hP hl hR (by omega) hsz)
 have HCI:=Lib.hid (fun W (hW:H.In W) => checkIds_any H hM A3 cap3 ids 100 W hW hR3 hl3 hsz3)
 have HCX:=Lib.hid (fun W (hW:H.In W) => checkId_any H hM x.kind x.text W hW htz)
 have HCO:=Lib.hid (fun W (hW:H.In W) => contains_Id H A3 cap3 ids x W hW hR3 hl3)
 have HP:=Lib.hid hP
 have HR:=Lib.hid hR
 have HR3:=Lib.hid hR3
 have HE1:=Lib.hid (@ofErr_1 ps ss ids x purp region ch at_)
 have HE2:=Lib.hid (@ofErr_2 ps ss ids x purp region ch at_)
 have HE3:=Lib.hid (@ofErr_3 ps ss ids x purp region ch at_)
 have HE4:=Lib.hid (@ofErr_4 ps ss ids x purp region ch at_)
 have HE5:=Lib.hid (@ofErr_5 ps ss ids x purp region ch at_)
 have HME:=Lib.hid (@mayOf_err ps ss ids x purp region ch at_)
 have HMO:=Lib.hid (@mayOf_ok ps ss ids x purp region ch at_)
 clear hH hM hP hR hsz hR3 hsz3
 go_enter Tryz.func9,Tryz.ntmps9
 go_upto_region 2 with (fail)
 generalize ((w.alloc (.cells #[.int .i64 x.kind,.string x.text] 36)).alloc (.cells #[.bool false,.int .i64 0,.int .i64 0] 44)).alloc (.cells #[.slice A ps.length cap,.string purp,.string region,.int .i64 ch,.int .i64 at_] 74) = W0 at *
 go_wp2_with fail
 refine (HCK.out _ HM0.out.inn).mono ?_
 rintro e w1 ⟨rfl,hb⟩
 have HM1:=Lib.hid (HM0.out.below hb)
 clear hb HM0 HCK
 by_cases g:sayErr idErr ps ss = 0
 rotate_left
 ·generalize hse:sayErr idErr ps ss = se at *
  have k1:(se != 0) = true:=by simpa using g
  have HSE:=Lib.hid hse
  clear hse
  have hk2:=HM1.out.h2
  have a0:w1.cell? ⟨w.heap.size + 1,0,none⟩ = some (.bool false):=cell_h hk2 0 rfl
  have a1:w1.cell? ⟨w.heap.size + 1,1,none⟩ = some (.int .i64 0):=cell_h hk2 1 rfl
  have a2:w1.cell? ⟨w.heap.size + 1,2,none⟩ = some (.int .i64 0):=cell_h hk2 2 rfl
  have b0:=froz_h hk2 0
  have b1:=froz_h hk2 1
  have b2:=froz_h hk2 2
  have HK9:=Lib.hid (set3 hk2 (.bool false) (.int .i64 0) (.int .i64 0))
  have HB9:=Lib.hid (below_set3 HM1.out.bel (show w.heap.size ≤ w.heap.size + 1 by omega) (.bool false) (.int .i64 0) (.int .i64 0))
  have HV:=Lib.hid ((HE1.out g))
  have HA:=Lib.hid (HME.out (by rw [HV.out];exact g))
  clear g hk2
  go_wp2_with fail
  have u0:=cell_h HK9.out 0 (v:=.bool false) rfl
  have u1:=cell_h HK9.out 1 (v:=.int .i64 0) rfl
  have u2:=cell_h HK9.out 2 (v:=.int .i64 0) rfl
  refine bodyPost_ret (v:=.tuple #[.agg #[.bool false,.int .i64 0,.int .i64 0],.int .i64 se]) (by simp [results,Tryz.results9,go_sem,u0,u1,u2]) rfl ⟨?_,HB9.out⟩
  rw [HA.out,HV.out];rfl
 ·have G1:=Lib.hid g
  rw [g]
  have hpol:=say_pol g
  have hps:=pol_right hpol
  have HQC:=Lib.hid (fun W (hW:H.In W) => qCheck_any H A cap ps purp region ch at_ W hW HP.out hps.1 hl hrz)
  have HASK:=Lib.hid (fun (y:IdD) W (hW:H.In W) => ask_any H A cap ps purp region ch at_ A2 cap2 ss y.kind y.text W hW HP.out hps.1 (fun p hp => (tes_right (hps.2 p hp)).1) hl HR.out hl2)
  have HTB:=Lib.hid (term_tb hpol (purp:=purp) (region:=region) (ch:=ch))
  have HBD:=Lib.hid (fun y:IdD => said_bd (say_bd g) y.kind y.text ch)
  have HSL:=Lib.hid (fun y:IdD => said_len ss y.kind y.text ch)
  clear g hpol hps HP HR
  go_wp2_with fail
  refine (HCI.out _ HM1.out.inn).mono ?_
  rintro e w2 ⟨rfl,hb⟩
  have HM2:=Lib.hid (HM1.out.below hb)
  clear hb HM1 HCI
  by_cases g:idsErr ids 100 = 0
  rotate_left
  ·generalize hse:idsErr ids 100 = se at *
   have k1:(se != 0) = true:=by simpa using g
   clear hse
   have hk2:=HM2.out.h2
   have a0:w2.cell? ⟨w.heap.size + 1,0,none⟩ = some (.bool false):=cell_h hk2 0 rfl
   have a1:w2.cell? ⟨w.heap.size + 1,1,none⟩ = some (.int .i64 0):=cell_h hk2 1 rfl
   have a2:w2.cell? ⟨w.heap.size + 1,2,none⟩ = some (.int .i64 0):=cell_h hk2 2 rfl
   have b0:=froz_h hk2 0
   have b1:=froz_h hk2 1
   have b2:=froz_h hk2 2
   have HK9:=Lib.hid (set3 hk2 (.bool false) (.int .i64 0) (.int .i64 0))
   have HB9:=Lib.hid (below_set3 HM2.out.bel (show w.heap.size ≤ w.heap.size + 1 by omega) (.bool false) (.int .i64 0) (.int .i64 0))
   have HV:=Lib.hid ((HE2.out G1.out g))
   have HA:=Lib.hid (HME.out (by rw [HV.out];exact g))
   clear g hk2
   go_wp2_with fail
   have u0:=cell_h HK9.out 0 (v:=.bool false) rfl
   have u1:=cell_h HK9.out 1 (v:=.int .i64 0) rfl
   have u2:=cell_h HK9.out 2 (v:=.int .i64 0) rfl
   refine bodyPost_ret (v:=.tuple #[.agg #[.bool false,.int .i64 0,.int .i64 0],.int .i64 se]) (by simp [results,Tryz.results9,go_sem,u0,u1,u2]) rfl ⟨?_,HB9.out⟩
   rw [HA.out,HV.out];rfl
  ·have G2:=Lib.hid g
   rw [g]
   clear g
   have i0:w2.cell? ⟨w.heap.size,0,none⟩ = some (.int .i64 x.kind):=cell_h HM2.out.h1 0 rfl
   have i1:w2.cell? ⟨w.heap.size,1,none⟩ = some (.string x.text):=cell_h HM2.out.h1 1 rfl
   go_wp2_with fail
   refine (HCX.out _ HM2.out.inn).mono ?_
   rintro e w3 ⟨rfl,hb⟩
   have HM3:=Lib.hid (HM2.out.below hb)
   clear hb HM2 HCX i0 i1
   by_cases g:idErr x.kind x.text = 0
   rotate_left
   ·generalize hse:idErr x.kind x.text = se at *
    have k1:(se != 0) = true:=by simpa using g
    clear hse
    have hk2:=HM3.out.h2
    have a0:w3.cell? ⟨w.heap.size + 1,0,none⟩ = some (.bool false):=cell_h hk2 0 rfl
    have a1:w3.cell? ⟨w.heap.size + 1,1,none⟩ = some (.int .i64 0):=cell_h hk2 1 rfl
    have a2:w3.cell? ⟨w.heap.size + 1,2,none⟩ = some (.int .i64 0):=cell_h hk2 2 rfl
    have b0:=froz_h hk2 0
    have b1:=froz_h hk2 1
    have b2:=froz_h hk2 2
    have HK9:=Lib.hid (set3 hk2 (.bool false) (.int .i64 0) (.int .i64 0))
    have HB9:=Lib.hid (below_set3 HM3.out.bel (show w.heap.size ≤ w.heap.size + 1 by omega) (.bool false) (.int .i64 0) (.int .i64 0))
    have HV:=Lib.hid ((HE3.out G1.out G2.out g))
    have HA:=Lib.hid (HME.out (by rw [HV.out];exact g))
    clear g hk2
    go_wp2_with fail
    have u0:=cell_h HK9.out 0 (v:=.bool false) rfl
    have u1:=cell_h HK9.out 1 (v:=.int .i64 0) rfl
    have u2:=cell_h HK9.out 2 (v:=.int .i64 0) rfl
    refine bodyPost_ret (v:=.tuple #[.agg #[.bool false,.int .i64 0,.int .i64 0],.int .i64 se]) (by simp [results,Tryz.results9,go_sem,u0,u1,u2]) rfl ⟨?_,HB9.out⟩
    rw [HA.out,HV.out];rfl
   ·have G3:=Lib.hid g
    rw [g]
    clear g
    have q0:w3.cell? ⟨w.heap.size + 2,0,none⟩ = some (.slice A ps.length cap):=cell_h HM3.out.h3 0 rfl
    have q1:w3.cell? ⟨w.heap.size + 2,1,none⟩ = some (.string purp):=cell_h HM3.out.h3 1 rfl
    have q2:w3.cell? ⟨w.heap.size + 2,2,none⟩ = some (.string region):=cell_h HM3.out.h3 2 rfl
    have q3:w3.cell? ⟨w.heap.size + 2,3,none⟩ = some (.int .i64 ch):=cell_h HM3.out.h3 3 rfl
    have q4:w3.cell? ⟨w.heap.size + 2,4,none⟩ = some (.int .i64 at_):=cell_h HM3.out.h3 4 rfl
    go_wp2_with fail
    refine (HQC.out _ HM3.out.inn).mono ?_
    rintro e w4 ⟨rfl,hb⟩
    have HM4:=Lib.hid (HM3.out.below hb)
    clear hb HM3 HQC q0 q1 q2 q3 q4
    by_cases g:queErr ps purp region ch at_ = 0
    rotate_left
    ·generalize hse:queErr ps purp region ch at_ = se at *
     have k1:(se != 0) = true:=by simpa using g
     clear hse
     have hk2:=HM4.out.h2
     have a0:w4.cell? ⟨w.heap.size + 1,0,none⟩ = some (.bool false):=cell_h hk2 0 rfl
     have a1:w4.cell? ⟨w.heap.size + 1,1,none⟩ = some (.int .i64 0):=cell_h hk2 1 rfl
     have a2:w4.cell? ⟨w.heap.size + 1,2,none⟩ = some (.int .i64 0):=cell_h hk2 2 rfl
     have b0:=froz_h hk2 0
     have b1:=froz_h hk2 1
     have b2:=froz_h hk2 2
     have HK9:=Lib.hid (set3 hk2 (.bool false) (.int .i64 0) (.int .i64 0))
     have HB9:=Lib.hid (below_set3 HM4.out.bel (show w.heap.size ≤ w.heap.size + 1 by omega) (.bool false) (.int .i64 0) (.int .i64 0))
     have HV:=Lib.hid ((HE4.out G1.out G2.out G3.out g))
     have HA:=Lib.hid (HME.out (by rw [HV.out];exact g))
     clear g hk2
     go_wp2_with fail
     have u0:=cell_h HK9.out 0 (v:=.bool false) rfl
     have u1:=cell_h HK9.out 1 (v:=.int .i64 0) rfl
     have u2:=cell_h HK9.out 2 (v:=.int .i64 0) rfl
     refine bodyPost_ret (v:=.tuple #[.agg #[.bool false,.int .i64 0,.int .i64 0],.int .i64 se]) (by simp [results,Tryz.results9,go_sem,u0,u1,u2]) rfl ⟨?_,HB9.out⟩
     rw [HA.out,HV.out];rfl
    ·have HE5':=Lib.hid (HE5.out G1.out G2.out G3.out g)
     have hat:=que_at g
     rw [g]
     clear g HE1 HE2 HE3 HE4 HE5
     have i0:w4.cell? ⟨w.heap.size,0,none⟩ = some (.int .i64 x.kind):=cell_h HM4.out.h1 0 rfl
     have i1:w4.cell? ⟨w.heap.size,1,none⟩ = some (.string x.text):=cell_h HM4.out.h1 1 rfl
     go_wp2_with fail
     refine (HCO.out _ HM4.out.inn).mono ?_
     rintro e w5 ⟨rfl,hb⟩
     have HM5:=Lib.hid (HM4.out.below hb)
     clear hb HM4 HCO i0 i1
     generalize hany:anyF (eqId x) ids = any at *
     cases any with
     | false =>
      have g:(8:Int) ≠ 0:=by omega
      clear hany
      have hk2:=HM5.out.h2
      have a0:w5.cell? ⟨w.heap.size + 1,0,none⟩ = some (.bool false):=cell_h hk2 0 rfl
      have a1:w5.cell? ⟨w.heap.size + 1,1,none⟩ = some (.int .i64 0):=cell_h hk2 1 rfl
      have a2:w5.cell? ⟨w.heap.size + 1,2,none⟩ = some (.int .i64 0):=cell_h hk2 2 rfl
      have b0:=froz_h hk2 0
      have b1:=froz_h hk2 1
      have b2:=froz_h hk2 2
      have HK9:=Lib.hid (set3 hk2 (.bool false) (.int .i64 0) (.int .i64 0))
      have HB9:=Lib.hid (below_set3 HM5.out.bel (show w.heap.size ≤ w.heap.size + 1 by omega) (.bool false) (.int .i64 0) (.int .i64 0))
      have HV:=Lib.hid ((HE5'.out.trans (if_pos rfl)))
      have HA:=Lib.hid (HME.out (by rw [HV.out];exact g))
      clear g hk2
      go_wp2_with fail
      have u0:=cell_h HK9.out 0 (v:=.bool false) rfl
      have u1:=cell_h HK9.out 1 (v:=.int .i64 0) rfl
      have u2:=cell_h HK9.out 2 (v:=.int .i64 0) rfl
      refine bodyPost_ret (v:=.tuple #[.agg #[.bool false,.int .i64 0,.int .i64 0],.int .i64 8]) (by simp [results,Tryz.results9,go_sem,u0,u1,u2]) rfl ⟨?_,HB9.out⟩
      rw [HA.out,HV.out];rfl
     | true =>
      have HV:=Lib.hid (HE5'.out.trans (if_neg (by simp)))
      have HA:=Lib.hid (HMO.out HV.out)
      clear hany HE5' HME HMO
      have i0:w5.cell? ⟨w.heap.size,0,none⟩ = some (.int .i64 x.kind):=cell_h HM5.out.h1 0 rfl
      have i1:w5.cell? ⟨w.heap.size,1,none⟩ = some (.string x.text):=cell_h HM5.out.h1 1 rfl
      have q0:w5.cell? ⟨w.heap.size + 2,0,none⟩ = some (.slice A ps.length cap):=cell_h HM5.out.h3 0 rfl
      have q1:w5.cell? ⟨w.heap.size + 2,1,none⟩ = some (.string purp):=cell_h HM5.out.h3 1 rfl
      have q2:w5.cell? ⟨w.heap.size + 2,2,none⟩ = some (.string region):=cell_h HM5.out.h3 2 rfl
      have q3:w5.cell? ⟨w.heap.size + 2,3,none⟩ = some (.int .i64 ch):=cell_h HM5.out.h3 3 rfl
      have q4:w5.cell? ⟨w.heap.size + 2,4,none⟩ = some (.int .i64 at_):=cell_h HM5.out.h3 4 rfl
      go_wp2_with fail
      refine (HASK.out x _ HM5.out.inn).mono ?_
      rintro e w6 ⟨v,rfl,hO,hb⟩
      obtain ⟨A4,cap4,H2,hv,hle4,p1,p2,hR4,-⟩:=hO.freeze H
      subst hv
      have hin2:=p1 (HM5.out.inn.below hb)
      have HM6:=Lib.hid (HM5.out.below hb)
      have hsl:=HSL.out x
      have HAN:=Lib.hid (answer_any H2 A4 cap4 (saidF ss x.kind x.text ch) (termF ps purp region ch) purp at_ w6 hin2 hR4 (saidF_at _ _ _ _) (by omega) hle4 (HBD.out x) HTB.out (by omega) (by omega))
      clear hO p1 p2 hR4 hin2 hb i0 i1 q0 q1 q2 q3 q4 HM5
      go_wp2_with fail
      refine HAN.out.mono ?_
      rintro e w7 ⟨rfl,hb⟩
      have HM7:=Lib.hid (HM6.out.below hb)
      rw [show answerF (termF ps purp region ch) purp (saidF ss x.kind x.text ch) at_ = askI ps ss purp region ch at_ x from rfl]
      clear hb HM6 HAN hsl hle4
      have HIF:=Lib.hid (show ofF (askI ps ss purp region ch at_) x ids = if (askI ps ss purp region ch at_ x).may = false then askI ps ss purp region ch at_ x else match ids.find? (ofOne (askI ps ss purp region ch at_) x) with | some y => askI ps ss purp region ch at_ y | none => askI ps ss purp region ch at_ x from rfl)
      generalize hax:askI ps ss purp region ch at_ x = ax at HIF
      have HAX:=Lib.hid hax
      clear hax
      obtain ⟨am,ay,an⟩:=ax
      rw [show ansV ⟨am,ay,an⟩ = .agg #[.bool am,.int .i64 ay,.int .i64 an] from rfl]
      have HM8:=Lib.hid (HM7.out.below (new1 (.cells #[.bool am,.int .i64 ay,.int .i64 an] 44)))
      have HT8:Hid ((w7.alloc (.cells #[.bool am,.int .i64 ay,.int .i64 an] 44)).heap[w7.heap.size]? = some (.cells #[.bool am,.int .i64 ay,.int .i64 an] 44)):=heap_alloc_new _ _
      have hw7:w.heap.size ≤ w7.heap.size:=HM7.out.bel.size
      have hne7:w7.heap.size ≠ w.heap.size + 1:=by have:=lt_of_heap HM7.out.h2;omega
      clear HM7
      go_upto_region 17 with (fail)
      generalize w7.alloc (.cells #[.bool am,.int .i64 ay,.int .i64 an] 44) = W8 at *
      generalize w7.heap.size = tb at *
      cases am with
      | false =>
       have ht:=HT8.out
       have t0:W8.cell? ⟨tb,0,none⟩ = some (.bool false):=cell_h ht 0 rfl
       have t1:W8.cell? ⟨tb,1,none⟩ = some (.int .i64 ay):=cell_h ht 1 rfl
       have t2:W8.cell? ⟨tb,2,none⟩ = some (.int .i64 an):=cell_h ht 2 rfl
       have hk2:=HM8.out.h2
       have a0:W8.cell? ⟨w.heap.size + 1,0,none⟩ = some (.bool false):=cell_h hk2 0 rfl
       have a1:W8.cell? ⟨w.heap.size + 1,1,none⟩ = some (.int .i64 0):=cell_h hk2 1 rfl
       have a2:W8.cell? ⟨w.heap.size + 1,2,none⟩ = some (.int .i64 0):=cell_h hk2 2 rfl
       have b0:=froz_h hk2 0
       have b1:=froz_h hk2 1
       have b2:=froz_h hk2 2
       have HK9:=Lib.hid (set3 hk2 (.bool false) (.int .i64 ay) (.int .i64 an))
       have HB9:=Lib.hid (below_set3 HM8.out.bel (show w.heap.size ≤ w.heap.size + 1 by omega) (.bool false) (.int .i64 ay) (.int .i64 an))
       have HAF:=Lib.hid (HA.out.trans (HIF.out.trans (if_pos rfl)))
       clear hk2 ht HA HIF
       go_wp2_with fail
       have u0:=cell_h HK9.out 0 (v:=.bool false) rfl
       have u1:=cell_h HK9.out 1 (v:=.int .i64 ay) rfl
       have u2:=cell_h HK9.out 2 (v:=.int .i64 an) rfl
       refine bodyPost_ret (v:=.tuple #[.agg #[.bool false,.int .i64 ay,.int .i64 an],.int .i64 0]) (by simp [results,Tryz.results9,go_sem,u0,u1,u2]) rfl ⟨?_,HB9.out⟩
       rw [HAF.out,HV.out];rfl
      | true =>
       have HAF:=Lib.hid (HA.out.trans (HIF.out.trans (if_neg (by simp))))
       have t0:W8.cell? ⟨tb,0,none⟩ = some (.bool true):=cell_h HT8.out 0 rfl
       clear HA HIF
       go_wp2_with fail
       clear t0
       go_loopw [75] (fun t wr => ∃ i:Nat,i ≤ ids.length ∧ t = .int .i64 i ∧ Hid ((ids.take i).find? (ofOne (askI ps ss purp region ch at_) x) = none) ∧ Hid (MSo H w x #[.slice A ps.length cap,.string purp,.string region,.int .i64 ch,.int .i64 at_] wr) ∧ Hid (wr.heap[tb]? = some (.cells #[.bool true,.int .i64 ay,.int .i64 an] 44))) (fun t _ => ids.length - (intOf t).toNat)
       case atStart => exact ⟨0,by omega,rfl,Lib.hid rfl,HM8,HT8⟩
       case round =>
        obtain ⟨i,hi,rfl,hfn,hM,hT⟩:=hrel
        clear HM8 HT8
        have i0:wr.cell? ⟨w.heap.size,0,none⟩ = some (.int .i64 x.kind):=cell_h hM.out.h1 0 rfl
        have i1:wr.cell? ⟨w.heap.size,1,none⟩ = some (.string x.text):=cell_h hM.out.h1 1 rfl
        by_cases hlt:i < ids.length
        ·obtain ⟨b,off,rfl,hbl,hc⟩:=HR3.out.at_ hM.out.inn hlt (by omega)
         have c0:wr.cell? ⟨b,off + i * 2,none⟩ = some (.int .i64 ids[i].kind):=hc 0 (by omega)
         have c1:wr.cell? ⟨b,off + i * 2 + 1,none⟩ = some (.string ids[i].text):=hc 1 (by omega)
         have HN:=Lib.hid (fun h2 => find_none_snoc hlt hfn.out h2)
         have HS:=Lib.hid (fun h2 => find_some_at hlt hfn.out h2)
         have hqb:w.heap.size + 2 < wr.heap.size:=lt_of_heap hM.out.h3
         clear hc
         generalize ids[i] = y at *
         have HOO:Hid (ofOne (askI ps ss purp region ch at_) x y = (!(decide (y.kind = x.kind) && eqS y.text x.text) && denyB (askI ps ss purp region ch at_ y))):=rfl
         have HM1:=Lib.hid (hM.out.below (new1 (.cells #[.int .i64 y.kind,.string y.text] 36)))
         have HT1:=Lib.hid (((new1 (w:=wr) (.cells #[.int .i64 y.kind,.string y.text] 36)).block _ (lt_of_heap hT.out)).trans hT.out)
         have z0:(wr.alloc (.cells #[.int .i64 y.kind,.string y.text] 36)).cell? ⟨wr.heap.size,0,none⟩ = some (.int .i64 y.kind):=newc 0 rfl
         have z1:(wr.alloc (.cells #[.int .i64 y.kind,.string y.text] 36)).cell? ⟨wr.heap.size,1,none⟩ = some (.string y.text):=newc 1 rfl
         have x0:(wr.alloc (.cells #[.int .i64 y.kind,.string y.text] 36)).cell? ⟨w.heap.size,0,none⟩ = some (.int .i64 x.kind):=cell_h HM1.out.h1 0 rfl
         have x1:(wr.alloc (.cells #[.int .i64 y.kind,.string y.text] 36)).cell? ⟨w.heap.size,1,none⟩ = some (.string x.text):=cell_h HM1.out.h1 1 rfl
         go_upto_region 22 with (fail)
         clear i0 i1 c0 c1
         generalize wr.alloc (.cells #[.int .i64 y.kind,.string y.text] 36) = W1 at *
         generalize wr.heap.size = yb at *
         by_cases hyx:eqId y x = true
         ·obtain ⟨h1,h2⟩:decide (y.kind = x.kind) = true ∧ eqS y.text x.text = true:=by simpa only [eqId,Bool.and_eq_true] using hyx
          have k1:(y.kind == x.kind) = true:=by simpa using h1
          have k2:(y.text.toList == x.text.toList) = true:=h2
          have HN2:=Lib.hid (HN.out (by rw [HOO.out,h1,h2];rfl))
          clear hyx h1 h2 HN HS HOO
          go_wp2_with fail
          go_roundw
          case rel => exact ⟨i + 1,by omega,by go_num,HN2,HM1,HT1⟩
          case measure => simp [intOf];omega
         ·have HOO2:Hid (ofOne (askI ps ss purp region ch at_) x y = denyB (askI ps ss purp region ch at_ y)):=by
           have e:eqId y x = false:=by simpa using hyx
           show _ = _
           unfold ofOne
           rw [e];rfl
          have hyx2:((y.kind == x.kind) && (y.text.toList == x.text.toList)) = false:=by
           have e:eqId y x = false:=by simpa using hyx
           have e2:(y.kind == x.kind) = decide (y.kind = x.kind):=by
            by_cases c:y.kind = x.kind <;> simp [c]
           rw [e2]
           exact e
          have q0:W1.cell? ⟨w.heap.size + 2,0,none⟩ = some (.slice A ps.length cap):=cell_h HM1.out.h3 0 rfl
          have q1:W1.cell? ⟨w.heap.size + 2,1,none⟩ = some (.string purp):=cell_h HM1.out.h3 1 rfl
          have q2:W1.cell? ⟨w.heap.size + 2,2,none⟩ = some (.string region):=cell_h HM1.out.h3 2 rfl
          have q3:W1.cell? ⟨w.heap.size + 2,3,none⟩ = some (.int .i64 ch):=cell_h HM1.out.h3 3 rfl
          have q4:W1.cell? ⟨w.heap.size + 2,4,none⟩ = some (.int .i64 at_):=cell_h HM1.out.h3 4 rfl
          clear hyx HOO
          cases k1:(y.kind == x.kind) with
          | false =>
           clear hyx2
           go_wp2_with fail
           refine (HASK.out y _ HM1.out.inn).mono ?_
           rintro e w2 ⟨v,rfl,hO,hb⟩
           obtain ⟨A5,cap5,H3,hv,hle5,p1,p2,hR5,-⟩:=hO.freeze H
           subst hv
           have hin3:=p1 (HM1.out.inn.below hb)
           have HM2:=Lib.hid (HM1.out.below hb)
           have HT2:=Lib.hid ((hb.block _ (lt_of_heap HT1.out)).trans HT1.out)
           have hsl:=HSL.out y
           have HAN:=Lib.hid (answer_any H3 A5 cap5 (saidF ss y.kind y.text ch) (termF ps purp region ch) purp at_ w2 hin3 hR5 (saidF_at _ _ _ _) (by omega) hle5 (HBD.out y) HTB.out (by omega) (by omega))
           clear hO p1 p2 hR5 hin3 hb x0 x1 z0 z1 q0 q1 q2 q3 q4 HM1 HT1
           go_wp2_with fail
           refine HAN.out.mono ?_
           rintro e w3 ⟨rfl,hb⟩
           have HM3:=Lib.hid (HM2.out.below hb)
           have HT3:=Lib.hid ((hb.block _ (lt_of_heap HT2.out)).trans HT2.out)
           rw [show answerF (termF ps purp region ch) purp (saidF ss y.kind y.text ch) at_ = askI ps ss purp region ch at_ y from rfl]
           clear hb HM2 HT2 HAN hsl hle5
           generalize hay:askI ps ss purp region ch at_ y = ya at HOO2
           have HAY:=Lib.hid hay
           clear hay
           obtain ⟨ym,yy,yn⟩:=ya
           rw [show ansV ⟨ym,yy,yn⟩ = .agg #[.bool ym,.int .i64 yy,.int .i64 yn] from rfl]
           have HD:Hid (denyB ⟨ym,yy,yn⟩ = (decide (yy = 6) || decide (yy = 5))):=rfl
           have HM4:=Lib.hid (HM3.out.below (new1 (.cells #[.bool ym,.int .i64 yy,.int .i64 yn] 44)))
           have HT4:=Lib.hid (((new1 (w:=w3) (.cells #[.bool ym,.int .i64 yy,.int .i64 yn] 44)).block _ (lt_of_heap HT3.out)).trans HT3.out)
           have y0:(w3.alloc (.cells #[.bool ym,.int .i64 yy,.int .i64 yn] 44)).cell? ⟨w3.heap.size,0,none⟩ = some (.bool ym):=newc 0 rfl
           have y1:(w3.alloc (.cells #[.bool ym,.int .i64 yy,.int .i64 yn] 44)).cell? ⟨w3.heap.size,1,none⟩ = some (.int .i64 yy):=newc 1 rfl
           have y2:(w3.alloc (.cells #[.bool ym,.int .i64 yy,.int .i64 yn] 44)).cell? ⟨w3.heap.size,2,none⟩ = some (.int .i64 yn):=newc 2 rfl
           clear HM3 HT3
           go_upto_region 24 with (fail)
           generalize w3.alloc (.cells #[.bool ym,.int .i64 yy,.int .i64 yn] 44) = W4 at *
           generalize w3.heap.size = ab at *
           by_cases hd:denyB ⟨ym,yy,yn⟩ = true
           ·have HS2:=Lib.hid (HS.out (HOO2.out.trans hd))
            rw [HS2.out] at HAF
            simp only [HAY.out] at HAF
            have hk2:=HM4.out.h2
            have a0:W4.cell? ⟨w.heap.size + 1,0,none⟩ = some (.bool false):=cell_h hk2 0 rfl
            have a1:W4.cell? ⟨w.heap.size + 1,1,none⟩ = some (.int .i64 0):=cell_h hk2 1 rfl
            have a2:W4.cell? ⟨w.heap.size + 1,2,none⟩ = some (.int .i64 0):=cell_h hk2 2 rfl
            have b0:=froz_h hk2 0
            have b1:=froz_h hk2 1
            have b2:=froz_h hk2 2
            have HK9:=Lib.hid (set3 hk2 (.bool ym) (.int .i64 yy) (.int .i64 yn))
            have HB9:=Lib.hid (below_set3 HM4.out.bel (show w.heap.size ≤ w.heap.size + 1 by omega) (.bool ym) (.int .i64 yy) (.int .i64 yn))
            rw [HD.out] at hd
            clear hk2 HS2 HS HN HOO2
            have hyy:yy = 6 ∨ yy = 5:=by simpa using hd
            clear hd HD
            rcases hyy with rfl | rfl
            all_goals
             go_wp2_with fail
             have u0:=cell_h HK9.out 0 (v:=.bool ym) rfl
             have u1:=cell_h HK9.out 1 (v:=.int .i64 _) rfl
             have u2:=cell_h HK9.out 2 (v:=.int .i64 yn) rfl
             refine bodyPost_ret (v:=.tuple #[.agg #[.bool ym,.int .i64 _,.int .i64 yn],.int .i64 0]) (by simp [results,Tryz.results9,go_sem,u0,u1,u2];rfl) rfl ⟨?_,HB9.out⟩
             rw [HAF.out,HV.out];rfl
           ·have HN2:=Lib.hid (HN.out (HOO2.out.trans (by simpa using hd)))
            rw [HD.out] at hd
            have n6:(yy == 6) = false:=by simp at hd;simp;exact hd.1
            have n5:(yy == 5) = false:=by simp at hd;simp;exact hd.2
            clear hd HD HS HN HOO2
            go_wp2_with fail
            go_roundw
            case rel => exact ⟨i + 1,by omega,by go_num,HN2,HM4,HT4⟩
            case measure => simp [intOf];omega
          | true =>
           have k2:(y.text.toList == x.text.toList) = false:=by rw [k1] at hyx2;exact hyx2
           clear hyx2
           go_wp2_with fail
           refine (HASK.out y _ HM1.out.inn).mono ?_
           rintro e w2 ⟨v,rfl,hO,hb⟩
           obtain ⟨A5,cap5,H3,hv,hle5,p1,p2,hR5,-⟩:=hO.freeze H
           subst hv
           have hin3:=p1 (HM1.out.inn.below hb)
           have HM2:=Lib.hid (HM1.out.below hb)
           have HT2:=Lib.hid ((hb.block _ (lt_of_heap HT1.out)).trans HT1.out)
           have hsl:=HSL.out y
           have HAN:=Lib.hid (answer_any H3 A5 cap5 (saidF ss y.kind y.text ch) (termF ps purp region ch) purp at_ w2 hin3 hR5 (saidF_at _ _ _ _) (by omega) hle5 (HBD.out y) HTB.out (by omega) (by omega))
           clear hO p1 p2 hR5 hin3 hb x0 x1 z0 z1 q0 q1 q2 q3 q4 HM1 HT1
           go_wp2_with fail
           refine HAN.out.mono ?_
           rintro e w3 ⟨rfl,hb⟩
           have HM3:=Lib.hid (HM2.out.below hb)
           have HT3:=Lib.hid ((hb.block _ (lt_of_heap HT2.out)).trans HT2.out)
           rw [show answerF (termF ps purp region ch) purp (saidF ss y.kind y.text ch) at_ = askI ps ss purp region ch at_ y from rfl]
           clear hb HM2 HT2 HAN hsl hle5
           generalize hay:askI ps ss purp region ch at_ y = ya at HOO2
           have HAY:=Lib.hid hay
           clear hay
           obtain ⟨ym,yy,yn⟩:=ya
           rw [show ansV ⟨ym,yy,yn⟩ = .agg #[.bool ym,.int .i64 yy,.int .i64 yn] from rfl]
           have HD:Hid (denyB ⟨ym,yy,yn⟩ = (decide (yy = 6) || decide (yy = 5))):=rfl
           have HM4:=Lib.hid (HM3.out.below (new1 (.cells #[.bool ym,.int .i64 yy,.int .i64 yn] 44)))
           have HT4:=Lib.hid (((new1 (w:=w3) (.cells #[.bool ym,.int .i64 yy,.int .i64 yn] 44)).block _ (lt_of_heap HT3.out)).trans HT3.out)
           have y0:(w3.alloc (.cells #[.bool ym,.int .i64 yy,.int .i64 yn] 44)).cell? ⟨w3.heap.size,0,none⟩ = some (.bool ym):=newc 0 rfl
           have y1:(w3.alloc (.cells #[.bool ym,.int .i64 yy,.int .i64 yn] 44)).cell? ⟨w3.heap.size,1,none⟩ = some (.int .i64 yy):=newc 1 rfl
           have y2:(w3.alloc (.cells #[.bool ym,.int .i64 yy,.int .i64 yn] 44)).cell? ⟨w3.heap.size,2,none⟩ = some (.int .i64 yn):=newc 2 rfl
           clear HM3 HT3
           go_upto_region 24 with (fail)
           generalize w3.alloc (.cells #[.bool ym,.int .i64 yy,.int .i64 yn] 44) = W4 at *
           generalize w3.heap.size = ab at *
           by_cases hd:denyB ⟨ym,yy,yn⟩ = true
           ·have HS2:=Lib.hid (HS.out (HOO2.out.trans hd))
            rw [HS2.out] at HAF
            simp only [HAY.out] at HAF
            have hk2:=HM4.out.h2
            have a0:W4.cell? ⟨w.heap.size + 1,0,none⟩ = some (.bool false):=cell_h hk2 0 rfl
            have a1:W4.cell? ⟨w.heap.size + 1,1,none⟩ = some (.int .i64 0):=cell_h hk2 1 rfl
            have a2:W4.cell? ⟨w.heap.size + 1,2,none⟩ = some (.int .i64 0):=cell_h hk2 2 rfl
            have b0:=froz_h hk2 0
            have b1:=froz_h hk2 1
            have b2:=froz_h hk2 2
            have HK9:=Lib.hid (set3 hk2 (.bool ym) (.int .i64 yy) (.int .i64 yn))
            have HB9:=Lib.hid (below_set3 HM4.out.bel (show w.heap.size ≤ w.heap.size + 1 by omega) (.bool ym) (.int .i64 yy) (.int .i64 yn))
            rw [HD.out] at hd
            clear hk2 HS2 HS HN HOO2
            have hyy:yy = 6 ∨ yy = 5:=by simpa using hd
            clear hd HD
            rcases hyy with rfl | rfl
            all_goals
             go_wp2_with fail
             have u0:=cell_h HK9.out 0 (v:=.bool ym) rfl
             have u1:=cell_h HK9.out 1 (v:=.int .i64 _) rfl
             have u2:=cell_h HK9.out 2 (v:=.int .i64 yn) rfl
             refine bodyPost_ret (v:=.tuple #[.agg #[.bool ym,.int .i64 _,.int .i64 yn],.int .i64 0]) (by simp [results,Tryz.results9,go_sem,u0,u1,u2];rfl) rfl ⟨?_,HB9.out⟩
             rw [HAF.out,HV.out];rfl
           ·have HN2:=Lib.hid (HN.out (HOO2.out.trans (by simpa using hd)))
            rw [HD.out] at hd
            have n6:(yy == 6) = false:=by simp at hd;simp;exact hd.1
            have n5:(yy == 5) = false:=by simp at hd;simp;exact hd.2
            clear hd HD HS HN HOO2
            go_wp2_with fail
            go_roundw
            case rel => exact ⟨i + 1,by omega,by go_num,HN2,HM4,HT4⟩
            case measure => simp [intOf];omega
        ·have hfa:=Lib.hid (show ids.find? (ofOne (askI ps ss purp region ch at_) x) = none by have:=hfn.out;rwa [List.take_of_length_le (by omega)] at this)
         have ht:=hT.out
         have t0:wr.cell? ⟨tb,0,none⟩ = some (.bool true):=cell_h ht 0 rfl
         have t1:wr.cell? ⟨tb,1,none⟩ = some (.int .i64 ay):=cell_h ht 1 rfl
         have t2:wr.cell? ⟨tb,2,none⟩ = some (.int .i64 an):=cell_h ht 2 rfl
         have hk2:=hM.out.h2
         have a0:wr.cell? ⟨w.heap.size + 1,0,none⟩ = some (.bool false):=cell_h hk2 0 rfl
         have a1:wr.cell? ⟨w.heap.size + 1,1,none⟩ = some (.int .i64 0):=cell_h hk2 1 rfl
         have a2:wr.cell? ⟨w.heap.size + 1,2,none⟩ = some (.int .i64 0):=cell_h hk2 2 rfl
         have b0:=froz_h hk2 0
         have b1:=froz_h hk2 1
         have b2:=froz_h hk2 2
         have HK9:=Lib.hid (set3 hk2 (.bool true) (.int .i64 ay) (.int .i64 an))
         have HB9:=Lib.hid (below_set3 hM.out.bel (show w.heap.size ≤ w.heap.size + 1 by omega) (.bool true) (.int .i64 ay) (.int .i64 an))
         rw [hfa.out] at HAF
         clear hk2 ht hM hT hfn hfa
         go_wp2_with fail
         have u0:=cell_h HK9.out 0 (v:=.bool true) rfl
         have u1:=cell_h HK9.out 1 (v:=.int .i64 ay) rfl
         have u2:=cell_h HK9.out 2 (v:=.int .i64 an) rfl
         refine bodyPost_ret (v:=.tuple #[.agg #[.bool true,.int .i64 ay,.int .i64 an],.int .i64 0]) (by simp [results,Tryz.results9,go_sem,u0,u1,u2]) rfl ⟨?_,HB9.out⟩
         rw [HAF.out,HV.out];rfl
open Go.RowKit
def StrsW (w:World) (A:Option Addr) (ss:List ByteArray):Prop:=∀ i (h:i < ss.length),∃ b off,A = some ⟨b,off,none⟩ ∧ w.cell? ⟨b,off + i,none⟩ = some (.string ss[i])
theorem StrsW.of_row {w:World} {n:Nat} {T:TypeId} {f:Nat × Nat} {ss:List ByteArray} {cs:Array Value} (h:w.heap[n]? = some (.cells cs T f)) (hc:cs = (ss.map Value.string).toArray):StrsW w (some ⟨n,0,none⟩) ss:=by
 intro i hi
 refine ⟨n,0,rfl,?_⟩
 simp only [World.cell?,h,hc]
 simp [hi]
section
variable {w W:World} {bs K:Nat} {H:Frz}
set_option maxHeartbeats 400000 in
theorem Lw.one (h:Lw w bs K H W) (A:Option Addr) (cap:Nat) (ss:List ByteArray) (hA:StrsW W A ss) (hne:∀ b off,A = some ⟨b,off,none⟩ → b ≠ bs)
  (h0:0 < ss.length) (hl:ss.length ≤ 1000000) (hK:K ≤ 1099511627776) :
  Calls Tryz.prog 20 #[.pointer (some ⟨bs,0,none⟩),.slice A ss.length cap] W fun e W' =>
   ∃ s:ByteArray,e = .returned (.string s) ∧ s ∈ ss ∧ Lw w bs (K + 1) H W' ∧ W.grownBy W' (some bs) ∧ W'.heap.size = W.heap.size:=by
 have HA:=Lib.hid hA
 have HN:=Lib.hid hne
 clear hA hne
 go_enter Tryz.func20,Tryz.ntmps20
 go_wp2_with fail
 refine (h.next' _ hK (by omega) (by omega)).mono ?_
 rintro e W' ⟨r,rfl,r0,r1,L,g,hz⟩
 obtain ⟨i,rfl⟩:=Int.eq_ofNat_of_zero_le r0
 have hi:i < ss.length:=by omega
 obtain ⟨b,off,rfl,hc⟩:=HA.out i hi
 have hc':=(World.cell?_of_block (a:=⟨b,off + i,none⟩) (g.block b (World.block_lt_of_cell? W _ hc) (fun e => HN.out b off rfl (by injection e)))).trans hc
 have hm:=Lib.hid (List.getElem_mem hi)
 have HG:=Lib.hid g
 have HZ:=Lib.hid hz
 generalize ss[i] = z at hc' hm
 clear hc g hz
 go_wp2_with fail
 go_ret
 exact ⟨z,rfl,hm.out,L,HG.out,HZ.out⟩
end
open Go.RowKit
section
variable {w W W':World} {bs K:Nat} {H:Frz}
theorem Lw.grown (h:Lw w bs K H W) {row:Option Nat} (hg:W.grownBy W' row) (hr:∀ g,row = some g → bs < g ∧ H g = none):Lw w bs K H W' :=
 ⟨h.st.below ((Below.refl (bs + 1) W).grown hg h.lt (fun k hk => (hr k hk).1)),h.bel.grown hg h.bel.size (fun k hk => by have:=(hr k hk).1;have:=h.le;omega),h.le,h.fin.grown' hg (fun g hg => (hr g hg).2),h.apart⟩
end
open Go.RowKit
theorem OpV.append {P:Program} {o:Oper} {a:Act} {w w':World} {R:Value → World → Prop} (s x:Operand) (t:TypeId) (vs vx v':Value) (hop:o.op = .call { callee:=.builtin .append,args:=#[s,x],argTypes:=#[t,t] })
  (hs:a.eval s = vs) (hx:a.eval x = vx) (hrun:(Builtin.append_ #[t,t] o.type #[vs,vx]).run P w = .ok v' w') (h:R v' w'):OpV P o a.eval w R:=by
 unfold OpV
 simp [execOp,hop,resolve,invoke,builtin,hs,hx,hrun,Result.andThen]
 exact h
end Go.Proofs.YtcncifmanodabaaGreatDoor
