/- Texts of this claim, put together: WishL, TopP, IdxPer, DistP, FieldP, Tab, UfP. -/
import Derived.Test.YtcncifmanodabaaGreatDoorGAT
import Derived.Test.YtcncifmanodabaaGreatDoorGAR
import Derived.Test.YtcncifmanodabaaGreatDoorGAB
import Derived.Test.YtcncifmanodabaaGreatDoorGAC
import Derived.StillTailTactics
import Derived.Deep.Cut
import Derived.Lib.Hide
import Derived.Test.YtcncifmanodabaaGreatDoorGAD
import Derived.Test.YtcncifmanodabaaGreatDoorGAE
namespace Go.Proofs.YtcncifmanodabaaGreatDoor
set_option linter.unusedVariables false
open Go.RowKit
theorem que_parts {ps:List PurD} {purp region:ByteArray} {ch at_:Int} (h:queErr ps purp region ch at_ = 0):(purF ps purp).isNone = false ∧ isKey region = true ∧ chB ch = true ∧ 0 ≤ at_ ∧ at_ ≤ 4321439:=by
 have h0:=que_at h
 unfold queErr at h
 split at h
 ·cases h
 ·rename_i c1
  split at h
  ·cases h
  ·rename_i c2
   split at h
   ·cases h
   ·rename_i c3
    exact ⟨Bool.eq_false_iff.2 c1,by simpa using c2,by simpa using c3,h0⟩
theorem out_one {ps:List PurD} {kind:Int} {text purp region:ByteArray} {ch at_ no:Int} (hi:idErr kind text = 0) (hq:queErr ps purp region ch at_ = 0) {i:Nat} {x:Int} (hx:x = 5 ∨ x = 1 ∨ x = 3) (h0:0 ≤ no) (h9:no + 1 + i ≤ 1000000):stOne ps (outSt no kind text purp region ch at_ i x) = 0:=by
 obtain ⟨q1,q2,q3,q4,q5⟩:=que_parts hq
 unfold stOne outSt
 dsimp only
 rw [if_neg (by omega),if_neg (by omega),if_neg (by rw [hi];decide),if_neg (fun c => c ⟨q3,by omega,by omega⟩)]
 rcases hx with rfl | rfl | rfl
 ·have e:ofCh 5 = true:=by decide
  rw [if_pos e,if_neg (fun c => c.2 rfl),if_neg (by rw [e];simp),if_neg (by rw [q2];decide)]
 ·have e:ofCh 1 = false:=by decide
  have e':¬ (ofCh 1 = true):=by rw [e];decide
  rw [if_neg e',if_neg (fun c => e' c.1),if_neg (by rw [q1];simp),if_neg (by rw [q2];decide)]
 ·have e:ofCh 3 = false:=by decide
  have e':¬ (ofCh 3 = true):=by rw [e];decide
  rw [if_neg e',if_neg (fun c => e' c.1),if_neg (by rw [q1];simp),if_neg (by rw [q2];decide)]
theorem last_le {ss:List StD} (h:ss.Pairwise fun a b => a.no < b.no) {s:StD} (hs:s ∈ ss):s.no ≤ lastNo ss:=by
 obtain ⟨i,hi,rfl⟩:=List.mem_iff_getElem.1 hs
 unfold lastNo
 rw [dif_neg (by omega)]
 by_cases c:i = ss.length - 1
 ·subst c;exact Int.le_refl _
 ·have:=List.pairwise_iff_getElem.1 h i (ss.length - 1) hi (by omega) (by omega)
  omega
structure WishOk (ps:List PurD) (ss:List StD) (kind:Int) (text purp region:ByteArray) (ch at_:Int) (want:Bool) (out:List StD):Prop where
 len:out.length ≤ 2
 all0:allErr ps (ss ++ out) [⟨kind,text⟩] 1 purp region ch at_ = 0
 say1:sayErr idErr ps out = 0
 say2:sayErr idErr ps ss = 0
 good:(askF ps (ss ++ out) kind text purp region ch at_).may = want ∨ (want = true ∧ (askF ps (ss ++ out) kind text purp region ch at_).may = false ∧ (askF ps (ss ++ out) kind text purp region ch at_).why = 8)
 sz:text.size ≤ 1000000 → purp.size ≤ 1000000 → region.size ≤ 1000000 → SzSt out
theorem fin_say {ps:List PurD} {ss:List StD} {kind:Int} {text purp region:ByteArray} {ch at_:Int} (h:allErr ps ss [⟨kind,text⟩] 1 purp region ch at_ = 0) {ws:List Int} (hw:∀ x ∈ ws,x = 5 ∨ x = 1 ∨ x = 3)
  (h9:¬ (3000 < ss.length + (outsF (lastNo ss) kind text purp region ch at_ ws).length ∨ 1000000 < lastNo ss + ((outsF (lastNo ss) kind text purp region ch at_ ws).length:Int))) :
  sayErr idErr ps (ss ++ outsF (lastNo ss) kind text purp region ch at_ ws) = 0:=by
 obtain ⟨r1,r2,r3⟩:=all_right h
 rw [idsErr_one] at r2
 have hb:=lastNo_bd r1
 obtain ⟨a1,a2,a3,a4⟩:=(say_iff ps ss).1 r1
 rw [outsF_len] at h9
 have hget:∀ i (hi:i < (outsF (lastNo ss) kind text purp region ch at_ ws).length),(outsF (lastNo ss) kind text purp region ch at_ ws)[i] = outSt (lastNo ss) kind text purp region ch at_ i (ws[i]'(by rw [outsF_len] at hi;exact hi)):=by
  intro i hi
  simp [outsF]
 refine (say_iff ps _).2 ⟨a1,by rw [List.length_append,outsF_len];omega,?_,?_⟩
 ·rw [List.pairwise_append]
  refine ⟨a3,?_,?_⟩
  ·rw [List.pairwise_iff_getElem]
   intro i j hi hj hij
   rw [hget i hi,hget j hj]
   show lastNo ss + 1 + (i:Int) < lastNo ss + 1 + (j:Int)
   omega
  ·intro s hs u hu
   obtain ⟨j,hj,rfl⟩:=List.mem_iff_getElem.1 hu
   rw [hget j hj]
   have:=last_le a3 hs
   show s.no < lastNo ss + 1 + (j:Int)
   omega
 ·intro s hs
  rcases List.mem_append.1 hs with hs | hs
  ·exact a4 s hs
  ·obtain ⟨j,hj,rfl⟩:=List.mem_iff_getElem.1 hs
   rw [hget j hj]
   rw [outsF_len] at hj
   exact out_one r2 r3 (hw _ (List.getElem_mem hj)) hb.1 (by omega)
open Go.RowKit
theorem withdrawn_deny {ss:List StD} {s:StD} {kind:Int} {text purp:ByteArray} {ch at_:Int} (hs:s ∈ ss) (h1:s.kind = kind) (h2:s.text = text) (h3:s.ch = ch) (h4:s.at_ = at_) (h5:s.what = 3) (h6:s.purp = purp) (t:TermD):denyB (answerF (some t) purp (saidF ss kind text ch) at_) = true:=by
 unfold answerF
 dsimp only
 split
 ·rfl
 ·have hm:s ∈ upTo (saidF ss kind text ch) at_:=by
   rw [upTo_filter (saidF_at _ _ _ _),List.mem_filter]
   exact ⟨said_mem.2 ⟨hs,h1,h2,h3⟩,by simp [h4]⟩
  have hle:∀ x ∈ upTo (saidF ss kind text ch) at_,x.at_ ≤ at_:=fun x hx => by
   rw [upTo_filter (saidF_at _ _ _ _),List.mem_filter] at hx
   simpa using hx.2
  generalize upTo (saidF ss kind text ch) at_ = u at hm hle
  unfold allowF
  have e1:(wdF purp u).isSome = true:=by
   cases e:wdF purp u with
   | some v => rfl
   | none =>
    have:=wd_none.1 e s hm h5
    rw [h6,eqS_self] at this
    cases this
  have e2:(grF purp u).length = 0:=by
   cases e:grF purp u with
   | nil => rfl
   | cons g r =>
    have hg:g ∈ grF purp u:=by rw [e];simp
    obtain ⟨g1,g2,g3,g4⟩:=gr_mem.1 hg
    have:=g4 s hm h5 (by rw [h6];exact eqS_self _)
    have:=hle g g1
    omega
  rw [if_pos ⟨e1,e2⟩]
  rfl
section
variable {ps:List PurD} {ss:List StD} {ids ids':List IdD} {x y:IdD} {purp region:ByteArray} {ch at_:Int}
theorem of_parts (h:ofErr ps ss ids x purp region ch at_ = 0):sayErr idErr ps ss = 0 ∧ idsErr ids 100 = 0 ∧ idErr x.kind x.text = 0 ∧ queErr ps purp region ch at_ = 0 ∧ x ∈ ids:=by
 unfold ofErr at h
 by_cases c1:sayErr idErr ps ss = 0
 ·rw [if_neg (fun c => c c1)] at h
  by_cases c2:idsErr ids 100 = 0
  ·rw [if_neg (fun c => c c2)] at h
   by_cases c3:idErr x.kind x.text = 0
   ·rw [if_neg (fun c => c c3)] at h
    by_cases c4:queErr ps purp region ch at_ = 0
    ·rw [if_neg (fun c => c c4)] at h
     by_cases c5:anyF (eqId x) ids = false
     ·rw [if_pos c5] at h;cases h
     ·refine ⟨c1,c2,c3,c4,?_⟩
      have c6:anyF (eqId x) ids = true:=by simpa using c5
      obtain ⟨z,hz,e⟩:=List.any_eq_true.1 c6
      rw [eqId_iff.1 e];exact hz
    ·rw [if_pos c4] at h;exact absurd h c4
   ·rw [if_pos c3] at h;exact absurd h c3
  ·rw [if_pos c2] at h;exact absurd h c2
 ·rw [if_pos c1] at h;exact absurd h c1
theorem of_zero (h1:sayErr idErr ps ss = 0) (h2:idsErr ids 100 = 0) (h3:idErr x.kind x.text = 0) (h4:queErr ps purp region ch at_ = 0) (h5:x ∈ ids):ofErr ps ss ids x purp region ch at_ = 0:=by
 unfold ofErr
 rw [if_neg (fun c => c h1),if_neg (fun c => c h2),if_neg (fun c => c h3),if_neg (fun c => c h4),if_neg]
 intro c
 have:=List.any_eq_false.1 c x h5
 exact this (eqId_self x)
theorem ids_right (h:∀ y ∈ ids,idErr y.kind y.text = 0) (hl:ids.length ≤ 100):idsErr ids 100 = 0:=by
 unfold idsErr
 rw [if_neg (by omega)]
 refine fstErr_zero.2 fun i hi => ?_
 rw [idAt_at hi]
 exact h _ (List.getElem_mem hi)
theorem ids_valid (h:idsErr ids 100 = 0) (hy:y ∈ ids):idErr y.kind y.text = 0:=by
 unfold idsErr at h
 split at h
 ·cases h
 ·obtain ⟨i,hi,rfl⟩:=List.getElem_of_mem hy
  have:=fstErr_zero.1 h i hi
  rwa [idAt_at hi] at this
theorem may_iff (h:ofErr ps ss ids x purp region ch at_ = 0):(mayOfA ps ss ids x purp region ch at_).may = okAll (askI ps ss purp region ch at_) x ids:=by
 unfold mayOfA
 rw [if_neg (fun c => c h)]
 exact ofF_may (fun y => deny_may ps ss purp region ch at_ y) x ids
theorem top_less (hsub:∀ y ∈ ids,y ∈ ids') (h':ofErr ps ss ids' x purp region ch at_ = 0) (h:ofErr ps ss ids x purp region ch at_ = 0) (hm:(mayOfA ps ss ids' x purp region ch at_).may = true):(mayOfA ps ss ids x purp region ch at_).may = true:=by
 rw [may_iff h'] at hm
 rw [may_iff h]
 exact okAll_mono hsub hm
theorem err_less (hsub:∀ y ∈ ids,y ∈ ids') (h':ofErr ps ss ids' x purp region ch at_ = 0) (hl:ids.length ≤ 100) (hx:x ∈ ids):ofErr ps ss ids x purp region ch at_ = 0:=by
 obtain ⟨h1,h2,h3,h4,_⟩:=of_parts h'
 exact of_zero h1 (ids_right (fun y hy => ids_valid h2 (hsub y hy)) hl) h3 h4 hx
def wdS (ss:List StD) (x:IdD) (purp region:ByteArray) (ch at_:Int):StD:=⟨lastNo ss + 1,at_,x.kind,x.text,purp,region,ch,3⟩
theorem wdS_out:outsF (lastNo ss) x.kind x.text purp region ch at_ [3] = [wdS ss x purp region ch at_]:=by
 have e:¬ (ofCh 3 = true):=by decide
 simp [outsF,outSt,wdS,e]
theorem top_all (h:ofErr ps ss ids x purp region ch at_ = 0):allErr ps ss [⟨x.kind,x.text⟩] 1 purp region ch at_ = 0:=by
 obtain ⟨h1,h2,h3,h4,_⟩:=of_parts h
 unfold allErr
 rw [if_neg (fun c => c h1),idsErr_one,if_neg (fun c => c h3)]
 exact h4
theorem top_ask (h:ofErr ps ss ids x purp region ch at_ = 0) (hm:(mayOfA ps ss ids x purp region ch at_).may = true) (hl:ss.length ≤ 2000) (hno:lastNo ss ≤ 900000):askNo ps ss x.kind x.text purp region ch at_ = (0,[wdS ss x purp region ch at_]):=by
 rw [may_iff h] at hm
 unfold okAll at hm
 rw [Bool.and_eq_true] at hm
 have hmx:(askF ps ss x.kind x.text purp region ch at_).may = true:=hm.1
 unfold askNo
 rw [if_neg (fun c => c (top_all h)),if_neg (by rw [hmx];decide),wdS_out]
 unfold askFin
 rw [if_neg]
 rw [List.length_singleton]
 omega
theorem top_term (h:ofErr ps ss ids x purp region ch at_ = 0) (hm:(mayOfA ps ss ids x purp region ch at_).may = true):∃ t,termF ps purp region ch = some t:=by
 rw [may_iff h] at hm
 unfold okAll at hm
 rw [Bool.and_eq_true] at hm
 have hmx:(askF ps ss x.kind x.text purp region ch at_).may = true:=hm.1
 cases e:termF ps purp region ch with
 | some t => exact ⟨t,rfl⟩
 | none =>
  unfold askF at hmx
  rw [e] at hmx
  cases hmx
theorem top_then (h:ofErr ps ss ids x purp region ch at_ = 0) (hm:(mayOfA ps ss ids x purp region ch at_).may = true) (hl:ss.length ≤ 2000) (hno:lastNo ss ≤ 900000) (hy:y ∈ ids) :
  ofErr ps (ss ++ [wdS ss x purp region ch at_]) ids y purp region ch at_ = 0 ∧ (mayOfA ps (ss ++ [wdS ss x purp region ch at_]) ids y purp region ch at_).may = false:=by
 obtain ⟨h1,h2,h3,h4,hx⟩:=of_parts h
 have hs:sayErr idErr ps (ss ++ [wdS ss x purp region ch at_]) = 0:=by
  have:=fin_say (top_all h) (ws:=[3]) (by simp) (by rw [outsF_len,List.length_singleton];omega)
  rwa [wdS_out] at this
 have h0:=of_zero hs h2 (ids_valid h2 hy) h4 hy
 refine ⟨h0,?_⟩
 rw [may_iff h0]
 obtain ⟨t,ht⟩:=top_term h hm
 have hd:denyB (askI ps (ss ++ [wdS ss x purp region ch at_]) purp region ch at_ x) = true:=by
  unfold askI askF
  rw [ht]
  exact withdrawn_deny (s:=wdS ss x purp region ch at_) (List.mem_append_right _ (List.mem_singleton.2 rfl)) rfl rfl rfl rfl rfl rfl t
 unfold okAll
 rw [Bool.and_eq_false_iff]
 by_cases e:y = x
 ·left
  rw [e]
  exact deny_may ps _ purp region ch at_ x hd
 ·right
  rw [List.all_eq_false]
  refine ⟨x,hx,?_⟩
  have:eqId x y = false:=Bool.eq_false_iff.2 fun c => e (eqId_iff.1 c).symm
  simp [this,hd]
end
open Go.RowKit
section
variable {D:Type}
end
set_option linter.unusedVariables false
open Go.RowKit
structure VD where
 kind:Int
 text:ByteArray
 num:Int
structure FD where
 name:ByteArray
 v:VD
structure MsD where
 name:ByteArray
 how:Int
 far:Int
 pts:Int
def vV (v:VD):Value:=.agg #[.int .i64 v.kind,.string v.text,.int .i64 v.num]
def fFd (f:FD):Nat → Value
 | 0 => .string f.name
 | 1 => .int .i64 f.v.kind
 | 2 => .string f.v.text
 | _ => .int .i64 f.v.num
def txtErr (ok:ByteArray → Bool) (s:ByteArray):Int:=if 200 < s.size then 2 else if ok s = true then 0 else 3
def valErr (ok:ByteArray → Bool) (v:VD):Int :=
 if v.kind = 1 then (if v.num = 0 then txtErr ok v.text else 3)
 else if v.kind = 2 ∨ v.kind = 3 ∨ v.kind = 4 then
  if v.text.size ≠ 0 then 3
  else if (if v.kind = 2 then -1000000000000 else 0) ≤ v.num ∧ v.num ≤ (if v.kind = 2 then 1000000000000 else if v.kind = 3 then 1 else 4321439) then 0 else 1
 else 4
open Go.RowKit
def tab (n:Nat) (F:Nat → Int):List Int:=(List.range n).map F
theorem tab_len (n:Nat) (F:Nat → Int):(tab n F).length = n:=by simp [tab]
theorem tab_get {n:Nat} {F:Nat → Int} {i:Nat} (h:i < (tab n F).length):(tab n F)[i] = F i:=by simp [tab]
theorem tab_get? {n:Nat} {F:Nat → Int} {i:Nat} (h:i < n):(tab n F)[i]? = some (F i):=by simp [tab,h]
theorem tab_congr {n:Nat} {F G:Nat → Int} (h:∀ k,k < n → F k = G k):tab n F = tab n G:=by
 unfold tab
 exact List.map_congr_left fun k hk => h k (List.mem_range.1 hk)
theorem tab_set {n:Nat} {F:Nat → Int} {i:Nat} (x:Int):(tab n F).set i x = tab n fun k => if k = i then x else F k:=by
 apply List.ext_getElem?
 intro k
 rw [List.getElem?_set]
 by_cases h:k < n
 ·have e1:=tab_get? (F:=F) h
  have e2:=tab_get? (F:=fun k => if k = i then x else F k) h
  rw [e1,e2,tab_len]
  by_cases e:i = k
  ·subst e
   simp [h]
  ·simp [e,show ¬ k = i from fun c => e c.symm]
 ·have e1:(tab n F)[k]? = none:=List.getElem?_eq_none (by rw [tab_len];omega)
  have e2:(tab n fun k => if k = i then x else F k)[k]? = none:=List.getElem?_eq_none (by rw [tab_len];omega)
  rw [e1,e2,tab_len]
  by_cases e:i = k
  ·subst e
   simp [h]
  ·simp [e]
theorem made_ints {w:World} {B g n:Nat} (h:w.ownsRow B 3 1 (.slice (some ⟨g,0,none⟩) n n) n (madeCells (Value.int .i64 0).cells (n * 1)).toList):KBlk w g 3 1 fI (tab n fun _ => 0) []:=by
 rcases h.2 with ⟨h1,_⟩ | ⟨g',cap,cur,hv,hB,hh,hle,hm,hs,ht⟩
 ·cases h1
 ·injection hv with e1 e2 e3
  injection e1 with e1
  injection e1 with e1
  subst e1 e3
  unfold KBlk
  rw [hh]
  have h2:cur.toList = (madeCells (Value.int .i64 0).cells (n * 1)).toList:=by
   rw [← ht,List.take_of_length_le (by simp [hs])]
  have h3:(madeCells (Value.int .i64 0).cells (n * 1)).toList = List.replicate (n * 1) (.int .i64 0):=toList_madeCells_one _ _
  rw [h3] at h2
  have h4:cellsOf 1 fI (tab n fun _ => 0) = List.replicate (n * 1) (.int .i64 0):=by
   rw [cellsOf_fI,Nat.mul_one]
   apply List.ext_getElem?
   intro k
   by_cases hk:k < n
   ·simp [tab,hk]
   ·rw [List.getElem?_eq_none (by simp [tab];omega),List.getElem?_eq_none (by simp;omega)]
  rw [h4,List.append_nil,← h2]
structure TabS (H:Frz) (w:World) (g n:Nat) (F:Nat → Int) (W:World):Prop where
 inn:H.In W
 bel:Below w.heap.size w W
 blk:KBlk W g 3 1 fI (tab n F) []
 ge:w.heap.size ≤ g
 no:H g = none
section
variable {H:Frz} {w W W':World} {g n:Nat} {F G:Nat → Int}
theorem TabS.cell (h:TabS H w g n F W) (i:Nat) (hi:i < n):W.cell? ⟨g,i,none⟩ = some (.int .i64 (F i)):=by
 have:=h.blk.cell1 i (by rw [tab_len];exact hi)
 rw [tab_get] at this
 exact this
theorem TabS.froz (h:TabS H w g n F W) (i:Nat):W.frozen? ⟨g,i,none⟩ = false:=h.blk.frozen i
theorem TabS.set (h:TabS H w g n F W) (i:Nat) (hi:i < n) (x:Int):TabS H w g n (fun k => if k = i then x else F k) (W.setCell ⟨g,i,none⟩ (.int .i64 x)):=by
 have hg:=h.ge
 refine ⟨h.inn.setCell (p:=⟨g,i,none⟩) h.no _,h.bel.setCell (p:=⟨g,i,none⟩) hg _,?_,h.ge,h.no⟩
 have:=h.blk.set1 i (by rw [tab_len];exact hi) x
 rw [tab_set] at this
 exact this
theorem TabS.congr (h:TabS H w g n F W) (e:∀ k,k < n → F k = G k):TabS H w g n G W:=⟨h.inn,h.bel,by have:=h.blk;rw [tab_congr e] at this;exact this,h.ge,h.no⟩
theorem TabS.call (h:TabS H w g n F W) (hb:Below W.heap.size W W'):TabS H w g n F W':=⟨h.inn.below hb,h.bel.trans (hb.mono h.bel.size),h.blk.keep hb,h.ge,h.no⟩
end
def repN (r:List Nat) (i:Nat):Nat:=if h:r.getD i i < i then repN r (r.getD i i) else i
termination_by i
def Dn (r:List Nat):Prop:=∀ i,r.getD i i ≤ i
theorem repN_step {r:List Nat} {i:Nat} (h:r.getD i i < i):repN r i = repN r (r.getD i i):=by
 rw [repN,dif_pos h]
theorem repN_root {r:List Nat} (hd:Dn r) {i:Nat} (h:r.getD i i = i):repN r i = i:=by
 rw [repN,dif_neg (by omega)]
theorem repN_go {r:List Nat} (hd:Dn r) (i:Nat):repN r i = repN r (r.getD i i):=by
 by_cases h:r.getD i i < i
 ·exact repN_step h
 ·have:=hd i
  rw [show r.getD i i = i by omega]
theorem repN_le (r:List Nat):∀ i,repN r i ≤ i:=by
 intro i
 induction i using Nat.strongRecOn with
 | _ i ih =>
  by_cases h:r.getD i i < i
  ·rw [repN_step h]
   exact Nat.le_trans (ih _ h) (Nat.le_of_lt h)
  ·rw [repN,dif_neg h]
   exact Nat.le_refl _
theorem repN_fix {r:List Nat} (hd:Dn r):∀ i,r.getD (repN r i) (repN r i) = repN r i:=by
 intro i
 induction i using Nat.strongRecOn with
 | _ i ih =>
  by_cases h:r.getD i i < i
  ·rw [repN_step h]
   exact ih _ h
  ·have:=hd i
   rw [repN,dif_neg h]
   omega
theorem repN_idem {r:List Nat} (hd:Dn r) (i:Nat):repN r (repN r i) = repN r i:=repN_root hd (repN_fix hd i)
theorem getD_set {r:List Nat} {i v:Nat} (hi:i < r.length) (j d:Nat):(r.set i v).getD j d = if j = i then v else r.getD j d:=by
 rw [List.getD_eq_getElem?_getD,List.getD_eq_getElem?_getD,List.getElem?_set]
 by_cases e:i = j
 ·subst e
  simp [hi]
 ·rw [if_neg e,if_neg (fun c => e c.symm)]
theorem Dn.half {r:List Nat} (hd:Dn r) {i:Nat} (hi:i < r.length):Dn (r.set i (r.getD (r.getD i i) (r.getD i i))):=by
 intro j
 rw [getD_set hi]
 split
 ·next e =>
  subst e
  exact Nat.le_trans (hd _) (hd _)
 ·exact hd j
theorem repN_half {r:List Nat} (hd:Dn r) {i:Nat} (hi:i < r.length):∀ j,repN (r.set i (r.getD (r.getD i i) (r.getD i i))) j = repN r j:=by
 intro j
 have hd':=hd.half hi
 induction j using Nat.strongRecOn with
 | _ j ih =>
  by_cases e:j = i
  ·subst e
   by_cases h:r.getD j j < j
   ·have h2:r.getD (r.getD j j) (r.getD j j) ≤ r.getD j j:=hd _
    rw [repN_go hd' j,getD_set hi,if_pos rfl,ih _ (by omega),← repN_go hd,← repN_go hd]
   ·have h0:=hd j
    have h1:r.getD j j = j:=by omega
    rw [repN_root hd h1,repN_root hd']
    rw [getD_set hi,if_pos rfl,h1,h1]
  ·by_cases h:r.getD j j < j
   ·rw [repN_go hd' j,getD_set hi,if_neg e,ih _ h,← repN_go hd]
   ·have h0:=hd j
    have h1:r.getD j j = j:=by omega
    rw [repN_root hd h1,repN_root hd']
    rw [getD_set hi,if_neg e,h1]
theorem Dn.comp {r:List Nat} (hd:Dn r) {i:Nat} (hi:i < r.length):Dn (r.set i (repN r i)):=by
 intro j
 rw [getD_set hi]
 split
 ·next e => subst e;exact repN_le r j
 ·exact hd j
theorem repN_comp {r:List Nat} (hd:Dn r) {i:Nat} (hi:i < r.length):∀ j,repN (r.set i (repN r i)) j = repN r j:=by
 intro j
 have hd':=hd.comp hi
 induction j using Nat.strongRecOn with
 | _ j ih =>
  by_cases e:j = i
  ·subst e
   by_cases h:repN r j < j
   ·rw [repN_go hd' j,getD_set hi,if_pos rfl,ih _ h,repN_idem hd]
   ·have h0:=repN_le r j
    have h1:repN r j = j:=by omega
    have h2:(r.set j (repN r j)).getD j j = j:=by rw [getD_set hi,if_pos rfl,h1]
    rw [repN_root hd' h2,h1]
  ·by_cases h:r.getD j j < j
   ·rw [repN_go hd' j,getD_set hi,if_neg e,ih _ h,← repN_go hd]
   ·have h0:=hd j
    have h1:r.getD j j = j:=by omega
    rw [repN_root hd h1,repN_root hd']
    rw [getD_set hi,if_neg e,h1]
theorem flat_half {r:List Nat} (hd:Dn r) {i:Nat} (hi:i < r.length) {q:Nat} (hq:r.getD q q = repN r q):(r.set i (r.getD (r.getD i i) (r.getD i i))).getD q q = repN r q:=by
 rw [getD_set hi]
 split
 ·next e =>
  subst e
  rw [hq]
  exact repN_fix hd q
 ·exact hq
theorem Dn.join {r:List Nat} (hd:Dn r) {a b:Nat} (ha:max a b < r.length):Dn (r.set (max a b) (min a b)):=by
 intro j
 rw [getD_set ha]
 split
 ·omega
 ·exact hd j
theorem repN_join {r:List Nat} (hd:Dn r) {a b:Nat} (hm:max a b < r.length) (ha:r.getD a a = a) (hb:r.getD b b = b):∀ j,repN (r.set (max a b) (min a b)) j = if repN r j = max a b then min a b else repN r j:=by
 intro j
 have hd':=hd.join (a:=a) (b:=b) hm
 have hmin:r.getD (min a b) (min a b) = min a b:=by
  rcases Nat.le_total a b with h | h
  ·rw [Nat.min_eq_left h];exact ha
  ·rw [Nat.min_eq_right h];exact hb
 have hmax:r.getD (max a b) (max a b) = max a b:=by
  rcases Nat.le_total a b with h | h
  ·rw [Nat.max_eq_right h];exact hb
  ·rw [Nat.max_eq_left h];exact ha
 induction j using Nat.strongRecOn with
 | _ j ih =>
  by_cases e:j = max a b
  ·subst e
   rw [repN_root hd hmax,if_pos rfl,repN_go hd',getD_set hm,if_pos rfl]
   apply repN_root hd'
   rw [getD_set hm]
   split
   ·rfl
   ·exact hmin
  ·by_cases h:r.getD j j < j
   ·rw [repN_go hd' j,getD_set hm,if_neg e,ih _ h,← repN_go hd]
   ·have h0:=hd j
    have h1:r.getD j j = j:=by omega
    rw [repN_root hd h1,if_neg e,repN_root hd']
    rw [getD_set hm,if_neg e,h1]
inductive Tied (E:Nat → Nat → Prop):Nat → Nat → Prop
 | refl (i:Nat):Tied E i i
 | edge {i j:Nat} (h:E i j):Tied E i j
 | symm {i j:Nat} (h:Tied E i j):Tied E j i
 | trans {i j k:Nat} (h:Tied E i j) (h':Tied E j k):Tied E i k
theorem Tied.mono {E E':Nat → Nat → Prop} (h:∀ i j,E i j → E' i j) {i j:Nat} (t:Tied E i j):Tied E' i j:=by
 induction t with
 | refl i => exact .refl i
 | edge e => exact .edge (h _ _ e)
 | symm _ ih => exact .symm ih
 | trans _ _ ih ih' => exact .trans ih ih'
structure Uf (E:Nat → Nat → Prop) (r:List Nat):Prop where
 dn:Dn r
 iff:∀ i j,repN r i = repN r j ↔ Tied E i j
theorem Uf.half {E:Nat → Nat → Prop} {r:List Nat} (h:Uf E r) {i:Nat} (hi:i < r.length):Uf E (r.set i (r.getD (r.getD i i) (r.getD i i))) :=
 ⟨h.dn.half hi,fun a b => by rw [repN_half h.dn hi,repN_half h.dn hi];exact h.iff a b⟩
theorem Uf.join {E:Nat → Nat → Prop} {r:List Nat} (h:Uf E r) {x y a b:Nat} (hm:max a b < r.length) (ha:a = repN r x) (hb:b = repN r y):Uf (fun i j => E i j ∨ (i = x ∧ j = y)) (r.set (max a b) (min a b)):=by
 have fa:r.getD a a = a:=by rw [ha];exact repN_fix h.dn x
 have fb:r.getD b b = b:=by rw [hb];exact repN_fix h.dn y
 have hj:=repN_join h.dn hm fa fb
 refine ⟨h.dn.join hm,fun i j => ⟨fun e => ?_,fun t => ?_⟩⟩
 ·have up:∀ i j,Tied E i j → Tied (fun i j => E i j ∨ (i = x ∧ j = y)) i j:=fun i j t => t.mono fun _ _ e => Or.inl e
  have xy:Tied (fun i j => E i j ∨ (i = x ∧ j = y)) x y:=.edge (Or.inr ⟨rfl,rfl⟩)
  have tq:∀ i,repN r i = a → Tied (fun i j => E i j ∨ (i = x ∧ j = y)) i x:=fun i e => up _ _ ((h.iff i x).1 (e.trans ha))
  have tq':∀ i,repN r i = b → Tied (fun i j => E i j ∨ (i = x ∧ j = y)) i x:=fun i e => .trans (up _ _ ((h.iff i y).1 (e.trans hb))) (.symm xy)
  have tom:∀ i,repN r i = max a b ∨ repN r i = min a b → Tied (fun i j => E i j ∨ (i = x ∧ j = y)) i x:=by
   intro i e
   rcases Nat.le_total a b with c | c
   ·rw [Nat.max_eq_right c,Nat.min_eq_left c] at e
    rcases e with e | e
    ·exact tq' i e
    ·exact tq i e
   ·rw [Nat.max_eq_left c,Nat.min_eq_right c] at e
    rcases e with e | e
    ·exact tq i e
    ·exact tq' i e
  rw [hj,hj] at e
  by_cases c1:repN r i = max a b
  ·rw [if_pos c1] at e
   by_cases c2:repN r j = max a b
   ·exact up _ _ ((h.iff i j).1 (c1.trans c2.symm))
   ·rw [if_neg c2] at e
    exact .trans (tom i (Or.inl c1)) (.symm (tom j (Or.inr e.symm)))
  ·rw [if_neg c1] at e
   by_cases c2:repN r j = max a b
   ·rw [if_pos c2] at e
    exact .trans (tom i (Or.inr e)) (.symm (tom j (Or.inl c2)))
   ·rw [if_neg c2] at e
    exact up _ _ ((h.iff i j).1 e)
 ·induction t with
  | refl i => rfl
  | edge e =>
   rcases e with e | ⟨rfl,rfl⟩
   ·have:=(h.iff _ _).2 (.edge e)
    rw [hj,hj,this]
   ·rw [hj,hj,← ha,← hb]
    rcases Nat.le_total a b with c | c
    ·rw [Nat.max_eq_right c,Nat.min_eq_left c,if_pos rfl]
     split <;> rfl
    ·rw [Nat.max_eq_left c,Nat.min_eq_right c,if_pos rfl]
     split <;> rfl
  | symm _ ih => exact ih.symm
  | trans _ _ ih ih' => exact ih.trans ih'
theorem Tied.more {E E':Nat → Nat → Prop} (h:∀ i j,E i j → Tied E' i j) {i j:Nat} (t:Tied E i j):Tied E' i j:=by
 induction t with
 | refl i => exact .refl i
 | edge e => exact h _ _ e
 | symm _ ih => exact .symm ih
 | trans _ _ ih ih' => exact .trans ih ih'
theorem Uf.same {E E':Nat → Nat → Prop} {r:List Nat} (h:Uf E r) (h1:∀ i j,E i j → Tied E' i j) (h2:∀ i j,E' i j → Tied E i j):Uf E' r :=
 ⟨h.dn,fun i j => (h.iff i j).trans ⟨fun t => t.more h1,fun t => t.more h2⟩⟩
theorem getD_range (n i:Nat):(List.range n).getD i i = i:=by
 rw [List.getD_eq_getElem?_getD]
 by_cases h:i < n
 ·rw [List.getElem?_range h];rfl
 ·rw [List.getElem?_eq_none (by simpa using h)];rfl
theorem Uf.start (n:Nat):Uf (fun _ _ => False) (List.range n):=by
 have hd:Dn (List.range n):=fun i => by rw [getD_range];exact Nat.le_refl _
 have hr:∀ i,repN (List.range n) i = i:=fun i => repN_root hd (getD_range n i)
 refine ⟨hd,fun i j => ⟨fun e => ?_,fun t => ?_⟩⟩
 ·rw [hr,hr] at e
  rw [e]
  exact .refl j
 ·induction t with
  | refl i => rfl
  | edge e => exact e.elim
  | symm _ ih => exact ih.symm
  | trans _ _ ih ih' => exact ih.trans ih'
end Go.Proofs.YtcncifmanodabaaGreatDoor
