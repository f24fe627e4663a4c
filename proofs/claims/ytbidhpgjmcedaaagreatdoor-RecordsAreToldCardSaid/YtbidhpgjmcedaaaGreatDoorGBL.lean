/- Texts of this claim, put together: CutP, Keyed, PartsO, CutsP, Cuts. -/
import Derived.Test.YtbidhpgjmcedaaaGreatDoorGBE
import Derived.Test.YtbidhpgjmcedaaaGreatDoorGBH
import Derived.Laws.Rows
import Derived.Test.YtbidhpgjmcedaaaGreatDoorGAN
import Derived.StillTailTactics
import Derived.Deep.Cut
import Derived.Test.YtbidhpgjmcedaaaGreatDoorGAS
import Derived.Test.YtbidhpgjmcedaaaGreatDoorGBI
import Derived.Test.YtbidhpgjmcedaaaGreatDoorGAJ
import Derived.Test.YtbidhpgjmcedaaaGreatDoorGAE
import Derived.Deep.MidRow
namespace Go.Proofs.YtbidhpgjmcedaaaGreatDoor
set_option linter.unusedVariables false
open Go.RowKit
theorem Share.mono {J J' : IdD → Bool} {ts : List TchD} (hJ : ∀ x,J x = true → J' x = true) {i j : Nat} (h : Share J ts i j) : Share J' ts i j:=by
 obtain ⟨hi,hj,x,h1,h2,h3⟩:=h
 exact ⟨hi,hj,x,hJ x h1,h2,h3⟩
section
variable {J : IdD → Bool} {ts : List TchD} {rr : List Nat} {ρ : Nat}
theorem cls_lt {rep : Nat → Nat} {n r q : Nat} (h : q ∈ cls rep n r) : q < n:=(in_cls.1 h).1
end
theorem cls_sum {rep : Nat → Nat} (hlow : ∀ i,rep i ≤ i) (hid : ∀ i,rep (rep i) = rep i) (n : Nat) : ((rts rep n).map fun r => (cls rep n r).length).sum = n:=by
 have key : ∀ m,m ≤ n → ((rts rep n).map fun r => (cls rep m r).length).sum = m:=by
  intro m
  induction m with
  | zero =>
   intro _
   have : ∀ l : List Nat,(l.map fun r => (cls rep 0 r).length).sum = 0:=fun l => by
    induction l with
    | nil => rfl
    | cons x l ih => rw [List.map_cons,List.sum_cons,ih]; simp [cls]
   exact this _
  | succ m ih =>
   intro hm
   have ih:=ih (by omega)
   have hmem : rep m ∈ rts rep n:=mem_rts.2 ⟨Nat.lt_of_le_of_lt (hlow m) (by omega),hid m⟩
   have hnd:=rts_nodup rep n
   have gen : ∀ l : List Nat,l.Nodup → (l.map fun r => (cls rep (m + 1) r).length).sum = (l.map fun r => (cls rep m r).length).sum + if rep m ∈ l then 1 else 0:=by
    intro l
    induction l with
    | nil => intro _; simp
    | cons x l ih2 =>
     intro hnd
     obtain ⟨h1,h2⟩:=List.nodup_cons.1 hnd
     rw [List.map_cons,List.map_cons,List.sum_cons,List.sum_cons,ih2 h2,cls_succ,List.length_append]
     by_cases e : rep m = x
     ·rw [if_pos e,if_neg (by rw [e]; exact h1),if_pos (by rw [e]; simp)]
      simp; omega
     ·rw [if_neg e]
      by_cases c : rep m ∈ l
      ·rw [if_pos c,if_pos (List.mem_cons_of_mem _ c)]; simp; omega
      ·rw [if_neg c,if_neg (by simp [e,c])]; simp
   rw [gen _ hnd,ih,if_pos hmem]
 exact key n (Nat.le_refl _)
open Go.RowKit
theorem Orow.own_blkG {D : Type} {w : World} {B T k : Nat} {f : D → Nat → Value} {v : Value} {ds : List D} (h : Orow w B T k f v ds) {g : Nat} (e : v.ownBlock = some g) : ∃ cur,w.heap[g]? = some (.cells cur T (0,0)):=by
 rcases h.2 with ⟨rfl,hn⟩ | ⟨g',cap,cur,rfl,hB,hh,hle,hm,hs,ht⟩
 ·cases e
 ·injection e with e
  subst e
  exact ⟨cur,hh⟩
theorem GrpIn.le {H H' : Frz} {gp bm n : Nat} {m : Lit → Option Value} {r : RulD} {A : Option Addr} {cap : Nat} {ts : List TchD} (h : GrpIn H gp bm n m r A cap ts) (hl : H.Le H') : GrpIn H' gp bm n m r A cap ts:=by
 refine ⟨hl _ _ h.obj,fun W hW => h.map W (hW.le hl),?_,fun x hx hp => ?_,h.none_,h.keys,h.rul.le hl,h.tch.le hl⟩
 ·obtain ⟨o,ho⟩:=h.blk
  exact ⟨o,hl _ _ ho⟩
 ·obtain ⟨B,c,e,hR,hc⟩:=h.some_ x hx hp
  exact ⟨B,c,e,hR.le hl,hc⟩
theorem Mp.ne_cells {P : Program} {k b n g : Nat} {w : World} {m : Lit → Option Value} (h : Mp P k w b n m) {cs : Array Value} {T : TypeId} {fr : Nat × Nat} (hc : w.heap[g]? = some (.cells cs T fr)) : b ≠ g:=by
 obtain ⟨D,⟨es,clock,h1,h2⟩,hd⟩:=h
 rintro rfl
 rw [h1] at hc
 cases hc
theorem GrpIn.of2 {r : RulD} {A : Option Addr} {cap : Nat} {ts : List TchD} {w W W9 : World} {B bm N n gp : Nat} {m : Lit → Option Value} (hS : HavS w B bm N (posL ts) n m W) {X : Nat → Prop} (hb : ∀ b,b < W.heap.size → ¬ X b → W9.heap[b]? = W.heap[b]?) (h1 : ¬ X bm)
  (hX : ∀ g cur,X g → W.heap[g]? ≠ some (.cells cur 3 (0,0))) (hG : W9.heap[gp]? = some (grpObj r A ts.length cap bm)) (hr : RulIn (wholeH W9) r) (ht : TchIn (wholeH W9) A ts) : GrpIn (wholeH W9) gp bm n m r A cap ts:=by
 obtain ⟨ob,ho,hmp⟩:=hS.map.obj
 have hob : W9.heap[bm]? = some ob:=(hb bm (lt_of_heap ho) h1).trans ho
 refine ⟨hG,fun W' hW' => hmp W' (hW' bm ob hob),⟨ob,hob⟩,fun x hx hp => ?_,fun x hx hp => ?_,hS.keys,hr,ht⟩
 ·have h2:=hS.vals x hx hp
  have hrow:=hS.row hx
  have hrow9 : Orow W9 B 3 1 fI ((m (klId x)).getD nilV) (posL ts x):=ownsRow_heap hrow (fun g e => by
   obtain ⟨cur,hc⟩:=Orow.own_blkG hrow e
   exact hb g (lt_of_heap hc) (fun c => hX g cur c hc))
  obtain ⟨A',c,e,hc,hR⟩:=hrow9.memR
  cases hm : m (klId x) with
  | none => rw [hm] at h2; cases h2
  | some v =>
   rw [hm] at e
   exact ⟨A',c,by rw [← e]; rfl,hR,hc⟩
 ·cases hm : m (klId x) with
  | none => rfl
  | some v =>
   obtain ⟨y,hy,e,hp'⟩:=hS.keys (klId x) (by rw [hm]; rfl)
   rw [klId_inj hx hy e] at hp
   exact absurd hp hp'
theorem res_tmp_row_tmp {P : Program} {fn : Func} {r p u : Tmp} {ty : TypeId} (h : fn.results = #[.tmp r,.cell p ty,.tmp u]) (tmps : Array Value) (w : World) (g : Nat) (t : TypeId) (cs : Array Value) (fr : Nat × Nat) (d : TypeDesc)
  (hp : tmps.getD p undef = .pointer (some ⟨g,0,none⟩)) (hg : w.heap[g]? = some (.cells cs t fr))
  (hu : P.underlying ty = some d) (hd : (match d with | .struct _ | .array _ _ => true | _ => false) = true) (hi : (P.info? ty).map (·.size) = some cs.size) :
  (results fn tmps).run P w = .ok (.tuple #[tmps.getD r undef,.agg cs,tmps.getD u undef]) w:=by
 have hp' : tmps[p]?.getD undef = .pointer (some ⟨g,0,none⟩):=by rw [← Array.getD_eq_getD_getElem?]; exact hp
 simp only [results,h]
 simp [Result.andThen,hp',asAddr,run_loadVar_row w g t ty cs fr d hg hu hd hi]
structure KeyAt (J : IdD → Bool) (ts : List TchD) (rep : Nat → Nat) (key : IdD) (k : Nat) : Prop where
 lt : k < (rts rep ts.length).length
 eq : ∀ (h : k < (rts rep ts.length).length),keyF J (tAt ts (rts rep ts.length)[k]).ids = key
 ne : ∀ j (h : j < (rts rep ts.length).length),j < k → keyF J (tAt ts (rts rep ts.length)[j]).ids ≠ key
def KeyIn (J : IdD → Bool) (ts : List TchD) (key : IdD) : Prop:=∃ (rr : List Nat) (k : Nat),Uf (Share J ts) rr ∧ KeyAt J ts (repN rr) key k
theorem KeyIn.at_ {J : IdD → Bool} {ts : List TchD} {key : IdD} (h : KeyIn J ts key) {rr : List Nat} (hu : Uf (Share J ts) rr) : ∃ k,KeyAt J ts (repN rr) key k:=by
 obtain ⟨r2,k,h2,hk⟩:=h
 have e : repN r2 = repN rr:=funext fun i => h2.rep_eq hu i
 rw [e] at hk
 exact ⟨k,hk⟩
def KeyedPost (r : RulD) (A : Option Addr) (cap : Nat) (ts : List TchD) (key : IdD) (w : World) (e : Ending) (w' : World) : Prop :=
 Below w.heap.size w w' ∧ ∃ (gp bm nm : Nat) (m : Lit → Option Value) (rr : List Nat) (k : Nat) (vT vI vA : Value) (nos ats : List Int) (ids : List IdD),
  e = .returned (.tuple #[.pointer (some ⟨gp,0,none⟩),.agg #[.int .i64 key.kind,.string key.text,vT,vI,vA],.int .i64 0]) ∧ GrpIn (wholeH w') gp bm nm m r A cap ts ∧ Uf (Share (JD r ts) ts) rr ∧ KeyAt (JD r ts) ts (repN rr) key k ∧
  Orow w' w.heap.size 3 1 fI vT nos ∧ Orow w' w.heap.size 55 2 fId vI ids ∧ Orow w' w.heap.size 3 1 fI vA ats ∧
  ∀ (h : k < (rts (repN rr) ts.length).length),nos = ((cls (repN rr) ts.length (rts (repN rr) ts.length)[k]).map fun q => (tAt ts q).no) ∧ ats = ((cls (repN rr) ts.length (rts (repN rr) ts.length)[k]).map fun q : Nat => (q : Int)) ∧ IdsOk ((cls (repN rr) ts.length (rts (repN rr) ts.length)[k]).flatMap fun q => (tAt ts q).ids) ids
theorem set5K {wr : World} {r : Nat} {T : TypeId} {a0 a1 a2 a3 a4 : Value} (h : wr.heap[r]? = some (.cells #[a0,a1,a2,a3,a4] T (0,0))) (v0 v1 v2 v3 v4 : Value) :
  wr.grownBy (((((wr.setCell ⟨r,0,none⟩ v0).setCell ⟨r,1,none⟩ v1).setCell ⟨r,2,none⟩ v2).setCell ⟨r,3,none⟩ v3).setCell ⟨r,4,none⟩ v4) (some r) ∧ (((((wr.setCell ⟨r,0,none⟩ v0).setCell ⟨r,1,none⟩ v1).setCell ⟨r,2,none⟩ v2).setCell ⟨r,3,none⟩ v3).setCell ⟨r,4,none⟩ v4).heap[r]? = some (.cells #[v0,v1,v2,v3,v4] T (0,0)) :=
 tm_set5 h v0 v1 v2 v3 v4
set_option maxHeartbeats 4000000 in
set_option maxRecDepth 100000 in
theorem keyed_any (H : Frz) (hU : UtfIn H) (hM : MLen H) (r : RulD) (A : Option Addr) (cap : Nat) (ts : List TchD) (ht : Told H A r ts) (key : IdD) (hk : KeyIn (JD r ts) ts key) (hz : idErr key.kind key.text = 0) (w : World) (hH : H.In w) :
  Calls Tryz.prog 103 #[.agg #[.slice r.ka r.kinds.length r.kc,.int .i64 r.most,.slice r.wa r.weaks.length r.wc,.slice r.sa r.surs.length r.sc],.slice A ts.length cap,.agg #[.int .i64 key.kind,.string key.text]] w (KeyedPost r A cap ts key w):=by
 have hfk:=fit_of hz
 have hr9:=tchs_right (ht.right.all (by have:=ht.len; omega))
 have hfit : ∀ t ∈ ts,∀ x ∈ t.ids,FitId x:=fun t hx x hxx => fit_of ((hr9.2.1 t hx).idE x hxx)
 have hrul:=(rul_right ht.rz).1
 have hlen : ts.length ≤ 100:=ht.len
 have z0 : (w.alloc (.cells #[.slice r.ka r.kinds.length r.kc,.int .i64 r.most,.slice r.wa r.weaks.length r.wc,.slice r.sa r.surs.length r.sc] 44)).cell? ⟨w.heap.size,0,none⟩ = some (.slice r.ka r.kinds.length r.kc):=newc 0 rfl
 have z1 : (w.alloc (.cells #[.slice r.ka r.kinds.length r.kc,.int .i64 r.most,.slice r.wa r.weaks.length r.wc,.slice r.sa r.surs.length r.sc] 44)).cell? ⟨w.heap.size,1,none⟩ = some (.int .i64 r.most):=newc 1 rfl
 have z2 : (w.alloc (.cells #[.slice r.ka r.kinds.length r.kc,.int .i64 r.most,.slice r.wa r.weaks.length r.wc,.slice r.sa r.surs.length r.sc] 44)).cell? ⟨w.heap.size,2,none⟩ = some (.slice r.wa r.weaks.length r.wc):=newc 2 rfl
 have z3 : (w.alloc (.cells #[.slice r.ka r.kinds.length r.kc,.int .i64 r.most,.slice r.wa r.weaks.length r.wc,.slice r.sa r.surs.length r.sc] 44)).cell? ⟨w.heap.size,3,none⟩ = some (.slice r.sa r.surs.length r.sc):=newc 3 rfl
 have HBN:=Lib.hid (new1 (w:=w) (.cells #[.slice r.ka r.kinds.length r.kc,.int .i64 r.most,.slice r.wa r.weaks.length r.wc,.slice r.sa r.surs.length r.sc] 44))
 have hb1 : Below (w.alloc (.cells #[.slice r.ka r.kinds.length r.kc,.int .i64 r.most,.slice r.wa r.weaks.length r.wc,.slice r.sa r.surs.length r.sc] 44)).heap.size (w.alloc (.cells #[.slice r.ka r.kinds.length r.kc,.int .i64 r.most,.slice r.wa r.weaks.length r.wc,.slice r.sa r.surs.length r.sc] 44)) ((w.alloc (.cells #[.slice r.ka r.kinds.length r.kc,.int .i64 r.most,.slice r.wa r.weaks.length r.wc,.slice r.sa r.surs.length r.sc] 44)).alloc (.cells #[.int .i64 key.kind,.string key.text] 55)):=new1 _
 have hb2 : Below ((w.alloc (.cells #[.slice r.ka r.kinds.length r.kc,.int .i64 r.most,.slice r.wa r.weaks.length r.wc,.slice r.sa r.surs.length r.sc] 44)).alloc (.cells #[.int .i64 key.kind,.string key.text] 55)).heap.size ((w.alloc (.cells #[.slice r.ka r.kinds.length r.kc,.int .i64 r.most,.slice r.wa r.weaks.length r.wc,.slice r.sa r.surs.length r.sc] 44)).alloc (.cells #[.int .i64 key.kind,.string key.text] 55)) (((w.alloc (.cells #[.slice r.ka r.kinds.length r.kc,.int .i64 r.most,.slice r.wa r.weaks.length r.wc,.slice r.sa r.surs.length r.sc] 44)).alloc (.cells #[.int .i64 key.kind,.string key.text] 55)).alloc (.cells #[.int .i64 0,.string ⟨#[]⟩,.slice none 0 0,.slice none 0 0,.slice none 0 0] 147)):=new1 _
 have e1 : (w.alloc (.cells #[.slice r.ka r.kinds.length r.kc,.int .i64 r.most,.slice r.wa r.weaks.length r.wc,.slice r.sa r.surs.length r.sc] 44)).heap.size = w.heap.size + 1:=by simp
 have e2 : ((w.alloc (.cells #[.slice r.ka r.kinds.length r.kc,.int .i64 r.most,.slice r.wa r.weaks.length r.wc,.slice r.sa r.surs.length r.sc] 44)).alloc (.cells #[.int .i64 key.kind,.string key.text] 55)).heap.size = w.heap.size + 1 + 1:=by simp
 have x0 : ((w.alloc (.cells #[.slice r.ka r.kinds.length r.kc,.int .i64 r.most,.slice r.wa r.weaks.length r.wc,.slice r.sa r.surs.length r.sc] 44)).alloc (.cells #[.int .i64 key.kind,.string key.text] 55)).cell? ⟨(w.alloc (.cells #[.slice r.ka r.kinds.length r.kc,.int .i64 r.most,.slice r.wa r.weaks.length r.wc,.slice r.sa r.surs.length r.sc] 44)).heap.size,0,none⟩ = some (.int .i64 key.kind):=newc 0 rfl
 have x1 : ((w.alloc (.cells #[.slice r.ka r.kinds.length r.kc,.int .i64 r.most,.slice r.wa r.weaks.length r.wc,.slice r.sa r.surs.length r.sc] 44)).alloc (.cells #[.int .i64 key.kind,.string key.text] 55)).cell? ⟨(w.alloc (.cells #[.slice r.ka r.kinds.length r.kc,.int .i64 r.most,.slice r.wa r.weaks.length r.wc,.slice r.sa r.surs.length r.sc] 44)).heap.size,1,none⟩ = some (.string key.text):=newc 1 rfl
 have HRS : Hid ((((w.alloc (.cells #[.slice r.ka r.kinds.length r.kc,.int .i64 r.most,.slice r.wa r.weaks.length r.wc,.slice r.sa r.surs.length r.sc] 44)).alloc (.cells #[.int .i64 key.kind,.string key.text] 55)).alloc (.cells #[.int .i64 0,.string ⟨#[]⟩,.slice none 0 0,.slice none 0 0,.slice none 0 0] 147)).heap[w.heap.size + 1 + 1]? = some (.cells #[.int .i64 0,.string ⟨#[]⟩,.slice none 0 0,.slice none 0 0,.slice none 0 0] 147 (0,0))):=heap_at e2.symm
 have hb12:=hb1.trans (hb2.mono hb1.size)
 replace z0:=lift_cell z0 _ hb12
 replace z1:=lift_cell z1 _ hb12
 replace z2:=lift_cell z2 _ hb12
 replace z3:=lift_cell z3 _ hb12
 replace x0:=lift_cell x0 _ hb2
 replace x1:=lift_cell x1 _ hb2
 rw [e1] at x0 x1
 have HBN:=Lib.hid (HBN.out.trans (hb12.mono HBN.out.size))
 have HIN:=Lib.hid (hH.below HBN.out)
 have HLT : Hid (w.heap.size + 1 + 1 < (((w.alloc (.cells #[.slice r.ka r.kinds.length r.kc,.int .i64 r.most,.slice r.wa r.weaks.length r.wc,.slice r.sa r.surs.length r.sc] 44)).alloc (.cells #[.int .i64 key.kind,.string key.text] 55)).alloc (.cells #[.int .i64 0,.string ⟨#[]⟩,.slice none 0 0,.slice none 0 0,.slice none 0 0] 147)).heap.size):=lt_of_heap HRS.out
 clear hb1 hb2 hb12 e1 e2
 have HH:=Lib.hid hH
 have HTI : Hid (TchIn H A ts):=⟨ht.row,fun t hx => ⟨(ht.inn t hx).ids,(ht.inn t hx).fds⟩⟩
 have HBT:=Lib.hid ht.both
 have HCB:=Lib.hid (fun W (hW : H.In W) => checkBoth_any H hU hM r A cap ts W hW ht.rul HTI.out ht.sz (by omega) (fun t hx => (ht.inn t hx).sz))
 rw [HBT.out] at HCB
 have HCK:=Lib.hid (fun W (hW : H.In W) => checkId_any H hM key.kind key.text W hW (by have:=hfk.2; omega))
 rw [hz] at HCK
 have HNG:=Lib.hid (fun W (hW : H.In W) => newGroup_any H r A cap ts W hW HTI.out (by omega) (fun t hx => ⟨by have:=(hr9.2.1 t hx).len; omega,hfit t hx,rising_ne (hr9.2.1 t hx).ids⟩))
 have HFT : Hid (∀ t ∈ ts,(∀ x ∈ t.ids,FitId x) ∧ 0 < t.ids.length ∧ t.ids.length ≤ 20):=fun t hx => ⟨hfit t hx,by have:=(hr9.2.1 t hx).len; omega,by have:=(hr9.2.1 t hx).len; omega⟩
 have HRR:=Lib.hid hrul
 have HRI:=Lib.hid ht.rul
 have HKI:=Lib.hid hk
 clear hU hM ht hk hz hfk hr9 hfit hrul hH HBT
 go_enter Tryz.func103,Tryz.ntmps103
 go_upto_region 1 with (fail)
 generalize ((w.alloc (.cells #[.slice r.ka r.kinds.length r.kc,.int .i64 r.most,.slice r.wa r.weaks.length r.wc,.slice r.sa r.surs.length r.sc] 44)).alloc (.cells #[.int .i64 key.kind,.string key.text] 55)).alloc (.cells #[.int .i64 0,.string ⟨#[]⟩,.slice none 0 0,.slice none 0 0,.slice none 0 0] 147) = W1 at *
 generalize hrb : w.heap.size + 1 + 1 = rb at *
 have HRB:=Lib.hid hrb
 clear hrb
 go_wp2_with fail
 refine (HCB.out W1 HIN.out).mono ?_
 rintro e W2 ⟨rfl,hb2⟩
 have HB2:=Lib.hid (hb2)
 have x0':=lift_cell x0 _ hb2
 have x1':=lift_cell x1 _ hb2
 have z0':=lift_cell z0 _ hb2
 have z1':=lift_cell z1 _ hb2
 have z2':=lift_cell z2 _ hb2
 have z3':=lift_cell z3 _ hb2
 clear hb2 x0 x1 z0 z1 z2 z3
 go_wp2_with fail
 refine (HCK.out W2 (HIN.out.below HB2.out)).mono ?_
 rintro e W3 ⟨rfl,hb3⟩
 have HB3:=Lib.hid (HB2.out.trans (hb3.mono HB2.out.size))
 have x0:=lift_cell x0' _ hb3
 have x1:=lift_cell x1' _ hb3
 have z0:=lift_cell z0' _ hb3
 have z1:=lift_cell z1' _ hb3
 have z2:=lift_cell z2' _ hb3
 have z3:=lift_cell z3' _ hb3
 clear hb3 x0' x1' z0' z1' z2' z3' HB2
 go_wp2_with fail
 refine (HNG.out W3 (HIN.out.below HB3.out)).mono ?_
 rintro e W4 ⟨gp,bm,nm,m,rfl,hS,hgo,hgp⟩
 have HB4:=Lib.hid (HB3.out.trans (hS.bel.mono HB3.out.size))
 obtain ⟨hle,hG⟩:=GrpIn.of hS hgo (HIN.out.below HB3.out) HRI.out HTI.out
 have HG:=Lib.hid hG
 have HS:=Lib.hid hS
 have HGO:=Lib.hid hgo
 have HME:=Lib.hid (members_any hG HRR.out.ws (by have:=HRR.out.wl; omega) (by have:=HRR.out.kl; omega) (by omega) HFT.out W4 (wholeH_in W4))
 have X0:=lift_cell (lift_cell x0 _ hS.bel)
 have X1:=lift_cell (lift_cell x1 _ hS.bel)
 clear hS hgo hle hG HNG x0 x1 z0 z1 z2 z3 hgp HB3 HCB HCK
 go_wp2_with fail
 refine HME.out.mono ?_
 rintro e W5 ⟨vout,B,rr,ms,nos,ats,ids,rfl,huf,hMS,hQ⟩
 have HB5:=Lib.hid (HB4.out.trans (hMS.bel.mono HB4.out.size))
 have hx0:=X0 _ hMS.bel
 have hx1:=X1 _ hMS.bel
 clear X0 X1
 have HX0:=Lib.hid (lift_cell hx0)
 have HX1:=Lib.hid (lift_cell hx1)
 clear hx0 hx1
 obtain ⟨A4,c4,rfl,hc4⟩:=hMS.out.slice
 have hmsl : ms.length ≤ 100000:=by have h1:=hQ.len; have h2:=rts_le (repN rr) ts.length; omega
 obtain ⟨k,hka⟩:=HKI.out.at_ huf
 have HKA:=Lib.hid hka
 have hkm : k < ms.length:=by rw [hQ.len]; exact hka.lt
 have H45:=Lib.hid hMS.bel
 have HMS:=Lib.hid hMS
 have HQ:=Lib.hid hQ
 have HUF:=Lib.hid huf
 have HR5 : Hid (W5.heap[rb]? = some (.cells #[.int .i64 0,.string ⟨#[]⟩,.slice none 0 0,.slice none 0 0,.slice none 0 0] 147 (0,0))):=(HB5.out.block rb HLT.out).trans HRS.out
 clear hMS hQ huf hka HME HG HRS
 go_wp2_with fail
 go_loopw [33] (fun t wr => ∃ i : Nat,i ≤ k ∧ t = .int .i64 i ∧ Hid (Below W5.heap.size W5 wr)) (fun t _ => k - (intOf t).toNat)
 case atStart => exact ⟨0,by omega,rfl,Below.refl _ _⟩
 case round =>
  obtain ⟨i,hi,rfl,hb⟩:=hrel
  have him : i < ms.length:=by omega
  have hx0:=HX0.out _ hb.out
  have hx1:=HX1.out _ hb.out
  obtain ⟨go,capo,rest,hve,hcapo,hBgo,hgos,hcm,hblk,hrest⟩:=HMS.out.out.form (fun e => by rw [e] at him; simp at him)
  have e1 : A4 = some ⟨go,0,none⟩:=by injection hve
  have hbr : KBlk wr go 147 5 fMem ms rest:=(hb.out.block go hgos).trans hblk
  have c0 : wr.cell? ⟨go,i * 5,none⟩ = some (.int .i64 ms[i].key.kind):=hbr.cell i 0 him (by omega)
  have c1 : wr.cell? ⟨go,i * 5 + 1,none⟩ = some (.string ms[i].key.text):=hbr.cell i 1 him (by omega)
  have c2 : wr.cell? ⟨go,i * 5 + 2,none⟩ = some ms[i].vT:=hbr.cell i 2 him (by omega)
  have c3 : wr.cell? ⟨go,i * 5 + 3,none⟩ = some ms[i].vI:=hbr.cell i 3 him (by omega)
  have c4' : wr.cell? ⟨go,i * 5 + 4,none⟩ = some ms[i].vA:=hbr.cell i 4 him (by omega)
  have HTT:=Lib.hid ((HMS.out.rowT him).below hb.out)
  have HII:=Lib.hid ((HMS.out.rowI him).below hb.out)
  have HAA:=Lib.hid ((HMS.out.rowA him).below hb.out)
  clear hbr hblk hrest hve hcapo hcm hBgo hgos
  have hir : i < (rts (repN rr) ts.length).length:=by rw [← HQ.out.len]; exact him
  have HKE:=Lib.hid (HQ.out.key i hir him)
  have HNI:=Lib.hid (And.intro (HQ.out.nos i hir) (And.intro (HQ.out.ats i hir) (HQ.out.ids i hir)))
  have hge : w.heap.size ≤ B:=by have h1:=HMS.out.ge; have h2:=HB4.out.size; have h3:=HBN.out.size; omega
  have hik : ((i : Int) < (ms.length : Int)):=by omega
  subst e1
  generalize ms[i] = d at *
  obtain ⟨⟨kk,kt⟩,vT,vI,vA⟩:=d
  obtain ⟨A2,c2',e3,-⟩:=HTT.out.slice
  obtain ⟨A3,c3',e4,-⟩:=HII.out.slice
  obtain ⟨A5,c5',e5,-⟩:=HAA.out.slice
  dsimp only at *
  subst e3 e4 e5
  generalize nos i = no1 at *
  generalize ats i = at1 at *
  generalize ids i = id1 at *
  have HZ:=Lib.hid (heap_alloc_new wr (.cells #[.int .i64 kk,.string kt,.slice A2 no1.length c2',.slice A3 id1.length c3',.slice A5 at1.length c5'] 147))
  have hn1:=new1 (w:=wr) (.cells #[.int .i64 kk,.string kt,.slice A2 no1.length c2',.slice A3 id1.length c3',.slice A5 at1.length c5'] 147)
  have HB6:=Lib.hid (hb.out.trans (hn1.mono hb.out.size))
  have HTT6:=Lib.hid (HTT.out.below hn1)
  have HII6:=Lib.hid (HII.out.below hn1)
  have HAA6:=Lib.hid (HAA.out.below hn1)
  clear HTT HII HAA
  clear hn1 hx0 hx1
  go_upto_region 11 with (fail)
  clear c0 c1 c2 c3 c4'
  generalize wr.alloc (.cells #[.int .i64 kk,.string kt,.slice A2 no1.length c2',.slice A3 id1.length c3',.slice A5 at1.length c5'] 147) = W6 at *
  generalize wr.heap.size = xb at *
  have x0:=cell_h HZ.out 0 (v:=.int .i64 kk) rfl
  have x1:=cell_h HZ.out 1 (v:=.string kt) rfl
  have x2:=cell_h HZ.out 2 (v:=.slice A2 no1.length c2') rfl
  have x3:=cell_h HZ.out 3 (v:=.slice A3 id1.length c3') rfl
  have x4:=cell_h HZ.out 4 (v:=.slice A5 at1.length c5') rfl
  have y0:=HX0.out _ HB6.out
  have y1:=HX1.out _ HB6.out
  have HKY : Hid ((i = k → (⟨kk,kt⟩ : IdD) = key) ∧ (i < k → (⟨kk,kt⟩ : IdD) ≠ key)):=by
   constructor
   ·intro e
    subst e
    rw [HKE.out]
    exact HKA.out.eq hir
   ·intro e
    rw [HKE.out]
    exact HKA.out.ne i hir e
  clear HKE
  by_cases hlt : i < k
  ·have hne:=HKY.out.2 hlt
   cases k1 : (kk == key.kind) with
   | false =>
    clear hne HKY
    go_wp2_with fail
    go_roundw
    case rel => exact ⟨i + 1,by omega,by go_num,HB6⟩
    case measure => simp [intOf]; omega
   | true =>
    cases k2 : (kt.toList == key.text.toList) with
    | false =>
     clear hne HKY
     go_wp2_with fail
     go_roundw
     case rel => exact ⟨i + 1,by omega,by go_num,HB6⟩
     case measure => simp [intOf]; omega
    | true =>
     exfalso
     apply hne
     have h1 : kk = key.kind:=by simpa using k1
     have h2 : kt = key.text:=eqS_iff.1 k2
     rw [h1,h2]
  ·obtain rfl : i = k:=by omega
   have hey:=HKY.out.1 rfl
   subst hey
   dsimp only at *
   clear HKY hlt
   have hrb:=(HB6.out.block rb (Nat.lt_of_lt_of_le HLT.out HB5.out.size)).trans HR5.out
   have r0:=cell_h hrb 0 (v:=.int .i64 0) rfl
   have r1:=cell_h hrb 1 (v:=.string ⟨#[]⟩) rfl
   have r2:=cell_h hrb 2 (v:=.slice none 0 0) rfl
   have r3:=cell_h hrb 3 (v:=.slice none 0 0) rfl
   have r4:=cell_h hrb 4 (v:=.slice none 0 0) rfl
   have f0:=froz_h hrb 0
   have f1:=froz_h hrb 1
   have f2:=froz_h hrb 2
   have f3:=froz_h hrb 3
   have f4:=froz_h hrb 4
   go_wp2_with fail
   go_region
   obtain ⟨hg9,hh9⟩:=set5K hrb (.int .i64 kk) (.string kt) (.slice A2 no1.length c2') (.slice A3 id1.length c3') (.slice A5 at1.length c5')
   have hgew : w.heap.size ≤ rb:=by have:=HRB.out; omega
   have h5w : Below w.heap.size w W5:=HBN.out.trans (HB5.out.mono HBN.out.size)
   have HBX:=Lib.hid (((((((h5w.trans (HB6.out.mono h5w.size)).setCell (p:=⟨rb,0,none⟩) hgew (.int .i64 kk)).setCell (p:=⟨rb,1,none⟩) hgew (.string kt)).setCell (p:=⟨rb,2,none⟩) hgew (.slice A2 no1.length c2')).setCell (p:=⟨rb,3,none⟩) hgew (.slice A3 id1.length c3')).setCell (p:=⟨rb,4,none⟩) hgew (.slice A5 at1.length c5')).drew)
   generalize (((((W6.setCell ⟨rb,0,none⟩ (.int .i64 kk)).setCell ⟨rb,1,none⟩ (.string kt)).setCell ⟨rb,2,none⟩ (.slice A2 no1.length c2')).setCell ⟨rb,3,none⟩ (.slice A3 id1.length c3')).setCell ⟨rb,4,none⟩ (.slice A5 at1.length c5')) = W8 at *
   have hd8 : Below W8.heap.size W8 W8.drew:=(Below.refl _ _).drew
   have hh8:=(hd8.block rb (lt_of_heap hh9)).trans hh9
   generalize W8.drew = W9 at *
   have hF : KeyedPost r A cap ts ⟨kk,kt⟩ w (.returned (.tuple #[.pointer (some ⟨gp,0,none⟩),.agg #[.int .i64 kk,.string kt,.slice A2 no1.length c2',.slice A3 id1.length c3',.slice A5 at1.length c5'],.int .i64 0])) W9:=by
    have hrB : rb < B:=by have h1:=HLT.out; have h2:=HB4.out.size; have h3:=HMS.out.ge; omega
    have h69 : ∀ b,b < W6.heap.size → b ≠ rb → W9.heap[b]? = W6.heap[b]?:=fun b hb9 hne => (hd8.block b (Nat.lt_of_lt_of_le hb9 hg9.size)).trans (hg9.block b hb9 (fun e => by injection e with e; exact hne e))
    have row9 : ∀ {D : Type} {T q : Nat} {f : D → Nat → Value} {v : Value} {ds : List D},Orow W6 B T q f v ds → Orow W9 w.heap.size T q f v ds:=fun h => by
     have h1 : Orow W9 B _ _ _ _ _:=ownsRow_heap h (fun g e => h69 g (h.lt e).2 (fun c => by have:=(h.lt e).1; omega))
     exact h1.mono hge
    have h46 : Below W4.heap.size W4 W6:=H45.out.trans (HB6.out.mono H45.out.size)
    have hHle : H.Le (wholeH W9):=fun b o h => (HH.out.below HBX.out) b o h
    refine ⟨HBX.out,gp,bm,nm,m,rr,i,_,_,_,no1,at1,id1,rfl,?_,HUF.out,HKA.out,row9 HTT6.out,row9 HII6.out,row9 HAA6.out,?_⟩
    ·have hr4 : rb < W4.heap.size:=Nat.lt_of_lt_of_le HLT.out HB4.out.size
     have h4r : W4.heap[rb]? = some (.cells #[.int .i64 0,.string ⟨#[]⟩,.slice none 0 0,.slice none 0 0,.slice none 0 0] 147 (0,0)):=(h46.block rb hr4).symm.trans hrb
     have hgne : gp ≠ rb:=fun c => by
      have h1:=HGO.out
      rw [c,h4r] at h1
      injection h1 with h1
      injection h1 with _ h1
      exact absurd h1 (by decide)
     have h49 : ∀ b,b < W4.heap.size → ¬ b = rb → W9.heap[b]? = W4.heap[b]?:=fun b hb9 hne => (h69 b (Nat.lt_of_lt_of_le hb9 h46.size) hne).trans (h46.block b hb9)
     refine GrpIn.of2 HS.out (X:=fun b => b = rb) h49 (fun c => ?_) (fun g cur c => ?_) ((h49 gp (lt_of_heap HGO.out) hgne).trans HGO.out) (HRI.out.le hHle) (HTI.out.le hHle)
     ·exact HS.out.map.ne_cells h4r c
     ·rw [c,h4r]
      intro h1
      injection h1 with h1
      injection h1 with _ h1
      exact absurd h1 (by decide)
    ·intro h
     exact HNI.out
   go_wp2_with fail
   (try simp only [Exit.inBlock,Exit.then])
   refine bodyPost_ret (res_tmp_row_tmp rfl _ _ rb 147 _ (0,0) _ rfl hh8 Tryz.underlying147 rfl (by kernel_rfl)) rfl ?_
   exact hF
open Go.RowKit
open Go.RowKit
theorem nodup_le {α : Type} : ∀ (out l : List α),out.Nodup → (∀ x ∈ out,x ∈ l) → out.length ≤ l.length
 | [],l,_,_ => Nat.zero_le _
 | x :: out,l,hn,hs => by
  obtain ⟨h1,h2⟩:=List.nodup_cons.1 hn
  have hx:=hs x (by simp)
  obtain ⟨a,b,rfl⟩:=List.append_of_mem hx
  have:=nodup_le out (a ++ b) h2 (fun y hy => by
   have:=hs y (List.mem_cons_of_mem _ hy)
   rcases List.mem_append.1 this with h | h
   ·exact List.mem_append_left _ h
   ·rcases List.mem_cons.1 h with h | h
    ·subst h; exact absurd hy h1
    ·exact List.mem_append_right _ h)
  simp only [List.length_append,List.length_cons] at this ⊢
  omega
theorem idsOk_len {l out : List IdD} (h : IdsOk l out) : out.length ≤ l.length :=
 nodup_le out l (List.Pairwise.imp (fun {a b} h e => by
  subst e
  have:=idCmp_zero.2 (rfl : a = a)
  omega) h.1) (fun x hx => (h.2 x).1 hx)
def inR (r : RulD) (M : Int) (wa : Option Addr) (wc : Nat) (ws : List IdD) : RulD:={ r with most:=M,wa:=wa,wc:=wc,weaks:=ws }
structure CutS (w W6 : World) (gp bm : Nat) (r : RulD) (M : Int) (A2 : Option Addr) (n c2 : Nat) (wa : Option Addr) (wc : Nat) (ws : List IdD) (wr : World) : Prop where
 obj : wr.heap[gp]? = some (grpObj (inR r M wa wc ws) A2 n c2 bm)
 row : Orow wr W6.heap.size 55 2 fId (.slice wa ws.length wc) ws
 bel : Below w.heap.size w wr
 sz : W6.heap.size ≤ wr.heap.size
 old : ∀ b,b < W6.heap.size → b ≠ gp → wr.heap[b]? = W6.heap[b]?
 gl : gp < W6.heap.size
 gw : w.heap.size ≤ gp
section
variable {w W6 wr W' : World} {gp bm : Nat} {r : RulD} {M : Int} {A2 : Option Addr} {n c2 : Nat} {wa : Option Addr} {wc : Nat} {ws : List IdD}
theorem CutS.call (h : CutS w W6 gp bm r M A2 n c2 wa wc ws wr) (hb : Below wr.heap.size wr W') : CutS w W6 gp bm r M A2 n c2 wa wc ws W' :=
 ⟨(hb.block _ (lt_of_heap h.obj)).trans h.obj,h.row.below hb,h.bel.trans (hb.mono h.bel.size),Nat.le_trans h.sz hb.size,fun b hb1 hne => (hb.block b (Nat.lt_of_lt_of_le hb1 h.sz)).trans (h.old b hb1 hne),h.gl,h.gw⟩
theorem CutS.alloc (h : CutS w W6 gp bm r M A2 n c2 wa wc ws wr) (o : Obj) : CutS w W6 gp bm r M A2 n c2 wa wc ws (wr.alloc o):=h.call (new1 o)
theorem CutS.inn (h : CutS w W6 gp bm r M A2 n c2 wa wc ws wr) {H : Frz} (hH : H.In W6) (hg : H gp = none) : H.In wr:=fun b o e => (h.old b (hH.lt e) (fun c => by subst c; rw [hg] at e; cases e)).trans (hH b o e)
theorem CutS.app (h : CutS w W6 gp bm r M A2 n c2 wa wc ws wr) {v' : Value} {ws' : List IdD} (o : Orow W' W6.heap.size 55 2 fId v' ws') (g1 : wr.grownBy W' (Value.slice wa ws.length wc).ownBlock) :
  W'.cell? ⟨gp,2,none⟩ = some (.slice wa ws.length wc) ∧ W'.frozen? ⟨gp,2,none⟩ = false ∧ ∃ A' c',v' = .slice A' ws'.length c' ∧ CutS w W6 gp bm r M A2 n c2 A' c' ws' (W'.setCell ⟨gp,2,none⟩ v'):=by
 obtain ⟨A',c',hv,-⟩:=o.slice
 subst hv
 have hgl:=h.gl
 have hgw:=h.gw
 have hobj : W'.heap[gp]? = some (grpObj (inR r M wa wc ws) A2 n c2 bm):=(g1.block gp (lt_of_heap h.obj) (fun e => by have:=(h.row.lt e.symm).1; omega)).trans h.obj
 have hwB : w.heap.size ≤ W6.heap.size:=by omega
 have hbel : Below w.heap.size w W':=⟨g1.os.trans h.bel.os,g1.tape.trans h.bel.tape,g1.output.trans h.bel.output,Nat.le_trans h.bel.size g1.size,fun k hk => (g1.block k (Nat.lt_of_lt_of_le hk h.bel.size) (fun e => by have:=(h.row.lt e.symm).1; omega)).trans (h.bel.block k hk)⟩
 refine ⟨cell_h hobj 2 rfl,froz_h hobj 2,A',c',rfl,⟨?_,?_,hbel.setCell (p:=⟨gp,2,none⟩) hgw _,?_,fun b hb1 hne => ?_,hgl,hgw⟩⟩
 ·simp [World.setCell,Array.getElem?_modify,hobj,grpObj,inR]
 ·exact ownsRow_heap o (fun g e => Below.heap_setCell W' _ _ g (by have:=(o.lt e).1; show g ≠ gp; omega))
 ·have:=h.sz; have:=g1.size; simp [World.setCell]; omega
 ·refine (Below.heap_setCell W' _ _ b hne).trans ((g1.block b (Nat.lt_of_lt_of_le hb1 h.sz) (fun e => by have:=(h.row.lt e.symm).1; omega)).trans (h.old b hb1 hne))
end
theorem tAt_mem {ts : List TchD} {q : Nat} (h : q < ts.length) : tAt ts q ∈ ts:=by
 rw [tAt_lt h]; exact List.getElem_mem h
theorem CutS.start {w W6 W8 : World} {gp bm : Nat} {r : RulD} {M : Int} {A2 : Option Addr} {n c2 : Nat} {wa : Option Addr} {wc : Nat} {ws : List IdD} (h6 : W6.heap[gp]? = some (grpObj r A2 n c2 bm)) (hb : Below w.heap.size w W6) (hg : w.heap.size ≤ gp)
  (h8 : Below (W6.setCell ⟨gp,1,none⟩ (.int .i64 M)).heap.size (W6.setCell ⟨gp,1,none⟩ (.int .i64 M)) W8) (hr : Orow W8 (W6.setCell ⟨gp,1,none⟩ (.int .i64 M)).heap.size 55 2 fId (.slice wa ws.length wc) ws) :
  W8.cell? ⟨gp,2,none⟩ = some (.slice r.wa r.weaks.length r.wc) ∧ W8.frozen? ⟨gp,2,none⟩ = false ∧ CutS w W6 gp bm r M A2 n c2 wa wc ws (W8.setCell ⟨gp,2,none⟩ (.slice wa ws.length wc)):=by
 have hs : (W6.setCell ⟨gp,1,none⟩ (.int .i64 M)).heap.size = W6.heap.size:=by simp [World.setCell]
 have hgl : gp < W6.heap.size:=lt_of_heap h6
 have h7 : (W6.setCell ⟨gp,1,none⟩ (.int .i64 M)).heap[gp]? = some (.cells #[.slice r.ka r.kinds.length r.kc,.int .i64 M,.slice r.wa r.weaks.length r.wc,.slice r.sa r.surs.length r.sc,.slice A2 n c2,.map (some bm)] 152 (0,0)):=by
  simp [World.setCell,Array.getElem?_modify,h6,grpObj]
 have h88:=(h8.block gp (by rw [hs]; exact hgl)).trans h7
 rw [hs] at hr
 refine ⟨cell_h h88 2 rfl,froz_h h88 2,⟨by simp [World.setCell,Array.getElem?_modify,h88,grpObj,inR],ownsRow_heap hr (fun g e => Below.heap_setCell W8 _ _ g (by have:=(hr.lt e).1; show g ≠ gp; omega)),?_,?_,fun b hb1 hne => ?_,hgl,hg⟩⟩
 ·exact ((hb.setCell (p:=⟨gp,1,none⟩) hg _).trans (h8.mono (by rw [hs]; exact hb.size))).setCell (p:=⟨gp,2,none⟩) hg _
 ·have:=h8.size; rw [hs] at this; simpa [World.setCell] using this
 ·exact (Below.heap_setCell W8 _ _ b hne).trans ((h8.block b (by rw [hs]; exact hb1)).trans (Below.heap_setCell W6 _ _ b hne))
theorem wholeH_cell {w : World} {b o : Nat} {v : Value} (h : w.cell? ⟨b,o,none⟩ = some v) : (wholeH w).cell? ⟨b,o,none⟩ = some v:=by
 unfold Frz.cell? wholeH
 simp only [World.cell?] at h ⊢
 split at h <;> simp_all
theorem GrpIn.look {H : Frz} {gp bm n : Nat} {m : Lit → Option Value} {r : RulD} {A : Option Addr} {cap : Nat} {ts : List TchD} (hG : GrpIn H gp bm n m r A cap ts) {x : IdD} (hx : FitId x) :
  ∃ B c,∀ W,H.In W → (Instr.lookup 150 (.map (some bm)) (.agg #[.int .i64 x.kind,.string x.text]) false).run Tryz.prog W = .ok (.slice B (posL ts x).length c) W:=by
 by_cases hp : posL ts x = []
 ·refine ⟨none,0,fun W hW => ?_⟩
  have:=(hG.map W hW).look idKeyed Tryz.underlying150 (z:=.slice none 0 0) (by kernel_rfl) (keyId hx) false
  rw [hG.none_ x hx hp] at this
  rw [hp]
  exact this
 ·obtain ⟨B,c,e,_⟩:=hG.some_ x hx hp
  refine ⟨B,c,fun W hW => ?_⟩
  have:=(hG.map W hW).look idKeyed Tryz.underlying150 (z:=.slice none 0 0) (by kernel_rfl) (keyId hx) false
  rw [e] at this
  exact this
theorem CutS.sorted {w W6 wr W' : World} {gp bm : Nat} {r : RulD} {M : Int} {A2 : Option Addr} {n c2 : Nat} {wa : Option Addr} {wc : Nat} {ws ws' : List IdD} (h : CutS w W6 gp bm r M A2 n c2 wa wc ws wr) (hl : ws'.length = ws.length) (o : Orow W' W6.heap.size 55 2 fId (.slice wa ws.length wc) ws') (g1 : wr.grownBy W' (Value.slice wa ws.length wc).ownBlock) :
  CutS w W6 gp bm r M A2 n c2 wa wc ws' W':=by
 have hgl:=h.gl
 have hgw:=h.gw
 have hobj : W'.heap[gp]? = some (grpObj (inR r M wa wc ws) A2 n c2 bm):=(g1.block gp (lt_of_heap h.obj) (fun e => by have:=(h.row.lt e.symm).1; omega)).trans h.obj
 refine ⟨?_,by rw [hl]; exact o,⟨g1.os.trans h.bel.os,g1.tape.trans h.bel.tape,g1.output.trans h.bel.output,Nat.le_trans h.bel.size g1.size,fun k hk => (g1.block k (Nat.lt_of_lt_of_le hk h.bel.size) (fun e => by have:=(h.row.lt e.symm).1; omega)).trans (h.bel.block k hk)⟩,Nat.le_trans h.sz g1.size,fun b hb hne => (g1.block b (Nat.lt_of_lt_of_le hb h.sz) (fun e => by have:=(h.row.lt e.symm).1; omega)).trans (h.old b hb hne),hgl,hgw⟩
 rw [hobj]
 simp [grpObj,inR,hl]
open Go.RowKit
end Go.Proofs.YtbidhpgjmcedaaaGreatDoor
