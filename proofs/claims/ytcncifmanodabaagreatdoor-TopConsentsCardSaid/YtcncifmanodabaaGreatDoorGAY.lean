/- Texts of this claim, put together: BsfId, Joins, JoinsW, Parts. -/
import Derived.Test.YtcncifmanodabaaGreatDoorGAB
import Derived.Test.YtcncifmanodabaaGreatDoorGAC
import Derived.Test.YtcncifmanodabaaGreatDoorGAE
import Derived.StillTailTactics
import Derived.Deep.Cut
import Derived.Test.YtcncifmanodabaaGreatDoorGAX
import Derived.Test.YtcncifmanodabaaGreatDoorGAR
import Derived.Test.YtcncifmanodabaaGreatDoorGAV
namespace Go.Proofs.YtcncifmanodabaaGreatDoor
set_option linter.unusedVariables false
open Go.RowKit
section
variable {D:Type}
set_option maxHeartbeats 2000000 in
set_option maxRecDepth 100000 in
theorem bsf_Id (H:Frz) (f:D → Nat → Value) (kf:Nat) (tv:Nat → Value) (c:D → Int) (ds:List D) (hp:∀ (W:World) (d:D),d ∈ ds → H.In W → Calls Tryz.prog kf #[.agg #[f d 0,f d 1],.agg #[tv 0,tv 1]] W fun e W' => e = .returned (.int .i64 (c d)) ∧ Below W.heap.size W W')
  (hcall:∀ (a b:Value) (W:World),(callFunc kf #[a,b]).run Tryz.prog W = .ok (.enter kf #[a,b]) W)
  (A:Option Addr) (cap:Nat) (w:World) (hH:H.In w) (hR:Rw H A 2 f ds) (hl:ds.length ≤ 1000000) (m:Nat) (hm:m ≤ ds.length) (hlo:∀ i (h:i < ds.length),i < m → c ds[i] < 0) (hhi:∀ i (h:i < ds.length),m ≤ i → 0 ≤ c ds[i]) :
  Calls Tryz.prog 141 #[.slice A ds.length cap,.agg #[tv 0,tv 1],.func (.func kf) #[] #[]] w fun e w' => e = .returned (.tuple #[.int .i64 m,.bool (hasAt c ds m)]) ∧ Below w.heap.size w w':=by
 have HP:=Lib.hid hp
 have HR:=Lib.hid hR
 have HH:=Lib.hid hH
 have HLO:=Lib.hid hlo
 have HHI:=Lib.hid hhi
 have HB0:=Lib.hid ((Below.refl w.heap.size w).alloc (Nat.le_refl _) (.cells #[tv 0,tv 1] 36))
 have HZ0:Hid (∀ m,m < 2 → (w.alloc (.cells #[tv 0,tv 1] 36)).cell? ⟨w.heap.size,m,none⟩ = some (tv m)):=fun m hm => by
  rw [World.cell?_alloc_new]
  have:m = 0 ∨ m = 1:=by omega
  rcases this with rfl | rfl <;> rfl
 clear hp hR hH hlo hhi
 go_enter Tryz.func141,Tryz.ntmps141
 go_wp2_with fail
 generalize hwq:w.heap.size = tb at HZ0
 generalize hW1:w.alloc _ = W1 at HB0 HZ0
 clear hW1
 go_loopw [9,10,11] (fun ti tj _ wr => ∃ i j:Nat,i ≤ m ∧ m ≤ j ∧ j ≤ ds.length ∧ ti = .int .i64 i ∧ tj = .int .i64 j ∧ Hid (Below w.heap.size w wr) ∧ Hid (∀ m,m < 2 → wr.cell? ⟨tb,m,none⟩ = some (tv m))) (fun ti tj _ _ => (intOf tj - intOf ti).toNat)
 case atStart => exact ⟨0,ds.length,by omega,by omega,by omega,rfl,rfl,HB0,HZ0⟩
 case round =>
  obtain ⟨i,j,hi,hj,hjl,rfl,rfl,hb,hz⟩:=hrel
  clear HB0 HZ0
  have HIN:=Lib.hid (fun W (hW:Below wr.heap.size wr W) => (HH.out.below hb.out).below hW)
  by_cases hlt:i < j
  ·have e1:IntKind.i64.wrap ((i:Int) + (j:Int)) = (i:Int) + (j:Int):=IntWalk.i64_in _ (by omega)
   obtain ⟨h,hh⟩:∃ h,h = (i + j) / 2:=⟨_,rfl⟩
   have hhl:h < ds.length:=by omega
   have hih:i ≤ h:=by omega
   have hhj:h < j:=by omega
   have k2:((i:Int) + (j:Int)) / 2 = (h:Int):=by omega
   obtain ⟨b,off,rfl,hbl,hc⟩:=HR.out.at_ (HH.out.below hb.out) hhl (by omega)
   have c0:wr.cell? ⟨b,off + h * 2,none⟩ = some (f ds[h] 0):=hc 0 (by omega)
   have c1:wr.cell? ⟨b,off + h * 2 + 1,none⟩ = some (f ds[h] 1):=hc 1 (by omega)
   have HC:=Lib.hid (fun W hW => HP.out W ds[h] (List.getElem_mem hhl) hW)
   have HL:=Lib.hid (HLO.out h hhl)
   have HU:=Lib.hid (HHI.out h hhl)
   clear hc hh
   generalize hpd:c ds[h] = q at HC HL HU
   generalize f ds[h] 0 = x0 at c0 HC
   generalize f ds[h] 1 = x1 at c1 HC
   clear hpd
   have K0:=lift_cell c0
   have K1:=lift_cell c1
   have J0:=lift_cell (hz.out 0 (by omega))
   have J1:=lift_cell (hz.out 1 (by omega))
   clear c0 c1
   go_upto_region 5 with (fail)
   clear k2
   (refine wp_region_det 6 49 (fun W => Below (wr).heap.size (wr) W) (by kernel_rfl) (by kernel_rfl) (by rfl) (Below.refl _ _).drew ?_;simp only [List.take_succ_cons,List.take_zero,List.drop_succ_cons,List.drop_zero])
   iterate 6 (refine detSeq_op rfl ?_ (fun W hW => ?_) ?_;rotate_left;(focus simp only [OpV];go_simp;first | exact rfl | exact ⟨rfl,hW⟩))
   refine detSeq_nil (fun W3 hW3 => ?_)
   have HW3:=Lib.hid hW3
   clear K0 K1 J0 J1 hW3
   go_wp2_with fail
   refine (HC.out _ (HIN.out _ HW3.out)).mono ?_
   rintro e w1 ⟨rfl,hb1⟩
   have hb9:=Lib.hid (det_back HW3.out hb1)
   have hb2:=Lib.hid (hb.out.trans (hb9.out.mono hb.out.size))
   have hz2:Hid (∀ m,m < 2 → w1.cell? ⟨tb,m,none⟩ = some (tv m)):=fun m hm => lift_cell (hz.out m hm) _ hb9.out
   clear hb1 hb hz hb9
   by_cases hq:q < 0
   ·have hhm:h < m:=by
     apply Classical.byContradiction
     intro hn
     have:=HU.out (by omega)
     omega
    go_wp2_with fail
    go_roundw
    case rel => exact ⟨h + 1,j,by omega,by omega,by omega,by go_num,rfl,hb2,hz2⟩
    case measure => simp [intOf];omega
   ·have hhm:m ≤ h:=by
     apply Classical.byContradiction
     intro hn
     exact hq (HL.out (by omega))
    go_wp2_with fail
    go_roundw
    case rel => exact ⟨i,h,by omega,by omega,by omega,rfl,rfl,hb2,hz2⟩
    case measure => simp [intOf];omega
  ·have him:i = m:=by omega
   subst him
   by_cases hml:i < ds.length
   ·have d1:decide ((i:Int) < (ds.length:Int)) = true:=by simpa using hml
    obtain ⟨b,off,rfl,hbl,hc⟩:=HR.out.at_ (HH.out.below hb.out) hml (by omega)
    have c0:wr.cell? ⟨b,off + i * 2,none⟩ = some (f ds[i] 0):=hc 0 (by omega)
    have c1:wr.cell? ⟨b,off + i * 2 + 1,none⟩ = some (f ds[i] 1):=hc 1 (by omega)
    have HC:=Lib.hid (fun W hW => HP.out W ds[i] (List.getElem_mem hml) hW)
    have HV:=Lib.hid (hasAt_lt (c:=c) hml)
    clear hc
    generalize hpd:c ds[i] = q at HC HV
    generalize f ds[i] 0 = x0 at c0 HC
    generalize f ds[i] 1 = x1 at c1 HC
    clear hpd
    have K0:=lift_cell c0
    have K1:=lift_cell c1
    have J0:=lift_cell (hz.out 0 (by omega))
    have J1:=lift_cell (hz.out 1 (by omega))
    clear c0 c1
    go_upto_region 8 with (fail)
    (refine wp_region_det 15 49 (fun W => Below (wr).heap.size (wr) W) (by kernel_rfl) (by kernel_rfl) (by rfl) (Below.refl _ _).drew ?_;simp only [List.take_succ_cons,List.take_zero,List.drop_succ_cons,List.drop_zero])
    iterate 3 (refine detSeq_op rfl ?_ (fun W hW => ?_) ?_;rotate_left;(focus simp only [OpV];go_simp;first | exact rfl | exact ⟨rfl,hW⟩))
    (refine detSeq_op rfl (.bool true) (fun W hW => ?_) ?_;focus (simp only [OpV];go_simp;first | exact rfl | exact ⟨by rw [d1],hW⟩ | skip))
    iterate 1 (refine detSeq_op rfl ?_ (fun W hW => ?_) ?_;rotate_left;(focus simp only [OpV];go_simp;first | exact rfl | exact ⟨rfl,hW⟩))
    iterate 6 (refine detSeq_yes (by kernel_rfl) ?_ (fun W hW => ?_) ?_;rotate_left;(focus simp only [OpV];go_simp;first | exact rfl | exact ⟨rfl,hW⟩))
    (refine detSeq_yes (by kernel_rfl) ?_ (fun W hW => ?_) ?_;rotate_left;focus (simp only [OpV];go_simp;refine (HC.out W (HIN.out W hW)).mono ?_;rintro e w' ⟨rfl,hb⟩;refine ⟨_,rfl,?_,det_back hW hb⟩;exact rfl))
    iterate 1 (refine detSeq_yes (by kernel_rfl) ?_ (fun W hW => ?_) ?_;rotate_left;(focus simp only [OpV];go_simp;first | exact rfl | exact ⟨rfl,hW⟩))
    iterate 2 (refine detSeq_op rfl ?_ (fun W hW => ?_) ?_;rotate_left;(focus simp only [OpV];go_simp;first | exact rfl | exact ⟨rfl,hW⟩))
    refine detSeq_nil (fun W3 hW3 => ?_)
    have hb2:=Lib.hid (hb.out.trans (hW3.mono hb.out.size))
    clear K0 K1 J0 J1 hW3 hb hz
    go_wp2_with fail
    go_ret2
    exact ⟨by rw [HV.out];simp,hb2.out⟩
   ·have d1:decide ((i:Int) < (ds.length:Int)) = false:=by simpa using hml
    have hf:=Lib.hid (hasAt_ge (c:=c) (show ds.length ≤ i by omega))
    go_upto_region 8 with (fail)
    (refine wp_region_det 15 49 (fun W => Below (wr).heap.size (wr) W) (by kernel_rfl) (by kernel_rfl) (by rfl) (Below.refl _ _).drew ?_;simp only [List.take_succ_cons,List.take_zero,List.drop_succ_cons,List.drop_zero])
    iterate 3 (refine detSeq_op rfl ?_ (fun W hW => ?_) ?_;rotate_left;(focus simp only [OpV];go_simp;first | exact rfl | exact ⟨rfl,hW⟩))
    (refine detSeq_op rfl (.bool false) (fun W hW => ?_) ?_;focus (simp only [OpV];go_simp;first | exact rfl | exact ⟨by rw [d1],hW⟩ | skip))
    iterate 1 (refine detSeq_op rfl ?_ (fun W hW => ?_) ?_;rotate_left;(focus simp only [OpV];go_simp;first | exact rfl | exact ⟨rfl,hW⟩))
    iterate 8 (refine detSeq_no (by kernel_rfl) ?_)
    iterate 2 (refine detSeq_op rfl ?_ (fun W hW => ?_) ?_;rotate_left;(focus simp only [OpV];go_simp;first | exact rfl | exact ⟨rfl,hW⟩))
    refine detSeq_nil (fun W3 hW3 => ?_)
    have hb2:=Lib.hid (hb.out.trans (hW3.mono hb.out.size))
    clear hW3 hb hz
    go_wp2_with fail
    go_ret2
    exact ⟨by rw [hf.out];simp,hb2.out⟩
end
open Go.RowKit
structure GrpIn (H:Frz) (gp bm n:Nat) (m:Lit → Option Value) (r:RulD) (A:Option Addr) (cap:Nat) (ts:List TchD):Prop where
 obj:H gp = some (grpObj r A ts.length cap bm)
 map:∀ W,H.In W → Mp Tryz.prog 36 W bm n m
 blk:∃ o,H bm = some o
 some_:∀ x,FitId x → posL ts x ≠ [] → ∃ B c,m (klId x) = some (.slice B (posL ts x).length c) ∧ Rw H B 1 fI (posL ts x) ∧ (posL ts x).length ≤ c
 none_:∀ x,FitId x → posL ts x = [] → m (klId x) = none
 keys:∀ l,(m l).isSome = true → ∃ x,FitId x ∧ l = klId x ∧ posL ts x ≠ []
 rul:RulIn H r
 tch:TchIn H A ts
theorem Orow.memR {D:Type} {w:World} {B T k:Nat} {f:D → Nat → Value} {v:Value} {ds:List D} (h:Orow w B T k f v ds):∃ A c,v = .slice A ds.length c ∧ ds.length ≤ c ∧ Rw (fun b => w.heap[b]?) A k f ds:=by
 rcases h.2 with ⟨rfl,hn⟩ | ⟨g,cap,cur,rfl,hB,hh,hle,hm,hs,ht⟩
 ·have:ds = []:=List.eq_nil_of_length_eq_zero hn
  subst this
  exact ⟨none,0,rfl,Nat.le_refl _,Rw.nil⟩
 ·refine ⟨some ⟨g,0,none⟩,cap,rfl,hle,fun i hi => ⟨g,0,rfl,fun j hj => ?_⟩⟩
  have hx:=cellsOf_get k f ds i j hi hj
  rw [← ht] at hx
  have hlt:i * k + j < ds.length * k:=by
   have:(i + 1) * k ≤ ds.length * k:=Nat.mul_le_mul_right _ hi
   rw [Nat.succ_mul] at this;omega
  rw [List.getElem?_take_of_lt hlt] at hx
  unfold Frz.cell?
  simp only [hh]
  simpa using hx
def wholeH (w:World):Frz:=fun b => w.heap[b]?
theorem wholeH_in (w:World):(wholeH w).In w:=fun b o h => h
theorem GrpIn.of {H:Frz} {r:RulD} {A:Option Addr} {cap:Nat} {ts:List TchD} {w W:World} {B bm N n gp:Nat} {m:Lit → Option Value} (hS:HavS w B bm N (posL ts) n m W) (hG:W.heap[gp]? = some (grpObj r A ts.length cap bm)) (hH:H.In w) (hr:RulIn H r) (ht:TchIn H A ts) :
  H.Le (wholeH W) ∧ GrpIn (wholeH W) gp bm n m r A cap ts:=by
 have hle:H.Le (wholeH W):=fun b o h => (hH.below hS.bel) b o h
 obtain ⟨ob,ho,hmp⟩:=hS.map.obj
 refine ⟨hle,hG,fun W' hW' => hmp W' (hW' bm ob ho),⟨ob,ho⟩,fun x hx hp => ?_,fun x hx hp => ?_,hS.keys,hr.le hle,ht.le hle⟩
 ·have h1:=hS.vals x hx hp
  obtain ⟨A',c,e,hc,hR⟩:=(hS.row hx).memR
  cases hm:m (klId x) with
  | none => rw [hm] at h1;cases h1
  | some v =>
   rw [hm] at e
   exact ⟨A',c,by rw [← e];rfl,hR,hc⟩
 ·cases hm:m (klId x) with
  | none => rfl
  | some v =>
   obtain ⟨y,hy,e,hp'⟩:=hS.keys (klId x) (by rw [hm];rfl)
   rw [klId_inj hx hy e] at hp
   exact absurd hp hp'
theorem idCmp_zero {a b:IdD}:idCmp a b = 0 ↔ a = b:=by
 rw [idCmp_eq,orI_zero,cmpI_zero]
 constructor
 ·rintro ⟨h1,h2⟩
  have:=cmpS_zero h2
  cases a;cases b;simp_all
 ·rintro rfl
  exact ⟨rfl,cmpS_self _⟩
def RisingI (ids:List IdD):Prop:=ids.Pairwise fun a b => idCmp a b < 0
def SortI (ids:List IdD):Prop:=ids.Pairwise fun a b => idCmp a b ≤ 0
theorem RisingI.sort {ids:List IdD} (h:RisingI ids):SortI ids:=List.Pairwise.imp (fun h => by omega) h
theorem idCmp_lt_trans {a b c:IdD} (h1:idCmp a b < 0) (h2:idCmp b c < 0):idCmp a c < 0:=by
 have h3:=idCmp_ok.trans a b c (by omega) (by omega)
 have h4:idCmp a c ≠ 0:=fun e => by
  obtain rfl:=idCmp_zero.1 e
  have:=idCmp_ok.swap a b
  omega
 omega
theorem idCmp_le_lt {a b c:IdD} (h1:idCmp a b ≤ 0) (h2:idCmp b c < 0):idCmp a c < 0:=by
 by_cases e:idCmp a b = 0
 ·obtain rfl:=idCmp_zero.1 e
  exact h2
 ·exact idCmp_lt_trans (by omega) h2
def aheadI (ids:List IdD) (x:IdD):Nat:=(ids.takeWhile fun y => decide (idCmp y x < 0)).length
theorem ahead_cut {ids:List IdD} (h:SortI ids) (x:IdD):aheadI ids x ≤ ids.length ∧ (∀ i (hi:i < ids.length),i < aheadI ids x → idCmp ids[i] x < 0) ∧ (∀ i (hi:i < ids.length),aheadI ids x ≤ i → 0 ≤ idCmp ids[i] x) ∧ hasAt (fun y => idCmp y x) ids (aheadI ids x) = hasId ids x:=by
 unfold aheadI
 induction ids with
 | nil => refine ⟨by simp,fun i hi => absurd hi (by simp),fun i hi => absurd hi (by simp),by simp [hasAt,hasId]⟩
 | cons y ids ih =>
  have h':=List.pairwise_cons.1 h
  obtain ⟨i1,i2,i3,i4⟩:=ih h'.2
  by_cases c:idCmp y x < 0
  ·have e:((y :: ids).takeWhile fun y => decide (idCmp y x < 0)) = y :: ids.takeWhile fun y => decide (idCmp y x < 0):=by rw [List.takeWhile_cons_of_pos (by simpa using c)]
   rw [e]
   refine ⟨by simp;exact i1,fun i hi hl => ?_,fun i hi hl => ?_,?_⟩
   ·cases i with
    | zero => exact c
    | succ i => exact i2 i (by simpa using hi) (by simpa using hl)
   ·cases i with
    | zero => simp at hl
    | succ i => exact i3 i (by simpa using hi) (by simpa using hl)
   ·have hne:eqId x y = false:=by
     cases e2:eqId x y with
     | false => rfl
     | true =>
      rw [eqId_iff.1 e2] at c
      have:=idCmp_zero.2 (rfl:y = y)
      omega
    have:hasId (y :: ids) x = hasId ids x:=by simp [hasId,hne]
    rw [this,← i4]
    simp [hasAt]
  ·have e:((y :: ids).takeWhile fun y => decide (idCmp y x < 0)) = []:=by rw [List.takeWhile_cons_of_neg (by simpa using c)]
   rw [e]
   refine ⟨by simp,fun i hi hl => absurd hl (by simp),fun i hi hl => ?_,?_⟩
   ·cases i with
    | zero => show 0 ≤ idCmp y x;omega
    | succ i =>
     have h1:=h'.1 _ (List.getElem_mem (show i < ids.length by simpa using hi))
     show 0 ≤ idCmp (ids[i]'(by simpa using hi)) x
     apply Classical.byContradiction
     intro hn
     exact c (idCmp_le_lt h1 (by omega))
   ·have hs:hasAt (fun y => idCmp y x) (y :: ids) ([]:List IdD).length = (idCmp y x == 0):=rfl
    rw [hs]
    by_cases c2:idCmp y x = 0
    ·have:=idCmp_zero.1 c2
     subst this
     simp [hasId,eqId_self,c2]
    ·have:hasId (y :: ids) x = false:=by
      cases e2:hasId (y :: ids) x with
      | false => rfl
      | true =>
       rcases List.mem_cons.1 (hasId_iff.1 e2) with e3 | e3
       ·exact absurd (idCmp_zero.2 e3.symm) c2
       ·have h1:=h'.1 x e3
        omega
     rw [this]
     simpa using c2
open Go.RowKit
set_option maxHeartbeats 4000000 in
set_option maxRecDepth 100000 in
theorem joins_any {H:Frz} {gp bm n:Nat} {m:Lit → Option Value} {r:RulD} {A:Option Addr} {cap:Nat} {ts:List TchD} (hG:GrpIn H gp bm n m r A cap ts) (hw:SortI r.weaks) (hwl:r.weaks.length ≤ 1000000) (hkl:r.kinds.length ≤ 1000000) (x:IdD) (hx:FitId x) (w:World) (hH:H.In w) :
  Calls Tryz.prog 118 #[.pointer (some ⟨gp,0,none⟩),.agg #[.int .i64 x.kind,.string x.text]] w fun e w' => e = .returned (.bool (joinsD r.kinds r.most r.weaks ts x)) ∧ Below w.heap.size w w':=by
 have HV:Hid (joinsD r.kinds r.most r.weaks ts x = (!hasId r.weaks x && r.kinds.contains x.kind && decide (((posL ts x).length:Int) ≤ r.most))):=by
  show _ = _
  unfold joinsD
  rw [posL_many]
 have HB0:=Lib.hid (new1 (w:=w) (.cells #[.int .i64 x.kind,.string x.text] 36))
 have HIN:=Lib.hid (fun W (hW:Below (w.alloc (.cells #[.int .i64 x.kind,.string x.text] 36)).heap.size (w.alloc (.cells #[.int .i64 x.kind,.string x.text] 36)) W) => (hH.below HB0.out).below hW)
 have hk:=(HIN.out _ (Below.refl _ _)) gp _ hG.obj
 have HBS:=Lib.hid (fun W (hW:H.In W) => bsf_Id H fId 66 (fId x) (fun y => idCmp y x) r.weaks (fun W d _ _ => (compareIds_g d x W).mono (fun e W' h => ⟨h.1,h.2.below⟩)) (fun a b W => rfl) r.wa r.wc W hW hG.rul.w hwl (aheadI r.weaks x) (ahead_cut hw x).1 (ahead_cut hw x).2.1 (ahead_cut hw x).2.2.1)
 have HHA:=Lib.hid (ahead_cut hw x).2.2.2
 have HCK:=Lib.hid (fun W (hW:H.In W) => contains_I H r.ka r.kc r.kinds x.kind W hW hG.rul.k hkl)
 have HLK:Hid (∃ v,(∀ W,H.In W → (Instr.lookup 122 (.map (some bm)) (.agg #[.int .i64 x.kind,.string x.text]) false).run Tryz.prog W = .ok v W) ∧ ∃ B c,v = .slice B (posL ts x).length c):=by
  by_cases hp:posL ts x = []
  ·refine ⟨.slice none 0 0,fun W hW => ?_,none,0,by rw [hp];rfl⟩
   have:=(hG.map W hW).look idKeyed Tryz.underlying122 (z:=.slice none 0 0) (by kernel_rfl) (keyId hx) false
   rw [hG.none_ x hx hp] at this
   exact this
  ·obtain ⟨B,c,e,_⟩:=hG.some_ x hx hp
   refine ⟨_,fun W hW => ?_,B,c,rfl⟩
   have:=(hG.map W hW).look idKeyed Tryz.underlying122 (z:=.slice none 0 0) (by kernel_rfl) (keyId hx) false
   rw [e] at this
   exact this
 have K0:=lift_cell (cell_h hk 0 (v:=.slice r.ka r.kinds.length r.kc) rfl)
 have K1:=lift_cell (cell_h hk 1 (v:=.int .i64 r.most) rfl)
 have K2:=lift_cell (cell_h hk 2 (v:=.slice r.wa r.weaks.length r.wc) rfl)
 have K5:=lift_cell (cell_h hk 5 (v:=.map (some bm)) rfl)
 have z0:(w.alloc (.cells #[.int .i64 x.kind,.string x.text] 36)).cell? ⟨w.heap.size,0,none⟩ = some (.int .i64 x.kind):=newc 0 rfl
 have z1:(w.alloc (.cells #[.int .i64 x.kind,.string x.text] 36)).cell? ⟨w.heap.size,1,none⟩ = some (.string x.text):=newc 1 rfl
 have J0:=lift_cell z0
 have J1:=lift_cell z1
 clear z0 z1 hk hH hw
 go_enter Tryz.func118,Tryz.ntmps118
 go_upto_region 1 with (fail)
 generalize w.alloc (.cells #[.int .i64 x.kind,.string x.text] 36) = W1 at *
 (refine wp_region_det 11 44 (fun W => Below (W1).heap.size (W1) W) (by kernel_rfl) (by kernel_rfl) (by rfl) (Below.refl _ _).drew ?_;simp only [List.take_succ_cons,List.take_zero,List.drop_succ_cons,List.drop_zero])
 iterate 6 (refine detSeq_op rfl ?_ (fun W hW => ?_) ?_;rotate_left;(focus simp only [OpV];go_simp;first | exact rfl | exact ⟨rfl,hW⟩))
 (refine detSeq_op rfl ?_ (fun W hW => ?_) ?_;rotate_left;focus (simp only [OpV];go_simp;refine (HBS.out W (HIN.out W hW)).mono ?_;rintro e w' ⟨rfl,hb⟩;refine ⟨_,rfl,?_,det_back hW hb⟩;exact rfl))
 iterate 4 (refine detSeq_op rfl ?_ (fun W hW => ?_) ?_;rotate_left;(focus simp only [OpV];go_simp;first | exact rfl | exact ⟨rfl,hW⟩))
 refine detSeq_nil (fun W3 hW3 => ?_)
 have HW3:=Lib.hid hW3
 clear hW3
 go_wp2_with fail
 rw [HHA.out]
 clear HHA HBS
 generalize hasId r.weaks x = q1 at HV ⊢
 have HIN3:=Lib.hid (fun W (hW:Below W3.heap.size W3 W) => HIN.out W (HW3.out.trans (hW.mono HW3.out.size)))
 obtain ⟨lv,hlk,lB,lc,rfl⟩:=HLK.out
 have L0:=lift_cell (K0 W3 HW3.out)
 have L1:=lift_cell (K1 W3 HW3.out)
 have L5:=lift_cell (K5 W3 HW3.out)
 have M0:=lift_cell (J0 W3 HW3.out)
 have M1:=lift_cell (J1 W3 HW3.out)
 have HLL:∀ W:World,Below W3.heap.size W3 W → (Instr.lookup 122 (.map (some bm)) (.agg #[.int .i64 x.kind,.string x.text]) false).run Tryz.prog W = .ok (.slice lB (posL ts x).length lc) W:=fun W hW => hlk W (HIN3.out W hW)
 have HBB:=Lib.hid (HB0.out.trans (HW3.out.mono HB0.out.size))
 clear K0 K1 K2 K5 J0 J1 HLK hlk HB0 HW3 HIN
 cases q1 with
 | true =>
  (refine wp_region_det 27 44 (fun W => Below (W3).heap.size (W3) W) (by kernel_rfl) (by kernel_rfl) (by rfl) (Below.refl _ _).drew ?_;simp only [List.take_succ_cons,List.take_zero,List.drop_succ_cons,List.drop_zero])
  iterate 3 (refine detSeq_op rfl ?_ (fun W hW => ?_) ?_;rotate_left;(focus simp only [OpV];go_simp;first | exact rfl | exact ⟨rfl,hW⟩))
  iterate 8 (refine detSeq_no (by kernel_rfl) ?_)
  iterate 2 (refine detSeq_op rfl ?_ (fun W hW => ?_) ?_;rotate_left;(focus simp only [OpV];go_simp;first | exact rfl | exact ⟨rfl,hW⟩))
  iterate 13 (refine detSeq_no (by kernel_rfl) ?_)
  iterate 1 (refine detSeq_op rfl ?_ (fun W hW => ?_) ?_;rotate_left;(focus simp only [OpV];go_simp;first | exact rfl | exact ⟨rfl,hW⟩))
  refine detSeq_nil (fun W4 hW4 => ?_)
  have HF:=Lib.hid (HBB.out.trans (hW4.mono HBB.out.size))
  clear hW4 HLL L0 L1 L5 M0 M1
  go_wp2_with fail
  go_ret
  exact ⟨ret_bool' (by rw [HV.out];rfl),HF.out⟩
 | false =>
  generalize hq2:r.kinds.contains x.kind = q2 at HV HCK
  have HQ2:=Lib.hid hq2
  clear hq2
  cases q2 with
  | false =>
   (refine wp_region_det 27 44 (fun W => Below (W3).heap.size (W3) W) (by kernel_rfl) (by kernel_rfl) (by rfl) (Below.refl _ _).drew ?_;simp only [List.take_succ_cons,List.take_zero,List.drop_succ_cons,List.drop_zero])
   iterate 3 (refine detSeq_op rfl ?_ (fun W hW => ?_) ?_;rotate_left;(focus simp only [OpV];go_simp;first | exact rfl | exact ⟨rfl,hW⟩))
   iterate 7 (refine detSeq_yes (by kernel_rfl) ?_ (fun W hW => ?_) ?_;rotate_left;(focus simp only [OpV];go_simp;first | exact rfl | exact ⟨rfl,hW⟩))
   (refine detSeq_yes (by kernel_rfl) ?_ (fun W hW => ?_) ?_;rotate_left;focus (simp only [OpV];go_simp;refine (HCK.out W (HIN3.out W hW)).mono ?_;rintro e w' ⟨rfl,hb⟩;refine ⟨_,rfl,?_,det_back hW hb⟩;exact rfl))
   iterate 2 (refine detSeq_op rfl ?_ (fun W hW => ?_) ?_;rotate_left;(focus simp only [OpV];go_simp;first | exact rfl | exact ⟨rfl,hW⟩))
   iterate 13 (refine detSeq_no (by kernel_rfl) ?_)
   iterate 1 (refine detSeq_op rfl ?_ (fun W hW => ?_) ?_;rotate_left;(focus simp only [OpV];go_simp;first | exact rfl | exact ⟨rfl,hW⟩))
   refine detSeq_nil (fun W4 hW4 => ?_)
   have HF:=Lib.hid (HBB.out.trans (hW4.mono HBB.out.size))
   clear hW4 HLL L0 L1 L5 M0 M1
   go_wp2_with fail
   go_ret
   exact ⟨ret_bool' (by rw [HV.out];rfl),HF.out⟩
  | true =>
   (refine wp_region_det 27 44 (fun W => Below (W3).heap.size (W3) W) (by kernel_rfl) (by kernel_rfl) (by rfl) (Below.refl _ _).drew ?_;simp only [List.take_succ_cons,List.take_zero,List.drop_succ_cons,List.drop_zero])
   iterate 3 (refine detSeq_op rfl ?_ (fun W hW => ?_) ?_;rotate_left;(focus simp only [OpV];go_simp;first | exact rfl | exact ⟨rfl,hW⟩))
   iterate 7 (refine detSeq_yes (by kernel_rfl) ?_ (fun W hW => ?_) ?_;rotate_left;(focus simp only [OpV];go_simp;first | exact rfl | exact ⟨rfl,hW⟩))
   (refine detSeq_yes (by kernel_rfl) ?_ (fun W hW => ?_) ?_;rotate_left;focus (simp only [OpV];go_simp;refine (HCK.out W (HIN3.out W hW)).mono ?_;rintro e w' ⟨rfl,hb⟩;refine ⟨_,rfl,?_,det_back hW hb⟩;exact rfl))
   iterate 2 (refine detSeq_op rfl ?_ (fun W hW => ?_) ?_;rotate_left;(focus simp only [OpV];go_simp;first | exact rfl | exact ⟨rfl,hW⟩))
   iterate 13 (refine detSeq_yes (by kernel_rfl) ?_ (fun W hW => ?_) ?_;rotate_left;(focus simp only [OpV];go_simp;first | exact rfl | exact ⟨rfl,hW⟩))
   iterate 1 (refine detSeq_op rfl ?_ (fun W hW => ?_) ?_;rotate_left;(focus simp only [OpV];go_simp;first | exact rfl | exact ⟨rfl,hW⟩))
   refine detSeq_nil (fun W4 hW4 => ?_)
   have HF:=Lib.hid (HBB.out.trans (hW4.mono HBB.out.size))
   clear hW4 HLL L0 L1 L5 M0 M1
   go_wp2_with fail
   go_ret
   exact ⟨ret_bool' (by rw [HV.out];rfl),HF.out⟩
open Go.RowKit
def JD (r:RulD) (ts:List TchD) (x:IdD):Bool:=joinsD r.kinds r.most r.weaks ts x
def Gone (ts:List TchD) (left:Lit → Bool) (x:IdD):Prop:=FitId x ∧ posL ts x ≠ [] ∧ left (klId x) = false
theorem klKey {x:IdD} (h:FitId x):WideAt.IsKeyLit (klId x):=idKeyed.key (keyId h)
theorem gone_step {ts:List TchD} {left:Lit → Bool} {x:IdD} (hx:FitId x) (hp:posL ts x ≠ []) (y:IdD):Gone ts (fun z => left z && !z.sameKey (klId x)) y ↔ Gone ts left y ∨ y = x:=by
 unfold Gone
 constructor
 ·rintro ⟨h1,h2,h3⟩
  simp only [Bool.and_eq_false_iff,Bool.not_eq_false'] at h3
  rcases h3 with h3 | h3
  ·exact Or.inl ⟨h1,h2,h3⟩
  ·exact Or.inr (klId_inj h1 hx (WideAt.sameKey_eq h3))
 ·rintro (⟨h1,h2,h3⟩ | rfl)
  ·exact ⟨h1,h2,by show (left (klId y) && !(klId y).sameKey (klId x)) = false;rw [h3];rfl⟩
  ·exact ⟨hx,hp,by show (left (klId y) && !(klId y).sameKey (klId y)) = false;rw [WideAt.sameKey_self (klKey hx)];simp⟩
theorem doneE_skip {J:IdD → Bool} {ts:List TchD} {left:Lit → Bool} {x:IdD} (hx:FitId x) (hp:posL ts x ≠ []) (hJ:J x = false) (i j:Nat):DoneE J ts (Gone ts left) i j ↔ DoneE J ts (Gone ts fun z => left z && !z.sameKey (klId x)) i j:=by
 unfold DoneE
 constructor
 ·rintro ⟨y,h1,h2,h3⟩
  exact ⟨y,(gone_step hx hp y).2 (Or.inl h1),h2,h3⟩
 ·rintro ⟨y,h1,h2,h3⟩
  rcases (gone_step hx hp y).1 h1 with h | rfl
  ·exact ⟨y,h,h2,h3⟩
  ·rw [hJ] at h2;cases h2
theorem doneE_take {J:IdD → Bool} {ts:List TchD} {left:Lit → Bool} {x:IdD} (hx:FitId x) (hp:posL ts x ≠ []) (hJ:J x = true) (i j:Nat):(DoneE J ts (Gone ts left) i j ∨ Star (posL ts x) (posL ts x).length i j) ↔ DoneE J ts (Gone ts fun z => left z && !z.sameKey (klId x)) i j:=by
 unfold DoneE
 constructor
 ·rintro (⟨y,h1,h2,h3⟩ | h)
  ·exact ⟨y,(gone_step hx hp y).2 (Or.inl h1),h2,h3⟩
  ·exact ⟨x,(gone_step hx hp x).2 (Or.inr rfl),hJ,h⟩
 ·rintro ⟨y,h1,h2,h3⟩
  rcases (gone_step hx hp y).1 h1 with h | rfl
  ·exact Or.inl ⟨y,h,h2,h3⟩
  ·exact Or.inr h3
structure MapL (w:World) (pr g n bm rb nm:Nat) (m:Lit → Option Value) (E:Nat → Nat → Prop) (left:Lit → Bool) (cnt:Nat) (rr:List Nat) (W:World):Prop where
 rg:Rg Tryz.prog 36 W bm rb nm m left cnt
 rt:RtS pr g n rr W
 dn:Dn rr
 uf:Uf E rr
 bel:Below w.heap.size w W
 lft:∀ l,WideAt.IsKeyLit l → left l = true → (m l).isSome = true
section
variable {w W W':World} {pr g n bm rb nm:Nat} {m:Lit → Option Value} {E E':Nat → Nat → Prop} {left:Lit → Bool} {cnt:Nat} {rr:List Nat}
theorem MapL.call (h:MapL w pr g n bm rb nm m E left cnt rr W) (hb:Below W.heap.size W W'):MapL w pr g n bm rb nm m E left cnt rr W' :=
 ⟨h.rg.below hb,h.rt.below hb,h.dn,h.uf,h.bel.trans (hb.mono h.bel.size),h.lft⟩
theorem MapL.edges (h:MapL w pr g n bm rb nm m E left cnt rr W) (he:∀ i j,E i j ↔ E' i j):MapL w pr g n bm rb nm m E' left cnt rr W :=
 ⟨h.rg,h.rt,h.dn,h.uf.iff_ he,h.bel,h.lft⟩
theorem MapL.find (h:MapL w pr g n bm rb nm m E left cnt rr W) (hg:w.heap.size ≤ g) (hbm:bm ≠ g) (hrb:rb ≠ g) (hq:FindQ pr g n rr W W'):∃ r',(∀ j,repN r' j = repN rr j) ∧ MapL w pr g n bm rb nm m E left cnt r' W':=by
 obtain ⟨r',q1,q2,q3,q4,_⟩:=hq
 refine ⟨r',q3,h.rg.kept q4 (fun c => hbm (by injection c)) (fun c => hrb (by injection c)),q1,q2,⟨q2,fun i j => by rw [q3,q3];exact h.uf.iff i j⟩,?_,h.lft⟩
 exact ⟨q4.os.trans h.bel.os,q4.tape.trans h.bel.tape,q4.output.trans h.bel.output,Nat.le_trans h.bel.size q4.size,fun k hk => (q4.block k (Nat.lt_of_lt_of_le hk h.bel.size) (fun c => by injection c with c;omega)).trans (h.bel.block k hk)⟩
theorem MapL.join (h:MapL w pr g n bm rb nm m E left cnt rr W) (hg:w.heap.size ≤ g) (hbm:bm ≠ g) (hrb:rb ≠ g) {x y a b:Nat} (ha:a = repN rr x) (hb:b = repN rr y) (hx:x < n) (hy:y < n) :
  MapL w pr g n bm rb nm m (fun i j => E i j ∨ (i = x ∧ j = y)) left cnt (rr.set (max a b) (min a b)) (W.setCell ⟨g,max a b,none⟩ (.int .i64 ((min a b:Nat):Int))):=by
 have h1:=repN_le rr x
 have h2:=repN_le rr y
 have hm:max a b < n:=by omega
 have hl:max a b < rr.length:=by rw [h.rt.len];exact hm
 have hu:=h.uf.join hl ha hb
 have hgr:=grown_setC (World.grownBy.refl W (some g)) (max a b) (.int .i64 ((min a b:Nat):Int))
 exact ⟨h.rg.kept hgr (fun c => hbm (by injection c)) (fun c => hrb (by injection c)),h.rt.set _ hm _,hu.dn,hu,h.bel.setCell (p:=⟨g,max a b,none⟩) hg _,h.lft⟩
end
def FinP (w:World) (pr g n:Nat) (rr:List Nat) (i:Nat) (W:World):Prop :=
 ∃ r',RtS pr g n r' W ∧ Dn r' ∧ (∀ j,repN r' j = repN rr j) ∧ (∀ q,q < i → r'.getD q q = repN rr q) ∧ Below w.heap.size w W ∧ w.heap.size ≤ g
theorem FinP.drew {w:World} {pr g n:Nat} {rr:List Nat} {i:Nat} {W:World} (h:FinP w pr g n rr i W):FinP w pr g n rr i W.drew:=by
 obtain ⟨r',a,b,c,d,e,f⟩:=h
 exact ⟨r',a.drew,b,c,d,e.drew,f⟩
theorem FinP.ptr {w:World} {pr g n:Nat} {rr:List Nat} {i:Nat} {W:World} (h:FinP w pr g n rr i W):W.cell? ⟨pr,0,none⟩ = some (.slice (some ⟨g,0,none⟩) n n):=by
 obtain ⟨r',a,_⟩:=h
 exact cell_h a.ptr 0 rfl
theorem FinP.find {w:World} {pr g n:Nat} {rr:List Nat} {i:Nat} {W:World} (h:FinP w pr g n rr i W) (hi:i < n) (hn:n ≤ 1000000) :
  Calls Tryz.prog 117 #[.int .i64 (i:Int),.pointer (some ⟨pr,0,none⟩)] W fun e w' => e = .returned (.int .i64 ((repN rr i:Nat):Int)) ∧ FinP w pr g n rr i w':=by
 obtain ⟨r',a,b,c,d,e,f⟩:=h
 refine (find_any pr g n r' W a b i hi hn).mono ?_
 rintro e' w' ⟨rfl,r2,q1,q2,q3,q4,q5⟩
 refine ⟨by rw [c],r2,q1,q2,fun j => by rw [q3,c],fun q hq => ?_,?_,f⟩
 ·rw [← c]
  exact q5 q (by rw [d q hq,c])
 ·exact ⟨q4.os.trans e.os,q4.tape.trans e.tape,q4.output.trans e.output,Nat.le_trans e.size q4.size,fun k hk => (q4.block k (Nat.lt_of_lt_of_le hk e.size) (fun c => by injection c with c;omega)).trans (e.block k hk)⟩
theorem FinP.set {w:World} {pr g n:Nat} {rr:List Nat} {i:Nat} {W:World} (h:FinP w pr g n rr i W) (hi:i < n):FinP w pr g n rr (i + 1) (W.setCell ⟨g,i,none⟩ (.int .i64 ((repN rr i:Nat):Int))) ∧ (∃ x,W.cell? ⟨g,i,none⟩ = some (.int .i64 x)) ∧ W.frozen? ⟨g,i,none⟩ = false:=by
 obtain ⟨r',a,b,c,d,e,f⟩:=h
 have hl:i < r'.length:=by rw [a.len];exact hi
 refine ⟨?_,⟨_,a.cell i hi⟩,a.blk.frozen i⟩
 rw [← c i]
 refine ⟨_,a.set i hi (repN r' i),b.comp hl,fun j => by rw [repN_comp b hl,c],fun q hq => ?_,e.setCell (p:=⟨g,i,none⟩) f _,f⟩
 rw [getD_set hl]
 split
 ·next e => subst e;exact c q
 ·exact d q (by omega)
def PartsQ (w:World) (J:IdD → Bool) (ts:List TchD) (e:Ending) (w':World):Prop :=
 ∃ (rr:List Nat) (g:Nat),e = .returned (.slice (some ⟨g,0,none⟩) ts.length ts.length) ∧ Uf (Share J ts) rr ∧ KBlk w' g 3 1 fI (tab ts.length fun k => ((repN rr k:Nat):Int)) [] ∧ Below w.heap.size w w' ∧ w.heap.size ≤ g
set_option maxHeartbeats 8000000 in
set_option maxRecDepth 100000 in
theorem parts_any {H:Frz} {gp bm nm:Nat} {m:Lit → Option Value} {r:RulD} {A:Option Addr} {cap:Nat} {ts:List TchD} (hG:GrpIn H gp bm nm m r A cap ts) (hw:RisingI r.weaks) (hwl:r.weaks.length ≤ 1000000) (hkl:r.kinds.length ≤ 1000000) (hl:ts.length ≤ 100000) (hfit:∀ t ∈ ts,∀ x ∈ t.ids,FitId x) (w:World) (hH:H.In w) :
  Calls Tryz.prog 63 #[.pointer (some ⟨gp,0,none⟩),.pointer none] w (PartsQ w (JD r ts) ts):=by
 obtain ⟨i0,hi0,hz0,hz1,hz2⟩:=info_parts (show (Tryz.prog.info? 3).map (fun i => (i.zero,i.size,i.bytes)) = some (some (.int .i64 0),1,8) by kernel_rfl)
 obtain ⟨n,hn⟩:∃ n,n = ts.length:=⟨_,rfl⟩
 have hk:=hH gp _ hG.obj
 have p4:w.cell? ⟨gp,4,none⟩ = some (.slice A n cap):=by rw [hn];exact cell_h hk 4 rfl
 have HJA:=Lib.hid (fun x hx W hW => joins_any hG hw.sort hwl hkl x hx W hW)
 have HIN:=Lib.hid (fun W (hW:Below w.heap.size w W) => hH.below hW)
 have HG:=Lib.hid hG
 have HMK:Hid (∀ w2:World,w2.ownsRow w.heap.size 3 1 (.slice (some ⟨w.heap.size,0,none⟩) n n) n (madeCells (Value.int .i64 0).cells (n * 1)).toList → w.grownBy w2 none → TabS H w w.heap.size n (fun k => if k < 0 then (k:Int) else 0) w2):=by
  intro w2 h1 h2
  have hb2:Below w.heap.size w w2:=⟨h2.os,h2.tape,h2.output,h2.size,fun k hk => h2.block k hk (by simp)⟩
  exact ⟨hH.below hb2,hb2,by simpa using made_ints h1,Nat.le_refl _,hH.none_ (Nat.le_refl _)⟩
 have HGB:Hid (bm < w.heap.size):=by
  obtain ⟨o,ho⟩:=HG.out.blk
  exact lt_of_heap (hH bm o ho)
 have hnl:n ≤ 100000:=by omega
 have HFIT:=Lib.hid hfit
 clear hfit
 have HN:=Lib.hid hn
 clear hH hk hG hw hn hl
 go_enter Tryz.func63,Tryz.ntmps63
 go_upto_region 2 with (at_make;refine wpList_make_full _ rfl _ _ 22 rfl w.heap.size 3 i0 (.int .i64 0) 1 Tryz.underlying22 hi0 hz0 hz1 _ _ _ _ n rfl rfl rfl rfl (by rw [hz2];omega) (by simp only [maxLen];omega) (Nat.le_refl _) ?_;intro w2 hown2 hgrow2;have J0:=Lib.hid (HMK.out _ hown2 hgrow2);clear hown2 hgrow2 HMK)
 have hgs:w.heap.size < w2.heap.size:=lt_of_heap J0.out.blk
 have PT0:Hid ((w2.alloc (.cells #[.slice (some ⟨w.heap.size,0,none⟩) n n] 22)).heap[w2.heap.size]? = some (.cells #[.slice (some ⟨w.heap.size,0,none⟩) n n] 22 (0,0))):=heap_alloc_new _ _
 have J1:=Lib.hid (J0.out.call (new1 (.cells #[.slice (some ⟨w.heap.size,0,none⟩) n n] 22)))
 clear J0 p4
 obtain ⟨g,hg⟩:∃ g,g = w.heap.size:=⟨_,rfl⟩
 rw [← hg] at PT0 J1 ⊢
 generalize hpr:w2.heap.size = pr at *
 generalize w2.alloc (.cells #[.slice (some ⟨g,0,none⟩) n n] 22) = W2 at *
 have HNUM:Hid (g = w.heap.size ∧ g < pr):=⟨hg,by omega⟩
 clear hg hpr hgs
 have q0:W2.cell? ⟨pr,0,none⟩ = some (.slice (some ⟨g,0,none⟩) n n):=cell_h PT0.out 0 rfl
 go_wp2_with fail
 clear q0
 go_loopw [23] (fun t wr => ∃ k:Nat,k ≤ n ∧ t = .int .i64 k ∧ Hid (TabS H w g n (fun q => if q < k then (q:Int) else 0) wr) ∧ Hid (wr.heap[pr]? = some (.cells #[.slice (some ⟨g,0,none⟩) n n] 22 (0,0)))) (fun t _ => n - (intOf t).toNat)
 case atStart => exact ⟨0,by omega,rfl,J1,PT0⟩
 case round =>
  obtain ⟨k,hk,rfl,J,PT⟩:=hrel
  clear J1 PT0
  by_cases hlt:k < n
  ·have c:=J.out.cell k hlt
   have f:=J.out.froz k
   have q0:wr.cell? ⟨pr,0,none⟩ = some (.slice (some ⟨g,0,none⟩) n n):=cell_h PT.out 0 rfl
   have J2:Hid (TabS H w g n (fun q => if q < k + 1 then (q:Int) else 0) (wr.setCell ⟨g,k,none⟩ (.int .i64 (k:Int)))):=by
    refine (J.out.set k hlt (k:Int)).congr fun q hq => ?_
    by_cases e:q = k
    ·subst e;simp
    ·rw [if_neg e]
     by_cases e2:q < k
     ·rw [if_pos e2,if_pos (by omega)]
     ·rw [if_neg e2,if_neg (by omega)]
   have PT2:Hid ((wr.setCell ⟨g,k,none⟩ (.int .i64 (k:Int))).heap[pr]? = some (.cells #[.slice (some ⟨g,0,none⟩) n n] 22 (0,0))):=(Below.heap_setCell wr ⟨g,k,none⟩ _ pr (by have:=HNUM.out;show pr ≠ g;omega)).trans PT.out
   simp only [Nat.lt_irrefl,if_false] at c
   clear J PT
   go_wp2_with fail
   go_roundw
   case rel => exact ⟨k + 1,by omega,by go_num,J2,PT2⟩
   case measure => simp [intOf];omega
  ·have hke:k = n:=by omega
   subst hke
   have RT0:Hid (RtS pr g k (List.range k) wr):=by
    refine ⟨PT.out,?_,by have:=HNUM.out;omega,by simp⟩
    have:=J.out.blk
    rw [tab_congr (G:=fun q => (((List.range k).getD q q:Nat):Int)) (fun q hq => by rw [if_pos hq,getD_range])] at this
    exact this
   have HB:=Lib.hid J.out.bel
   clear J PT
   obtain ⟨w3,rfl⟩:∃ w3:World,w3 = wr:=⟨_,rfl⟩
   have hk:=(HIN.out _ HB.out) gp _ HG.out.obj
   have p5:w3.cell? ⟨gp,5,none⟩ = some (.map (some bm)):=cell_h hk 5 rfl
   have HMP:=Lib.hid (HG.out.map w3 (HIN.out _ HB.out))
   clear hk
   have HKN:Hid (k = ts.length):=HN.out
   have ML0:Hid (∀ (w4:World) (left0:Lit → Bool) (cnt0:Nat),(∀ l,WideAt.IsKeyLit l → left0 l = (m l).isSome) → Rg Tryz.prog 36 w4 bm w3.heap.size nm m left0 cnt0 → w3.grownBy w4 none → MapL w pr g k bm w3.heap.size nm m (DoneE (JD r ts) ts (Gone ts left0)) left0 cnt0 (List.range k) w4):=by
    intro w4 left0 cnt0 h1 h2 h3
    have hb4:Below w3.heap.size w3 w4:=⟨h3.os,h3.tape,h3.output,h3.size,fun q hq => h3.block q hq (by simp)⟩
    refine ⟨h2,RT0.out.below hb4,(Uf.start k).dn,(Uf.start k).same (fun i j e => e.elim) (fun i j e => ?_),HB.out.trans (hb4.mono HB.out.size),fun l hl e => by rw [← h1 l hl];exact e⟩
    obtain ⟨x,⟨x1,x2,x3⟩,_⟩:=e
    rw [h1 _ (klKey x1)] at x3
    obtain ⟨B,c,e,_⟩:=HG.out.some_ x x1 x2
    rw [e] at x3
    cases x3
   have HRB:Hid (bm ≠ g ∧ w3.heap.size ≠ g ∧ w.heap.size ≤ g ∧ w.heap.size ≤ w3.heap.size ∧ w3.heap.size ≠ pr):=by
    have h1:=HNUM.out
    have h2:=HGB.out
    have h3:=lt_of_heap RT0.out.blk
    have h4:=HB.out.size
    have h5:=lt_of_heap RT0.out.ptr
    show _ ∧ _
    omega
   clear RT0 HB
   go_wp2_with (at_range;refine wpList_range_mp _ rfl _ _ rfl _ _ idKeyed Tryz.underlying122 bm nm m rfl HMP.out ?_;intro w4 left0 cnt0 hlf hrg hgr hsz4;have M0:=Lib.hid (ML0.out w4 left0 cnt0 hlf hrg hgr);clear hlf hrg hgr hsz4 ML0 HMP)
   go_frame
   clear p5
   generalize w3.heap.size = rb at *
   go_loopw [37] (fun _ wr => ∃ left cnt rr,Hid (MapL w pr g k bm rb nm m (DoneE (JD r ts) ts (Gone ts left)) left cnt rr wr)) (fun _ wr => wr.rangeLeft bm rb)
   case atStart => exact ⟨_,_,_,M0⟩
   case round =>
    obtain ⟨left,cnt,rr,M⟩:=hrel
    clear M0
    go_wp2_with (at_next;refine wpList_next_mp (α:={x:IdD // FitId x}) _ rfl _ rfl _ idKeyed (fun x => .agg #[.int .i64 x.1.kind,.string x.1.text]) bm rb nm m left cnt rfl M.out.rg (fun l h1 h2 => ?_) ?_ ?_)
    ·obtain ⟨x,hx,e,_⟩:=HG.out.keys l (M.out.lft l h2 h1)
     exact ⟨⟨x,hx⟩,by rw [e];exact keyId hx⟩
    ·intro hc0 hl0
     have FP0:Hid (FinP w pr g k rr 0 wr):=⟨rr,M.out.rt,M.out.dn,fun _ => rfl,fun q hq => absurd hq (Nat.not_lt_zero q),M.out.bel,HRB.out.2.2.1⟩
     have HUF:Hid (Uf (Share (JD r ts) ts) rr):=uf_all (P:=Gone ts left) (fun x i h hx => ⟨HFIT.out _ (List.getElem_mem h) x hx,fun c => (by
      have h3:(i:Int) ∈ posL ts x:=mem_posL.2 ⟨h,hasId_iff.2 hx⟩
      rw [c] at h3
      cases h3),hl0 _⟩) M.out.uf
     have q0:=FP0.out.ptr
     clear M
     obtain ⟨w4,rfl⟩:∃ w4:World,w4 = wr:=⟨_,rfl⟩
     go_wp2_with fail
     clear q0
     go_loopw [83] (fun t wr => ∃ i:Nat,i ≤ k ∧ t = .int .i64 i ∧ Hid (FinP w pr g k rr i wr)) (fun t _ => k - (intOf t).toNat)
     case atStart => exact ⟨0,by omega,rfl,FP0⟩
     case round =>
      obtain ⟨i,hi,rfl,F⟩:=hrel
      clear FP0
      by_cases hli:i < k
      ·have HFD:=Lib.hid (fun W (hW:FinP w pr g k rr i W) => hW.find hli (by omega))
       have HPT:=fun W (hW:FinP w pr g k rr i W) => hW.ptr
       have hli2:(i:Int) < k:=by omega
       go_wp2_with fail
       (refine wp_region_det 6 94 (fun W => FinP w pr g k rr i W) (by kernel_rfl) (by kernel_rfl) (by rfl) F.out.drew ?_;simp only [List.take_succ_cons,List.take_zero,List.drop_succ_cons,List.drop_zero])
       iterate 4 (refine detSeq_op rfl ?_ (fun W hW => ?_) ?_;rotate_left;(focus simp only [OpV];go_simp;first | exact rfl | exact ⟨rfl,hW⟩))
       (refine detSeq_op rfl ?_ (fun W hW => ?_) ?_;rotate_left;focus (simp only [OpV];go_simp;refine (HFD.out W hW).mono ?_;rintro e w' ⟨rfl,hq⟩;refine ⟨_,rfl,?_,hq⟩;exact rfl))
       iterate 1 (refine detSeq_op rfl ?_ (fun W hW => ?_) ?_;rotate_left;(focus simp only [OpV];go_simp;first | exact rfl | exact ⟨rfl,hW⟩))
       refine detSeq_nil (fun W3 hW3 => ?_)
       obtain ⟨F2,⟨ox,hox⟩,hfr⟩:=hW3.set hli
       have FF:=Lib.hid F2
       clear F2 hW3 HPT HFD F
       generalize repN rr i = ri at *
       go_wp2_with fail
       go_roundw
       case rel => exact ⟨i + 1,by omega,by go_num,FF⟩
       case measure => simp [intOf];omega
      ·have hie:i = k:=by omega
       subst hie
       have q0:=F.out.ptr
       have HF:Hid (PartsQ w (JD r ts) ts (.returned (.slice (some ⟨g,0,none⟩) i i)) wr):=by
        obtain ⟨r',a,b,c,d,e,f⟩:=F.out
        refine ⟨rr,g,by rw [HKN.out],HUF.out,?_,e,f⟩
        have:=a.blk
        rw [← HKN.out]
        rw [tab_congr (G:=fun q => ((repN rr q:Nat):Int)) (fun q hq => by rw [d q hq])] at this
        exact this
       clear F
       go_wp2_with fail
       go_ret
       exact HF.out
    ·intro x hx c kl w5 cnt5 hkl hlx hmc hrg5 hlt5 hg5 hs5 hen
     obtain rfl:klId x = kl:=Option.some.inj ((keyId hx).symm.trans hkl)
     have hp:posL ts x ≠ []:=fun e => by rw [HG.out.none_ x hx e] at hmc;cases hmc
     obtain ⟨PB,pc,he,hR,hpc⟩:=HG.out.some_ x hx hp
     obtain rfl:.slice PB (posL ts x).length pc = c:=Option.some.inj (he.symm.trans hmc)
     have HX:=Lib.hid hx
     have HP:=Lib.hid hp
     have HR:=Lib.hid hR
     have HCN:Hid (cnt5 < cnt ∧ wr.rangeLeft bm rb = cnt):=⟨hlt5,M.out.rg.left_eq⟩
     have M5:Hid (MapL w pr g k bm rb nm m (DoneE (JD r ts) ts (Gone ts left)) (fun z => left z && !z.sameKey (klId x)) cnt5 rr w5):=by
      have h1:=HRB.out
      have hM:=M.out
      refine ⟨hrg5,hM.rt.kept hg5 (fun c => h1.2.2.2.2 (by injection c with c;exact c.symm)) (fun c => h1.2.1 (by injection c with c;exact c.symm)),hM.dn,hM.uf,?_,fun l h2 h3 => hM.lft l h2 (by simp only [Bool.and_eq_true] at h3;exact h3.1)⟩
      exact ⟨hg5.os.trans hM.bel.os,hg5.tape.trans hM.bel.tape,hg5.output.trans hM.bel.output,Nat.le_trans hM.bel.size hg5.size,fun q hq => (hg5.block q (Nat.lt_of_lt_of_le hq hM.bel.size) (fun c => by injection c with c;omega)).trans (hM.bel.block q hq)⟩
     have hpl:(posL ts x).length ≤ k:=by have:=posN_le ts x ts.length;have h2:=HKN.out;unfold posL;omega
     clear M hkl hlx hmc hrg5 hlt5 hg5 hs5 hR hp he
     have z0:(w5.alloc (.cells #[.int .i64 x.kind,.string x.text] 36)).cell? ⟨w5.heap.size,0,none⟩ = some (.int .i64 x.kind):=newc 0 rfl
     have z1:(w5.alloc (.cells #[.int .i64 x.kind,.string x.text] 36)).cell? ⟨w5.heap.size,1,none⟩ = some (.string x.text):=newc 1 rfl
     have M6:=Lib.hid (M5.out.call (new1 (.cells #[.int .i64 x.kind,.string x.text] 36)))
     have HJC:=Lib.hid (HJA.out x hx)
     clear M5 hx
     go_upto_region 11 with (fail)
     clear hen
     generalize w5.alloc (.cells #[.int .i64 x.kind,.string x.text] 36) = w6 at *
     have L0:=lift_cell z0
     have L1:=lift_cell z1
     clear z0 z1
     generalize w5.heap.size = qx at *
     generalize hjv:joinsD r.kinds r.most r.weaks ts x = jv at HJC
     have HJV:Hid (JD r ts x = jv):=hjv
     clear hjv
     have HIN6:=Lib.hid (fun W (hW:Below w6.heap.size w6 W) => HIN.out W (M6.out.bel.trans (hW.mono M6.out.bel.size)))
     cases jv with
     | false =>
      (refine wp_region_det 14 94 (fun W => Below (w6).heap.size (w6) W) (by kernel_rfl) (by kernel_rfl) (by rfl) (Below.refl _ _).drew ?_;simp only [List.take_succ_cons,List.take_zero,List.drop_succ_cons,List.drop_zero])
      iterate 2 (refine detSeq_op rfl ?_ (fun W hW => ?_) ?_;rotate_left;(focus simp only [OpV];go_simp;first | exact rfl | exact ⟨rfl,hW⟩))
      (refine detSeq_op rfl ?_ (fun W hW => ?_) ?_;rotate_left;focus (simp only [OpV];go_simp;refine (HJC.out W (HIN6.out W hW)).mono ?_;rintro e w' ⟨rfl,hb⟩;refine ⟨_,rfl,?_,det_back hW hb⟩;exact rfl))
      iterate 2 (refine detSeq_op rfl ?_ (fun W hW => ?_) ?_;rotate_left;(focus simp only [OpV];go_simp;first | exact rfl | exact ⟨rfl,hW⟩))
      iterate 9 (refine detSeq_no (by kernel_rfl) ?_)
      refine detSeq_nil (fun W7 hW7 => ?_)
      have M7:=Lib.hid ((M6.out.call hW7).edges (doneE_skip HX.out HP.out HJV.out))
      clear hW7 L0 L1 HJC M6
      go_wp2_with fail
      exact ⟨⟨_,_,_,M7⟩,by rw [M7.out.rg.left_eq,HCN.out.2];exact HCN.out.1⟩
     | true =>
      (refine wp_region_det 14 94 (fun W => Below (w6).heap.size (w6) W) (by kernel_rfl) (by kernel_rfl) (by rfl) (Below.refl _ _).drew ?_;simp only [List.take_succ_cons,List.take_zero,List.drop_succ_cons,List.drop_zero])
      iterate 2 (refine detSeq_op rfl ?_ (fun W hW => ?_) ?_;rotate_left;(focus simp only [OpV];go_simp;first | exact rfl | exact ⟨rfl,hW⟩))
      (refine detSeq_op rfl ?_ (fun W hW => ?_) ?_;rotate_left;focus (simp only [OpV];go_simp;refine (HJC.out W (HIN6.out W hW)).mono ?_;rintro e w' ⟨rfl,hb⟩;refine ⟨_,rfl,?_,det_back hW hb⟩;exact rfl))
      iterate 2 (refine detSeq_op rfl ?_ (fun W hW => ?_) ?_;rotate_left;(focus simp only [OpV];go_simp;first | exact rfl | exact ⟨rfl,hW⟩))
      iterate 3 (refine detSeq_yes (by kernel_rfl) ?_ (fun W hW => ?_) ?_;rotate_left;(focus simp only [OpV];go_simp;first | exact rfl | exact ⟨rfl,hW⟩))
      iterate 5 (refine detSeq_no (by kernel_rfl) ?_)
      iterate 1 (refine detSeq_yes (by kernel_rfl) ?_ (fun W hW => ?_) ?_;rotate_left;(focus simp only [OpV];go_simp;first | exact rfl | exact ⟨rfl,hW⟩))
      refine detSeq_nil (fun W7 hW7 => ?_)
      have M7:=Lib.hid (M6.out.call hW7)
      clear hW7 L0 L1 HJC M6 HIN6
      have hp1:0 < (posL ts x).length:=List.length_pos_iff.2 HP.out
      have HTK:=Lib.hid (fun i j => doneE_take (J:=JD r ts) (left:=left) HX.out HP.out HJV.out i j)
      have hin7:=HIN.out _ M7.out.bel
      obtain ⟨pb,po,rfl,_,_⟩:=HR.out.at_ hin7 hp1 (by omega)
      have HPOS:Hid (∀ z ∈ posL ts x,∃ q:Nat,z = (q:Int) ∧ q < k):=fun z hz => by
       obtain ⟨q,e,h1,_⟩:=mem_posN.1 hz
       exact ⟨q,e,by have:=HKN.out;omega⟩
      clear hin7
      generalize posL ts x = ps at *
      have M8:Hid (MapL w pr g k bm rb nm m (fun i j => DoneE (JD r ts) ts (Gone ts left) i j ∨ Star ps (0 + 1) i j) (fun z => left z && !z.sameKey (klId x)) cnt5 rr W7) :=
       M7.out.edges fun i j => ⟨Or.inl,fun h => h.elim id (fun h => absurd h (Star.one (by omega) i j))⟩
      have hp2:(1:Int) ≤ ps.length:=by omega
      have hp3:1 ≤ ps.length:=by omega
      clear M7
      by_cases hpc1:pc = 1
      ·have hps1:ps.length = 1:=by omega
       have M9:Hid (MapL w pr g k bm rb nm m (DoneE (JD r ts) ts (Gone ts fun z => left z && !z.sameKey (klId x))) (fun z => left z && !z.sameKey (klId x)) cnt5 rr W7):=by
        refine M8.out.edges fun i j => ?_
        have:=HTK.out i j
        rw [hps1] at this
        exact this
       clear M8
       go_wp2_with fail
       refine wp_loop_rounds 1 ?_
       rw [rounds_succ]
       go_wp2_with fail
       exact ⟨⟨_,_,_,M9⟩,by rw [M9.out.rg.left_eq,HCN.out.2];exact HCN.out.1⟩
      ·go_wp2_with fail
       go_loopw [60] (fun t wq => ∃ (q:Nat) (rq:List Nat),t = .int .i64 q ∧ q ≤ ps.length - 1 ∧ Hid (MapL w pr g k bm rb nm m (fun i j => DoneE (JD r ts) ts (Gone ts left) i j ∨ Star ps (q + 1) i j) (fun z => left z && !z.sameKey (klId x)) cnt5 rq wq)) (fun t _ => ps.length - 1 - (intOf t).toNat)
       case atStart => exact ⟨0,rr,rfl,by omega,M8⟩
       case round =>
        obtain ⟨q,rq,rfl,hq,MQ⟩:=hrel
        clear M8
        by_cases hlq:q < ps.length - 1
        ·have hin9:=HIN.out _ MQ.out.bel
         have hq1:q + 1 < ps.length:=by omega
         obtain ⟨pb1,po1,e1,_,hc1⟩:=HR.out.at_ hin9 hq1 (by omega)
         obtain ⟨pb2,po2,e2,_,hc2⟩:=HR.out.at_ hin9 hp1 (by omega)
         injection e1 with e1
         injection e1 with e1 e1'
         injection e2 with e2
         injection e2 with e2 e2'
         subst e1 e1' e2 e2'
         have c1:wr.cell? ⟨pb,po + 1 + q,none⟩ = some (.int .i64 ps[q + 1]):=by have:=hc1 0 (by omega);rw [show po + (q + 1) * 1 + 0 = po + 1 + q from by omega] at this;exact this
         have c0:wr.cell? ⟨pb,po,none⟩ = some (.int .i64 ps[0]):=by have:=hc2 0 (by omega);rw [show po + 0 * 1 + 0 = po from by omega] at this;exact this
         obtain ⟨a0,ha0,ha1⟩:=HPOS.out _ (List.getElem_mem hp1)
         obtain ⟨b0,hb0,hb1⟩:=HPOS.out _ (List.getElem_mem hq1)
         have HST:Hid (∀ i j,Star ps (q + 1 + 1) i j ↔ Star ps (q + 1) i j ∨ (i = a0 ∧ j = b0)):=fun i j => Star.succ (by omega) (by rw [List.getElem?_eq_getElem hp1,ha0]) (by rw [List.getElem?_eq_getElem hq1,hb0]) i j
         rw [ha0] at c0
         rw [hb0] at c1
         have hlq2:(q:Int) < (ps.length:Int) - 1:=by omega
         have hlq3:(q:Int) < ((ps.length - 1:Nat):Int):=by omega
         clear hin9 hc1 hc2 ha0 hb0 hpc1
         go_wp2_with fail
         refine (find_any pr g k rq _ MQ.out.rt MQ.out.dn a0 ha1 (by omega)).mono ?_
         rintro e v1 ⟨rfl,hq1'⟩
         obtain ⟨r1,hj1,M1⟩:=MQ.out.find HRB.out.2.2.1 HRB.out.1 HRB.out.2.1 hq1'
         have MM1:=Lib.hid M1
         have HJ1:=Lib.hid hj1
         clear M1 hj1 hq1' c0 c1
         go_wp2_with fail
         refine (find_any pr g k r1 _ MM1.out.rt MM1.out.dn b0 hb1 (by omega)).mono ?_
         rintro e v2 ⟨rfl,hq2'⟩
         obtain ⟨r2,hj2,M2⟩:=MM1.out.find HRB.out.2.2.1 HRB.out.1 HRB.out.2.1 hq2'
         have hA:repN rq a0 = repN r2 a0:=by rw [hj2,HJ1.out]
         have hB:repN r1 b0 = repN r2 b0:=(hj2 b0).symm
         rw [hA,hB]
         have hla:=repN_le r2 a0
         have hlb:=repN_le r2 b0
         have HJN:Hid (MapL w pr g k bm rb nm m (fun i j => DoneE (JD r ts) ts (Gone ts left) i j ∨ Star ps (q + 1 + 1) i j) (fun z => left z && !z.sameKey (klId x)) cnt5 (r2.set (max (repN r2 a0) (repN r2 b0)) (min (repN r2 a0) (repN r2 b0))) (v2.setCell ⟨g,max (repN r2 a0) (repN r2 b0),none⟩ (.int .i64 ((min (repN r2 a0) (repN r2 b0):Nat):Int)))) :=
          (M2.join HRB.out.2.2.1 HRB.out.1 HRB.out.2.1 rfl rfl ha1 hb1).edges fun i j => by rw [HST.out i j,or_assoc]
         have p0:v2.cell? ⟨pr,0,none⟩ = some (.slice (some ⟨g,0,none⟩) k k):=cell_h M2.rt.ptr 0 rfl
         have hmk:max (repN r2 a0) (repN r2 b0) < k:=by omega
         have cm:=M2.rt.cell _ hmk
         have fm:v2.frozen? ⟨g,max (repN r2 a0) (repN r2 b0),none⟩ = false:=M2.rt.blk.frozen _
         have e1:max ((repN r2 a0:Nat):Int) ((repN r2 b0:Nat):Int) = ((max (repN r2 a0) (repN r2 b0):Nat):Int):=by omega
         have e2:min ((repN r2 a0:Nat):Int) ((repN r2 b0:Nat):Int) = ((min (repN r2 a0) (repN r2 b0):Nat):Int):=by omega
         clear M2 MM1 HJ1 hj2 hq2' hA hB MQ HST hla hlb
         generalize repN r2 a0 = a at *
         generalize repN r2 b0 = b at *
         generalize max a b = mx at *
         generalize min a b = mn at *
         generalize r2.getD mx mx = old at *
         generalize r2.set mx mn = r3 at *
         have hmk2:(mx:Int) < k:=by omega
         go_wp2_with fail
         clear e1 e2
         go_roundw
         case rel => exact ⟨q + 1,_,by go_num,by omega,HJN⟩
         case measure => simp [intOf];omega
        ·have hqe:q + 1 = ps.length:=by omega
         have M9:Hid (MapL w pr g k bm rb nm m (DoneE (JD r ts) ts (Gone ts fun z => left z && !z.sameKey (klId x))) (fun z => left z && !z.sameKey (klId x)) cnt5 rq wr):=by
          refine MQ.out.edges fun i j => ?_
          rw [hqe]
          exact HTK.out i j
         clear MQ
         go_wp2_with fail
         exact ⟨⟨_,_,_,M9⟩,by rw [M9.out.rg.left_eq,HCN.out.2];exact HCN.out.1⟩
end Go.Proofs.YtcncifmanodabaaGreatDoor
