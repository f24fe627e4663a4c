/- Texts of this claim, put together: IdD, EqId, IdxId, Bsf, BsfPur, BsfTer, BsfSta, Orow, ConsC. -/
import Derived.Test.YtcncifmanodabaaGreatDoorGAD
import Derived.Test.YtcncifmanodabaaGreatDoorGAB
import Derived.Test.YtcncifmanodabaaGreatDoorGAC
import Derived.IntWalk
import Derived.StillTailTactics
import Derived.Deep.Cut
namespace Go.Proofs.YtcncifmanodabaaGreatDoor
set_option linter.unusedVariables false
open Go.RowKit
structure IdD where
 kind:Int
 text:ByteArray
def fId (d:IdD):Nat → Value
 | 0 => .int .i64 d.kind
 | _ => .string d.text
open Go.RowKit
def eqId (a b:IdD):Bool:=decide (a.kind = b.kind) && eqS a.text b.text
theorem eqId_iff {a b:IdD}:eqId a b = true ↔ a = b:=by
 unfold eqId
 rw [Bool.and_eq_true,eqS_iff]
 constructor
 ·rintro ⟨h1,h2⟩
  have h1:=of_decide_eq_true h1
  cases a;cases b;simp_all
 ·rintro rfl;simp
theorem eqId_self (a:IdD):eqId a a = true:=eqId_iff.2 rfl
open Go.RowKit
set_option maxHeartbeats 1000000 in
set_option maxRecDepth 100000 in
theorem index_Id (H:Frz) (A:Option Addr) (cap:Nat) (ids:List IdD) (x:IdD) (w:World) (hH:H.In w) (hR:Rw H A 2 fId ids) (hl:ids.length ≤ 1000000) :
  Calls Tryz.prog 29 #[.slice A ids.length cap,.agg #[.int .i64 x.kind,.string x.text]] w fun e w' => e = .returned (.int .i64 (idxF (eqId x) ids)) ∧ Below w.heap.size w w':=by
 have HR:=Lib.hid hR
 have HIN:=Lib.hid (hH.alloc (.cells #[.int .i64 x.kind,.string x.text] 36))
 have HB0:=Lib.hid (new1 (w:=w) (.cells #[.int .i64 x.kind,.string x.text] 36))
 have HX0:Hid ((w.alloc (.cells #[.int .i64 x.kind,.string x.text] 36)).heap[w.heap.size]? = some (.cells #[.int .i64 x.kind,.string x.text] 36)):=heap_alloc_new _ _
 clear hR hH
 go_enter Tryz.func29,Tryz.ntmps29
 go_wp2_with fail
 generalize w.alloc (.cells #[.int .i64 x.kind,.string x.text] 36) = W0 at *
 go_loopw [5,8] (fun _ t wr => ∃ i:Nat,i ≤ ids.length ∧ t = .int .i64 i ∧ Hid ((ids.take i).any (eqId x) = false) ∧ Hid (Below W0.heap.size W0 wr)) (fun _ t _ => ids.length - (intOf t).toNat)
 case atStart => exact ⟨0,by omega,rfl,rfl,Below.refl _ _⟩
 case round =>
  obtain ⟨i,hi,rfl,hall,hb⟩:=hrel
  have hx:=(hb.out.block _ (lt_of_heap HX0.out)).trans HX0.out
  have x0:wr.cell? ⟨w.heap.size,0,none⟩ = some (.int .i64 x.kind):=cell_h hx 0 rfl
  have x1:wr.cell? ⟨w.heap.size,1,none⟩ = some (.string x.text):=cell_h hx 1 rfl
  clear hx
  have HF:=Lib.hid (HB0.out.trans (hb.out.mono HB0.out.size))
  by_cases hlt:i < ids.length
  ·obtain ⟨b,off,rfl,hbl,hc⟩:=HR.out.at_ (HIN.out.below hb.out) hlt (by omega)
   have c0:wr.cell? ⟨b,off + i * 2,none⟩ = some (.int .i64 ids[i].kind):=hc 0 (by omega)
   have c1:wr.cell? ⟨b,off + i * 2 + 1,none⟩ = some (.string ids[i].text):=hc 1 (by omega)
   have ht:=Lib.hid (idxF_found (p:=eqId x) hlt hall.out)
   have ht2:=Lib.hid (any_take_succ (p:=eqId x) hlt hall.out)
   have heq:Hid (eqId x ids[i] = (decide (x.kind = ids[i].kind) && eqS x.text ids[i].text)):=rfl
   clear hc
   generalize eqId x ids[i] = q at *
   generalize ids[i] = y at *
   cases k1:(x.kind == y.kind) with
   | false =>
    have hq:q = false:=by
     rw [heq.out]
     have:decide (x.kind = y.kind) = false:=by simpa using k1
     rw [this];rfl
    subst hq
    go_wp2_with fail
    go_quiet (fail)
    have HB1:=Lib.hid (fun n => below_drewN hb.out n)
    go_wp2_with fail
    go_roundw
    case rel => exact ⟨i + 1,by omega,by go_num,ht2.out (by simp),Lib.hid (HB1.out _)⟩
    case measure => simp [intOf];omega
   | true =>
    have h1:decide (x.kind = y.kind) = true:=by simpa using k1
    cases k2:(x.text.toList == y.text.toList) with
    | false =>
     have hq:q = false:=by
      rw [heq.out,h1]
      exact k2
     subst hq
     go_wp2_with fail
     go_quiet (fail)
     have HB1:=Lib.hid (fun n => below_drewN hb.out n)
     go_wp2_with fail
     go_roundw
     case rel => exact ⟨i + 1,by omega,by go_num,ht2.out (by simp),Lib.hid (HB1.out _)⟩
     case measure => simp [intOf];omega
    | true =>
     have hq:q = true:=by
      rw [heq.out,h1]
      exact k2
     subst hq
     go_wp2_with fail
     go_quiet (fail)
     have HB1:=Lib.hid (fun n => below_drewN HF.out n)
     go_wp2_with fail
     go_ret
     exact ⟨ret_int (ht.out (by simp)).symm,HB1.out _⟩
  ·have hf:=Lib.hid (idxF_none (p:=eqId x) (show ids.any (eqId x) = false by have:=hall.out;rwa [List.take_of_length_le (by omega)] at this))
   go_wp2_with fail
   go_ret
   exact ⟨ret_int hf.out.symm,HF.out⟩
set_option maxHeartbeats 1000000 in
set_option maxRecDepth 100000 in
theorem contains_Id (H:Frz) (A:Option Addr) (cap:Nat) (ids:List IdD) (x:IdD) (w:World) (hH:H.In w) (hR:Rw H A 2 fId ids) (hl:ids.length ≤ 1000000) :
  Calls Tryz.prog 10 #[.slice A ids.length cap,.agg #[.int .i64 x.kind,.string x.text]] w fun e w' => e = .returned (.bool (anyF (eqId x) ids)) ∧ Below w.heap.size w w':=by
 have hX:(w.alloc (.cells #[.int .i64 x.kind,.string x.text] 36)).heap[w.heap.size]? = some (.cells #[.int .i64 x.kind,.string x.text] 36):=heap_alloc_new _ _
 have HI:=Lib.hid (index_Id H A cap ids x _ (hH.alloc (.cells #[.int .i64 x.kind,.string x.text] 36)) hR hl)
 have HB0:=Lib.hid (new1 (w:=w) (.cells #[.int .i64 x.kind,.string x.text] 36))
 have hx:=Lib.hid (idxF_any (eqId x) ids)
 clear hR hH
 go_enter Tryz.func10,Tryz.ntmps10
 go_wp2_with fail
 refine HI.out.mono ?_
 rintro e w1 ⟨rfl,hb⟩
 have HB:=Lib.hid (HB0.out.trans (hb.mono HB0.out.size))
 generalize idxF (eqId x) ids = n at hx
 clear hb HI HB0 hX
 go_wp2_with fail
 go_ret
 exact ⟨ret_bool' hx.out,HB.out⟩
open Go.RowKit
def hasAt {D:Type} (c:D → Int) (ds:List D) (m:Nat):Bool:=match ds[m]? with | some d => c d == 0 | none => false
theorem hasAt_lt {D:Type} {c:D → Int} {ds:List D} {m:Nat} (h:m < ds.length):hasAt c ds m = (c ds[m] == 0):=by
 unfold hasAt;rw [List.getElem?_eq_getElem h]
theorem hasAt_ge {D:Type} {c:D → Int} {ds:List D} {m:Nat} (h:ds.length ≤ m):hasAt c ds m = false:=by
 unfold hasAt;rw [List.getElem?_eq_none h]
open Go.RowKit
section
variable {D:Type}
set_option maxHeartbeats 1000000 in
theorem bsf_Pur (H:Frz) (f:D → Nat → Value) (kf:Nat) (tv:Value) (c:D → Int) (ds:List D) (hp:∀ (W:World) (d:D),d ∈ ds → H.In W → Calls Tryz.prog kf #[.agg #[f d 0,f d 1],tv] W fun e W' => e = .returned (.int .i64 (c d)) ∧ Below W.heap.size W W')
  (hcall:∀ (a b:Value) (W:World),(callFunc kf #[a,b]).run Tryz.prog W = .ok (.enter kf #[a,b]) W)
  (A:Option Addr) (cap:Nat) (w:World) (hH:H.In w) (hR:Rw H A 2 f ds) (hl:ds.length ≤ 1000000) (m:Nat) (hm:m ≤ ds.length) (hlo:∀ i (h:i < ds.length),i < m → c ds[i] < 0) (hhi:∀ i (h:i < ds.length),m ≤ i → 0 ≤ c ds[i]) :
  Calls Tryz.prog 75 #[.slice A ds.length cap,tv,.func (.func kf) #[] #[]] w fun e w' => e = .returned (.tuple #[.int .i64 m,.bool (hasAt c ds m)]) ∧ Below w.heap.size w w':=by
 have HP:=Lib.hid hp
 have HR:=Lib.hid hR
 have HH:=Lib.hid hH
 have HLO:=Lib.hid hlo
 have HHI:=Lib.hid hhi
 clear hp hR hH hlo hhi
 go_enter Tryz.func75,Tryz.ntmps75
 go_wp2_with fail
 go_loopw [9,10,11] (fun ti tj _ wr => ∃ i j:Nat,i ≤ m ∧ m ≤ j ∧ j ≤ ds.length ∧ ti = .int .i64 i ∧ tj = .int .i64 j ∧ Hid (Below w.heap.size w wr)) (fun ti tj _ _ => (intOf tj - intOf ti).toNat)
 case atStart => exact ⟨0,ds.length,by omega,by omega,by omega,rfl,rfl,Below.refl _ _⟩
 case round =>
  obtain ⟨i,j,hi,hj,hjl,rfl,rfl,hb⟩:=hrel
  by_cases hlt:i < j
  ·have e1:IntKind.i64.wrap ((i:Int) + (j:Int)) = (i:Int) + (j:Int):=IntWalk.i64_in _ (by omega)
   obtain ⟨h,hh⟩:∃ h,h = (i + j) / 2:=⟨_,rfl⟩
   have hhl:h < ds.length:=by omega
   have hih:i ≤ h:=by omega
   have hhj:h < j:=by omega
   have k2:((i:Int) + (j:Int)) / 2 = (h:Int):=by omega
   obtain ⟨b,off,rfl,hbl,hc⟩:=HR.out.at_ (HH.out.below hb.out) hhl (by omega)
   have c0:wr.cell? ⟨b,off + h * 2,none⟩ = some (f ds[h] 0):=hc 0 (by omega)
   have c1:wr.cell? ⟨b,off + h * 2 + 1,none⟩ = some (f ds[h] 1):=hc 1 (by omega)
   have HC:=Lib.hid (fun W hW => HP.out W ds[h] (List.getElem_mem hhl) hW)
   have HL:=Lib.hid (HLO.out h hhl)
   have HU:=Lib.hid (HHI.out h hhl)
   clear hc hh
   generalize hpd:c ds[h] = q at HC HL HU
   generalize f ds[h] 0 = x0 at c0 HC
   generalize f ds[h] 1 = x1 at c1 HC
   clear hpd
   go_wp2_with fail
   refine (HC.out _ (HH.out.below hb.out)).mono ?_
   rintro e w1 ⟨rfl,hb1⟩
   have hb2:=Lib.hid (hb.out.trans (hb1.mono hb.out.size))
   clear hb1 hb k2
   by_cases hq:q < 0
   ·have hhm:h < m:=by
     apply Classical.byContradiction
     intro hn
     have:=HU.out (by omega)
     omega
    go_wp2_with fail
    go_roundw
    case rel => exact ⟨h + 1,j,by omega,by omega,by omega,by go_num,rfl,hb2⟩
    case measure => simp [intOf];omega
   ·have hhm:m ≤ h:=by
     apply Classical.byContradiction
     intro hn
     exact hq (HL.out (by omega))
    go_wp2_with fail
    go_roundw
    case rel => exact ⟨i,h,by omega,by omega,by omega,rfl,rfl,hb2⟩
    case measure => simp [intOf];omega
  ·have him:i = m:=by omega
   subst him
   by_cases hml:i < ds.length
   ·have d1:decide ((i:Int) < (ds.length:Int)) = true:=by simpa using hml
    obtain ⟨b,off,rfl,hbl,hc⟩:=HR.out.at_ (HH.out.below hb.out) hml (by omega)
    have c0:wr.cell? ⟨b,off + i * 2,none⟩ = some (f ds[i] 0):=hc 0 (by omega)
    have c1:wr.cell? ⟨b,off + i * 2 + 1,none⟩ = some (f ds[i] 1):=hc 1 (by omega)
    have HC:=Lib.hid (fun W hW => HP.out W ds[i] (List.getElem_mem hml) hW)
    have HV:=Lib.hid (hasAt_lt (c:=c) hml)
    clear hc
    generalize hpd:c ds[i] = q at HC HV
    generalize f ds[i] 0 = x0 at c0 HC
    generalize f ds[i] 1 = x1 at c1 HC
    clear hpd
    go_wp2_with fail
    refine (HC.out _ (HH.out.below hb.out)).mono ?_
    rintro e w1 ⟨rfl,hb1⟩
    have hb2:=Lib.hid (hb.out.trans (hb1.mono hb.out.size))
    clear hb1 hb
    go_wp2_with fail
    go_ret2
    exact ⟨by rw [HV.out];simp,hb2.out⟩
   ·have hf:=Lib.hid (hasAt_ge (c:=c) (show ds.length ≤ i by omega))
    go_wp2_with fail
    go_ret2
    exact ⟨by rw [hf.out];simp,hb.out⟩
end
open Go.RowKit
section
variable {D:Type}
set_option maxHeartbeats 2000000 in
set_option maxRecDepth 100000 in
theorem bsf_Ter (H:Frz) (f:D → Nat → Value) (kf:Nat) (tv:Nat → Value) (c:D → Int) (ds:List D) (hp:∀ (W:World) (d:D),d ∈ ds → H.In W → Calls Tryz.prog kf #[.agg #[f d 0,f d 1,f d 2,f d 3,f d 4],.agg #[tv 0,tv 1,tv 2,tv 3,tv 4]] W fun e W' => e = .returned (.int .i64 (c d)) ∧ Below W.heap.size W W')
  (hcall:∀ (a b:Value) (W:World),(callFunc kf #[a,b]).run Tryz.prog W = .ok (.enter kf #[a,b]) W)
  (A:Option Addr) (cap:Nat) (w:World) (hH:H.In w) (hR:Rw H A 5 f ds) (hl:ds.length ≤ 1000000) (m:Nat) (hm:m ≤ ds.length) (hlo:∀ i (h:i < ds.length),i < m → c ds[i] < 0) (hhi:∀ i (h:i < ds.length),m ≤ i → 0 ≤ c ds[i]) :
  Calls Tryz.prog 92 #[.slice A ds.length cap,.agg #[tv 0,tv 1,tv 2,tv 3,tv 4],.func (.func kf) #[] #[]] w fun e w' => e = .returned (.tuple #[.int .i64 m,.bool (hasAt c ds m)]) ∧ Below w.heap.size w w':=by
 have HP:=Lib.hid hp
 have HR:=Lib.hid hR
 have HH:=Lib.hid hH
 have HLO:=Lib.hid hlo
 have HHI:=Lib.hid hhi
 have HB0:=Lib.hid ((Below.refl w.heap.size w).alloc (Nat.le_refl _) (.cells #[tv 0,tv 1,tv 2,tv 3,tv 4] 68))
 have HZ0:Hid (∀ m,m < 5 → (w.alloc (.cells #[tv 0,tv 1,tv 2,tv 3,tv 4] 68)).cell? ⟨w.heap.size,m,none⟩ = some (tv m)):=fun m hm => by
  rw [World.cell?_alloc_new]
  have:m = 0 ∨ m = 1 ∨ m = 2 ∨ m = 3 ∨ m = 4:=by omega
  rcases this with rfl | rfl | rfl | rfl | rfl <;> rfl
 clear hp hR hH hlo hhi
 go_enter Tryz.func92,Tryz.ntmps92
 go_wp2_with fail
 generalize hwq:w.heap.size = tb at HZ0
 generalize hW1:w.alloc _ = W1 at HB0 HZ0
 clear hW1
 go_loopw [9,10,11] (fun ti tj _ wr => ∃ i j:Nat,i ≤ m ∧ m ≤ j ∧ j ≤ ds.length ∧ ti = .int .i64 i ∧ tj = .int .i64 j ∧ Hid (Below w.heap.size w wr) ∧ Hid (∀ m,m < 5 → wr.cell? ⟨tb,m,none⟩ = some (tv m))) (fun ti tj _ _ => (intOf tj - intOf ti).toNat)
 case atStart => exact ⟨0,ds.length,by omega,by omega,by omega,rfl,rfl,HB0,HZ0⟩
 case round =>
  obtain ⟨i,j,hi,hj,hjl,rfl,rfl,hb,hz⟩:=hrel
  clear HB0 HZ0
  have HIN:=Lib.hid (fun W (hW:Below wr.heap.size wr W) => (HH.out.below hb.out).below hW)
  by_cases hlt:i < j
  ·have e1:IntKind.i64.wrap ((i:Int) + (j:Int)) = (i:Int) + (j:Int):=IntWalk.i64_in _ (by omega)
   obtain ⟨h,hh⟩:∃ h,h = (i + j) / 2:=⟨_,rfl⟩
   have hhl:h < ds.length:=by omega
   have hih:i ≤ h:=by omega
   have hhj:h < j:=by omega
   have k2:((i:Int) + (j:Int)) / 2 = (h:Int):=by omega
   obtain ⟨b,off,rfl,hbl,hc⟩:=HR.out.at_ (HH.out.below hb.out) hhl (by omega)
   have c0:wr.cell? ⟨b,off + h * 5,none⟩ = some (f ds[h] 0):=hc 0 (by omega)
   have c1:wr.cell? ⟨b,off + h * 5 + 1,none⟩ = some (f ds[h] 1):=hc 1 (by omega)
   have c2:wr.cell? ⟨b,off + h * 5 + 2,none⟩ = some (f ds[h] 2):=hc 2 (by omega)
   have c3:wr.cell? ⟨b,off + h * 5 + 3,none⟩ = some (f ds[h] 3):=hc 3 (by omega)
   have c4:wr.cell? ⟨b,off + h * 5 + 4,none⟩ = some (f ds[h] 4):=hc 4 (by omega)
   have HC:=Lib.hid (fun W hW => HP.out W ds[h] (List.getElem_mem hhl) hW)
   have HL:=Lib.hid (HLO.out h hhl)
   have HU:=Lib.hid (HHI.out h hhl)
   clear hc hh
   generalize hpd:c ds[h] = q at HC HL HU
   generalize f ds[h] 0 = x0 at c0 HC
   generalize f ds[h] 1 = x1 at c1 HC
   generalize f ds[h] 2 = x2 at c2 HC
   generalize f ds[h] 3 = x3 at c3 HC
   generalize f ds[h] 4 = x4 at c4 HC
   clear hpd
   have K0:=lift_cell c0
   have K1:=lift_cell c1
   have K2:=lift_cell c2
   have K3:=lift_cell c3
   have K4:=lift_cell c4
   have J0:=lift_cell (hz.out 0 (by omega))
   have J1:=lift_cell (hz.out 1 (by omega))
   have J2:=lift_cell (hz.out 2 (by omega))
   have J3:=lift_cell (hz.out 3 (by omega))
   have J4:=lift_cell (hz.out 4 (by omega))
   clear c0 c1 c2 c3 c4
   go_upto_region 5 with (fail)
   clear k2
   (refine wp_region_det 6 49 (fun W => Below (wr).heap.size (wr) W) (by kernel_rfl) (by kernel_rfl) (by rfl) (Below.refl _ _).drew ?_;simp only [List.take_succ_cons,List.take_zero,List.drop_succ_cons,List.drop_zero])
   iterate 6 (refine detSeq_op rfl ?_ (fun W hW => ?_) ?_;rotate_left;(focus simp only [OpV];go_simp;first | exact rfl | exact ⟨rfl,hW⟩))
   refine detSeq_nil (fun W3 hW3 => ?_)
   have HW3:=Lib.hid hW3
   clear K0 K1 K2 K3 K4 J0 J1 J2 J3 J4 hW3
   go_wp2_with fail
   refine (HC.out _ (HIN.out _ HW3.out)).mono ?_
   rintro e w1 ⟨rfl,hb1⟩
   have hb9:=Lib.hid (det_back HW3.out hb1)
   have hb2:=Lib.hid (hb.out.trans (hb9.out.mono hb.out.size))
   have hz2:Hid (∀ m,m < 5 → w1.cell? ⟨tb,m,none⟩ = some (tv m)):=fun m hm => lift_cell (hz.out m hm) _ hb9.out
   clear hb1 hb hz hb9
   by_cases hq:q < 0
   ·have hhm:h < m:=by
     apply Classical.byContradiction
     intro hn
     have:=HU.out (by omega)
     omega
    go_wp2_with fail
    go_roundw
    case rel => exact ⟨h + 1,j,by omega,by omega,by omega,by go_num,rfl,hb2,hz2⟩
    case measure => simp [intOf];omega
   ·have hhm:m ≤ h:=by
     apply Classical.byContradiction
     intro hn
     exact hq (HL.out (by omega))
    go_wp2_with fail
    go_roundw
    case rel => exact ⟨i,h,by omega,by omega,by omega,rfl,rfl,hb2,hz2⟩
    case measure => simp [intOf];omega
  ·have him:i = m:=by omega
   subst him
   by_cases hml:i < ds.length
   ·have d1:decide ((i:Int) < (ds.length:Int)) = true:=by simpa using hml
    obtain ⟨b,off,rfl,hbl,hc⟩:=HR.out.at_ (HH.out.below hb.out) hml (by omega)
    have c0:wr.cell? ⟨b,off + i * 5,none⟩ = some (f ds[i] 0):=hc 0 (by omega)
    have c1:wr.cell? ⟨b,off + i * 5 + 1,none⟩ = some (f ds[i] 1):=hc 1 (by omega)
    have c2:wr.cell? ⟨b,off + i * 5 + 2,none⟩ = some (f ds[i] 2):=hc 2 (by omega)
    have c3:wr.cell? ⟨b,off + i * 5 + 3,none⟩ = some (f ds[i] 3):=hc 3 (by omega)
    have c4:wr.cell? ⟨b,off + i * 5 + 4,none⟩ = some (f ds[i] 4):=hc 4 (by omega)
    have HC:=Lib.hid (fun W hW => HP.out W ds[i] (List.getElem_mem hml) hW)
    have HV:=Lib.hid (hasAt_lt (c:=c) hml)
    clear hc
    generalize hpd:c ds[i] = q at HC HV
    generalize f ds[i] 0 = x0 at c0 HC
    generalize f ds[i] 1 = x1 at c1 HC
    generalize f ds[i] 2 = x2 at c2 HC
    generalize f ds[i] 3 = x3 at c3 HC
    generalize f ds[i] 4 = x4 at c4 HC
    clear hpd
    have K0:=lift_cell c0
    have K1:=lift_cell c1
    have K2:=lift_cell c2
    have K3:=lift_cell c3
    have K4:=lift_cell c4
    have J0:=lift_cell (hz.out 0 (by omega))
    have J1:=lift_cell (hz.out 1 (by omega))
    have J2:=lift_cell (hz.out 2 (by omega))
    have J3:=lift_cell (hz.out 3 (by omega))
    have J4:=lift_cell (hz.out 4 (by omega))
    clear c0 c1 c2 c3 c4
    go_upto_region 8 with (fail)
    (refine wp_region_det 15 49 (fun W => Below (wr).heap.size (wr) W) (by kernel_rfl) (by kernel_rfl) (by rfl) (Below.refl _ _).drew ?_;simp only [List.take_succ_cons,List.take_zero,List.drop_succ_cons,List.drop_zero])
    iterate 3 (refine detSeq_op rfl ?_ (fun W hW => ?_) ?_;rotate_left;(focus simp only [OpV];go_simp;first | exact rfl | exact ⟨rfl,hW⟩))
    (refine detSeq_op rfl (.bool true) (fun W hW => ?_) ?_;focus (simp only [OpV];go_simp;first | exact rfl | exact ⟨by rw [d1],hW⟩ | skip))
    iterate 1 (refine detSeq_op rfl ?_ (fun W hW => ?_) ?_;rotate_left;(focus simp only [OpV];go_simp;first | exact rfl | exact ⟨rfl,hW⟩))
    iterate 6 (refine detSeq_yes (by kernel_rfl) ?_ (fun W hW => ?_) ?_;rotate_left;(focus simp only [OpV];go_simp;first | exact rfl | exact ⟨rfl,hW⟩))
    (refine detSeq_yes (by kernel_rfl) ?_ (fun W hW => ?_) ?_;rotate_left;focus (simp only [OpV];go_simp;refine (HC.out W (HIN.out W hW)).mono ?_;rintro e w' ⟨rfl,hb⟩;refine ⟨_,rfl,?_,det_back hW hb⟩;exact rfl))
    iterate 1 (refine detSeq_yes (by kernel_rfl) ?_ (fun W hW => ?_) ?_;rotate_left;(focus simp only [OpV];go_simp;first | exact rfl | exact ⟨rfl,hW⟩))
    iterate 2 (refine detSeq_op rfl ?_ (fun W hW => ?_) ?_;rotate_left;(focus simp only [OpV];go_simp;first | exact rfl | exact ⟨rfl,hW⟩))
    refine detSeq_nil (fun W3 hW3 => ?_)
    have hb2:=Lib.hid (hb.out.trans (hW3.mono hb.out.size))
    clear K0 K1 K2 K3 K4 J0 J1 J2 J3 J4 hW3 hb hz
    go_wp2_with fail
    go_ret2
    exact ⟨by rw [HV.out];simp,hb2.out⟩
   ·have d1:decide ((i:Int) < (ds.length:Int)) = false:=by simpa using hml
    have hf:=Lib.hid (hasAt_ge (c:=c) (show ds.length ≤ i by omega))
    go_upto_region 8 with (fail)
    (refine wp_region_det 15 49 (fun W => Below (wr).heap.size (wr) W) (by kernel_rfl) (by kernel_rfl) (by rfl) (Below.refl _ _).drew ?_;simp only [List.take_succ_cons,List.take_zero,List.drop_succ_cons,List.drop_zero])
    iterate 3 (refine detSeq_op rfl ?_ (fun W hW => ?_) ?_;rotate_left;(focus simp only [OpV];go_simp;first | exact rfl | exact ⟨rfl,hW⟩))
    (refine detSeq_op rfl (.bool false) (fun W hW => ?_) ?_;focus (simp only [OpV];go_simp;first | exact rfl | exact ⟨by rw [d1],hW⟩ | skip))
    iterate 1 (refine detSeq_op rfl ?_ (fun W hW => ?_) ?_;rotate_left;(focus simp only [OpV];go_simp;first | exact rfl | exact ⟨rfl,hW⟩))
    iterate 8 (refine detSeq_no (by kernel_rfl) ?_)
    iterate 2 (refine detSeq_op rfl ?_ (fun W hW => ?_) ?_;rotate_left;(focus simp only [OpV];go_simp;first | exact rfl | exact ⟨rfl,hW⟩))
    refine detSeq_nil (fun W3 hW3 => ?_)
    have hb2:=Lib.hid (hb.out.trans (hW3.mono hb.out.size))
    clear hW3 hb hz
    go_wp2_with fail
    go_ret2
    exact ⟨by rw [hf.out];simp,hb2.out⟩
end
open Go.RowKit
section
variable {D:Type}
set_option maxHeartbeats 1000000 in
set_option maxRecDepth 100000 in
theorem bsf_Sta (H:Frz) (f:D → Nat → Value) (kf:Nat) (tv:Value) (c:D → Int) (ds:List D) (hp:∀ (W:World) (d:D),d ∈ ds → H.In W → Calls Tryz.prog kf #[.agg #[f d 0,f d 1,f d 2,f d 3,f d 4,f d 5,f d 6,f d 7],tv] W fun e W' => e = .returned (.int .i64 (c d)) ∧ Below W.heap.size W W')
  (hcall:∀ (a b:Value) (W:World),(callFunc kf #[a,b]).run Tryz.prog W = .ok (.enter kf #[a,b]) W)
  (A:Option Addr) (cap:Nat) (w:World) (hH:H.In w) (hR:Rw H A 8 f ds) (hl:ds.length ≤ 1000000) (m:Nat) (hm:m ≤ ds.length) (hlo:∀ i (h:i < ds.length),i < m → c ds[i] < 0) (hhi:∀ i (h:i < ds.length),m ≤ i → 0 ≤ c ds[i]) :
  Calls Tryz.prog 98 #[.slice A ds.length cap,tv,.func (.func kf) #[] #[]] w fun e w' => e = .returned (.tuple #[.int .i64 m,.bool (hasAt c ds m)]) ∧ Below w.heap.size w w':=by
 have HP:=Lib.hid hp
 have HR:=Lib.hid hR
 have HH:=Lib.hid hH
 have HLO:=Lib.hid hlo
 have HHI:=Lib.hid hhi
 clear hp hR hH hlo hhi
 go_enter Tryz.func98,Tryz.ntmps98
 go_wp2_with fail
 go_loopw [9,10,11] (fun ti tj _ wr => ∃ i j:Nat,i ≤ m ∧ m ≤ j ∧ j ≤ ds.length ∧ ti = .int .i64 i ∧ tj = .int .i64 j ∧ Hid (Below w.heap.size w wr)) (fun ti tj _ _ => (intOf tj - intOf ti).toNat)
 case atStart => exact ⟨0,ds.length,by omega,by omega,by omega,rfl,rfl,Below.refl _ _⟩
 case round =>
  obtain ⟨i,j,hi,hj,hjl,rfl,rfl,hb⟩:=hrel
  by_cases hlt:i < j
  ·have e1:IntKind.i64.wrap ((i:Int) + (j:Int)) = (i:Int) + (j:Int):=IntWalk.i64_in _ (by omega)
   obtain ⟨h,hh⟩:∃ h,h = (i + j) / 2:=⟨_,rfl⟩
   have hhl:h < ds.length:=by omega
   have hih:i ≤ h:=by omega
   have hhj:h < j:=by omega
   have k2:((i:Int) + (j:Int)) / 2 = (h:Int):=by omega
   obtain ⟨b,off,rfl,hbl,hc⟩:=HR.out.at_ (HH.out.below hb.out) hhl (by omega)
   have c0:wr.cell? ⟨b,off + h * 8,none⟩ = some (f ds[h] 0):=hc 0 (by omega)
   have c1:wr.cell? ⟨b,off + h * 8 + 1,none⟩ = some (f ds[h] 1):=hc 1 (by omega)
   have c2:wr.cell? ⟨b,off + h * 8 + 2,none⟩ = some (f ds[h] 2):=hc 2 (by omega)
   have c3:wr.cell? ⟨b,off + h * 8 + 3,none⟩ = some (f ds[h] 3):=hc 3 (by omega)
   have c4:wr.cell? ⟨b,off + h * 8 + 4,none⟩ = some (f ds[h] 4):=hc 4 (by omega)
   have c5:wr.cell? ⟨b,off + h * 8 + 5,none⟩ = some (f ds[h] 5):=hc 5 (by omega)
   have c6:wr.cell? ⟨b,off + h * 8 + 6,none⟩ = some (f ds[h] 6):=hc 6 (by omega)
   have c7:wr.cell? ⟨b,off + h * 8 + 7,none⟩ = some (f ds[h] 7):=hc 7 (by omega)
   have HC:=Lib.hid (fun W hW => HP.out W ds[h] (List.getElem_mem hhl) hW)
   have HL:=Lib.hid (HLO.out h hhl)
   have HU:=Lib.hid (HHI.out h hhl)
   clear hc hh
   generalize hpd:c ds[h] = q at HC HL HU
   generalize f ds[h] 0 = x0 at c0 HC
   generalize f ds[h] 1 = x1 at c1 HC
   generalize f ds[h] 2 = x2 at c2 HC
   generalize f ds[h] 3 = x3 at c3 HC
   generalize f ds[h] 4 = x4 at c4 HC
   generalize f ds[h] 5 = x5 at c5 HC
   generalize f ds[h] 6 = x6 at c6 HC
   generalize f ds[h] 7 = x7 at c7 HC
   clear hpd
   go_wp2_with fail
   refine (HC.out _ (HH.out.below hb.out)).mono ?_
   rintro e w1 ⟨rfl,hb1⟩
   have hb2:=Lib.hid (hb.out.trans (hb1.mono hb.out.size))
   clear hb1 hb k2
   by_cases hq:q < 0
   ·have hhm:h < m:=by
     apply Classical.byContradiction
     intro hn
     have:=HU.out (by omega)
     omega
    go_wp2_with fail
    go_roundw
    case rel => exact ⟨h + 1,j,by omega,by omega,by omega,by go_num,rfl,hb2⟩
    case measure => simp [intOf];omega
   ·have hhm:m ≤ h:=by
     apply Classical.byContradiction
     intro hn
     exact hq (HL.out (by omega))
    go_wp2_with fail
    go_roundw
    case rel => exact ⟨i,h,by omega,by omega,by omega,rfl,rfl,hb2⟩
    case measure => simp [intOf];omega
  ·have him:i = m:=by omega
   subst him
   by_cases hml:i < ds.length
   ·have d1:decide ((i:Int) < (ds.length:Int)) = true:=by simpa using hml
    obtain ⟨b,off,rfl,hbl,hc⟩:=HR.out.at_ (HH.out.below hb.out) hml (by omega)
    have c0:wr.cell? ⟨b,off + i * 8,none⟩ = some (f ds[i] 0):=hc 0 (by omega)
    have c1:wr.cell? ⟨b,off + i * 8 + 1,none⟩ = some (f ds[i] 1):=hc 1 (by omega)
    have c2:wr.cell? ⟨b,off + i * 8 + 2,none⟩ = some (f ds[i] 2):=hc 2 (by omega)
    have c3:wr.cell? ⟨b,off + i * 8 + 3,none⟩ = some (f ds[i] 3):=hc 3 (by omega)
    have c4:wr.cell? ⟨b,off + i * 8 + 4,none⟩ = some (f ds[i] 4):=hc 4 (by omega)
    have c5:wr.cell? ⟨b,off + i * 8 + 5,none⟩ = some (f ds[i] 5):=hc 5 (by omega)
    have c6:wr.cell? ⟨b,off + i * 8 + 6,none⟩ = some (f ds[i] 6):=hc 6 (by omega)
    have c7:wr.cell? ⟨b,off + i * 8 + 7,none⟩ = some (f ds[i] 7):=hc 7 (by omega)
    have HC:=Lib.hid (fun W hW => HP.out W ds[i] (List.getElem_mem hml) hW)
    have HV:=Lib.hid (hasAt_lt (c:=c) hml)
    clear hc
    generalize hpd:c ds[i] = q at HC HV
    generalize f ds[i] 0 = x0 at c0 HC
    generalize f ds[i] 1 = x1 at c1 HC
    generalize f ds[i] 2 = x2 at c2 HC
    generalize f ds[i] 3 = x3 at c3 HC
    generalize f ds[i] 4 = x4 at c4 HC
    generalize f ds[i] 5 = x5 at c5 HC
    generalize f ds[i] 6 = x6 at c6 HC
    generalize f ds[i] 7 = x7 at c7 HC
    clear hpd
    go_wp2_with fail
    refine (HC.out _ (HH.out.below hb.out)).mono ?_
    rintro e w1 ⟨rfl,hb1⟩
    have hb2:=Lib.hid (hb.out.trans (hb1.mono hb.out.size))
    clear hb1 hb
    go_wp2_with fail
    go_ret2
    exact ⟨by rw [HV.out];simp,hb2.out⟩
   ·have hf:=Lib.hid (hasAt_ge (c:=c) (show ds.length ≤ i by omega))
    go_wp2_with fail
    go_ret2
    exact ⟨by rw [hf.out];simp,hb.out⟩
end
open Go.RowKit
section
variable {D:Type} {w:World} {g T k B:Nat} {f:D → Nat → Value} {ds:List D} {rest:List Value} {v:Value}
theorem cellsOf_set (i j:Nat) (hi:i < ds.length) (hj:j < k) {d':D} {x:Value} (hx:f d' j = x) (ho:∀ m,m < k → m ≠ j → f d' m = f ds[i] m):(cellsOf k f ds).set (i * k + j) x = cellsOf k f (ds.set i d'):=by
 have e1:ds.set i d' = ds.take i ++ d' :: ds.drop (i + 1):=List.set_eq_take_append_cons_drop .. |>.trans (by rw [if_pos hi])
 have l1:(cellsOf k f (ds.take i)).length = i * k:=by rw [cellsOf_len,List.length_take];congr 1;omega
 have e3:cellsOf k f ds = cellsOf k f (ds.take i) ++ ((List.range k).map (f ds[i]) ++ cellsOf k f (ds.drop (i + 1))):=by
  have h3:cellsOf k f ds = cellsOf k f (ds.take i ++ ds.drop i):=by rw [List.take_append_drop]
  rw [h3,cellsOf_split]
  congr 1
  rw [List.drop_eq_getElem_cons hi]
  rfl
 have e4:cellsOf k f (ds.take i ++ d' :: ds.drop (i + 1)) = cellsOf k f (ds.take i) ++ ((List.range k).map (f d') ++ cellsOf k f (ds.drop (i + 1))):=by
  rw [cellsOf_split]
  rfl
 rw [e1,e4,e3,List.set_append_right _ _ (by rw [l1];omega),l1,show i * k + j - i * k = j from by omega,List.set_append_left _ _ (by simpa using hj)]
 congr 2
 apply List.ext_getElem
 ·simp
 ·intro n h1 h2
  simp at h1 h2
  by_cases e:n = j
  ·subst e;simp [hx]
  ·rw [List.getElem_set_ne (by omega)]
   simp
   exact (ho n h1 e).symm
theorem KBlk.upd (h:KBlk w g T k f ds rest) (i j:Nat) (hi:i < ds.length) (hj:j < k) {d':D} {x:Value} (hx:f d' j = x) (ho:∀ m,m < k → m ≠ j → f d' m = f ds[i] m):KBlk (w.setCell ⟨g,i * k + j,none⟩ x) g T k f (ds.set i d') rest:=by
 unfold KBlk at h ⊢
 have hlt:=(List.getElem?_eq_some_iff.1 (cellsOf_get k f ds i j hi hj)).1
 simp only [World.setCell,Array.getElem?_modify,h]
 simp [List.set_append_left _ _ hlt,cellsOf_set i j hi hj hx ho]
theorem Orow.form (h:Orow w B T k f v ds) (hne:ds ≠ []):∃ g cap rest,v = .slice (some ⟨g,0,none⟩) ds.length cap ∧ ds.length ≤ cap ∧ B ≤ g ∧ g < w.heap.size ∧ cap ≤ maxLen ∧ KBlk w g T k f ds rest ∧ rest.length = cap * k - ds.length * k:=by
 rcases h.2 with ⟨_,hl⟩ | ⟨g,cap,cur,hv,hB,hh,hle,hm,hs,ht⟩
 ·exact absurd (List.eq_nil_of_length_eq_zero hl) hne
 ·refine ⟨g,cap,cur.toList.drop (ds.length * k),hv,hle,hB,lt_of_heap hh,hm,?_,by simp [hs]⟩
  unfold KBlk
  rw [← ht,List.take_append_drop]
  exact hh
theorem Orow.of_blk {cap:Nat} (h:KBlk w g T k f ds rest) (hB:B ≤ g) (hm:cap ≤ maxLen) (hle:ds.length ≤ cap) (hr:rest.length = cap * k - ds.length * k):Orow w B T k f (.slice (some ⟨g,0,none⟩) ds.length cap) ds:=by
 refine ⟨by rw [cellsOf_len],Or.inr ⟨g,cap,_,rfl,hB,h,hle,hm,?_,?_⟩⟩
 ·have:=Nat.mul_le_mul_right k hle
  simp [cellsOf_len,hr];omega
 ·simp
  rw [List.take_left' (by rw [cellsOf_len])]
theorem Orow.freezeN (h:Orow w B T k f v ds) (H:Frz) :
  ∃ (A:Option Addr) (cap:Nat) (H':Frz),v = .slice A ds.length cap ∧ ds.length ≤ cap ∧ (H.In w → H'.In w) ∧ ((∀ g,v.ownBlock = some g → H g = none) → H.Le H') ∧ Rw H' A k f ds ∧ (∀ b,v.ownBlock ≠ some b → H' b = H b):=by
 rcases h.2 with ⟨rfl,hn⟩ | ⟨g,cap,cur,rfl,hB,hh,hle,hm,hs,ht⟩
 ·have:ds = []:=List.eq_nil_of_length_eq_zero hn
  subst this
  exact ⟨none,0,H,rfl,Nat.le_refl _,id,fun _ => Frz.Le.refl _,Rw.nil,fun _ _ => rfl⟩
 ·refine ⟨some ⟨g,0,none⟩,cap,H.add g (.cells cur T (0,0)),rfl,hle,fun hI => hI.add hh,fun hN => Frz.le_add (hN g rfl),?_,fun b hb => Frz.add_other (fun e => hb (by rw [e];rfl))⟩
  intro i hi
  refine ⟨g,0,rfl,fun j hj => ?_⟩
  have hx:=cellsOf_get k f ds i j hi hj
  rw [← ht] at hx
  have hlt:i * k + j < ds.length * k:=by
   have:(i + 1) * k ≤ ds.length * k:=Nat.mul_le_mul_right _ hi
   rw [Nat.succ_mul] at this;omega
  rw [List.getElem?_take_of_lt hlt] at hx
  unfold Frz.cell?
  rw [show (⟨g,0 + i * k + j,none⟩:Addr).block = g from rfl,Frz.add_at]
  simpa using hx
theorem KBlk.cell1 (h:KBlk w g T 1 f ds rest) (i:Nat) (hi:i < ds.length):w.cell? ⟨g,i,none⟩ = some (f ds[i] 0):=by simpa using h.cell i 0 hi (by omega)
theorem KBlk.set1 (h:KBlk w g T 1 f ds rest) (i:Nat) (hi:i < ds.length) (d':D):KBlk (w.setCell ⟨g,i,none⟩ (f d' 0)) g T 1 f (ds.set i d') rest:=by
 have:=h.upd i 0 hi (by omega) (d':=d') rfl (fun m hm hne => absurd hm (by omega))
 simpa using this
theorem KBlk.other (h:KBlk w g T k f ds rest) {a:Addr} (hne:a.block ≠ g) (u:Value):KBlk (w.setCell a u) g T k f ds rest :=
 (Below.heap_setCell w a u g (fun e => hne e.symm)).trans h
end
open Go.RowKit
set_option maxHeartbeats 400000 in
theorem cwithin_any (n l h:Int) (w:World):Calls Tryz.prog 44 #[.int .i64 n,.int .i64 l,.int .i64 h] w fun e w' => e = .returned (.bool (decide (l ≤ n) && decide (n ≤ h))) ∧ w = w':=by
 by_cases h1:l ≤ n
 ·go_enter Tryz.func44,Tryz.ntmps44
  go_wp2
  go_ret
  exact ⟨by simp [h1],rfl⟩
 ·go_enter Tryz.func44,Tryz.ntmps44
  go_wp2
  go_ret
  exact ⟨by simp;omega,rfl⟩
set_option maxHeartbeats 400000 in
theorem isChannel_any (n:Int) (w:World):Calls Tryz.prog 46 #[.int .i64 n] w fun e w' => e = .returned (.bool (chB n)) ∧ w = w':=by
 go_enter Tryz.func46,Tryz.ntmps46
 go_wp2_with fail
 refine (cwithin_any _ _ _ _).mono ?_
 rintro e w' ⟨rfl,rfl⟩
 rw [show (decide ((1:Int) ≤ n) && decide (n ≤ 4)) = chB n from rfl]
 go_wp2_with fail
 go_ret
 exact ⟨rfl,rfl⟩
set_option maxHeartbeats 400000 in
theorem ofChannel_any (n:Int) (w:World):Calls Tryz.prog 32 #[.int .i64 n] w fun e w' => e = .returned (.bool (ofCh n)) ∧ w = w':=by
 by_cases h1:n = 4
 ·have h2:(n == 4) = true:=by simpa using h1
  have hv:Hid (ofCh n = true):=by show _ = _;simp [ofCh,h1]
  clear h1
  go_enter Tryz.func32,Tryz.ntmps32
  go_wp2
  go_ret
  exact ⟨ret_bool' hv.out.symm,rfl⟩
 ·have h2:(n == 4) = false:=by simpa using h1
  have hv:Hid (ofCh n = (n == 5)):=by
   show _ = _
   unfold ofCh
   rw [decide_eq_false h1,Bool.false_or]
   rw [Bool.eq_iff_iff];simp
  clear h1
  go_enter Tryz.func32,Tryz.ntmps32
  go_wp2
  go_ret
  exact ⟨ret_bool' hv.out.symm,rfl⟩
set_option maxHeartbeats 400000 in
theorem purName_any (d:PurD) (name:ByteArray) (w:World):Calls Tryz.prog 76 #[.agg #[fPu d 0,fPu d 1],.string name] w fun e w' => e = .returned (.int .i64 (cmpS d.name name)) ∧ Below w.heap.size w w':=by
 have hb:=Lib.hid ((Below.refl w.heap.size w).alloc (Nat.le_refl _) (.cells #[.string d.name,.slice d.adr d.terms.length d.cap] 66))
 rw [show fPu d 0 = .string d.name from rfl,show fPu d 1 = .slice d.adr d.terms.length d.cap from rfl]
 go_enter Tryz.func76,Tryz.ntmps76
 go_wp2_with fail
 refine (cmpStr_any _ _ _).mono ?_
 rintro e w' ⟨rfl,rfl⟩
 generalize hc:cmpS d.name name = c
 have HC:=Lib.hid hc
 clear hc
 go_wp2_with fail
 go_ret
 exact ⟨ret_int HC.out.symm,hb.out⟩
set_option maxHeartbeats 1000000 in
set_option maxRecDepth 100000 in
theorem termOrder_raw (r s:ByteArray) (c d:Int) (f1 f2:Bool) (n1 n2 m1 m2:Int) (w:World):Calls Tryz.prog 93 #[.agg #[.string r,.int .i64 c,.bool f1,.int .i64 n1,.int .i64 m1],.agg #[.string s,.int .i64 d,.bool f2,.int .i64 n2,.int .i64 m2]] w fun e w' => e = .returned (.int .i64 (orL [cmpS r s,cmpI c d])) ∧ Below w.heap.size w w':=by
 have hb:=Lib.hid (new2 (w:=w) (.cells #[.string r,.int .i64 c,.bool f1,.int .i64 n1,.int .i64 m1] 68) (.cells #[.string s,.int .i64 d,.bool f2,.int .i64 n2,.int .i64 m2] 68))
 have z0:((w.alloc (.cells #[.string r,.int .i64 c,.bool f1,.int .i64 n1,.int .i64 m1] 68)).alloc (.cells #[.string s,.int .i64 d,.bool f2,.int .i64 n2,.int .i64 m2] 68)).cell? ⟨w.heap.size,0,none⟩ = some (.string r):=oldc (newc 0 rfl)
 have z1:((w.alloc (.cells #[.string r,.int .i64 c,.bool f1,.int .i64 n1,.int .i64 m1] 68)).alloc (.cells #[.string s,.int .i64 d,.bool f2,.int .i64 n2,.int .i64 m2] 68)).cell? ⟨w.heap.size,1,none⟩ = some (.int .i64 c):=oldc (newc 1 rfl)
 have y0:((w.alloc (.cells #[.string r,.int .i64 c,.bool f1,.int .i64 n1,.int .i64 m1] 68)).alloc (.cells #[.string s,.int .i64 d,.bool f2,.int .i64 n2,.int .i64 m2] 68)).cell? ⟨w.heap.size + 1,0,none⟩ = some (.string s):=by rw [← sizeA w (.cells #[.string r,.int .i64 c,.bool f1,.int .i64 n1,.int .i64 m1] 68)];exact newc 0 rfl
 have y1:((w.alloc (.cells #[.string r,.int .i64 c,.bool f1,.int .i64 n1,.int .i64 m1] 68)).alloc (.cells #[.string s,.int .i64 d,.bool f2,.int .i64 n2,.int .i64 m2] 68)).cell? ⟨w.heap.size + 1,1,none⟩ = some (.int .i64 d):=by rw [← sizeA w (.cells #[.string r,.int .i64 c,.bool f1,.int .i64 n1,.int .i64 m1] 68)];exact newc 1 rfl
 go_enter Tryz.func93,Tryz.ntmps93
 go_wp2_with fail
 generalize (w.alloc (.cells #[.string r,.int .i64 c,.bool f1,.int .i64 n1,.int .i64 m1] 68)).alloc (.cells #[.string s,.int .i64 d,.bool f2,.int .i64 n2,.int .i64 m2] 68) = W2 at *
 have K0:=lift_cell z0
 have K1:=lift_cell z1
 have J0:=lift_cell y0
 have J1:=lift_cell y1
 clear z0 z1 y0 y1
 (refine wp_region_det 10 17 (fun W => Below (W2).heap.size (W2) W) (by kernel_rfl) (by kernel_rfl) (by rfl) (Below.refl _ _).drew ?_;simp only [List.take_succ_cons,List.take_zero,List.drop_succ_cons,List.drop_zero])
 iterate 4 (refine detSeq_op rfl ?_ (fun W hW => ?_) ?_;rotate_left;(focus simp only [OpV];go_simp;first | exact rfl | exact ⟨rfl,hW⟩))
 (refine detSeq_op rfl ?_ (fun W hW => ?_) ?_;rotate_left;focus (simp only [OpV];go_simp;refine (cmpStr_b r s W).mono ?_;rintro e w' ⟨rfl,hb⟩;refine ⟨_,rfl,?_,det_back hW hb⟩;exact rfl))
 iterate 4 (refine detSeq_op rfl ?_ (fun W hW => ?_) ?_;rotate_left;(focus simp only [OpV];go_simp;first | exact rfl | exact ⟨rfl,hW⟩))
 (refine detSeq_op rfl ?_ (fun W hW => ?_) ?_;rotate_left;focus (simp only [OpV];go_simp;refine (cmpInt_b c d W).mono ?_;rintro e w' ⟨rfl,hb⟩;refine ⟨_,rfl,?_,det_back hW hb⟩;exact rfl))
 refine detSeq_nil (fun W3 hW3 => ?_)
 have HB3:=Lib.hid (hb.out.trans (hW3.mono hb.out.size))
 have HIN:Hid (Ints (W3.alloc (.cells #[.int .i64 (cmpS r s),.int .i64 (cmpI c d)] 3)) (some ⟨W3.heap.size,0,none⟩) [cmpS r s,cmpI c d]):=Ints.of_row (heap_at rfl) rfl
 clear K0 K1 J0 J1 hW3
 generalize hu:cmpS r s = u at HIN
 generalize hv:cmpI c d = v at HIN
 have HU:=Lib.hid hu
 have HV:=Lib.hid hv
 clear hu hv
 go_wp2_with fail
 refine (orL_any _ _ [u,v] _ HIN.out (by simp)).mono ?_
 rintro e w' ⟨rfl,rfl⟩
 generalize hq:orL [u,v] = q
 have HQ:=Lib.hid hq
 clear hq
 have HB4:=Lib.hid (HB3.out.alloc HB3.out.size (.cells #[.int .i64 u,.int .i64 v] 3))
 go_wp2_with fail
 go_ret
 exact ⟨ret_int (by rw [HU.out,HV.out];exact HQ.out.symm),HB4.out⟩
theorem termOrder_any (a b:TermD) (w:World):Calls Tryz.prog 93 #[.agg #[fTe a 0,fTe a 1,fTe a 2,fTe a 3,fTe a 4],.agg #[fTe b 0,fTe b 1,fTe b 2,fTe b 3,fTe b 4]] w fun e w' => e = .returned (.int .i64 (teCmp a b)) ∧ Below w.heap.size w w' :=
 (termOrder_raw a.region b.region a.ch b.ch a.free b.free a.days b.days a.wait b.wait w).mono fun e w' ⟨h1,h2⟩ => ⟨by rw [h1,orL_two];rfl,h2⟩
end Go.Proofs.YtcncifmanodabaaGreatDoor
