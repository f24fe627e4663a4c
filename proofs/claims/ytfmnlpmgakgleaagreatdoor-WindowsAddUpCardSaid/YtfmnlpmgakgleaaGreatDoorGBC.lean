/- Texts of this claim, put together: DayAt, Zone, Series, WinP. -/
import Derived.Test.YtfmnlpmgakgleaaGreatDoorGAK
import Derived.Test.YtfmnlpmgakgleaaGreatDoorGAG
import Derived.Test.YtfmnlpmgakgleaaGreatDoorGAU
import Derived.Test.YtfmnlpmgakgleaaGreatDoorGBB
import Derived.Test.YtfmnlpmgakgleaaGreatDoorGAQ
namespace Go.Proofs.YtfmnlpmgakgleaaGreatDoor
set_option linter.unusedVariables false
open Go.RowKit
def zoneV (nm:ByteArray) (sb:Nat):Value:=.agg #[.string nm,.slice (some ⟨sb,0,none⟩) 1 1]
set_option maxHeartbeats 1000000 in
set_option maxRecDepth 100000 in
theorem later_any (zb ab sb:Nat) (nm:ByteArray) (at_:Int) (ha:0 ≤ at_) (V0:World) (hz:V0.heap[zb]? = some (.cells #[.string nm,.slice (some ⟨sb,0,none⟩) 1 1] 60 (0,0))) (hab:V0.heap[ab]? = some (.cells #[.int .i64 at_] 3 (0,0))) (hs:V0.heap[sb]? = some (.cells #[.int .i64 0,.int .i64 0] 57 (0,0))) :
  Calls Tryz.prog 170 #[.int .i64 0,.pointer (some ⟨zb,0,none⟩),.pointer (some ⟨ab,0,none⟩)] V0 fun e w' => e = .returned (.bool false) ∧ Below V0.heap.size V0 w':=by
 have K1:=lift_cell (cell_h hz 1 (v:=.slice (some ⟨sb,0,none⟩) 1 1) rfl)
 have K2:=lift_cell (cell_h hab 0 (v:=.int .i64 at_) rfl)
 have K3:=lift_cell (cell_h hs 0 (v:=.int .i64 0) rfl)
 have d1:decide (at_ < 0) = false:=by simp;omega
 clear hz hab hs
 go_enter Tryz.func170,Tryz.ntmps170
 go_upto_region 1 with (fail)
 (refine wp_region_det 8 13 (fun W => Below (V0).heap.size (V0) W) (by kernel_rfl) (by kernel_rfl) (by rfl) (Below.refl _ _).drew ?_;simp only [List.take_succ_cons,List.take_zero,List.drop_succ_cons,List.drop_zero])
 iterate 8 (refine detSeq_op rfl ?_ (fun W hW => ?_) ?_;rotate_left;(focus simp only [OpV];go_simp;first | exact rfl | exact ⟨rfl,hW⟩))
 refine detSeq_nil (fun W3 hW3 => ?_)
 have HB:=Lib.hid hW3
 clear K1 K2 K3 hW3
 go_wp2_with fail
 go_ret
 exact ⟨rfl,HB.out⟩
set_option maxHeartbeats 2000000 in
set_option maxRecDepth 100000 in
theorem search_one (zb ab sb:Nat) (nm:ByteArray) (at_:Int) (ha:0 ≤ at_) (W:World) (hz:W.heap[zb]? = some (.cells #[.string nm,.slice (some ⟨sb,0,none⟩) 1 1] 60 (0,0))) (hab:W.heap[ab]? = some (.cells #[.int .i64 at_] 3 (0,0))) (hs:W.heap[sb]? = some (.cells #[.int .i64 0,.int .i64 0] 57 (0,0))) :
  Calls Tryz.prog 169 #[.int .i64 1,.func (.func 170) #[] #[.pointer (some ⟨zb,0,none⟩),.pointer (some ⟨ab,0,none⟩)]] W fun e w' => e = .returned (.int .i64 1) ∧ Below W.heap.size W w':=by
 have HL:=Lib.hid (later_any zb ab sb nm at_ ha W hz hab hs)
 have a1:=fun W:World => (show (convert 3 106 (.int .i64 1)).run Tryz.prog W = .ok (.int .u64 1) W by kernel_rfl)
 have a2:=fun W:World => (show (convert 106 3 (.int .u64 0)).run Tryz.prog W = .ok (.int .i64 0) W by kernel_rfl)
 clear hz hab hs
 go_enter Tryz.func169,Tryz.ntmps169
 go_wp2_with fail
 go_loopw [5,6] (fun a b wr => b = .int .i64 1 ∧ ((a = .int .i64 0 ∧ Hid (wr = W)) ∨ (a = .int .i64 1 ∧ Hid (Below W.heap.size W wr)))) (fun a _ _ => 1 - (intOf a).toNat)
 case atStart => exact ⟨rfl,Or.inl ⟨rfl,rfl⟩⟩
 case round =>
  obtain ⟨rfl,⟨rfl,hw⟩ | ⟨rfl,hb⟩⟩:=hrel
  ·have hw:=hw.out
   subst hw
   go_wp2_with fail
   refine HL.out.mono ?_
   rintro e W2 ⟨rfl,hb⟩
   have HB:=Lib.hid hb
   clear hb HL
   go_wp2_with fail
   go_roundw
   case rel => exact ⟨rfl,Or.inr ⟨rfl,HB⟩⟩
   case measure => simp [intOf]
  ·go_wp2_with fail
   go_ret
   exact ⟨rfl,hb.out⟩
set_option maxHeartbeats 2000000 in
set_option maxRecDepth 100000 in
theorem localAt_any (sb:Nat) (nm:ByteArray) (at_:Int) (ha:0 ≤ at_) (ha2:at_ ≤ 100000) (V0:World) (hs:V0.heap[sb]? = some (.cells #[.int .i64 0,.int .i64 0] 57 (0,0))) :
  Calls Tryz.prog 115 #[zoneV nm sb,.int .i64 at_] V0 fun e w' => e = .returned (.int .i64 at_) ∧ Below V0.heap.size V0 w':=by
 unfold zoneV
 have hb1:=new1 (w:=V0) (.cells #[.string nm,.slice (some ⟨sb,0,none⟩) 1 1] 60)
 have hb2:=new1 (w:=V0.alloc (.cells #[.string nm,.slice (some ⟨sb,0,none⟩) 1 1] 60)) (.cells #[.int .i64 at_] 3)
 have h1:=(hb2.block _ (lt_of_heap (heap_alloc_new V0 (.cells #[.string nm,.slice (some ⟨sb,0,none⟩) 1 1] 60)))).trans (heap_alloc_new V0 (.cells #[.string nm,.slice (some ⟨sb,0,none⟩) 1 1] 60))
 have h2:((V0.alloc (.cells #[.string nm,.slice (some ⟨sb,0,none⟩) 1 1] 60)).alloc (.cells #[.int .i64 at_] 3)).heap[V0.heap.size + 1]? = some (.cells #[.int .i64 at_] 3 (0,0)):=heap_at (by simp)
 have hb:=hb1.trans (hb2.mono hb1.size)
 have h3:=(hb.block sb (lt_of_heap hs)).trans hs
 have HB:=Lib.hid hb
 have HS:=Lib.hid (search_one _ _ sb nm at_ ha _ h1 h2 h3)
 have K1:=Lib.hid (lift_cell (cell_h h1 1 (v:=.slice (some ⟨sb,0,none⟩) 1 1) rfl))
 have K2:=Lib.hid (lift_cell (cell_h h2 0 (v:=.int .i64 at_) rfl))
 have K3:=Lib.hid (lift_cell (cell_h h3 1 (v:=.int .i64 0) rfl))
 have x1:=cell_h h1 1 (v:=.slice (some ⟨sb,0,none⟩) 1 1) rfl
 clear hb1 hb2 h1 h2 h3 hb hs
 go_enter Tryz.func115,Tryz.ntmps115
 go_upto_region 1 with (fail)
 generalize (V0.alloc (.cells #[.string nm,.slice (some ⟨sb,0,none⟩) 1 1] 60)).alloc (.cells #[.int .i64 at_] 3) = V1 at *
 go_wp2_with fail
 refine HS.out.mono ?_
 rintro e V2 ⟨rfl,hb⟩
 have L1:=lift_cell (K1.out _ hb)
 have L2:=lift_cell (K2.out _ hb)
 have L3:=lift_cell (K3.out _ hb)
 have HB2:=Lib.hid (HB.out.trans (hb.mono HB.out.size))
 have wa:IntKind.i64.wrap at_ = at_:=IntWalk.i64_in _ (by omega)
 have w0:IntKind.i64.wrap 0 = 0:=by decide
 clear hb x1 K1 K2 K3 HS
 go_upto_region 2 with (fail)
 (refine wp_region_det 9 20 (fun W => Below (V2).heap.size (V2) W) (by kernel_rfl) (by kernel_rfl) (by rfl) (Below.refl _ _).drew ?_;simp only [List.take_succ_cons,List.take_zero,List.drop_succ_cons,List.drop_zero])
 iterate 9 (refine detSeq_op rfl ?_ (fun W hW => ?_) ?_;rotate_left;(focus simp only [OpV];go_simp;first | exact rfl | exact ⟨rfl,hW⟩))
 refine detSeq_nil (fun V3 hV3 => ?_)
 have HB3:=Lib.hid (HB2.out.trans (hV3.mono HB2.out.size))
 clear L1 L2 L3 hV3
 go_wp2_with fail
 go_ret
 exact ⟨rfl,HB3.out⟩
set_option maxHeartbeats 2000000 in
set_option maxRecDepth 100000 in
theorem dayAt_any (sb:Nat) (nm:ByteArray) (at_:Int) (ha:0 ≤ at_) (ha2:at_ ≤ 100000) (V0:World) (hs:V0.heap[sb]? = some (.cells #[.int .i64 0,.int .i64 0] 57 (0,0))) :
  Calls Tryz.prog 55 #[zoneV nm sb,.int .i64 at_] V0 fun e w' => (∃ n:Nat,e = .returned (.int .i64 n) ∧ n < 100) ∧ Below V0.heap.size V0 w':=by
 have hb1:=new1 (w:=V0) (.cells #[.string nm,.slice (some ⟨sb,0,none⟩) 1 1] 60)
 have h1:=heap_alloc_new V0 (.cells #[.string nm,.slice (some ⟨sb,0,none⟩) 1 1] 60)
 have h3:=(hb1.block sb (lt_of_heap hs)).trans hs
 have HB:=Lib.hid hb1
 have HL:=Lib.hid (localAt_any sb nm at_ ha ha2 _ h3)
 have x0:=cell_h h1 0 (v:=.string nm) rfl
 have x1:=cell_h h1 1 (v:=.slice (some ⟨sb,0,none⟩) 1 1) rfl
 have hq:∃ n:Nat,(at_ + 1440).tdiv 1440 = (n:Int) + 1 ∧ n < 100:=⟨((at_ + 1440) / 1440 - 1).toNat,by rw [Int.tdiv_eq_ediv_of_nonneg (by omega)];omega,by omega⟩
 obtain ⟨n,hn1,hn2⟩:=hq
 have wa:IntKind.i64.wrap (at_ + 1440) = at_ + 1440:=IntWalk.i64_in _ (by omega)
 have d1:decide (at_ + 1440 < 0) = false:=by simp;omega
 have wn:IntKind.i64.wrap ((n:Int) + 1) = (n:Int) + 1:=IntWalk.i64_in _ (by omega)
 have wm:IntKind.i64.wrap (n:Int) = (n:Int):=IntWalk.i64_in _ (by omega)
 unfold zoneV at HL ⊢
 clear hb1 h1 h3 hs
 go_enter Tryz.func55,Tryz.ntmps55
 go_upto_region 1 with (fail)
 generalize V0.alloc (.cells #[.string nm,.slice (some ⟨sb,0,none⟩) 1 1] 60) = V1 at *
 go_wp2_with fail
 refine HL.out.mono ?_
 rintro e V2 ⟨rfl,hb⟩
 have HB2:=Lib.hid (HB.out.trans (hb.mono HB.out.size))
 clear hb x0 x1 HL
 go_wp2_with fail
 go_ret
 exact ⟨⟨n,rfl,hn2⟩,HB2.out⟩
open Go.RowKit
set_option maxHeartbeats 4000000 in
set_option maxRecDepth 100000 in
theorem checkZone_any (sb:Nat) (nm:ByteArray) (hk:isKey nm = true) (hn:nm.size ≤ 1000) (V0:World) (hs:V0.heap[sb]? = some (.cells #[.int .i64 0,.int .i64 0] 57 (0,0))) :
  Calls Tryz.prog 54 #[zoneV nm sb] V0 fun e w' => e = .returned (.int .i64 0) ∧ Below V0.heap.size V0 w':=by
 unfold zoneV
 have hb1:=new1 (w:=V0) (.cells #[.string nm,.slice (some ⟨sb,0,none⟩) 1 1] 60)
 have h1:=heap_alloc_new V0 (.cells #[.string nm,.slice (some ⟨sb,0,none⟩) 1 1] 60)
 have h3:=(hb1.block sb (lt_of_heap hs)).trans hs
 have HB:=Lib.hid hb1
 have x0:=cell_h h1 0 (v:=.string nm) rfl
 have x1:=cell_h h1 1 (v:=.slice (some ⟨sb,0,none⟩) 1 1) rfl
 have K1:=Lib.hid (lift_cell x1)
 have K3:=Lib.hid (lift_cell (cell_h h3 0 (v:=.int .i64 0) rfl))
 have K4:=Lib.hid (lift_cell (cell_h h3 1 (v:=.int .i64 0) rfl))
 have HK:=Lib.hid hk
 clear hb1 h1 h3 hs hk
 go_enter Tryz.func54,Tryz.ntmps54
 go_upto_region 1 with (fail)
 generalize V0.alloc (.cells #[.string nm,.slice (some ⟨sb,0,none⟩) 1 1] 60) = V1 at *
 go_wp2_with fail
 refine (isKey_any nm _ (by omega)).mono ?_
 rintro e w' ⟨rfl,rfl⟩
 rw [HK.out]
 go_wp2_with fail
 clear x0 x1
 go_loopw [23] (fun t wr => ∃ i:Nat,i ≤ 1 ∧ t = .int .i64 i ∧ Hid (Below V1.heap.size V1 wr)) (fun t _ => 1 - (intOf t).toNat)
 case atStart => exact ⟨0,by omega,rfl,Below.refl _ _⟩
 case round =>
  obtain ⟨i,hi,rfl,hb⟩:=hrel
  have hcs:i = 0 ∨ i = 1:=by omega
  rcases hcs with rfl | rfl
  ·have c0:=K3.out _ hb.out
   have c1:=K4.out _ hb.out
   have hn1:=new1 (w:=wr) (.cells #[.int .i64 0,.int .i64 0] 57)
   have z0:(wr.alloc (.cells #[.int .i64 0,.int .i64 0] 57)).cell? ⟨wr.heap.size,0,none⟩ = some (.int .i64 0):=newc 0 rfl
   have z1:(wr.alloc (.cells #[.int .i64 0,.int .i64 0] 57)).cell? ⟨wr.heap.size,1,none⟩ = some (.int .i64 0):=newc 1 rfl
   have HB2:=Lib.hid (hb.out.trans (hn1.mono hb.out.size))
   clear hn1 hb
   go_upto_region 10 with (fail)
   clear c0 c1
   generalize wr.alloc (.cells #[.int .i64 0,.int .i64 0] 57) = V2 at *
   go_wp2_with fail
   refine (ewithin_any _ _ _ _).mono ?_
   rintro e w' ⟨rfl,rfl⟩
   rw [show (decide ((0:Int) ≤ 0) && decide ((0:Int) ≤ 4321439)) = true by decide]
   go_wp2_with fail
   refine (ewithin_any _ _ _ _).mono ?_
   rintro e w' ⟨rfl,rfl⟩
   rw [show (decide ((-720:Int) ≤ 0) && decide ((0:Int) ≤ 840)) = true by decide]
   go_upto_region 14 with (fail)
   (refine wp_region_det 15 64 (fun W => Below (V2).heap.size (V2) W) (by kernel_rfl) (by kernel_rfl) (by rfl) (Below.refl _ _).drew ?_;simp only [List.take_succ_cons,List.take_zero,List.drop_succ_cons,List.drop_zero])
   iterate 3 (refine detSeq_op rfl ?_ (fun W hW => ?_) ?_;rotate_left;(focus simp only [OpV];go_simp;first | exact rfl | exact ⟨rfl,hW⟩))
   iterate 11 (refine detSeq_no (by kernel_rfl) ?_)
   iterate 1 (refine detSeq_op rfl ?_ (fun W hW => ?_) ?_;rotate_left;(focus simp only [OpV];go_simp;first | exact rfl | exact ⟨rfl,hW⟩))
   refine detSeq_nil (fun V3 hV3 => ?_)
   have HB3:=Lib.hid (HB2.out.trans (hV3.mono HB2.out.size))
   clear hV3 z0 z1
   go_wp2_with fail
   go_roundw
   case rel => exact ⟨1,by omega,by go_num,HB3⟩
   case measure => simp [intOf]
  ·have HF:=Lib.hid (HB.out.trans (hb.out.mono HB.out.size))
   clear hb
   go_wp2_with fail
   go_ret
   exact ⟨rfl,HF.out⟩
open Go.RowKit
theorem sum_inc:∀ (cs:List Int) (d:Nat) (h:d < cs.length),(cs.set d (cs[d] + 1)).sum = cs.sum + 1
 | c :: cs,0,_ => by simp;omega
 | c :: cs,d + 1,h => by
  have:=sum_inc cs d (by simpa using h)
  simp
  omega
theorem sum_tab0 (n:Nat):(tab n fun _ => 0).sum = 0:=by
 unfold tab
 induction n with
 | zero => rfl
 | succ n ih => rw [List.range_succ,List.map_append,List.sum_append,ih];simp
def allW:WinD:=⟨0,4321440⟩
theorem allW_in {name:ByteArray} {d:EvD} (h:0 ≤ d.at_ ∧ d.at_ ≤ 100000):inW name allW d = (d.name.toList == name.toList):=by
 unfold inW allW
 simp
 intro _
 omega
def cntN (es:List EvD) (name:ByteArray):Int:=((namedF es name allW).length:Int)
theorem cntN_succ {es:List EvD} {name:ByteArray} {i:Nat} (h:i < es.length) (ha:0 ≤ es[i].at_ ∧ es[i].at_ ≤ 100000):cntN (es.take (i + 1)) name = if (es[i].name.toList == name.toList) = true then cntN (es.take i) name + 1 else cntN (es.take i) name:=by
 unfold cntN
 rw [namedF_succ h,allW_in ha]
 split
 ·simp
 ·rfl
structure DayS (g zb sb i:Nat) (cs:List Int) (nm:ByteArray) (n:Int) (w wr:World):Prop where
 blk:KBlk wr g 3 1 fI cs []
 len:cs.length = 701
 sum:cs.sum = n
 bnd:∀ c ∈ cs,0 ≤ c ∧ c ≤ i
 bel:Below w.heap.size w wr
 zone:wr.heap[zb]? = some (.cells #[.string nm,.slice (some ⟨sb,0,none⟩) 1 1] 60 (0,0))
 lo:w.heap.size ≤ g
section
variable {g zb sb i:Nat} {cs:List Int} {nm:ByteArray} {n:Int} {w wr w':World}
theorem DayS.call (h:DayS g zb sb i cs nm n w wr) (hb:Below wr.heap.size wr w'):DayS g zb sb i cs nm n w w' :=
 ⟨h.blk.keep hb,h.len,h.sum,h.bnd,h.bel.trans (hb.mono h.bel.size),(hb.block _ (lt_of_heap h.zone)).trans h.zone,h.lo⟩
theorem DayS.more (h:DayS g zb sb i cs nm n w wr):DayS g zb sb (i + 1) cs nm n w wr :=
 ⟨h.blk,h.len,h.sum,fun c hc => by have:=h.bnd c hc;omega,h.bel,h.zone,h.lo⟩
theorem DayS.inc (h:DayS g zb sb i cs nm n w wr) {d:Nat} (hd:d < cs.length):DayS g zb sb (i + 1) (cs.set d (cs[d] + 1)) nm (n + 1) w (wr.setCell ⟨g,d,none⟩ (.int .i64 (cs[d] + 1))):=by
 have hne:g ≠ zb:=by
  intro e
  subst e
  have h1:=h.blk
  unfold KBlk at h1
  rw [h.zone] at h1
  injection h1 with h1
  injection h1 with _ h2
  exact absurd h2 (by decide)
 have hg:=vm_setc (World.grownBy.refl wr (some g)) d (.int .i64 (cs[d] + 1))
 refine ⟨h.blk.set1 d hd (cs[d] + 1),by simp [h.len],by rw [sum_inc _ _ hd,h.sum],fun c hc => ?_,h.bel.grown hg h.bel.size (fun k hk => by injection hk with hk;have:=h.lo;omega),(hg.block _ (lt_of_heap h.zone) (fun e => hne (by injection e with e;exact e.symm))).trans h.zone,h.lo⟩
 rcases List.mem_or_eq_of_mem_set hc with hc | hc
 ·have:=h.bnd c hc;omega
 ·have:=h.bnd _ (List.getElem_mem hd);omega
end
def SerP (n:Int) (w:World) (e:Ending) (w':World):Prop:=∃ g cs,e = .returned (.tuple #[.slice (some ⟨g,0,none⟩) 701 701,.int .i64 0]) ∧ KBlk w' g 3 1 fI cs [] ∧ cs.length = 701 ∧ cs.sum = n ∧ (∀ c ∈ cs,0 ≤ c ∧ c ≤ 1000) ∧ Below w.heap.size w w'
set_option maxHeartbeats 8000000 in
set_option maxRecDepth 100000 in
theorem series_any (H:Frz) (hU:UtfIn H) (hM:MLen H) (A:Option Addr) (cap:Nat) (es:List EvD) (name nm:ByteArray) (sb:Nat) (w:World) (hH:H.In w) (hR:Rw H A 6 fEv es) (hI:∀ d ∈ es,EvIn H d) (hl:es.length ≤ 1000) (hr:RightEs es) (hat:∀ d ∈ es,0 ≤ d.at_ ∧ d.at_ ≤ 100000) (hk:isKey name = true ∧ name.size ≤ 1000) (hk2:isKey nm = true ∧ nm.size ≤ 1000)
  (hs:w.heap[sb]? = some (.cells #[.int .i64 0,.int .i64 0] 57 (0,0))) :
  Calls Tryz.prog 18 #[.slice A es.length cap,.string name,.agg #[.string nm,.slice (some ⟨sb,0,none⟩) 1 1],.int .i64 0,.int .i64 700] w (SerP (cntN es name) w):=by
 obtain ⟨i0,hi0,hz0,hz1,hz2⟩:=info_parts infoInt9
 have hb1:=new1 (w:=w) (.cells #[.string nm,.slice (some ⟨sb,0,none⟩) 1 1] 60)
 have hzn:=heap_alloc_new w (.cells #[.string nm,.slice (some ⟨sb,0,none⟩) 1 1] 60)
 have hsn:=(hb1.block sb (lt_of_heap hs)).trans hs
 have HH:=Lib.hid hH
 have HSW:=Lib.hid hs
 have HB0:=Lib.hid hb1
 have HZN:=Lib.hid hzn
 have HSN:=Lib.hid hsn
 have HCN:=Lib.hid (fun g W (hW:H.In W) hn => checkNamed_ok H hU hM A cap es ⟨0,0⟩ g 1 [name] W hW hR hI hl hr ⟨Int.le_refl _,Int.le_refl _,by show (0:Int) ≤ _;omega⟩ hn (fun n h => by simp at h;rw [h];exact hk) (by simp))
 have HIN:=Lib.hid (hH.below hb1)
 have HR:=Lib.hid hR
 have HAT:=Lib.hid hat
 have HK2:=Lib.hid hk2
 clear hb1 hzn hsn hs hH hR hI hr hat hk hk2 hU hM
 go_enter Tryz.func18,Tryz.ntmps18
 go_upto_region 1 with (fail)
 generalize w.alloc (.cells #[.string nm,.slice (some ⟨sb,0,none⟩) 1 1] 60) = W1 at *
 go_wp2_with fail
 refine (HCN.out W1.heap.size _ (HIN.out.alloc _) (one_name name W1)).mono ?_
 rintro e W2 ⟨rfl,hb2⟩
 have hb12:=(new1 (w:=W1) (.cells #[.string name] 9)).trans (hb2.mono (by simp))
 have HB2:=Lib.hid (HB0.out.trans (hb12.mono HB0.out.size))
 have HZ2:=Lib.hid ((hb12.block _ (lt_of_heap HZN.out)).trans HZN.out)
 have HS2:=Lib.hid ((hb12.block _ (lt_of_heap HSN.out)).trans HSN.out)
 have HIN2:=Lib.hid (HIN.out.below hb12)
 have y0:=cell_h HZ2.out 0 (v:=.string nm) rfl
 have y1:=cell_h HZ2.out 1 (v:=.slice (some ⟨sb,0,none⟩) 1 1) rfl
 clear hb2 hb12 HCN HIN HB0 HZN HSN
 go_wp2_with fail
 refine (checkZone_any sb nm HK2.out.1 HK2.out.2 W2 HS2.out).mono ?_
 rintro e W3 ⟨rfl,hb3⟩
 have HB3:=Lib.hid (HB2.out.trans (hb3.mono HB2.out.size))
 have HZ3:=Lib.hid ((hb3.block _ (lt_of_heap HZ2.out)).trans HZ2.out)
 have HS3:=Lib.hid ((hb3.block _ (lt_of_heap HS2.out)).trans HS2.out)
 have HIN3:=Lib.hid (HIN2.out.below hb3)
 clear hb3 y0 y1 HB2 HZ2 HS2 HIN2
 go_upto_region 12 with (at_make;refine wpList_make_full _ rfl _ _ 22 rfl W3.heap.size 3 i0 (.int .i64 0) 1 Tryz.underlying22 hi0 hz0 hz1 _ _ _ _ 701 rfl rfl rfl rfl (by rw [hz2];omega) (by simp only [maxLen];omega) (Nat.le_refl _) ?_;intro W4 hown2 hgrow2;have HOW:=Lib.hid hown2;have HGR:=Lib.hid hgrow2;clear hown2 hgrow2)
 have D0:Hid (DayS W3.heap.size w.heap.size sb 0 (tab 701 fun _ => 0) nm (cntN (es.take 0) name) w W4) :=
  ⟨made_ints HOW.out,tab_len _ _,(sum_tab0 _).trans rfl,fun c hc => by unfold tab at hc;simp at hc;omega,HB3.out.trans ⟨HGR.out.os,HGR.out.tape,HGR.out.output,HGR.out.size,fun k hk => HGR.out.block k (Nat.lt_of_lt_of_le hk HB3.out.size) (by simp)⟩,(HGR.out.block _ (lt_of_heap HZ3.out) (by simp)).trans HZ3.out,HB3.out.size⟩
 generalize W3.heap.size = g at *
 clear HOW HGR HB3 HZ3 HS3 HIN3
 go_wp2_with fail
 go_loopw [56] (fun t wr => ∃ (i:Nat) (cs:List Int),i ≤ es.length ∧ t = .int .i64 i ∧ Hid (DayS g w.heap.size sb i cs nm (cntN (es.take i) name) w wr)) (fun t _ => es.length - (intOf t).toNat)
 case atStart => exact ⟨0,_,by omega,rfl,D0⟩
 case round =>
  obtain ⟨i,cs,hi,rfl,hD⟩:=hrel
  clear D0
  by_cases hlt:i < es.length
  ·obtain ⟨b,off,rfl,hbl,hc⟩:=HR.out.at_ (HH.out.below hD.out.bel) hlt (by omega)
   have c0:wr.cell? ⟨b,off + i * 6,none⟩ = some (.string es[i].id):=hc 0 (by omega)
   have c1:wr.cell? ⟨b,off + i * 6 + 1,none⟩ = some (.string es[i].name):=hc 1 (by omega)
   have c2:wr.cell? ⟨b,off + i * 6 + 2,none⟩ = some (.int .i64 es[i].at_):=hc 2 (by omega)
   have c3:wr.cell? ⟨b,off + i * 6 + 3,none⟩ = some (.int .i64 es[i].kind):=hc 3 (by omega)
   have c4:wr.cell? ⟨b,off + i * 6 + 4,none⟩ = some (.string es[i].text):=hc 4 (by omega)
   have c5:wr.cell? ⟨b,off + i * 6 + 5,none⟩ = some (.slice es[i].fa es[i].fields.length es[i].fc):=hc 5 (by omega)
   obtain ⟨ha0,ha1⟩:=HAT.out _ (List.getElem_mem hlt)
   have HCS:=Lib.hid (cntN_succ (name:=name) hlt ⟨ha0,ha1⟩)
   clear hc
   generalize es[i] = d at *
   generalize cntN (es.take i) name = cn at *
   have z0:(wr.alloc (.cells #[.string d.id,.string d.name,.int .i64 d.at_,.int .i64 d.kind,.string d.text,.slice d.fa d.fields.length d.fc] 42)).cell? ⟨wr.heap.size,0,none⟩ = some (.string d.id):=newc 0 rfl
   have z1:(wr.alloc (.cells #[.string d.id,.string d.name,.int .i64 d.at_,.int .i64 d.kind,.string d.text,.slice d.fa d.fields.length d.fc] 42)).cell? ⟨wr.heap.size,1,none⟩ = some (.string d.name):=newc 1 rfl
   have z2:(wr.alloc (.cells #[.string d.id,.string d.name,.int .i64 d.at_,.int .i64 d.kind,.string d.text,.slice d.fa d.fields.length d.fc] 42)).cell? ⟨wr.heap.size,2,none⟩ = some (.int .i64 d.at_):=newc 2 rfl
   have z3:(wr.alloc (.cells #[.string d.id,.string d.name,.int .i64 d.at_,.int .i64 d.kind,.string d.text,.slice d.fa d.fields.length d.fc] 42)).cell? ⟨wr.heap.size,3,none⟩ = some (.int .i64 d.kind):=newc 3 rfl
   have z4:(wr.alloc (.cells #[.string d.id,.string d.name,.int .i64 d.at_,.int .i64 d.kind,.string d.text,.slice d.fa d.fields.length d.fc] 42)).cell? ⟨wr.heap.size,4,none⟩ = some (.string d.text):=newc 4 rfl
   have z5:(wr.alloc (.cells #[.string d.id,.string d.name,.int .i64 d.at_,.int .i64 d.kind,.string d.text,.slice d.fa d.fields.length d.fc] 42)).cell? ⟨wr.heap.size,5,none⟩ = some (.slice d.fa d.fields.length d.fc):=newc 5 rfl
   have HBN:=Lib.hid (new1 (w:=wr) (.cells #[.string d.id,.string d.name,.int .i64 d.at_,.int .i64 d.kind,.string d.text,.slice d.fa d.fields.length d.fc] 42))
   have D5:=Lib.hid (hD.out.call HBN.out)
   clear HBN hD
   go_upto_region 15 with (fail)
   clear c0 c1 c2 c3 c4 c5
   generalize wr.alloc (.cells #[.string d.id,.string d.name,.int .i64 d.at_,.int .i64 d.kind,.string d.text,.slice d.fa d.fields.length d.fc] 42) = W5 at *
   have x0:=cell_h D5.out.zone 0 (v:=.string nm) rfl
   have x1:=cell_h D5.out.zone 1 (v:=.slice (some ⟨sb,0,none⟩) 1 1) rfl
   have hsb:=(D5.out.bel.block sb (lt_of_heap HSW.out)).trans HSW.out
   have HDA:=Lib.hid (dayAt_any sb nm d.at_ ha0 ha1 W5 hsb)
   clear hsb
   unfold zoneV at HDA
   go_wp2_with fail
   refine HDA.out.mono ?_
   rintro e W6 ⟨⟨n,rfl,hn⟩,hb6⟩
   have D6:=Lib.hid (D5.out.call hb6)
   have u1:=lift_cell z1 _ hb6
   clear hb6 x0 x1 z0 z1 z2 z3 z4 z5 HDA D5
   generalize hk1:(d.name.toList == name.toList) = k1 at HCS
   cases k1 with
   | false =>
    have HE:Hid (cntN (es.take (i + 1)) name = cn):=by show _ = _;have:=HCS.out;simpa using this
    clear HCS
    go_wp2_with fail
    go_roundw
    case rel => exact ⟨i + 1,cs,by omega,by go_num,by rw [HE.out];exact D6.out.more⟩
    case measure => simp [intOf];omega
   | true =>
    have HE:Hid (cntN (es.take (i + 1)) name = cn + 1):=by show _ = _;have:=HCS.out;simpa using this
    clear HCS
    have hnl:n < cs.length:=by rw [D6.out.len];omega
    have D7:=Lib.hid (D6.out.inc hnl)
    have hcell:=D6.out.blk.cell1 n hnl
    have hfr:=D6.out.blk.frozen n
    have hbd:=D6.out.bnd _ (List.getElem_mem hnl)
    have hn7:(n:Int) < 701:=by omega
    have wn:IntKind.i64.wrap (n:Int) = (n:Int):=IntWalk.i64_in _ (by omega)
    have wc:IntKind.i64.wrap (cs[n] + 1) = cs[n] + 1:=IntWalk.i64_in _ (by omega)
    generalize cs[n] = cv at *
    simp only [fI] at hcell
    go_wp2_with fail
    refine (ewithin_any _ _ _ _).mono ?_
    rintro e w' ⟨rfl,rfl⟩
    rw [show (decide ((0:Int) ≤ (n:Int)) && decide ((n:Int) ≤ 700)) = true by simp;omega]
    go_wp2_with fail
    go_roundw
    case rel => exact ⟨i + 1,_,by omega,by go_num,by rw [HE.out];exact D7.out⟩
    case measure => simp [intOf];omega
  ·have hie:i = es.length:=by omega
   subst hie
   have HF:Hid (SerP (cntN es name) w (.returned (.tuple #[.slice (some ⟨g,0,none⟩) 701 701,.int .i64 0])) wr) :=
    ⟨g,cs,rfl,hD.out.blk,hD.out.len,by have:=hD.out.sum;rwa [List.take_length] at this,fun c hc => by have:=hD.out.bnd c hc;omega,hD.out.bel⟩
   clear hD
   go_wp2_with fail
   go_ret2
   exact HF.out
open Go.RowKit
theorem named_split {name:ByteArray} {a b c:Int} (hab:a ≤ b) (hbc:b ≤ c):∀ {es:List EvD},(es.Pairwise fun x y => evLt x y = true) → namedF es name ⟨a,b⟩ ++ namedF es name ⟨b,c⟩ = namedF es name ⟨a,c⟩
 | [],_ => rfl
 | e :: es,h => by
  have h1:=(List.pairwise_cons.1 h).1
  have h2:=(List.pairwise_cons.1 h).2
  have ih:=named_split (name:=name) hab hbc h2
  unfold namedF at *
  by_cases hb:e.at_ < b
  ·have k2:inW name ⟨b,c⟩ e = false:=by
    unfold inW
    simp
    intro _ h
    omega
   have k3:inW name ⟨a,b⟩ e = inW name ⟨a,c⟩ e:=by
    unfold inW
    congr 2
    rw [Bool.eq_iff_iff]
    simp
    omega
   rw [List.filter_cons_of_neg (l:=es) (p:=inW name ⟨b,c⟩) (by rw [k2];simp)]
   by_cases k:inW name ⟨a,c⟩ e = true
   ·rw [List.filter_cons_of_pos k,List.filter_cons_of_pos (by rw [k3];exact k),List.cons_append,ih]
   ·rw [List.filter_cons_of_neg k,List.filter_cons_of_neg (by rw [k3];exact k),ih]
  ·have hge:∀ x ∈ e :: es,b ≤ x.at_:=fun x hx => by
    rcases List.mem_cons.1 hx with rfl | hx
    ·omega
    ·have:=h1 x hx
     unfold evLt at this
     simp only [Bool.or_eq_true,Bool.and_eq_true,decide_eq_true_eq] at this
     omega
   have f1:(e :: es).filter (inW name ⟨a,b⟩) = []:=by
    rw [List.filter_eq_nil_iff]
    intro x hx
    have:=hge x hx
    unfold inW
    simp
    intro _ _
    omega
   rw [f1,List.nil_append]
   apply List.filter_congr
   intro x hx
   have:=hge x hx
   unfold inW
   congr 2
   rw [Bool.eq_iff_iff]
   simp
   omega
theorem sumF_app (field:ByteArray) (l m:List EvD):sumF field (l ++ m) = sumF field l + sumF field m:=by
 unfold sumF
 rw [List.map_append,List.sum_append]
theorem cas_join {l1 l2 p1 p2:List EvD} {B:Nat} {v:Value} {w:World} (h1:p1.length = l1.length) (g1:∀ (j:Nat) (a b:EvD),l1[j]? = some a → p1[j]? = some b → SameE a b ∧ FdOwn w B b) (h2:p2.length = l2.length) (g2:∀ (j:Nat) (a b:EvD),l2[j]? = some a → p2[j]? = some b → SameE a b ∧ FdOwn w B b)
  (o:Orow w B 42 6 fEv v (p1 ++ p2)):CAs (l1 ++ l2) (p1 ++ p2) (l1 ++ l2).length B v w:=by
 refine ⟨o,by simp [h1,h2],fun j hj => ?_,fun j a b hj ha hb => ?_⟩
 ·rw [List.getElem?_eq_none (by simp at hj ⊢;omega),List.getElem?_eq_none (by simpa using hj)]
 ·by_cases c:j < l1.length
  ·rw [List.getElem?_append_left c] at ha
   rw [List.getElem?_append_left (by omega)] at hb
   exact g1 j a b ha hb
  ·rw [List.getElem?_append_right (by omega)] at ha
   rw [List.getElem?_append_right (by omega),h1] at hb
   exact g2 _ a b ha hb
theorem cuts_sorted {a b:Int} (ha:0 ≤ a ∧ a ≤ 3000) (hb:0 ≤ b ∧ b ≤ 9000):∃ lo hi:Int,([0,a,b,4321440].mergeSort fun x y => decide (x ≤ y)) = [0,lo,hi,4321440] ∧ 0 ≤ lo ∧ lo ≤ hi ∧ hi ≤ 4321440:=by
 have hp:=List.mergeSort_perm [0,a,b,4321440] (fun x y => decide (x ≤ y))
 have hs:=List.pairwise_mergeSort (le:=fun x y:Int => decide (x ≤ y)) (by intro x y z h1 h2;simp at *;omega) (by intro x y;simp;omega) [0,a,b,4321440]
 have key:∀ l:List Int,(l.Pairwise fun x y => decide (x ≤ y) = true) → l.Perm ([0,a,b,4321440].mergeSort fun x y => decide (x ≤ y)) → ([0,a,b,4321440].mergeSort fun x y => decide (x ≤ y)) = l:=fun l h1 h2 =>
  (List.Perm.eq_of_pairwise (le:=fun x y:Int => decide (x ≤ y) = true) (fun x y _ _ h1 h2 => by simp at *;omega) h1 hs h2).symm
 by_cases c:a ≤ b
 ·refine ⟨a,b,key [0,a,b,4321440] ?_ hp.symm,ha.1,c,by omega⟩
  simp
  omega
 ·refine ⟨b,a,key [0,b,a,4321440] ?_ ?_,hb.1,by omega,by omega⟩
  ·simp
   omega
  ·exact (List.Perm.cons _ (List.Perm.swap _ _ _)).trans hp.symm
end Go.Proofs.YtfmnlpmgakgleaaGreatDoor
