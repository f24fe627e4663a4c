/- Texts of this claim, put together: RefVal, RefMail. -/
import Derived.Test.YtfmnlpmgakgleaaGreatDoorGAR
import Derived.Test.YtfmnlpmgakgleaaGreatDoorGAS
import Derived.Test.YtfmnlpmgakgleaaGreatDoorGAG
import Derived.Test.YtfmnlpmgakgleaaGreatDoorGAE
import Derived.Deep.CutBlock
import Derived.Deep.DeepCutAuto
namespace Go.Proofs.YtfmnlpmgakgleaaGreatDoor
set_option linter.unusedVariables false
open Go.RowKit
set_option maxHeartbeats 4000000 in
set_option maxRecDepth 100000 in
theorem refValT_any (H:Frz) (hU:UtfIn H) (t:ByteArray) (n:Int) (w:World) (hH:H.In w) (hs:t.size ≤ 1000000):Calls Tryz.prog 215 #[.agg #[.int .i64 1,.string t,.int .i64 n]] w (RefPost w (valErr okT ⟨1,t,n⟩)):=by
 have HB:=Lib.hid (new1 (w:=w) (.cells #[.int .i64 1,.string t,.int .i64 n] 110))
 have z0:(w.alloc (.cells #[.int .i64 1,.string t,.int .i64 n] 110)).cell? ⟨w.heap.size,0,none⟩ = some (.int .i64 1):=newc 0 rfl
 have z1:(w.alloc (.cells #[.int .i64 1,.string t,.int .i64 n] 110)).cell? ⟨w.heap.size,1,none⟩ = some (.string t):=newc 1 rfl
 have z2:(w.alloc (.cells #[.int .i64 1,.string t,.int .i64 n] 110)).cell? ⟨w.heap.size,2,none⟩ = some (.int .i64 n):=newc 2 rfl
 have HIN:=Lib.hid (hH.alloc (.cells #[.int .i64 1,.string t,.int .i64 n] 110))
 have HBAD:=Lib.hid (fun z (hz:z ≠ 0) W (hW:Below w.heap.size w W) => RefPost.bad (z0:=valErr okT ⟨1,t,n⟩) (z:=z) hz hW)
 have HPT:=Lib.hid (fun W (hW:H.In W) => refPts_any H hU t W hW hs)
 clear hU hH
 go_enter Tryz.func215,Tryz.ntmps215
 go_wp2_with fail
 refine (in_any _ _ _ _).mono ?_
 rintro e w' ⟨rfl,rfl⟩
 rw [show (decide ((1:Int) ≤ 1) && decide ((1:Int) ≤ 4)) = true from rfl]
 by_cases g1:n = 0
 rotate_left
 ·have k1:(n != 0) = true:=by simpa using g1
  have HF:=Lib.hid (HBAD.out 3 (by omega) _ HB.out)
  clear g1
  go_wp2_with fail
  go_ret
  exact HF.out
 subst g1
 by_cases g2:200 < t.size
 ·have k2:decide ((200:Int) < (t.size:Int)) = true:=by simp;omega
  have HF:=Lib.hid (HBAD.out 2 (by omega) _ HB.out)
  clear g2
  go_wp2_with fail
  go_ret
  exact HF.out
 have k2:decide ((200:Int) < (t.size:Int)) = false:=by simp;omega
 have HOK:Hid ((∀ p ∈ ptS t,32 ≤ p ∧ p ≠ 127) → valErr okT ⟨1,t,0⟩ = 0):=fun h => by
  unfold valErr txtErr
  simp only [if_true]
  rw [if_neg g2,if_pos (okT_of h)]
 have hpl:=ptS_len t
 clear g2
 go_wp2_with fail
 refine (HPT.out _ HIN.out).mono ?_
 rintro e W2 ⟨v,rfl,hI⟩
 obtain ⟨A,cap,H2,rfl,hca,hi2,-,hr2,-⟩:=Orow.freezeN hI.row Frz.empty
 have HH2:=Lib.hid (hi2 (Frz.In.empty _))
 have HR2:=Lib.hid hr2
 have HB2:=Lib.hid (HB.out.trans (hI.bel.mono HB.out.size))
 clear hI hi2 hr2 HPT z0 z1 z2 HIN HB
 generalize ptS t = ps at *
 go_wp2_with fail
 go_loopw [27] (fun t wr => ∃ i:Nat,i ≤ ps.length ∧ t = .int .i64 i ∧ Hid (∀ p ∈ ps.take i,32 ≤ p ∧ p ≠ 127) ∧ Hid (Below W2.heap.size W2 wr)) (fun t _ => ps.length - (intOf t).toNat)
 case atStart => exact ⟨0,by omega,rfl,(fun p hp => by simp at hp),Below.refl _ _⟩
 case round =>
  obtain ⟨i,hi,rfl,hall,hb⟩:=hrel
  have HB3:=Lib.hid (HB2.out.trans (hb.out.mono HB2.out.size))
  by_cases hlt:i < ps.length
  ·obtain ⟨b,off,rfl,hbl,hc⟩:=HR2.out.at_ (HH2.out.below hb.out) hlt (by omega)
   have c0:wr.cell? ⟨b,off + i,none⟩ = some (.int .i64 ps[i]):=by simpa [fI] using hc 0 (by omega)
   have HNX:Hid (32 ≤ ps[i] ∧ ps[i] ≠ 127 → ∀ p ∈ ps.take (i + 1),32 ≤ p ∧ p ≠ 127):=fun h p hp => by
    rw [List.take_succ_eq_append_getElem hlt] at hp
    rcases List.mem_append.1 hp with hp | hp
    ·exact hall.out p hp
    ·simp at hp;rw [hp];exact h
   clear hc
   generalize ps[i] = p at *
   by_cases g1:p < 32
   ·have k3:decide (p < 32) = true:=by simpa using g1
    have HF:=Lib.hid (HBAD.out 3 (by omega) _ HB3.out)
    clear g1
    go_wp2_with fail
    go_ret
    exact HF.out
   have k3:decide (p < 32) = false:=by simpa using g1
   by_cases g2:p = 127
   ·have k4:(p == 127) = true:=by simpa using g2
    have HF:=Lib.hid (HBAD.out 3 (by omega) _ HB3.out)
    clear g1 g2
    go_wp2_with fail
    go_ret
    exact HF.out
   have k4:(p == 127) = false:=by simpa using g2
   have hnx:=Lib.hid (HNX.out ⟨by omega,g2⟩)
   clear g1 g2 HNX
   go_wp2_with fail
   go_roundw
   case rel => exact ⟨i + 1,by omega,by go_num,hnx,hb⟩
   case measure => simp [intOf];omega
  ·have hie:i = ps.length:=by omega
   subst hie
   have HF:=Lib.hid (RefPost.good (HOK.out (fun p hp => hall.out p (by rw [List.take_length];exact hp))) HB3.out)
   go_wp2_with fail
   go_ret
   exact HF.out
set_option maxHeartbeats 4000000 in
set_option maxRecDepth 100000 in
theorem refValN_any (H:Frz) (hU:UtfIn H) (t:ByteArray) (n:Int) (w:World) (hH:H.In w) (hs:t.size ≤ 1000000):Calls Tryz.prog 215 #[.agg #[.int .i64 2,.string t,.int .i64 n]] w (RefPost w (valErr okT ⟨2,t,n⟩)):=by
 have HB:=Lib.hid (new1 (w:=w) (.cells #[.int .i64 2,.string t,.int .i64 n] 110))
 have z0:(w.alloc (.cells #[.int .i64 2,.string t,.int .i64 n] 110)).cell? ⟨w.heap.size,0,none⟩ = some (.int .i64 2):=newc 0 rfl
 have z1:(w.alloc (.cells #[.int .i64 2,.string t,.int .i64 n] 110)).cell? ⟨w.heap.size,1,none⟩ = some (.string t):=newc 1 rfl
 have z2:(w.alloc (.cells #[.int .i64 2,.string t,.int .i64 n] 110)).cell? ⟨w.heap.size,2,none⟩ = some (.int .i64 n):=newc 2 rfl
 have HIN:=Lib.hid (hH.alloc (.cells #[.int .i64 2,.string t,.int .i64 n] 110))
 have HBAD:=Lib.hid (fun z (hz:z ≠ 0) W (hW:Below w.heap.size w W) => RefPost.bad (z0:=valErr okT ⟨2,t,n⟩) (z:=z) hz hW)
 have HOK:Hid (t.size = 0 → -1000000000000 ≤ n ∧ n ≤ 1000000000000 → valErr okT ⟨2,t,n⟩ = 0):=fun h1 h2 => by
  have e:valErr okT ⟨2,t,n⟩ = if t.size ≠ 0 then 3 else if -1000000000000 ≤ n ∧ n ≤ 1000000000000 then 0 else 1:=by
   unfold valErr
   simp
  rw [e,if_neg (by omega),if_pos h2]
 clear hU hH
 go_enter Tryz.func215,Tryz.ntmps215
 go_wp2_with fail
 refine (in_any _ _ _ _).mono ?_
 rintro e w' ⟨rfl,rfl⟩
 rw [show (decide ((1:Int) ≤ 2) && decide ((2:Int) ≤ 4)) = true from rfl]
 cases hem:t.toList.isEmpty with
 | false =>
  have HF:=Lib.hid (HBAD.out 3 (by omega) _ HB.out)
  go_wp2_with fail
  go_ret
  exact HF.out
 | true =>
  have HOK2:=Lib.hid (HOK.out (empty_size.1 hem))
  generalize hW0:w.alloc (.cells #[.int .i64 2,.string t,.int .i64 n] 110) = W0 at *
  clear hW0
  go_upto_region 17 with (fail)
  have J0:=lift_cell z0
  have J2:=lift_cell z2
  (refine wp_region_det 9 55 (fun W => Below (W0).heap.size (W0) W) (by kernel_rfl) (by kernel_rfl) (by rfl) (Below.refl _ _).drew ?_;simp only [List.take_succ_cons,List.take_zero,List.drop_succ_cons,List.drop_zero])
  iterate 3 (refine detSeq_op rfl ?_ (fun W hW => ?_) ?_;rotate_left;(focus simp only [OpV];go_simp;first | exact rfl | exact ⟨rfl,hW⟩))
  (refine detSeq_op rfl (.int .i64 (-1000000000000)) (fun W hW => ?_) ?_;focus (simp only [OpV];go_simp;first | exact rfl | exact ⟨rfl,hW⟩ | exact hW))
  iterate 3 (refine detSeq_op rfl ?_ (fun W hW => ?_) ?_;rotate_left;(focus simp only [OpV];go_simp;first | exact rfl | exact ⟨rfl,hW⟩))
  (refine detSeq_op rfl (.int .i64 1000000000000) (fun W hW => ?_) ?_;focus (simp only [OpV];go_simp;first | exact rfl | exact ⟨rfl,hW⟩ | exact hW))
  iterate 1 (refine detSeq_op rfl ?_ (fun W hW => ?_) ?_;rotate_left;(focus simp only [OpV];go_simp;first | exact rfl | exact ⟨rfl,hW⟩))
  refine detSeq_nil (fun W3 hW3 => ?_)
  have HB3:=Lib.hid (HB.out.trans (hW3.mono HB.out.size))
  have y2:=J2 _ hW3
  clear hW3 J0 J2 z0 z1 z2
  go_wp2_with fail
  refine (in_any _ _ _ _).mono ?_
  rintro e w' ⟨rfl,rfl⟩
  by_cases g:-1000000000000 ≤ n ∧ n ≤ 1000000000000
  ·have k:(decide ((-1000000000000:Int) ≤ n) && decide (n ≤ 1000000000000)) = true:=by simp;omega
   rw [k]
   have HF:=Lib.hid (RefPost.good (HOK2.out g) HB3.out)
   clear g k
   go_wp2_with fail
   go_ret
   exact HF.out
  ·have k:(decide ((-1000000000000:Int) ≤ n) && decide (n ≤ 1000000000000)) = false:=by simp;omega
   rw [k]
   have HF:=Lib.hid (HBAD.out 1 (by omega) _ HB3.out)
   clear g k
   go_wp2_with fail
   go_ret
   exact HF.out
set_option maxHeartbeats 4000000 in
set_option maxRecDepth 100000 in
theorem refValF_any (H:Frz) (hU:UtfIn H) (t:ByteArray) (n:Int) (w:World) (hH:H.In w) (hs:t.size ≤ 1000000):Calls Tryz.prog 215 #[.agg #[.int .i64 3,.string t,.int .i64 n]] w (RefPost w (valErr okT ⟨3,t,n⟩)):=by
 have HB:=Lib.hid (new1 (w:=w) (.cells #[.int .i64 3,.string t,.int .i64 n] 110))
 have z0:(w.alloc (.cells #[.int .i64 3,.string t,.int .i64 n] 110)).cell? ⟨w.heap.size,0,none⟩ = some (.int .i64 3):=newc 0 rfl
 have z1:(w.alloc (.cells #[.int .i64 3,.string t,.int .i64 n] 110)).cell? ⟨w.heap.size,1,none⟩ = some (.string t):=newc 1 rfl
 have z2:(w.alloc (.cells #[.int .i64 3,.string t,.int .i64 n] 110)).cell? ⟨w.heap.size,2,none⟩ = some (.int .i64 n):=newc 2 rfl
 have HIN:=Lib.hid (hH.alloc (.cells #[.int .i64 3,.string t,.int .i64 n] 110))
 have HBAD:=Lib.hid (fun z (hz:z ≠ 0) W (hW:Below w.heap.size w W) => RefPost.bad (z0:=valErr okT ⟨3,t,n⟩) (z:=z) hz hW)
 have HOK:Hid (t.size = 0 → 0 ≤ n ∧ n ≤ 1 → valErr okT ⟨3,t,n⟩ = 0):=fun h1 h2 => by
  have e:valErr okT ⟨3,t,n⟩ = if t.size ≠ 0 then 3 else if 0 ≤ n ∧ n ≤ 1 then 0 else 1:=by
   unfold valErr
   simp
  rw [e,if_neg (by omega),if_pos h2]
 clear hU hH
 go_enter Tryz.func215,Tryz.ntmps215
 go_wp2_with fail
 refine (in_any _ _ _ _).mono ?_
 rintro e w' ⟨rfl,rfl⟩
 rw [show (decide ((1:Int) ≤ 3) && decide ((3:Int) ≤ 4)) = true from rfl]
 cases hem:t.toList.isEmpty with
 | false =>
  have HF:=Lib.hid (HBAD.out 3 (by omega) _ HB.out)
  go_wp2_with fail
  go_ret
  exact HF.out
 | true =>
  have HOK2:=Lib.hid (HOK.out (empty_size.1 hem))
  generalize hW0:w.alloc (.cells #[.int .i64 3,.string t,.int .i64 n] 110) = W0 at *
  clear hW0
  go_upto_region 17 with (fail)
  have J0:=lift_cell z0
  have J2:=lift_cell z2
  (refine wp_region_det 9 55 (fun W => Below (W0).heap.size (W0) W) (by kernel_rfl) (by kernel_rfl) (by rfl) (Below.refl _ _).drew ?_;simp only [List.take_succ_cons,List.take_zero,List.drop_succ_cons,List.drop_zero])
  iterate 3 (refine detSeq_op rfl ?_ (fun W hW => ?_) ?_;rotate_left;(focus simp only [OpV];go_simp;first | exact rfl | exact ⟨rfl,hW⟩))
  (refine detSeq_op rfl (.int .i64 0) (fun W hW => ?_) ?_;focus (simp only [OpV];go_simp;first | exact rfl | exact ⟨rfl,hW⟩ | exact hW))
  iterate 3 (refine detSeq_op rfl ?_ (fun W hW => ?_) ?_;rotate_left;(focus simp only [OpV];go_simp;first | exact rfl | exact ⟨rfl,hW⟩))
  (refine detSeq_op rfl (.int .i64 1) (fun W hW => ?_) ?_;focus (simp only [OpV];go_simp;first | exact rfl | exact ⟨rfl,hW⟩ | exact hW))
  iterate 1 (refine detSeq_op rfl ?_ (fun W hW => ?_) ?_;rotate_left;(focus simp only [OpV];go_simp;first | exact rfl | exact ⟨rfl,hW⟩))
  refine detSeq_nil (fun W3 hW3 => ?_)
  have HB3:=Lib.hid (HB.out.trans (hW3.mono HB.out.size))
  have y2:=J2 _ hW3
  clear hW3 J0 J2 z0 z1 z2
  go_wp2_with fail
  refine (in_any _ _ _ _).mono ?_
  rintro e w' ⟨rfl,rfl⟩
  by_cases g:0 ≤ n ∧ n ≤ 1
  ·have k:(decide ((0:Int) ≤ n) && decide (n ≤ 1)) = true:=by simp;omega
   rw [k]
   have HF:=Lib.hid (RefPost.good (HOK2.out g) HB3.out)
   clear g k
   go_wp2_with fail
   go_ret
   exact HF.out
  ·have k:(decide ((0:Int) ≤ n) && decide (n ≤ 1)) = false:=by simp;omega
   rw [k]
   have HF:=Lib.hid (HBAD.out 1 (by omega) _ HB3.out)
   clear g k
   go_wp2_with fail
   go_ret
   exact HF.out
set_option maxHeartbeats 4000000 in
set_option maxRecDepth 100000 in
theorem refValM_any (H:Frz) (hU:UtfIn H) (t:ByteArray) (n:Int) (w:World) (hH:H.In w) (hs:t.size ≤ 1000000):Calls Tryz.prog 215 #[.agg #[.int .i64 4,.string t,.int .i64 n]] w (RefPost w (valErr okT ⟨4,t,n⟩)):=by
 have HB:=Lib.hid (new1 (w:=w) (.cells #[.int .i64 4,.string t,.int .i64 n] 110))
 have z0:(w.alloc (.cells #[.int .i64 4,.string t,.int .i64 n] 110)).cell? ⟨w.heap.size,0,none⟩ = some (.int .i64 4):=newc 0 rfl
 have z1:(w.alloc (.cells #[.int .i64 4,.string t,.int .i64 n] 110)).cell? ⟨w.heap.size,1,none⟩ = some (.string t):=newc 1 rfl
 have z2:(w.alloc (.cells #[.int .i64 4,.string t,.int .i64 n] 110)).cell? ⟨w.heap.size,2,none⟩ = some (.int .i64 n):=newc 2 rfl
 have HIN:=Lib.hid (hH.alloc (.cells #[.int .i64 4,.string t,.int .i64 n] 110))
 have HBAD:=Lib.hid (fun z (hz:z ≠ 0) W (hW:Below w.heap.size w W) => RefPost.bad (z0:=valErr okT ⟨4,t,n⟩) (z:=z) hz hW)
 have HOK:Hid (t.size = 0 → 0 ≤ n ∧ n ≤ 4321439 → valErr okT ⟨4,t,n⟩ = 0):=fun h1 h2 => by
  have e:valErr okT ⟨4,t,n⟩ = if t.size ≠ 0 then 3 else if 0 ≤ n ∧ n ≤ 4321439 then 0 else 1:=by
   unfold valErr
   simp
  rw [e,if_neg (by omega),if_pos h2]
 clear hU hH
 go_enter Tryz.func215,Tryz.ntmps215
 go_wp2_with fail
 refine (in_any _ _ _ _).mono ?_
 rintro e w' ⟨rfl,rfl⟩
 rw [show (decide ((1:Int) ≤ 4) && decide ((4:Int) ≤ 4)) = true from rfl]
 cases hem:t.toList.isEmpty with
 | false =>
  have HF:=Lib.hid (HBAD.out 3 (by omega) _ HB.out)
  go_wp2_with fail
  go_ret
  exact HF.out
 | true =>
  have HOK2:=Lib.hid (HOK.out (empty_size.1 hem))
  generalize hW0:w.alloc (.cells #[.int .i64 4,.string t,.int .i64 n] 110) = W0 at *
  clear hW0
  go_upto_region 17 with (fail)
  have J0:=lift_cell z0
  have J2:=lift_cell z2
  (refine wp_region_det 9 55 (fun W => Below (W0).heap.size (W0) W) (by kernel_rfl) (by kernel_rfl) (by rfl) (Below.refl _ _).drew ?_;simp only [List.take_succ_cons,List.take_zero,List.drop_succ_cons,List.drop_zero])
  iterate 3 (refine detSeq_op rfl ?_ (fun W hW => ?_) ?_;rotate_left;(focus simp only [OpV];go_simp;first | exact rfl | exact ⟨rfl,hW⟩))
  (refine detSeq_op rfl (.int .i64 0) (fun W hW => ?_) ?_;focus (simp only [OpV];go_simp;first | exact rfl | exact ⟨rfl,hW⟩ | exact hW))
  iterate 3 (refine detSeq_op rfl ?_ (fun W hW => ?_) ?_;rotate_left;(focus simp only [OpV];go_simp;first | exact rfl | exact ⟨rfl,hW⟩))
  (refine detSeq_op rfl (.int .i64 4321439) (fun W hW => ?_) ?_;focus (simp only [OpV];go_simp;first | exact rfl | exact ⟨rfl,hW⟩ | exact hW))
  iterate 1 (refine detSeq_op rfl ?_ (fun W hW => ?_) ?_;rotate_left;(focus simp only [OpV];go_simp;first | exact rfl | exact ⟨rfl,hW⟩))
  refine detSeq_nil (fun W3 hW3 => ?_)
  have HB3:=Lib.hid (HB.out.trans (hW3.mono HB.out.size))
  have y2:=J2 _ hW3
  clear hW3 J0 J2 z0 z1 z2
  go_wp2_with fail
  refine (in_any _ _ _ _).mono ?_
  rintro e w' ⟨rfl,rfl⟩
  by_cases g:0 ≤ n ∧ n ≤ 4321439
  ·have k:(decide ((0:Int) ≤ n) && decide (n ≤ 4321439)) = true:=by simp;omega
   rw [k]
   have HF:=Lib.hid (RefPost.good (HOK2.out g) HB3.out)
   clear g k
   go_wp2_with fail
   go_ret
   exact HF.out
  ·have k:(decide ((0:Int) ≤ n) && decide (n ≤ 4321439)) = false:=by simp;omega
   rw [k]
   have HF:=Lib.hid (HBAD.out 1 (by omega) _ HB3.out)
   clear g k
   go_wp2_with fail
   go_ret
   exact HF.out
set_option maxHeartbeats 4000000 in
set_option maxRecDepth 100000 in
theorem refValO_any (v:VD) (hk:¬ (1 ≤ v.kind ∧ v.kind ≤ 4)) (w:World):Calls Tryz.prog 215 #[.agg #[.int .i64 v.kind,.string v.text,.int .i64 v.num]] w (RefPost w (valErr okT v)):=by
 have z0:(w.alloc (.cells #[.int .i64 v.kind,.string v.text,.int .i64 v.num] 110)).cell? ⟨w.heap.size,0,none⟩ = some (.int .i64 v.kind):=newc 0 rfl
 have z1:(w.alloc (.cells #[.int .i64 v.kind,.string v.text,.int .i64 v.num] 110)).cell? ⟨w.heap.size,1,none⟩ = some (.string v.text):=newc 1 rfl
 have z2:(w.alloc (.cells #[.int .i64 v.kind,.string v.text,.int .i64 v.num] 110)).cell? ⟨w.heap.size,2,none⟩ = some (.int .i64 v.num):=newc 2 rfl
 have HBN:=Lib.hid (new1 (w:=w) (.cells #[.int .i64 v.kind,.string v.text,.int .i64 v.num] 110))
 have HF:=Lib.hid (RefPost.bad (z0:=valErr okT v) (z:=4) (by omega) HBN.out)
 have k:(decide ((1:Int) ≤ v.kind) && decide (v.kind ≤ 4)) = false:=by simp;omega
 go_enter Tryz.func215,Tryz.ntmps215
 go_wp2_with fail
 refine (in_any _ _ _ _).mono ?_
 rintro e w' ⟨rfl,rfl⟩
 rw [k]
 clear hk k
 go_wp2_with fail
 go_ret
 exact HF.out
theorem refVal_any (H:Frz) (hU:UtfIn H) (v:VD) (w:World) (hH:H.In w) (hs:v.text.size ≤ 1000000):Calls Tryz.prog 215 #[.agg #[.int .i64 v.kind,.string v.text,.int .i64 v.num]] w (RefPost w (valErr okT v)):=by
 by_cases hk:1 ≤ v.kind ∧ v.kind ≤ 4
 ·cases v with
  | mk k t n =>
   have hs2:t.size ≤ 1000000:=hs
   have hk2:1 ≤ k ∧ k ≤ 4:=hk
   have:k = 1 ∨ k = 2 ∨ k = 3 ∨ k = 4:=by omega
   rcases this with rfl | rfl | rfl | rfl
   ·exact refValT_any H hU t n w hH hs2
   ·exact refValN_any H hU t n w hH hs2
   ·exact refValF_any H hU t n w hH hs2
   ·exact refValM_any H hU t n w hH hs2
 ·exact refValO_any v hk w
open Go.RowKit
theorem labs_len (s:ByteArray) (hz2:s.size ≤ 1000000):(labelsF s).length ≤ 1000001:=by
 rw [labelsF_len]
 have h3:∀ f s,Lib.countFrom dotB.data.toList f s ≤ s.length:=by
  intro f
  induction f with
  | zero => intro s;simp [Lib.countFrom]
  | succ f ih =>
   intro s
   unfold Lib.countFrom
   split
   ·omega
   ·rename_i hne
    have h4:=ih (s.drop ((Lib.index s dotB.data.toList).toNat + dotB.data.toList.length))
    have h5:=Lib.index_ge s dotB.data.toList
    have h6:=Lib.index_room s dotB.data.toList (by
     have h8:¬ Lib.index s dotB.data.toList = -1:=fun c => hne (by rw [c];rfl)
     omega)
    have h7:dotB.data.toList.length = 1:=rfl
    have h9:¬ Lib.index s dotB.data.toList = -1:=fun c => hne (by rw [c];rfl)
    rw [List.length_drop] at h4
    omega
 have h2:Lib.countB s dotB ≤ s.data.toList.length:=h3 _ _
 have:s.data.toList.length = s.size:=by simp
 omega
set_option maxHeartbeats 8000000 in
set_option maxRecDepth 100000 in
theorem refMail_any (H:Frz) (hM:MLen H) (s:ByteArray) (w:World) (hH:H.In w) (hs:s.size ≤ 1000000):Calls Tryz.prog 156 #[.agg #[.int .i64 1,.string s]] w (RefPost w (idErr 1 s)):=by
 obtain ⟨hz1,hz2⟩:=sizes_le s hs
 have HB:=Lib.hid (new1 (w:=w) (.cells #[.int .i64 1,.string s] 39))
 have z0:(w.alloc (.cells #[.int .i64 1,.string s] 39)).cell? ⟨w.heap.size,0,none⟩ = some (.int .i64 1):=newc 0 rfl
 have z1:(w.alloc (.cells #[.int .i64 1,.string s] 39)).cell? ⟨w.heap.size,1,none⟩ = some (.string s):=newc 1 rfl
 have HIN:=Lib.hid (hH.alloc (.cells #[.int .i64 1,.string s] 39))
 have HCUT:=Lib.hid (fun W hW => cut_any H hM s W hW (by omega))
 have HCON:=Lib.hid (fun W hW => contains2_any H hM (localF s) W hW (by omega))
 have HSPL:=Lib.hid (fun W hW => split_any H hM (domainF s) W hW (by omega))
 have HLS:=Lib.hid (labels_size (domainF s) hz2)
 have hll:=labs_len (domainF s) hz2
 have HOK:Hid (MailOk s → (∀ x ∈ labelsF (domainF s),LabOk x) → idErr 1 s = 0):=fun h1 h2 => by
  show (if mailF s = true then (0:Int) else 3) = 0
  rw [if_pos (h1.f h2)]
 have HMK:Hid ((Lib.cut s.data.toList [64]).2.2 = true → s.size ≤ 80 → (1 ≤ (localF s).size ∧ (localF s).size ≤ 64) → allB mailC (localF s) = true → Lib.trimB (localF s).data.toList 46 = (localF s).data.toList → Lib.contains (localF s).data.toList [46,46] = false → 2 ≤ (labelsF (domainF s)).length → MailOk s):=fun a b c d e f g => ⟨a,b,c,d,e,f,g⟩
 have HBAD:=Lib.hid (fun W (hW:Below w.heap.size w W) => RefPost.bad (z0:=idErr 1 s) (z:=3) (by omega) hW)
 clear hH hM
 go_enter Tryz.func156,Tryz.ntmps156
 go_wp2_with fail
 generalize w.alloc (.cells #[.int .i64 1,.string s] 39) = W0 at *
 clear z0 z1
 refine (HCUT.out _ HIN.out).mono ?_
 rintro e W1 ⟨rfl,hb1⟩
 have HB1:=Lib.hid (HB.out.trans (hb1.mono HB.out.size))
 have HIN1:=Lib.hid (HIN.out.below hb1)
 generalize (Lib.cut s.data.toList [64]).2.2 = ok at *
 clear hb1 HB HIN HCUT
 go_wp2_with fail
 refine (HSPL.out _ HIN1.out).mono ?_
 rintro e w2 ⟨rfl,rfl⟩
 have HB2:=Lib.hid (HB1.out.alloc HB1.out.size (.cells ((labelsF (domainF s)).map Value.string).toArray 9))
 have HIN2:=Lib.hid (HIN1.out.alloc (.cells ((labelsF (domainF s)).map Value.string).toArray 9))
 have HCE:Hid (∀ i (h:i < (labelsF (domainF s)).length),∀ W,Below (W1.alloc (.cells ((labelsF (domainF s)).map Value.string).toArray 9)).heap.size (W1.alloc (.cells ((labelsF (domainF s)).map Value.string).toArray 9)) W → W.cell? ⟨W1.heap.size,i,none⟩ = some (.string (labelsF (domainF s))[i])):=fun i h W hW => by
  refine lift_cell ?_ W hW
  rw [World.cell?_alloc_new];simp [h]
 clear HSPL HIN1 HB1
 generalize W1.alloc (.cells ((labelsF (domainF s)).map Value.string).toArray 9) = W2 at *
 generalize labelsF (domainF s) = lb at *
 generalize localF s = lc at *
 generalize domainF s = dm at *
 go_upto_region 8 with (fail)
 go_cut [4] (fun v wx => ∃ q:Bool,v = .bool q ∧ Hid (q = true → MailOk s) ∧ Hid (Below W2.heap.size W2 wx))
 case first =>
  cases ok with
  | false =>
   go_wp2_with fail
   all_goals (go_meet;exact ⟨_,rfl,(fun c => by cases c),Below.refl _ _⟩)
  | true =>
   by_cases g1:s.size ≤ 80
   rotate_left
   ·have k1:decide ((s.size:Int) ≤ 80) = false:=by simp;omega
    clear g1
    go_wp2_with fail
    all_goals (go_meet;exact ⟨_,rfl,(fun c => by cases c),Below.refl _ _⟩)
   have k1:decide ((s.size:Int) ≤ 80) = true:=by simp;omega
   have HM1:=Lib.hid (HMK.out rfl g1)
   clear g1 HMK
   go_wp2_with fail
   refine (in_any _ _ _ _).mono ?_
   rintro e w' ⟨rfl,rfl⟩
   by_cases g2:1 ≤ lc.size ∧ lc.size ≤ 64
   rotate_left
   ·have k2:(decide ((1:Int) ≤ (lc.size:Int)) && decide ((lc.size:Int) ≤ 64)) = false:=by simp;omega
    rw [k2]
    clear g2 k2
    go_wp2_with fail
    all_goals (go_meet;exact ⟨_,rfl,(fun c => by cases c),Below.refl _ _⟩)
   have k2:(decide ((1:Int) ≤ (lc.size:Int)) && decide ((lc.size:Int) ≤ 64)) = true:=by simp;omega
   rw [k2]
   have HM2:=Lib.hid (HM1.out g2)
   clear g2 HM1 k2
   go_wp2_with fail
   refine (only_any lc mailSigns _ (by omega) (by decide) (ascii_of _ (by decide))).mono ?_
   rintro e W3 ⟨rfl,hb3⟩
   rw [only_mail]
   have HB3:=Lib.hid hb3
   have HIN3:=Lib.hid (HIN2.out.below hb3)
   clear hb3
   cases hq:allB mailC lc with
   | false =>
    clear hq
    go_wp2_with fail
    all_goals (go_meet;exact ⟨_,rfl,(fun c => by cases c),HB3.out⟩)
   | true =>
    have HM3:=Lib.hid (HM2.out hq)
    clear hq HM2
    go_wp2_with fail
    refine (trimc_any lc 46 (by decide) _ hz1).mono ?_
    rintro e W4 ⟨rfl,hb4⟩
    have HB4:=Lib.hid (HB3.out.trans (hb4.mono HB3.out.size))
    have HIN4:=Lib.hid (HIN3.out.below hb4)
    clear hb4
    obtain ⟨X,hX⟩:∃ X:ByteArray,(⟨(Lib.trimB lc.data.toList 46).toArray⟩:ByteArray) = X:=⟨_,rfl⟩
    rw [hX]
    by_cases g4:X = lc
    rotate_left
    ·have k4:(X.toList == lc.toList) = false:=by
      rw [← Bool.not_eq_true]
      intro c
      exact g4 (eqS_iff.1 c)
     clear g4 hX
     go_wp2_with fail
     all_goals (go_meet;exact ⟨_,rfl,(fun c => by cases c),HB4.out⟩)
    have k4:(X.toList == lc.toList) = true:=eqS_iff.2 g4
    have htr:Lib.trimB lc.data.toList 46 = lc.data.toList:=by
     have:=congrArg (fun z:ByteArray => z.data.toList) (hX.trans g4)
     simpa using this
    have HM4:=Lib.hid (HM3.out htr)
    clear g4 hX htr HM3
    go_wp2_with fail
    refine (HCON.out _ HIN4.out).mono ?_
    rintro e w' ⟨rfl,rfl⟩
    cases hq:Lib.contains lc.data.toList [46,46] with
    | true =>
     clear hq
     go_wp2_with fail
     all_goals (go_meet;exact ⟨_,rfl,(fun c => by cases c),HB4.out⟩)
    | false =>
     have HM5:=Lib.hid (HM4.out hq)
     clear hq HM4
     by_cases g6:2 ≤ lb.length
     ·have k6:decide ((2:Int) ≤ (lb.length:Int)) = true:=by simp;omega
      have hmo:=Lib.hid (HM5.out g6)
      clear g6
      go_wp2_with fail
      all_goals (go_meet;exact ⟨_,rfl,(fun _ => hmo.out),HB4.out⟩)
     ·have k6:decide ((2:Int) ≤ (lb.length:Int)) = false:=by simp;omega
      clear g6
      go_wp2_with fail
      all_goals (go_meet;exact ⟨_,rfl,(fun c => by cases c),HB4.out⟩)
 case rest =>
  obtain ⟨q,rfl,HQ,HBC⟩:=hcut
  have HCE2:=Lib.hid (fun i (h:i < lb.length) W (hW:Below wc.heap.size wc W) => HCE.out i h W (HBC.out.trans (hW.mono HBC.out.size)))
  have HBD:=Lib.hid (HB2.out.trans (HBC.out.mono HB2.out.size))
  clear HCE HBC HB2 HIN2 HCON HMK
  go_wp2_with fail
  go_loopw [4,60] (fun v t wr => ∃ (i:Nat) (q:Bool),i ≤ lb.length ∧ t = .int .i64 i ∧ v = .bool q ∧ Hid (q = true → MailOk s ∧ ∀ x ∈ lb.take i,LabOk x) ∧ Hid (Below wc.heap.size wc wr)) (fun _ t _ => lb.length - (intOf t).toNat)
  case atStart => exact ⟨0,q,by omega,rfl,rfl,(fun c => ⟨HQ.out c,fun x hx => by simp at hx⟩),Below.refl _ _⟩
  case round =>
   obtain ⟨i,qq,hi,rfl,rfl,HF,hb⟩:=hrel
   clear HQ
   by_cases hlt:i < lb.length
   ·have c0:=HCE2.out i hlt _ hb.out
    have hls:=HLS.out _ (List.getElem_mem hlt)
    have HNX:Hid (qq = true → LabOk lb[i] → MailOk s ∧ ∀ x ∈ lb.take (i + 1),LabOk x):=fun c hl => by
     refine ⟨(HF.out c).1,fun x hx => ?_⟩
     rw [List.take_succ_eq_append_getElem hlt] at hx
     rcases List.mem_append.1 hx with hx | hx
     ·exact (HF.out c).2 x hx
     ·simp at hx;rw [hx];exact hl
    generalize lb[i] = x at *
    cases qq with
    | false =>
     go_wp2_with fail
     go_roundw
     case rel => exact ⟨i + 1,false,by omega,by go_num,rfl,(fun c => by cases c),hb⟩
     case measure => simp [intOf];omega
    | true =>
     have HN1:=Lib.hid (HNX.out rfl)
     clear HNX HF
     go_wp2_with fail
     refine (in_any _ _ _ _).mono ?_
     rintro e w' ⟨rfl,rfl⟩
     by_cases g2:1 ≤ x.size ∧ x.size ≤ 30
     rotate_left
     ·have k2:(decide ((1:Int) ≤ (x.size:Int)) && decide ((x.size:Int) ≤ 30)) = false:=by simp;omega
      rw [k2]
      clear g2 k2
      go_wp2_with fail
      go_roundw
      case rel => exact ⟨i + 1,false,by omega,by go_num,rfl,(fun c => by cases c),hb⟩
      case measure => simp [intOf];omega
     have k2:(decide ((1:Int) ≤ (x.size:Int)) && decide ((x.size:Int) ≤ 30)) = true:=by simp;omega
     rw [k2]
     have HG2:=Lib.hid g2
     clear g2 k2
     go_wp2_with fail
     refine (only_any x labSigns _ (by omega) (by decide) (ascii_of _ (by decide))).mono ?_
     rintro e W3 ⟨rfl,hb3⟩
     rw [only_lab]
     have HB3:=Lib.hid (hb.out.trans (hb3.mono hb.out.size))
     clear hb3 hb
     cases hq:allB labC x with
     | false =>
      clear hq
      go_wp2_with fail
      go_roundw
      case rel => exact ⟨i + 1,false,by omega,by go_num,rfl,(fun c => by cases c),HB3⟩
      case measure => simp [intOf];omega
     | true =>
      have HQ3:=Lib.hid hq
      clear hq
      go_wp2_with fail
      refine (trimc_any x 45 (by decide) _ hls).mono ?_
      rintro e W4 ⟨rfl,hb4⟩
      have HB4:=Lib.hid (HB3.out.trans (hb4.mono HB3.out.size))
      clear hb4 HB3
      obtain ⟨X,hX⟩:∃ X:ByteArray,(⟨(Lib.trimB x.data.toList 45).toArray⟩:ByteArray) = X:=⟨_,rfl⟩
      rw [hX]
      by_cases g4:X = x
      ·have k4:(X.toList == x.toList) = true:=eqS_iff.2 g4
       have htr:Lib.trimB x.data.toList 45 = x.data.toList:=by
        have:=congrArg (fun z:ByteArray => z.data.toList) (hX.trans g4)
        simpa using this
       have HN2:=Lib.hid (HN1.out ⟨HG2.out,HQ3.out,htr⟩)
       clear g4 hX htr
       go_wp2_with fail
       go_roundw
       case rel => exact ⟨i + 1,true,by omega,by go_num,rfl,(fun _ => HN2.out),HB4⟩
       case measure => simp [intOf];omega
      ·have k4:(X.toList == x.toList) = false:=by
        rw [← Bool.not_eq_true]
        intro c
        exact g4 (eqS_iff.1 c)
       clear g4 hX
       go_wp2_with fail
       go_roundw
       case rel => exact ⟨i + 1,false,by omega,by go_num,rfl,(fun c => by cases c),HB4⟩
       case measure => simp [intOf];omega
   ·have hie:i = lb.length:=by omega
    subst hie
    have HB9:=Lib.hid (HBD.out.trans (hb.out.mono HBD.out.size))
    cases qq with
    | false =>
     have HR:=Lib.hid (HBAD.out _ HB9.out)
     go_wp2_with fail
     go_ret
     exact HR.out
    | true =>
     have HR:=Lib.hid (RefPost.good (HOK.out (HF.out rfl).1 (fun x hx => (HF.out rfl).2 x (by rw [List.take_length];exact hx))) HB9.out)
     go_wp2_with fail
     go_ret
     exact HR.out
theorem refId_any (H:Frz) (hM:MLen H) (kind:Int) (s:ByteArray) (w:World) (hH:H.In w) (hs:s.size ≤ 1000000):Calls Tryz.prog 156 #[.agg #[.int .i64 kind,.string s]] w (RefPost w (idErr kind s)):=by
 by_cases h1:kind = 1
 ·subst h1;exact refMail_any H hM s w hH hs
 by_cases h2:kind = 2
 ·subst h2;exact refPho_any s w hs
 by_cases h3:kind = 3
 ·subst h3;exact refMem_any s w hs
 by_cases h4:kind = 4
 ·subst h4;exact refDev_any s w hs
 exact refOth_any kind ⟨h1,h2,h3,h4⟩ s w hs
end Go.Proofs.YtfmnlpmgakgleaaGreatDoor
