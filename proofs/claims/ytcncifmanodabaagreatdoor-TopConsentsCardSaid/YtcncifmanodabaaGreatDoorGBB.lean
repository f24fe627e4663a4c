/- Texts of this claim, put together: SortId, CompId, MemS, TAt. -/
import Derived.Test.YtcncifmanodabaaGreatDoorGAT
import Derived.Test.YtcncifmanodabaaGreatDoorLaySort
import Derived.Test.YtcncifmanodabaaGreatDoorGAS
import Derived.Test.YtcncifmanodabaaGreatDoorGAI
import Derived.Test.YtcncifmanodabaaGreatDoorGAE
import Derived.StillTailTactics
import Derived.Deep.Cut
import Derived.Test.YtcncifmanodabaaGreatDoorGAX
import Derived.Test.YtcncifmanodabaaGreatDoorGAV
import Derived.Test.YtcncifmanodabaaGreatDoorGAZ
import Derived.Test.YtcncifmanodabaaGreatDoorGAW
namespace Go.Proofs.YtcncifmanodabaaGreatDoor
set_option linter.unusedVariables false
open Go.RowKit
theorem swo_of {D:Type} [Inhabited D] {f:D → D → Int} (h:CmpOk f):Sort.SWO (ltOf f):=by
 refine ⟨fun x => ?_,fun x y z a b => ?_,fun x y z a b => ?_⟩
 ·have:=h.swap x x
  unfold ltOf
  rw [decide_eq_false_iff_not]
  omega
 ·unfold ltOf at *
  rw [decide_eq_true_eq] at *
  have h1:=h.trans x y z (by omega) (by omega)
  have h2:=h.swap x z
  have h3:=h.swap x y
  have h4:=h.trans y z x (by omega)
  omega
 ·unfold ltOf at *
  rw [decide_eq_false_iff_not] at *
  have h1:=h.swap x y
  have h2:=h.swap y z
  have h3:=h.swap x z
  have h4:=h.trans z y x (by omega) (by omega)
  omega
instance:Inhabited IdD:=⟨⟨0,⟨#[]⟩⟩⟩
theorem fId_one (d:IdD) (m:Nat):(fId d m).oneCell' = true:=by
 match m with
 | 0 => rfl
 | m + 1 => rfl
theorem sortFunc_Id (cf:IdD → IdD → Int) (hc:CmpOk cf) (g:Nat) (cb:Array Value) (hcall:∀ args w,(callFunc g args).run Tryz.prog w = .ok (.enter g args) w)
  (hcmp:∀ (W:World) (a b:IdD),Calls Tryz.prog g (#[.agg #[.int .i64 a.kind,.string a.text],.agg #[.int .i64 b.kind,.string b.text]] ++ cb) W fun e W' => e = .returned (.int .i64 (cf a b)) ∧ Gro W W')
  (B:Nat) (v:Value) (ds:List IdD) (w:World) (hO:Orow w B 36 2 fId v ds) (hl:ds.length ≤ 1000000) :
  Calls Tryz.prog 65 #[v,.func (.func g) #[] cb] w fun e w' =>
   e = .returned (.tuple #[]) ∧ ∃ ds':List IdD,ds'.Perm ds ∧ (ds'.Pairwise fun a b => cf a b ≤ 0) ∧ Orow w' B 36 2 fId v ds' ∧ w.grownBy w' v.ownBlock:=by
 by_cases hne:ds = []
 ·subst hne
  obtain ⟨A,cap,hv,-⟩:=hO.slice
  subst hv
  refine (AnyF.slices_SortFunc_none Tryz.sortId A cap (.func (.func g) #[] cb) w).mono ?_
  rintro e w' ⟨rfl,rfl⟩
  exact ⟨rfl,[],List.Perm.refl _,List.Pairwise.nil,hO,⟨rfl,rfl,rfl,Nat.le_refl _,fun k hk _ => rfl⟩⟩
 ·obtain ⟨q,cap,rest,hv,hle,hB,hq,hm,hk,hr⟩:=hO.form hne
  subst hv
  refine (AnyQ.slices_SortFunc Tryz.sortId 2 (fun w => by kernel_rfl) (fun w => by kernel_rfl) (encK 2 fId) (fun x => encK_len x) ?_ cf (swo_of hc) g cb q 0 cap ds.toArray w hcall ?_ (holdsK_of_blk hk) hq (by simp;omega)).mono ?_
  ·intro x u hu
   unfold encK at hu
   obtain ⟨m,hm,rfl⟩:=List.mem_map.1 hu
   exact fId_one x m
  ·intro m os dk hs x y
   exact hcmp _ x y
  ·rintro e w' ⟨rfl,d',n,os,hp,hs,rfl⟩
   have hp2:=permIn_list hp
   have hs2:=sortedIn_list (d:=d') (by rw [hp.1];exact hs)
   have hl2:d'.toList.length = ds.length:=by simpa using hp2.length_eq
   refine ⟨rfl,d'.toList,by simpa using hp2,hs2.imp (fun {a b} h => ?_),?_,grown_sortWorldK _ _ _ _ _⟩
   ·unfold ltOf at h
    rw [decide_eq_false_iff_not] at h
    have:=hc.swap a b
    omega
   ·have:=kblk_sortWorldK (ds':=d'.toList) hk hl2 n os
    have h2:=Orow.of_blk this hB hm (by rw [hl2];exact hle) (by rw [hl2];exact hr)
    rw [hl2] at h2
    simpa using h2
open Go.RowKit
set_option maxHeartbeats 8000000 in
set_option maxRecDepth 100000 in
theorem compact_Id (ds:List IdD) (B:Nat) (v:Value) (w:World) (hO:Orow w B 36 2 fId v ds) (hl:ds.length ≤ 10000000) :
  Calls Tryz.prog 67 #[v] w fun e w' => (∃ v',e = .returned v' ∧ Orow w' B 36 2 fId v' (compF eqId ds) ∧ (v'.ownBlock = v.ownBlock)) ∧ w.grownBy w' v.ownBlock:=by
 by_cases hs:ds.length < 2
 ·obtain ⟨A,cap,hv,-⟩:=hO.slice
  subst hv
  have HF:Hid ((∃ v',Ending.returned (.slice A ds.length cap) = .returned v' ∧ Orow w B 36 2 fId v' (compF eqId ds) ∧ (v'.ownBlock = (Value.slice A ds.length cap).ownBlock)) ∧ w.grownBy w (Value.slice A ds.length cap).ownBlock):=by
   refine ⟨⟨_,rfl,?_,rfl⟩,⟨rfl,rfl,rfl,Nat.le_refl _,fun k hk _ => rfl⟩⟩
   have:compF eqId ds = ds:=by
    match ds,hs with
    | [],_ => rfl
    | [x],_ => rfl
   rw [this]
   exact hO
  have h1:decide ((ds.length:Int) < 2) = true:=by simp;omega
  clear hO
  go_enter Tryz.func67,Tryz.ntmps67
  go_wp2_with fail
  go_ret
  exact HF.out
 ·obtain ⟨g,cap,rest,hv,hlc,hBg,hg,hm,hk,hr⟩:=hO.form (fun c => by subst c;simp at hs)
  subst hv
  have HKB:=Lib.hid hk
  have HRE:=Lib.hid hr
  have HG0:Hid (w.grownBy w (some g)):=⟨rfl,rfl,rfl,Nat.le_refl _,fun k hk _ => rfl⟩
  have hn2:2 ≤ ds.length:=by omega
  have h1:decide ((ds.length:Int) < 2) = false:=by simp;omega
  have HC1:=Lib.hid (compF_one eqId ds (by omega))
  clear hO hk hr hs
  go_enter Tryz.func67,Tryz.ntmps67
  go_wp2_with fail
  go_loopw [3] (fun t wr => ∃ k:Nat,1 ≤ k ∧ k ≤ ds.length ∧ t = .int .i64 k ∧ Hid (compF eqId (ds.take k) = ds.take k) ∧ Hid (KBlk wr g 36 2 fId ds rest) ∧ Hid (w.grownBy wr (some g))) (fun t _ => ds.length - (intOf t).toNat)
  case atStart => exact ⟨1,by omega,by omega,rfl,HC1,HKB,HG0⟩
  case round =>
   obtain ⟨k,hk1,hkn,rfl,hC,hK,hG⟩:=hrel
   clear HKB HG0 HC1
   by_cases hlt:k < ds.length
   ·have hlt1:k - 1 < ds.length:=by omega
    have c0:wr.cell? ⟨g,k * 2,none⟩ = some (fId ds[k] 0):=hK.out.cell k 0 hlt (by omega)
    have c1:wr.cell? ⟨g,k * 2 + 1,none⟩ = some (fId ds[k] 1):=hK.out.cell k 1 hlt (by omega)
    have d0:wr.cell? ⟨g,(k - 1) * 2,none⟩ = some (fId ds[k - 1] 0):=hK.out.cell (k - 1) 0 hlt1 (by omega)
    have d1:wr.cell? ⟨g,(k - 1) * 2 + 1,none⟩ = some (fId ds[k - 1] 1):=hK.out.cell (k - 1) 1 hlt1 (by omega)
    have HST:=Lib.hid (fun h => CompOk.start (eq:=eqId) hk1 hlt hC.out h)
    have HNX:Hid (eqId ds[k] ds[k - 1] = false → compF eqId (ds.take (k + 1)) = ds.take (k + 1)):=fun h => by
     rw [compF_take eqId ds k (by omega) hlt,if_neg (by rw [h];decide),hC.out,List.take_succ_eq_append_getElem hlt]
    generalize ds[k] = x at *
    generalize ds[k - 1] = y at *
    have HEQ:Hid (eqId x y = (decide (x.kind = y.kind) && eqS x.text y.text)):=rfl
    generalize eqId x y = q at *
    simp only [fId] at c0 c1 d0 d1
    have e1:((k:Int) - 1).toNat = k - 1:=by omega
    have e2:IntKind.i64.wrap ((k:Int) - 1) = (k:Int) - 1:=IntWalk.i64_in _ (by omega)
    have e3:(0:Int) ≤ (k:Int) - 1:=by omega
    have e4:(k:Int) - 1 < ds.length:=by omega
    have e5:(k:Int) < ds.length:=by omega
    have e7:(1:Int) ≤ (k:Int):=by omega
    have e8:(k:Int) ≤ ds.length:=by omega
    clear hlt1
    cases k1:(x.kind == y.kind) with
    | false =>
     have hq:q = false:=by
      rw [HEQ.out,show decide (x.kind = y.kind) = false by simpa using k1]
      rfl
     subst hq
     go_wp2_with fail
     go_quiet (fail)
     have hK1:Hid (KBlk (wr.drewN nq) g 36 2 fId ds rest):=hK.out
     have hG1:Hid (w.grownBy (wr.drewN nq) (some g)):=grown_drewN' hG.out nq
     clear c0 c1 d0 d1 hK hG e1 e2
     generalize wr.drewN nq = w1 at *
     have HN:=Lib.hid (HNX.out (by simp))
     clear HNX HST
     go_wp2_with fail
     go_roundw
     case rel => exact ⟨k + 1,by omega,by omega,by go_num,HN,hK1,hG1⟩
     case measure => simp [intOf];omega
    | true =>
     have h1k:decide (x.kind = y.kind) = true:=by simpa using k1
     cases k2:(x.text.toList == y.text.toList) with
     | false =>
      have hq:q = false:=by
       rw [HEQ.out,h1k]
       exact k2
      subst hq
      go_wp2_with fail
      go_quiet (fail)
      have hK1:Hid (KBlk (wr.drewN nq) g 36 2 fId ds rest):=hK.out
      have hG1:Hid (w.grownBy (wr.drewN nq) (some g)):=grown_drewN' hG.out nq
      clear c0 c1 d0 d1 hK hG e1 e2
      generalize wr.drewN nq = w1 at *
      have HN:=Lib.hid (HNX.out (by simp))
      clear HNX HST
      go_wp2_with fail
      go_roundw
      case rel => exact ⟨k + 1,by omega,by omega,by go_num,HN,hK1,hG1⟩
      case measure => simp [intOf];omega
     | true =>
      have hq:q = true:=by
       rw [HEQ.out,h1k]
       exact k2
      subst hq
      go_wp2_with fail
      go_quiet (fail)
      have hK1:Hid (KBlk (wr.drewN nq) g 36 2 fId ds rest):=hK.out
      have hG1:Hid (w.grownBy (wr.drewN nq) (some g)):=grown_drewN' hG.out nq
      clear c0 c1 d0 d1 hK hG e1 e2
      generalize wr.drewN nq = w1 at *
      have HS:=Lib.hid (HST.out (by simp))
      have HLK:=Lib.hid hlt
      obtain ⟨k0,hk0⟩:∃ k0:Nat,k0 = k:=⟨_,rfl⟩
      have HK0:=Lib.hid hk0
      clear HNX HST hC hk0
      obtain ⟨w1',rfl⟩:∃ w1':World,w1' = w1:=⟨_,rfl⟩
      go_wp2_with fail
      go_loopw [3,5] (fun t5 t7 wi => ∃ (i m:Nat) (cur:List IdD),t5 = .int .i64 i ∧ t7 = .int .i64 m ∧ 1 ≤ m ∧ m ≤ ds.length - k ∧ Hid (CompOk eqId ds cur i (k + m)) ∧ Hid (KBlk wi g 36 2 fId cur rest) ∧ Hid (w.grownBy wi (some g))) (fun _ t _ => ds.length - k - (intOf t).toNat)
      case atStart => exact ⟨k,1,ds,rfl,rfl,by omega,by omega,HS,hK1,hG1⟩
      case round =>
       obtain ⟨i,m,cur,rfl,rfl,hm1,hmn,hD,hK,hG⟩:=hrel
       clear HS hK1 hG1
       have hlen:cur.length = ds.length:=hD.out.len
       have hij:=hD.out.le
       have hip:=hD.out.pos
       by_cases hlt:m < ds.length - k
       ·have hjc:k + m < cur.length:=by omega
        have hjc1:k + m - 1 < cur.length:=by omega
        have hj:k + m < ds.length:=by omega
        have hj1:k + m - 1 < ds.length:=by omega
        have hx1:cur[k + m] = ds[k + m]:=hD.out.get (by omega) hj
        have hx2:cur[k + m - 1] = ds[k + m - 1]:=hD.out.get (by omega) hj1
        have c0:wr.cell? ⟨g,k * 2 + m * 2,none⟩ = some (fId ds[k + m] 0):=by have:=hK.out.cell (k + m) 0 hjc (by omega);rw [hx1] at this;rw [show k * 2 + m * 2 = (k + m) * 2 + 0 from by omega];exact this
        have c1:wr.cell? ⟨g,k * 2 + m * 2 + 1,none⟩ = some (fId ds[k + m] 1):=by have:=hK.out.cell (k + m) 1 hjc (by omega);rw [hx1] at this;rw [show k * 2 + m * 2 + 1 = (k + m) * 2 + 1 from by omega];exact this
        have d0:wr.cell? ⟨g,k * 2 + (m - 1) * 2,none⟩ = some (fId ds[k + m - 1] 0):=by have:=hK.out.cell (k + m - 1) 0 hjc1 (by omega);rw [hx2] at this;rw [show k * 2 + (m - 1) * 2 = (k + m - 1) * 2 + 0 from by omega];exact this
        have d1:wr.cell? ⟨g,k * 2 + (m - 1) * 2 + 1,none⟩ = some (fId ds[k + m - 1] 1):=by have:=hK.out.cell (k + m - 1) 1 hjc1 (by omega);rw [hx2] at this;rw [show k * 2 + (m - 1) * 2 + 1 = (k + m - 1) * 2 + 1 from by omega];exact this
        have HKE:=Lib.hid (fun h => hD.out.keep hj h)
        have HDR:=Lib.hid (fun h => hD.out.drop hj h)
        have HXX:=Lib.hid hx1
        clear hx1 hx2
        generalize ds[k + m] = x at *
        generalize ds[k + m - 1] = y at *
        have HEQ:Hid (eqId x y = (decide (x.kind = y.kind) && eqS x.text y.text)):=rfl
        generalize eqId x y = q at *
        simp only [fId] at c0 c1 d0 d1
        have e1:((m:Int) - 1).toNat = m - 1:=by omega
        have e2:IntKind.i64.wrap ((m:Int) - 1) = (m:Int) - 1:=IntWalk.i64_in _ (by omega)
        have e3:(0:Int) ≤ (m:Int) - 1:=by omega
        have e4:(m:Int) - 1 < ((ds.length - k:Nat):Int):=by omega
        have e5:(m:Int) < ((ds.length - k:Nat):Int):=by omega
        have e7:(1:Int) ≤ (m:Int):=by omega
        have e8:(m:Int) ≤ ((ds.length - k:Nat):Int):=by omega
        clear hjc1 hj1
        cases k1:(x.kind == y.kind) with
        | false =>
         have hq:q = false:=by
          rw [HEQ.out,show decide (x.kind = y.kind) = false by simpa using k1]
          rfl
         subst hq
         go_wp2_with fail
         go_quiet (fail)
         have hK2:KBlk (wr.drewN nq) g 36 2 fId cur rest:=hK.out
         have hG2:Hid (w.grownBy (wr.drewN nq) (some g)):=grown_drewN' hG.out nq
         clear c0 c1 d0 d1 hK hG e1 e2
         generalize wr.drewN nq = w2 at *
         have hD2:=Lib.hid (HKE.out (by simp))
         have hic:i < cur.length:=by omega
         have c0:w2.cell? ⟨g,k * 2 + m * 2,none⟩ = some (fId x 0):=by have:=hK2.cell (k + m) 0 hjc (by omega);rw [HXX.out] at this;rw [show k * 2 + m * 2 = (k + m) * 2 + 0 from by omega];exact this
         have c1:w2.cell? ⟨g,k * 2 + m * 2 + 1,none⟩ = some (fId x 1):=by have:=hK2.cell (k + m) 1 hjc (by omega);rw [HXX.out] at this;rw [show k * 2 + m * 2 + 1 = (k + m) * 2 + 1 from by omega];exact this
         have HKP:=Lib.hid (hK2.put i hic x)
         have HGP:=Lib.hid (setK_grown (i * 2) ((List.range 2).map (fId x)) hG2.out)
         have r0:=hK2.cell i 0 hic (by omega)
         have s0:=hK2.frozen (i * 2)
         have r1:=hK2.cell i 1 hic (by omega)
         have s1:=hK2.frozen (i * 2 + 1)
         simp only [Nat.add_zero] at r0
         simp only [fId] at c0 c1
         clear HKE HDR hK2 hG2 hD HXX
         go_wp2_with fail
         go_roundw
         case rel => exact ⟨i + 1,m + 1,cur.set i x,by go_num,by go_num,by omega,by omega,hD2,HKP,HGP⟩
         case measure => simp [intOf];omega
        | true =>
         have h1k:decide (x.kind = y.kind) = true:=by simpa using k1
         cases k2:(x.text.toList == y.text.toList) with
         | false =>
          have hq:q = false:=by
           rw [HEQ.out,h1k]
           exact k2
          subst hq
          go_wp2_with fail
          go_quiet (fail)
          have hK2:KBlk (wr.drewN nq) g 36 2 fId cur rest:=hK.out
          have hG2:Hid (w.grownBy (wr.drewN nq) (some g)):=grown_drewN' hG.out nq
          clear c0 c1 d0 d1 hK hG e1 e2
          generalize wr.drewN nq = w2 at *
          have hD2:=Lib.hid (HKE.out (by simp))
          have hic:i < cur.length:=by omega
          have c0:w2.cell? ⟨g,k * 2 + m * 2,none⟩ = some (fId x 0):=by have:=hK2.cell (k + m) 0 hjc (by omega);rw [HXX.out] at this;rw [show k * 2 + m * 2 = (k + m) * 2 + 0 from by omega];exact this
          have c1:w2.cell? ⟨g,k * 2 + m * 2 + 1,none⟩ = some (fId x 1):=by have:=hK2.cell (k + m) 1 hjc (by omega);rw [HXX.out] at this;rw [show k * 2 + m * 2 + 1 = (k + m) * 2 + 1 from by omega];exact this
          have HKP:=Lib.hid (hK2.put i hic x)
          have HGP:=Lib.hid (setK_grown (i * 2) ((List.range 2).map (fId x)) hG2.out)
          have r0:=hK2.cell i 0 hic (by omega)
          have s0:=hK2.frozen (i * 2)
          have r1:=hK2.cell i 1 hic (by omega)
          have s1:=hK2.frozen (i * 2 + 1)
          simp only [Nat.add_zero] at r0
          simp only [fId] at c0 c1
          clear HKE HDR hK2 hG2 hD HXX
          go_wp2_with fail
          go_roundw
          case rel => exact ⟨i + 1,m + 1,cur.set i x,by go_num,by go_num,by omega,by omega,hD2,HKP,HGP⟩
          case measure => simp [intOf];omega
         | true =>
          have hq:q = true:=by
           rw [HEQ.out,h1k]
           exact k2
          subst hq
          go_wp2_with fail
          go_quiet (fail)
          have hK2:KBlk (wr.drewN nq) g 36 2 fId cur rest:=hK.out
          have hG2:Hid (w.grownBy (wr.drewN nq) (some g)):=grown_drewN' hG.out nq
          clear c0 c1 d0 d1 hK hG e1 e2
          generalize wr.drewN nq = w2 at *
          have hD2:=Lib.hid (HDR.out (by simp))
          have HK2:=Lib.hid hK2
          clear HKE HDR hK2 hD
          go_wp2_with fail
          go_roundw
          case rel => exact ⟨i,m + 1,cur,rfl,by go_num,by omega,by omega,hD2,HK2,hG2⟩
          case measure => simp [intOf];omega
       ·have hme:k + m = ds.length:=by omega
        have hD:=hD.out
        rw [hme] at hD
        have hin:i < ds.length:=hD.le
        have hdone:=Lib.hid hD.done
        obtain ⟨z0,hz0⟩:∃ z:Value,z = .agg #[.int .i64 0,.string ⟨#[]⟩]:=⟨_,rfl⟩
        have hzs:z0.cells.size = 2:=by rw [hz0];rfl
        have hm8:i * 2 + (ds.length - i) * 2 = ds.length * 2:=by omega
        have hcl:∀ ty,(Builtin.clear_ #[40] ty #[.slice (some ⟨g,i * 2,none⟩) (ds.length - i) (cap - i)]).run Tryz.prog wr = .ok (.tuple #[]) (setK wr g (i * 2) (Builtin.zeroCells z0.cells (ds.length - i)).toList) :=
         fun ty => run_clear_rows wr _ _ ty z0 Tryz.underlying40 (fun w => by rw [hz0];kernel_rfl) 2 hzs (by omega) (by rw [hz0];simp [Value.cells,Value.oneCell']) g (i * 2) _ _ (by omega) (fun q hq => by
          have h1:=hK.out.cell (i + q / 2) (q % 2) (by omega) (by omega)
          rw [show i * 2 + q = (i + q / 2) * 2 + q % 2 from by omega,h1];rfl) (fun q hq => hK.out.frozen _)
        have hKC:=Lib.hid (hK.out.cut (i:=i) (by omega) (Builtin.zeroCells z0.cells (ds.length - i)).toList (by rw [Array.length_toList,size_zeroCells,hzs];omega))
        have hGC:=Lib.hid (setK_grown (i * 2) (Builtin.zeroCells z0.cells (ds.length - i)).toList hG.out)
        have hLC:Hid ((Builtin.zeroCells z0.cells (ds.length - i)).toList.length = (ds.length - i) * 2):=by show _ = _;rw [Array.length_toList,size_zeroCells,hzs]
        generalize setK wr g (i * 2) (Builtin.zeroCells z0.cells (ds.length - i)).toList = w9 at *
        have HF:Hid ((∃ v',Ending.returned (.slice (some ⟨g,0,none⟩) i cap) = .returned v' ∧ Orow w9 B 36 2 fId v' (compF eqId ds) ∧ (v'.ownBlock = (Value.slice (some ⟨g,0,none⟩) ds.length cap).ownBlock)) ∧ w.grownBy w9 (Value.slice (some ⟨g,0,none⟩) ds.length cap).ownBlock):=by
         refine ⟨⟨_,rfl,?_,rfl⟩,hGC.out⟩
         have hli:(cur.take i).length = i:=by rw [List.length_take];omega
         have:=Orow.of_blk (cap:=cap) hKC.out hBg hm (by omega) (by rw [List.length_append,hLC.out,HRE.out,hli];omega)
         rw [hli] at this
         rw [← hdone.out]
         exact this
        clear hD hK hG hKC hGC hLC hz0 hzs hm8 hdone
        go_wp2_with fail
        go_ret
        exact HF.out
   ·have hke:k = ds.length:=by omega
    subst hke
    have HF:Hid ((∃ v',Ending.returned (.slice (some ⟨g,0,none⟩) ds.length cap) = .returned v' ∧ Orow wr B 36 2 fId v' (compF eqId ds) ∧ (v'.ownBlock = (Value.slice (some ⟨g,0,none⟩) ds.length cap).ownBlock)) ∧ w.grownBy wr (Value.slice (some ⟨g,0,none⟩) ds.length cap).ownBlock):=by
     refine ⟨⟨_,rfl,?_,rfl⟩,hG.out⟩
     have h2:=hC.out
     rw [List.take_length] at h2
     rw [h2]
     exact Orow.of_blk hK.out hBg hm hlc HRE.out
    clear hK hG hC
    go_wp2_with fail
    go_ret
    exact HF.out
open Go.RowKit
theorem Fam.putTwo {ι:Type} {W W':World} {B:Nat} {S:ι → Prop} {T k:ι → Nat} {v:ι → Value} {n:ι → Nat} {cs:ι → List Value} (h:Fam W B S T k v n cs) {i j:ι} (hi:S i) (hj:S j) (hij:i ≠ j)
  (hk:∀ g,g < W.heap.size → B ≤ g → (v i).ownBlock ≠ some g → (v j).ownBlock ≠ some g → W'.heap[g]? = W.heap[g]?) {v1 v2:Value} {n1 n2:Nat} {c1 c2:List Value} (ho1:W'.ownsRow B (T i) (k i) v1 n1 c1) (ho2:W'.ownsRow B (T j) (k j) v2 n2 c2)
  (ha1:v1.ownBlock = (v i).ownBlock ∨ ∃ g,v1.ownBlock = some g ∧ W.heap.size ≤ g) (ha2:v2.ownBlock = (v j).ownBlock ∨ ∃ g,v2.ownBlock = some g ∧ W.heap.size ≤ g) (hap:apart v1 v2) :
  Fam W' B S T k (upd (upd v i v1) j v2) (upd (upd n i n1) j n2) (upd (upd cs i c1) j c2):=by
 have hji:j ≠ i:=fun e => hij e.symm
 have oth:∀ l,S l → l ≠ i → l ≠ j → W'.ownsRow B (T l) (k l) (v l) (n l) (cs l):=fun l hl e1 e2 => by
  refine ownsRow_heap (h.own l hl) fun g hg => ?_
  obtain ⟨h1,h2⟩:=(h.own l hl).lt _ hg
  refine hk g h2 h1 (fun c => ?_) (fun c => ?_)
  ·rcases h.sep l i hl hi e1 with d | d
   ·rw [hg] at d;cases d
   ·exact d (hg.trans c.symm)
  ·rcases h.sep l j hl hj e2 with d | d
   ·rw [hg] at d;cases d
   ·exact d (hg.trans c.symm)
 -- a new row stands apart from an old one
 have far:∀ (u:Value) (q:ι),S q → (u.ownBlock = (v q).ownBlock ∨ ∃ g,u.ownBlock = some g ∧ W.heap.size ≤ g) → ∀ l,S l → l ≠ q → (v l).ownBlock = none ∨ (v l).ownBlock ≠ u.ownBlock:=fun u q hq ha l hl e => by
  rcases ha with ha | ⟨g,ha,hg⟩
  ·rw [ha];exact h.sep l q hl hq e
  ·cases e3:(v l).ownBlock with
   | none => exact Or.inl rfl
   | some b =>
    right
    intro c
    rw [ha] at c
    injection c with c
    have:=((h.own l hl).lt _ e3).2
    omega
 have far':∀ (u:Value) (q:ι),S q → (u.ownBlock = (v q).ownBlock ∨ ∃ g,u.ownBlock = some g ∧ W.heap.size ≤ g) → ∀ l,S l → l ≠ q → u.ownBlock = none ∨ u.ownBlock ≠ (v l).ownBlock:=fun u q hq ha l hl e => by
  rcases far u q hq ha l hl e with d | d
  ·cases e4:u.ownBlock with
   | none => exact Or.inl rfl
   | some g => right;rw [d];simp
  ·exact Or.inr (fun c => d c.symm)
 have V:∀ l,l ≠ i → l ≠ j → upd (upd v i v1) j v2 l = v l:=fun l e1 e2 => by rw [upd_ne _ _ e2,upd_ne _ _ e1]
 have Vi:upd (upd v i v1) j v2 i = v1:=by rw [upd_ne _ _ hij,upd_self]
 have Vj:upd (upd v i v1) j v2 j = v2:=upd_self _ _ _
 refine ⟨fun l hl => ?_,fun l q hl hq hne => ?_⟩
 ·by_cases e2:l = j
  ·subst e2
   rw [Vj,upd_self,upd_self]
   exact ho2
  ·by_cases e1:l = i
   ·subst e1
    rw [Vi,upd_ne _ _ e2,upd_self,upd_ne _ _ e2,upd_self]
    exact ho1
   ·rw [V l e1 e2,upd_ne _ _ e2,upd_ne _ _ e1,upd_ne _ _ e2,upd_ne _ _ e1]
    exact oth l hl e1 e2
 ·by_cases e2:l = j
  ·subst e2
   rw [Vj]
   by_cases d1:q = i
   ·subst d1
    rw [Vi]
    rcases hap with d | d | d
    ·cases e4:v2.ownBlock with
     | none => exact Or.inl rfl
     | some g => right;rw [d];simp
    ·exact Or.inl d
    ·exact Or.inr (fun c => d c.symm)
   ·rw [V q d1 (fun c => hne c.symm)]
    exact far' v2 l hj ha2 q hq (fun c => hne c.symm)
  ·by_cases e1:l = i
   ·subst e1
    rw [Vi]
    by_cases d2:q = j
    ·subst d2
     rw [Vj]
     rcases hap with d | d | d
     ·exact Or.inl d
     ·cases e4:v1.ownBlock with
      | none => exact Or.inl rfl
      | some g => right;rw [d];simp
     ·exact Or.inr d
    ·rw [V q (fun c => hne c.symm) d2]
     exact far' v1 l hi ha1 q hq (fun c => hne c.symm)
   ·rw [V l e1 e2]
    by_cases d2:q = j
    ·subst d2
     rw [Vj]
     exact far v2 q hj ha2 l hl e2
    ·by_cases d1:q = i
     ·subst d1
      rw [Vi]
      exact far v1 q hi ha1 l hl e1
     ·rw [V q d1 d2]
      exact h.sep l q hl hq hne
structure MemD where
 key:IdD
 vT:Value
 vI:Value
 vA:Value
def fMem (d:MemD):Nat → Value
 | 0 => .int .i64 d.key.kind
 | 1 => .string d.key.text
 | 2 => d.vT
 | 3 => d.vI
 | _ => d.vA
def mem0:MemD:=⟨zeroId,.slice none 0 0,.slice none 0 0,.slice none 0 0⟩
abbrev MI:Type:=Option (Nat × Nat)
def mS (len:Nat):MI → Prop
 | none => True
 | some (k,c) => k < len ∧ c < 3
def mT:MI → Nat
 | none => 121
 | some (_,c) => if c = 1 then 36 else 3
def mK:MI → Nat
 | none => 5
 | some (_,c) => if c = 1 then 2 else 1
def mV (vout:Value) (ms:List MemD):MI → Value
 | none => vout
 | some (k,c) => if c = 0 then (ms.getD k mem0).vT else if c = 1 then (ms.getD k mem0).vI else (ms.getD k mem0).vA
def mN (ms:List MemD) (nos:Nat → List Int) (idss:Nat → List IdD) (ats:Nat → List Int):MI → Nat
 | none => ms.length
 | some (k,c) => if c = 0 then (nos k).length else if c = 1 then (idss k).length else (ats k).length
def mC (ms:List MemD) (nos:Nat → List Int) (idss:Nat → List IdD) (ats:Nat → List Int):MI → List Value
 | none => cellsOf 5 fMem ms
 | some (k,c) => if c = 0 then cellsOf 1 fI (nos k) else if c = 1 then cellsOf 2 fId (idss k) else cellsOf 1 fI (ats k)
structure MS (w:World) (B:Nat) (ms:List MemD) (nos:Nat → List Int) (idss:Nat → List IdD) (ats:Nat → List Int) (vout:Value) (W:World):Prop where
 fam:Fam W B (mS ms.length) mT mK (mV vout ms) (mN ms nos idss ats) (mC ms nos idss ats)
 bel:Below w.heap.size w W
 ge:w.heap.size ≤ B
section
variable {w W W':World} {B:Nat} {ms:List MemD} {nos ats:Nat → List Int} {idss:Nat → List IdD} {vout:Value}
theorem MS.call (h:MS w B ms nos idss ats vout W) (hb:Below W.heap.size W W'):MS w B ms nos idss ats vout W':=⟨h.fam.below hb,h.bel.trans (hb.mono h.bel.size),h.ge⟩
theorem MS.out (h:MS w B ms nos idss ats vout W):Orow W B 121 5 fMem vout ms:=h.fam.own none trivial
theorem MS.rowT (h:MS w B ms nos idss ats vout W) {k:Nat} (hk:k < ms.length):Orow W B 3 1 fI ms[k].vT (nos k):=by
 have:=h.fam.own (some (k,0)) ⟨hk,by decide⟩
 simp only [mT,mK,mV,mN,mC] at this
 rw [List.getD_eq_getElem?_getD,List.getElem?_eq_getElem hk] at this
 exact this
theorem MS.rowI (h:MS w B ms nos idss ats vout W) {k:Nat} (hk:k < ms.length):Orow W B 36 2 fId ms[k].vI (idss k):=by
 have:=h.fam.own (some (k,1)) ⟨hk,by decide⟩
 simp only [mT,mK,mV,mN,mC] at this
 rw [List.getD_eq_getElem?_getD,List.getElem?_eq_getElem hk] at this
 exact this
theorem MS.rowA (h:MS w B ms nos idss ats vout W) {k:Nat} (hk:k < ms.length):Orow W B 3 1 fI ms[k].vA (ats k):=by
 have:=h.fam.own (some (k,2)) ⟨hk,by decide⟩
 simp only [mT,mK,mV,mN,mC] at this
 rw [List.getD_eq_getElem?_getD,List.getElem?_eq_getElem hk] at this
 exact this
theorem MS.start (hb:Below w.heap.size w W) (hB:w.heap.size ≤ B):MS w B [] (fun _ => []) (fun _ => []) (fun _ => []) (.slice none 0 0) W:=by
 refine ⟨⟨fun i hi => ?_,fun i j hi hj hne => ?_⟩,hb,hB⟩
 ·match i,hi with
  | none,_ => exact World.ownsRow_nil _ _ _ _
  | some (k,c),hi => exact absurd hi.1 (by simp)
 ·match i,hi with
  | none,_ => exact Or.inl rfl
  | some (k,c),hi => exact absurd hi.1 (by simp)
theorem getD_lt {D:Type} {l:List D} {k:Nat} (h:k < l.length) (d e:D):l.getD k d = (l ++ [e]).getD k d:=by
 rw [List.getD_eq_getElem?_getD,List.getD_eq_getElem?_getD,List.getElem?_append_left h]
theorem getD_len {D:Type} (l:List D) (d e:D):(l ++ [e]).getD l.length d = e:=by
 rw [List.getD_eq_getElem?_getD,List.getElem?_append_right (Nat.le_refl _)]
 simp
theorem MS.new (h:MS w B ms nos idss ats vout W) {d:MemD} (hT:d.vT = .slice none 0 0) (hI:d.vI = .slice none 0 0) (hA:d.vA = .slice none 0 0) {v':Value} (ho:Orow W' B 121 5 fMem v' (ms ++ [d])) (hg:W.grownBy W' vout.ownBlock)
  (hat:v'.ownBlock = vout.ownBlock ∨ ∃ g,v'.ownBlock = some g ∧ W.heap.size ≤ g) (hb:Below w.heap.size w W') :
  MS w B (ms ++ [d]) (fun k => if k < ms.length then nos k else []) (fun k => if k < ms.length then idss k else []) (fun k => if k < ms.length then ats k else []) v' W':=by
 have hf:=h.fam.put (i:=none) trivial hg (v':=v') (n':=(ms ++ [d]).length) (cs':=cellsOf 5 fMem (ms ++ [d])) ho hat
 refine ⟨⟨fun i hi => ?_,fun i j hi hj hne => ?_⟩,hb,h.ge⟩
 ·match i,hi with
  | none,_ => exact ho
  | some (k,c),hi =>
   have hk:k < ms.length + 1:=by simpa using hi.1
   by_cases e:k < ms.length
   ·have:=hf.own (some (k,c)) ⟨e,hi.2⟩
    rw [upd_ne _ _ (by simp),upd_ne _ _ (by simp),upd_ne _ _ (by simp)] at this
    simp only [mV,mN,mC] at this ⊢
    rw [← getD_lt e,if_pos e,if_pos e,if_pos e]
    exact this
   ·have e2:k = ms.length:=by omega
    subst e2
    simp only [mV,mN,mC]
    rw [getD_len,hT,hI,hA,if_neg e,if_neg e,if_neg e]
    simp only [ite_self,cellsOf,List.flatMap_nil,List.length_nil]
    exact World.ownsRow_nil _ _ _ _
 ·have oldv:∀ k c,k < ms.length → mV v' (ms ++ [d]) (some (k,c)) = mV vout ms (some (k,c)):=fun k c e => by
   simp only [mV]
   rw [← getD_lt e]
  have newv:∀ k c,¬ k < ms.length → k < ms.length + 1 → (mV v' (ms ++ [d]) (some (k,c))).ownBlock = none:=fun k c e1 e2 => by
   have:k = ms.length:=by omega
   subst this
   simp only [mV]
   rw [getD_len,hT,hI,hA]
   simp only [ite_self]
   rfl
  match i,j,hi,hj,hne with
  | none,none,_,_,hne => exact absurd rfl hne
  | none,some (k,c),_,hj,_ =>
   have hk:k < ms.length + 1:=by simpa using hj.1
   by_cases e:k < ms.length
   ·rw [oldv k c e]
    have:=hf.sep none (some (k,c)) trivial ⟨e,hj.2⟩ (by simp)
    rw [upd_self,upd_ne _ _ (by simp)] at this
    exact this
   ·rw [newv k c e hk]
    show v'.ownBlock = none ∨ v'.ownBlock ≠ none
    cases v'.ownBlock <;> simp
  | some (k,c),none,hi,_,_ =>
   have hk:k < ms.length + 1:=by simpa using hi.1
   by_cases e:k < ms.length
   ·rw [oldv k c e]
    have:=hf.sep (some (k,c)) none ⟨e,hi.2⟩ trivial (by simp)
    rw [upd_self,upd_ne _ _ (by simp)] at this
    exact this
   ·exact Or.inl (newv k c e hk)
  | some (k,c),some (l,e),hi,hj,hne =>
   have hk:k < ms.length + 1:=by simpa using hi.1
   have hl:l < ms.length + 1:=by simpa using hj.1
   by_cases e1:k < ms.length
   ·rw [oldv k c e1]
    by_cases e2:l < ms.length
    ·rw [oldv l e e2]
     have:=hf.sep (some (k,c)) (some (l,e)) ⟨e1,hi.2⟩ ⟨e2,hj.2⟩ hne
     rw [upd_ne _ _ (by simp),upd_ne _ _ (by simp)] at this
     exact this
    ·rw [newv l e e2 hl]
     cases (mV vout ms (some (k,c))).ownBlock <;> simp
   ·exact Or.inl (newv k c e1 hk)
theorem MS.blk (h:MS w B ms nos idss ats vout W) (hne:0 < ms.length):∃ go cap rest,vout = .slice (some ⟨go,0,none⟩) ms.length cap ∧ ms.length ≤ cap ∧ B ≤ go ∧ go < W.heap.size ∧ cap ≤ maxLen ∧ KBlk W go 121 5 fMem ms rest ∧ rest.length = cap * 5 - ms.length * 5 :=
 h.out.form (fun e => by rw [e] at hne;simp at hne)
theorem getD_setL {D:Type} {l:List D} {k:Nat} (hk:k < l.length) (d e:D) (q:Nat):(l.set k d).getD q e = if q = k then d else l.getD q e:=by
 rw [List.getD_eq_getElem?_getD,List.getD_eq_getElem?_getD,List.getElem?_set]
 by_cases h:k = q
 ·subst h
  rw [if_pos rfl,if_pos hk,if_pos rfl];rfl
 ·rw [if_neg h,if_neg (fun c => h c.symm)]
theorem MS.twoG (h:MS w B ms nos idss ats vout W) {k:Nat} (hk:k < ms.length) {go cap:Nat} {rest:List Value} (hv:vout = .slice (some ⟨go,0,none⟩) ms.length cap) (hcap:ms.length ≤ cap) (hcm:cap ≤ maxLen) (hB:B ≤ go) (hrest:rest.length = cap * 5 - ms.length * 5)
  (hkeep:∀ g,g < W.heap.size → B ≤ g → ms[k].vT.ownBlock ≠ some g → ms[k].vA.ownBlock ≠ some g → W'.heap[g]? = W.heap[g]?) {v1 v2:Value} {l1 l2:List Int} (ho1:Orow W' B 3 1 fI v1 l1) (ho2:Orow W' B 3 1 fI v2 l2)
  (ha1:v1.ownBlock = ms[k].vT.ownBlock ∨ ∃ g,v1.ownBlock = some g ∧ W.heap.size ≤ g) (ha2:v2.ownBlock = ms[k].vA.ownBlock ∨ ∃ g,v2.ownBlock = some g ∧ W.heap.size ≤ g) (hap:apart v1 v2) {W'':World} (gr:W'.grownBy W'' (some go)) (b2:KBlk W'' go 121 5 fMem (ms.set k { ms[k] with vT:=v1,vA:=v2 }) rest) (hbel:Below w.heap.size w W'') :
  MS w B (ms.set k { ms[k] with vT:=v1,vA:=v2 }) (fun q => if q = k then l1 else nos q) idss (fun q => if q = k then l2 else ats q) vout W'':=by
 have e0:mV vout ms (some (k,0)) = ms[k].vT:=by simp only [mV];rw [List.getD_eq_getElem?_getD,List.getElem?_eq_getElem hk];rfl
 have e2:mV vout ms (some (k,2)) = ms[k].vA:=by simp only [mV];rw [List.getD_eq_getElem?_getD,List.getElem?_eq_getElem hk];rfl
 have f1:=h.fam.putTwo (i:=some (k,0)) (j:=some (k,2)) ⟨hk,by decide⟩ ⟨hk,by decide⟩ (by simp) (W':=W') (by rw [e0,e2];exact hkeep) (v1:=v1) (v2:=v2) (n1:=l1.length) (n2:=l2.length) (c1:=cellsOf 1 fI l1) (c2:=cellsOf 1 fI l2) ho1 ho2 (by rw [e0];exact ha1) (by rw [e2];exact ha2) hap
 have hbk:vout.ownBlock = some go:=by rw [hv];rfl
 have ho:Orow W'' B 121 5 fMem vout (ms.set k { ms[k] with vT:=v1,vA:=v2 }):=by
  have:=Orow.of_blk (B:=B) (cap:=cap) b2 hB hcm (by simpa using hcap) (by simpa using hrest)
  rw [List.length_set,← hv] at this
  exact this
 have f2:=f1.put (i:=none) trivial (W':=W'') (by rw [upd_ne _ _ (by simp),upd_ne _ _ (by simp)];show W'.grownBy _ vout.ownBlock;rw [hbk];exact gr) (v':=vout) (n':=(ms.set k { ms[k] with vT:=v1,vA:=v2 }).length) (cs':=cellsOf 5 fMem (ms.set k { ms[k] with vT:=v1,vA:=v2 })) ho (Or.inl (by rw [upd_ne _ _ (by simp),upd_ne _ _ (by simp)];rfl))
 have hge:=h.ge
 refine ⟨f2.congr (fun i hi => ?_) (fun i hi => ?_) (fun i hi => ?_) (fun i hi => ?_),hbel,h.ge⟩
 ·match i,hi with
  | none,_ => trivial
  | some (q,c),hi => exact ⟨by simpa using hi.1,hi.2⟩
 ·match i,hi with
  | none,_ => rw [upd_self];rfl
  | some (q,c),hi =>
   have hc:=hi.2
   rw [upd_ne _ _ (by simp)]
   simp only [mV]
   rw [getD_setL hk]
   by_cases eq:q = k
   ·subst eq
    rw [if_pos rfl]
    have:c = 0 ∨ c = 1 ∨ c = 2:=by omega
    rcases this with rfl | rfl | rfl
    ·rw [upd_ne _ _ (by simp),upd_self];rfl
    ·rw [upd_ne _ _ (by simp),upd_ne _ _ (by simp)]
     simp only [mV]
     rw [List.getD_eq_getElem?_getD,List.getElem?_eq_getElem hk];rfl
    ·rw [upd_self];rfl
   ·rw [if_neg eq,upd_ne _ _ (by simp [eq]),upd_ne _ _ (by simp [eq])]
    rfl
 ·match i,hi with
  | none,_ => rw [upd_self];rfl
  | some (q,c),hi =>
   have hc:=hi.2
   rw [upd_ne _ _ (by simp)]
   simp only [mN]
   by_cases eq:q = k
   ·subst eq
    rw [if_pos rfl,if_pos rfl]
    have:c = 0 ∨ c = 1 ∨ c = 2:=by omega
    rcases this with rfl | rfl | rfl
    ·rw [upd_ne _ _ (by simp),upd_self];rfl
    ·rw [upd_ne _ _ (by simp),upd_ne _ _ (by simp)];rfl
    ·rw [upd_self];rfl
   ·rw [if_neg eq,if_neg eq,upd_ne _ _ (by simp [eq]),upd_ne _ _ (by simp [eq])]
    rfl
 ·match i,hi with
  | none,_ => rw [upd_self];rfl
  | some (q,c),hi =>
   have hc:=hi.2
   rw [upd_ne _ _ (by simp)]
   simp only [mC]
   by_cases eq:q = k
   ·subst eq
    rw [if_pos rfl,if_pos rfl]
    have:c = 0 ∨ c = 1 ∨ c = 2:=by omega
    rcases this with rfl | rfl | rfl
    ·rw [upd_ne _ _ (by simp),upd_self];rfl
    ·rw [upd_ne _ _ (by simp),upd_ne _ _ (by simp)];rfl
    ·rw [upd_self];rfl
   ·rw [if_neg eq,if_neg eq,upd_ne _ _ (by simp [eq]),upd_ne _ _ (by simp [eq])]
    rfl
theorem MS.one (h:MS w B ms nos idss ats vout W) {k:Nat} (hk:k < ms.length) {go cap:Nat} {rest:List Value} (hv:vout = .slice (some ⟨go,0,none⟩) ms.length cap) (hcap:ms.length ≤ cap) (hcm:cap ≤ maxLen) (hB:B ≤ go) (hrest:rest.length = cap * 5 - ms.length * 5) (hblk:KBlk W' go 121 5 fMem ms rest)
  (hkeep:∀ g,g < W.heap.size → B ≤ g → ms[k].vI.ownBlock ≠ some g → W'.heap[g]? = W.heap[g]?) {v1:Value} {l1:List IdD} (ho1:Orow W' B 36 2 fId v1 l1)
  (ha1:v1.ownBlock = ms[k].vI.ownBlock ∨ ∃ g,v1.ownBlock = some g ∧ W.heap.size ≤ g) (hbel:Below w.heap.size w W') :
  MS w B (ms.set k { ms[k] with vI:=v1 }) nos (fun q => if q = k then l1 else idss q) ats vout (W'.setCell ⟨go,k * 5 + 3,none⟩ v1):=by
 have e1:mV vout ms (some (k,1)) = ms[k].vI:=by simp only [mV];rw [List.getD_eq_getElem?_getD,List.getElem?_eq_getElem hk];rfl
 have f1:=h.fam.put2 (i:=some (k,1)) ⟨hk,by decide⟩ (W':=W') (by rw [e1];exact hkeep) (v':=v1) (n':=l1.length) (cs':=cellsOf 2 fId l1) ho1 (by rw [e1];exact ha1)
 have b2:=hblk.upd k 3 hk (by decide) (d':={ ms[k] with vI:=v1 }) (x:=v1) rfl (fun q hq hne => by
  match q,hq,hne with
  | 0,_,_ => rfl
  | 1,_,_ => rfl
  | 2,_,_ => rfl
  | 4,_,_ => rfl)
 have gr:W'.grownBy (W'.setCell ⟨go,k * 5 + 3,none⟩ v1) (some go):=grown_setC (World.grownBy.refl _ _) _ _
 have hbk:vout.ownBlock = some go:=by rw [hv];rfl
 have ho:Orow (W'.setCell ⟨go,k * 5 + 3,none⟩ v1) B 121 5 fMem vout (ms.set k { ms[k] with vI:=v1 }):=by
  have:=Orow.of_blk (B:=B) (cap:=cap) b2 hB hcm (by simpa using hcap) (by simpa using hrest)
  rw [List.length_set,← hv] at this
  exact this
 have f2:=f1.put (i:=none) trivial (W':=W'.setCell ⟨go,k * 5 + 3,none⟩ v1) (by rw [upd_ne _ _ (by simp)];show W'.grownBy _ vout.ownBlock;rw [hbk];exact gr) (v':=vout) (n':=(ms.set k { ms[k] with vI:=v1 }).length) (cs':=cellsOf 5 fMem (ms.set k { ms[k] with vI:=v1 })) ho (Or.inl (by rw [upd_ne _ _ (by simp)];rfl))
 have hge:=h.ge
 refine ⟨f2.congr (fun i hi => ?_) (fun i hi => ?_) (fun i hi => ?_) (fun i hi => ?_),hbel.setCell (p:=⟨go,k * 5 + 3,none⟩) (by show w.heap.size ≤ go;omega) _,h.ge⟩
 ·match i,hi with
  | none,_ => trivial
  | some (q,c),hi => exact ⟨by simpa using hi.1,hi.2⟩
 ·match i,hi with
  | none,_ => rw [upd_self];rfl
  | some (q,c),hi =>
   have hc:=hi.2
   rw [upd_ne _ _ (by simp)]
   simp only [mV]
   rw [getD_setL hk]
   by_cases eq:q = k
   ·subst eq
    rw [if_pos rfl]
    have:c = 0 ∨ c = 1 ∨ c = 2:=by omega
    rcases this with rfl | rfl | rfl
    ·rw [upd_ne _ _ (by simp)]
     simp only [mV]
     rw [List.getD_eq_getElem?_getD,List.getElem?_eq_getElem hk];rfl
    ·rw [upd_self];rfl
    ·rw [upd_ne _ _ (by simp)]
     simp only [mV]
     rw [List.getD_eq_getElem?_getD,List.getElem?_eq_getElem hk];rfl
   ·rw [if_neg eq,upd_ne _ _ (by simp [eq])]
    rfl
 ·match i,hi with
  | none,_ => rw [upd_self];rfl
  | some (q,c),hi =>
   have hc:=hi.2
   rw [upd_ne _ _ (by simp)]
   simp only [mN]
   by_cases eq:q = k
   ·subst eq
    rw [if_pos rfl]
    have:c = 0 ∨ c = 1 ∨ c = 2:=by omega
    rcases this with rfl | rfl | rfl
    ·rw [upd_ne _ _ (by simp)];rfl
    ·rw [upd_self];rfl
    ·rw [upd_ne _ _ (by simp)];rfl
   ·rw [if_neg eq,upd_ne _ _ (by simp [eq])]
    rfl
 ·match i,hi with
  | none,_ => rw [upd_self];rfl
  | some (q,c),hi =>
   have hc:=hi.2
   rw [upd_ne _ _ (by simp)]
   simp only [mC]
   by_cases eq:q = k
   ·subst eq
    rw [if_pos rfl]
    have:c = 0 ∨ c = 1 ∨ c = 2:=by omega
    rcases this with rfl | rfl | rfl
    ·rw [upd_ne _ _ (by simp)];rfl
    ·rw [upd_self];rfl
    ·rw [upd_ne _ _ (by simp)];rfl
   ·rw [if_neg eq,upd_ne _ _ (by simp [eq])]
    rfl
theorem MS.sepTA (h:MS w B ms nos idss ats vout W) {k:Nat} (hk:k < ms.length):apart ms[k].vT ms[k].vA:=by
 have:=h.fam.sep (some (k,0)) (some (k,2)) ⟨hk,by decide⟩ ⟨hk,by decide⟩ (by simp)
 simp only [mV] at this
 rw [List.getD_eq_getElem?_getD,List.getElem?_eq_getElem hk] at this
 rcases this with h | h
 ·exact Or.inl h
 ·exact Or.inr (Or.inr h)
theorem MS.sepOut (h:MS w B ms nos idss ats vout W) {k:Nat} (hk:k < ms.length) {go:Nat} (hv:vout.ownBlock = some go):ms[k].vT.ownBlock ≠ some go ∧ ms[k].vA.ownBlock ≠ some go ∧ ms[k].vI.ownBlock ≠ some go:=by
 have one:∀ c,c < 3 → (mV vout ms (some (k,c))).ownBlock ≠ some go:=fun c hc e => by
  have:=h.fam.sep (some (k,c)) none ⟨hk,hc⟩ trivial (by simp)
  rcases this with h | h
  ·rw [e] at h;cases h
  ·exact h (e.trans hv.symm)
 have g:ms.getD k mem0 = ms[k]:=by rw [List.getD_eq_getElem?_getD,List.getElem?_eq_getElem hk];rfl
 have o0:=one 0 (by decide)
 have o1:=one 1 (by decide)
 have o2:=one 2 (by decide)
 simp only [mV,g] at o0 o1 o2
 exact ⟨o0,o2,o1⟩
theorem grown_back {W:World} {b:Nat} {o:Obj}:(ChangeMaps.setBlock W b o).grownBy W (some b):=by
 refine ⟨rfl,rfl,rfl,by simp [ChangeMaps.setBlock],fun i hi hne => ?_⟩
 have:b ≠ i:=fun c => hne (by rw [c])
 simp [ChangeMaps.setBlock,this]
theorem back_other {W:World} {b:Nat} {o:Obj} {i:Nat} (h:i ≠ b):(ChangeMaps.setBlock W b o).heap[i]? = W.heap[i]?:=by
 have:b ≠ i:=fun c => h c.symm
 simp [ChangeMaps.setBlock,this]
end
open Go.RowKit
def tch0:TchD:=⟨0,0,⟨#[]⟩,none,0,[],none,0,[]⟩
def tAt (ts:List TchD) (q:Nat):TchD:=ts.getD q tch0
theorem tAt_lt {ts:List TchD} {q:Nat} (h:q < ts.length):tAt ts q = ts[q]:=by
 unfold tAt
 rw [List.getD_eq_getElem?_getD,List.getElem?_eq_getElem h];rfl
theorem flatMap_le {D E:Type} {m:Nat} (f:D → List E):∀ (l:List D),(∀ q ∈ l,(f q).length ≤ m) → (l.flatMap f).length ≤ l.length * m
 | [],_ => by simp
 | x :: l,h => by
  rw [List.flatMap_cons,List.length_append,List.length_cons,Nat.succ_mul]
  have h1:=h x (by simp)
  have h2:=flatMap_le f l (fun q hq => h q (List.mem_cons_of_mem _ hq))
  omega
end Go.Proofs.YtcncifmanodabaaGreatDoor
