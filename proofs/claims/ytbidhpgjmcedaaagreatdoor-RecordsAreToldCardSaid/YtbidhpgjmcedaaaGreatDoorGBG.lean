/- Texts of this claim, put together: RefSur, RefRul, MakeId, IdxId, RevId, MakeIds, MakeTch. -/
import Derived.Test.YtbidhpgjmcedaaaGreatDoorGBF
import Derived.Test.YtbidhpgjmcedaaaGreatDoorGAR
import Derived.Test.YtbidhpgjmcedaaaGreatDoorGAS
import Derived.Test.YtbidhpgjmcedaaaGreatDoorGAQ
import Derived.Test.YtbidhpgjmcedaaaGreatDoorGAH
import Derived.Test.YtbidhpgjmcedaaaGreatDoorGAE
import Derived.Test.YtbidhpgjmcedaaaGreatDoorGAC
import Derived.Test.YtbidhpgjmcedaaaGreatDoorGAJ
import Derived.StillTailTactics
import Derived.Deep.Cut
import Derived.Test.YtbidhpgjmcedaaaGreatDoorGBC
import Derived.Test.YtbidhpgjmcedaaaGreatDoorGAK
import Derived.Laws.Rows
import Derived.Deep.CutBlock
import Derived.Deep.DeepCutAuto
namespace Go.Proofs.YtbidhpgjmcedaaaGreatDoor
set_option linter.unusedVariables false
open Go.RowKit
def SurPost (s : SurD) (last : ByteArray) (w : World) (e : Ending) (w' : World) : Prop:=∃ z : Int,e = .returned (.int .i64 z) ∧ (z = 0 → isKey s.name = true ∧ (1 ≤ s.how ∧ s.how ≤ 7) ∧ srcsE s = 0 ∧ leB s.name last = false) ∧ Below w.heap.size w w'
theorem SurPost.bad {s : SurD} {last : ByteArray} {w w' : World} {z : Int} (hz : z ≠ 0) (hb : Below w.heap.size w w') : SurPost s last w (.returned (.int .i64 z)) w':=⟨z,rfl,fun h => absurd h hz,hb⟩
set_option maxHeartbeats 4000000 in
set_option maxRecDepth 100000 in
theorem refSur_any (H : Frz) (s : SurD) (last : ByteArray) (w : World) (hH : H.In w) (hX : Rw H s.sa 1 fS s.srcs) (hz : SzS s) :
  Calls Tryz.prog 150 #[.agg #[.string s.name,.int .i64 s.how,.slice s.sa s.srcs.length s.sc],.string last] w (SurPost s last w):=by
 have z0 : (w.alloc (.cells #[.string s.name,.int .i64 s.how,.slice s.sa s.srcs.length s.sc] 210)).cell? ⟨w.heap.size,0,none⟩ = some (.string s.name):=newc 0 rfl
 have z1 : (w.alloc (.cells #[.string s.name,.int .i64 s.how,.slice s.sa s.srcs.length s.sc] 210)).cell? ⟨w.heap.size,1,none⟩ = some (.int .i64 s.how):=newc 1 rfl
 have z2 : (w.alloc (.cells #[.string s.name,.int .i64 s.how,.slice s.sa s.srcs.length s.sc] 210)).cell? ⟨w.heap.size,2,none⟩ = some (.slice s.sa s.srcs.length s.sc):=newc 2 rfl
 have HBN:=Lib.hid (new1 (w:=w) (.cells #[.string s.name,.int .i64 s.how,.slice s.sa s.srcs.length s.sc] 210))
 have HIN:=Lib.hid (hH.below HBN.out)
 have HR:=Lib.hid hX
 have HBAD:=Lib.hid (fun z (hz : z ≠ 0) W (hW : Below w.heap.size w W) => SurPost.bad (s:=s) (last:=last) (z:=z) hz hW)
 obtain ⟨s1,s2,s3,s4⟩:=hz
 have HS:=Lib.hid s4
 clear hH hX s4
 go_enter Tryz.func150,Tryz.ntmps150
 go_upto_region 1 with (fail)
 generalize w.alloc (.cells #[.string s.name,.int .i64 s.how,.slice s.sa s.srcs.length s.sc] 210) = W1 at *
 go_wp2_with fail
 refine (Key_any s.name _ (by omega)).mono ?_
 rintro e W2 ⟨rfl,hb2⟩
 have HB2:=Lib.hid (HBN.out.trans (hb2.mono HBN.out.size))
 have HIN2:=Lib.hid (HIN.out.below hb2)
 have Y0:=lift_cell z0 _ hb2
 have Y1:=lift_cell z1 _ hb2
 have Y2:=lift_cell z2 _ hb2
 clear hb2 z0 z1 z2 HIN
 cases hk : isKey s.name with
 | false =>
  have HF:=Lib.hid (HBAD.out 5 (by omega) _ HB2.out)
  clear hk
  go_wp2_with fail
  go_ret
  exact HF.out
 | true =>
  have HK:=Lib.hid hk
  clear hk
  go_wp2_with fail
  refine (in_any _ _ _ _).mono ?_
  rintro e w' ⟨rfl,rfl⟩
  by_cases g1 : 1 ≤ s.how ∧ s.how ≤ 7
  rotate_left
  ·have k1 : (decide ((1 : Int) ≤ s.how) && decide (s.how ≤ 7)) = false:=by simp; omega
   rw [k1]
   have HF:=Lib.hid (HBAD.out 4 (by omega) _ HB2.out)
   clear g1 k1
   go_wp2_with fail
   go_ret
   exact HF.out
  have k1 : (decide ((1 : Int) ≤ s.how) && decide (s.how ≤ 7)) = true:=by simp; omega
  rw [k1]
  have HG1:=Lib.hid g1
  clear g1 k1
  -- what is asked of the sources
  have hrest : Hid (fstErr (src1 s.srcs) s.srcs.length = 0 → ¬ (0 < s.srcs.length ∧ s.how ≠ 5) → ¬ 20 < s.srcs.length → srcsE s = 0):=fun h1 h2 h3 => by
   unfold srcsE
   rw [if_neg h2,if_neg h3]
   exact h1
  by_cases g2 : 0 < s.srcs.length ∧ s.how ≠ 5
  ·have k2 : decide ((0 : Int) < (s.srcs.length : Int)) = true:=by simp; omega
   have k2' : 0 < s.srcs.length:=g2.1
   have k3 : (s.how != 5) = true:=by simpa using g2.2
   have HF:=Lib.hid (HBAD.out 3 (by omega) _ HB2.out)
   clear g2
   go_wp2_with fail
   go_ret
   exact HF.out
  have HG2:=Lib.hid g2
  by_cases g3 : 20 < s.srcs.length
  ·have k5 : decide ((20 : Int) < (s.srcs.length : Int)) = true:=by simp; omega
   have k2 : decide ((0 : Int) < (s.srcs.length : Int)) = true:=by simp; omega
   have k2' : 0 < s.srcs.length:=by omega
   have k3 : (s.how != 5) = false:=by
    simp only [bne_eq_false_iff_eq]
    exact Classical.byContradiction fun c => g2 ⟨k2',c⟩
   have HF:=Lib.hid (HBAD.out 2 (by omega) _ HB2.out)
   clear g2 g3
   go_wp2_with fail
   go_ret
   exact HF.out
  have HG3:=Lib.hid g3
  have k5 : decide ((20 : Int) < (s.srcs.length : Int)) = false:=by simp; omega
  have HSR : Hid (fstErr (src1 s.srcs) s.srcs.length = 0 → srcsE s = 0):=fun h => hrest.out h HG2.out HG3.out
  clear hrest g3
  go_upto_region 5 with (fail)
  go_cut [17] (fun v wx => v = .bool false ∧ wx = W2)
  case first =>
   by_cases k2' : 0 < s.srcs.length
   ·have k2 : decide ((0 : Int) < (s.srcs.length : Int)) = true:=by simp; omega
    have k3 : (s.how != 5) = false:=by
     simp only [bne_eq_false_iff_eq]
     exact Classical.byContradiction fun c => g2 ⟨k2',c⟩
    clear g2
    go_wp2_with fail
    all_goals (go_meet; exact ⟨rfl,rfl⟩)
   ·have k2 : decide ((0 : Int) < (s.srcs.length : Int)) = false:=by simp; exact List.eq_nil_of_length_eq_zero (by omega)
    clear g2
    go_wp2_with fail
    all_goals (go_meet; exact ⟨rfl,rfl⟩)
  case rest =>
   obtain ⟨rfl,rfl⟩:=hcut
   clear g2
   obtain ⟨sa,hsa⟩ : ∃ sa,s.sa = sa:=⟨_,rfl⟩
   rw [hsa] at HR Y2 ⊢
   have Z0:=Lib.hid (lift_cell Y0)
   have Z2:=Lib.hid (lift_cell Y2)
   have hsl : (s.srcs.length : Int) ≤ 20:=by have:=HG3.out; omega
   clear hsa Y1 Y0
   go_wp2_with fail
   clear Y2
   go_loopw [35] (fun t wr => ∃ i : Nat,i ≤ s.srcs.length ∧ t = .int .i64 i ∧ Hid (fstErr (src1 s.srcs) i = 0) ∧ Hid (Below wc.heap.size wc wr)) (fun t _ => s.srcs.length - (intOf t).toNat)
   case atStart => exact ⟨0,by omega,rfl,rfl,Below.refl _ _⟩
   case round =>
    obtain ⟨i,hi,rfl,h0,hb⟩:=hrel
    have y2:=Z2.out _ hb.out
    by_cases hlt : i < s.srcs.length
    ·have hin:=HIN2.out.below hb.out
     obtain ⟨b,off,rfl,hbl,hc⟩:=HR.out.at_ hin hlt (by omega)
     have c0 : wr.cell? ⟨b,off + i,none⟩ = some (.string s.srcs[i]):=by simpa [fS] using hc 0 (by omega)
     have HCQ : Hid (∀ W,Below wr.heap.size wr W → ∀ q (hq : q < s.srcs.length),W.cell? ⟨b,off + q,none⟩ = some (.string s.srcs[q])):=fun W hW q hq => by
      obtain ⟨b',off',hA',hbl',hc'⟩:=HR.out.at_ (hin.below hW) hq (by omega)
      simp only [Option.some.injEq,Addr.mk.injEq] at hA'
      obtain ⟨rfl,rfl,_⟩:=hA'
      simpa [fS] using hc' 0 (by omega)
     have HAT:=Lib.hid (src1_at hlt)
     have HNX : Hid (src1 s.srcs i = 0 → fstErr (src1 s.srcs) (i + 1) = 0):=fun h1 => fstErr_next h0.out h1
     have hks:=HS.out _ (List.getElem_mem hlt)
     clear hc h0
     generalize s.srcs[i] = d at *
     go_wp2_with fail
     refine (Key_any d _ (by omega)).mono ?_
     rintro e W3 ⟨rfl,hb3⟩
     have HB3:=Lib.hid (hb.out.trans (hb3.mono hb.out.size))
     have HBD:=Lib.hid (HB2.out.trans (HB3.out.mono HB2.out.size))
     have HCW:=Lib.hid (HCQ.out W3 hb3)
     have x2:=Z2.out _ HB3.out
     clear hb3 y2 hb
     cases hk : isKey d with
     | false =>
      have HF:=Lib.hid (HBAD.out 5 (by omega) _ HBD.out)
      clear hk
      go_wp2_with fail
      go_ret
      exact HF.out
     | true =>
      have HA1:=Lib.hid (HAT.out.trans (if_neg (by rw [hk]; simp)))
      have hisc : (i : Int) ≤ s.sc:=by omega
      have hisc2 : i ≤ s.sc:=by omega
      clear hk HAT
      go_wp2_with fail
      refine (Tryz.slices_Contains_string b off i s.sc s.srcs d _ (by omega) (by omega) (fun j hj => ?_)).mono ?_
      ·rw [List.getD_eq_getElem?_getD,List.getElem?_eq_getElem hj,Option.getD_some]
       exact HCW.out j hj
      rintro e w' ⟨rfl,rfl⟩
      cases hq : Lib.containsS (s.srcs.take i) d with
      | true =>
       have HF:=Lib.hid (HBAD.out 6 (by omega) _ HBD.out)
       clear hq
       go_wp2_with fail
       go_ret
       exact HF.out
      | false =>
       have hany : (s.srcs.take i).any (eqS d) = false:=by
        rw [← Bool.not_eq_true]
        intro c
        rw [List.any_eq_true] at c
        obtain ⟨x,hx,e⟩:=c
        have:=(Lib.containsS_iff (s.srcs.take i) d).2 (by rw [eqS_iff.1 e]; exact hx)
        rw [hq] at this
        cases this
       have hok:=Lib.hid (HNX.out (HA1.out.trans (if_neg (by rw [hany]; simp))))
       clear hq hany
       go_wp2_with fail
       go_roundw
       case rel => exact ⟨i + 1,by omega,by go_num,hok,HB3⟩
       case measure => simp [intOf]; omega
    ·have hie : i = s.srcs.length:=by omega
     subst hie
     have y0:=Z0.out _ hb.out
     have HBD:=Lib.hid (HB2.out.trans (hb.out.mono HB2.out.size))
     have HSE:=Lib.hid (HSR.out h0.out)
     cases hle : leB s.name last with
     | true =>
      have HF:=Lib.hid (HBAD.out 7 (by omega) _ HBD.out)
      unfold leB at hle
      go_wp2_with fail
      go_ret
      exact HF.out
     | false =>
      have HF : Hid (SurPost s last w (.returned (.int .i64 0)) wr):=⟨0,rfl,fun _ => ⟨HK.out,HG1.out,HSE.out,hle⟩,HBD.out⟩
      unfold leB at hle
      go_wp2_with fail
      go_ret
      exact HF.out
open Go.RowKit
def prevK (ks : List Int) (i : Nat) : Int:=match i with | 0 => 0 | k + 1 => match ks[k]? with | some x => x | none => 0
def prevSn (us : List SurD) (i : Nat) : ByteArray:=match i with | 0 => ⟨#[]⟩ | k + 1 => match us[k]? with | some f => f.name | none => ⟨#[]⟩
theorem kd1_atR {ks : List Int} {i : Nat} (h : i < ks.length) : kd1 ks i = if ¬ (1 ≤ ks[i] ∧ ks[i] ≤ 4) then 4 else if 0 < i ∧ ks[i] ≤ ks.getD (i - 1) ks[i] then 7 else 0:=by
 unfold kd1
 rw [List.getElem?_eq_getElem h]
set_option maxHeartbeats 8000000 in
set_option maxRecDepth 100000 in
theorem refRul_any (H : Frz) (hM : MLen H) (r : RulD) (w : World) (hH : H.In w) (hR : RulIn H r) (hz : SzR r) :
  Calls Tryz.prog 79 #[.agg #[.slice r.ka r.kinds.length r.kc,.int .i64 r.most,.slice r.wa r.weaks.length r.wc,.slice r.sa r.surs.length r.sc]] w (RefPost w (rulE r)):=by
 have z0 : (w.alloc (.cells #[.slice r.ka r.kinds.length r.kc,.int .i64 r.most,.slice r.wa r.weaks.length r.wc,.slice r.sa r.surs.length r.sc] 44)).cell? ⟨w.heap.size,0,none⟩ = some (.slice r.ka r.kinds.length r.kc):=newc 0 rfl
 have z1 : (w.alloc (.cells #[.slice r.ka r.kinds.length r.kc,.int .i64 r.most,.slice r.wa r.weaks.length r.wc,.slice r.sa r.surs.length r.sc] 44)).cell? ⟨w.heap.size,1,none⟩ = some (.int .i64 r.most):=newc 1 rfl
 have z2 : (w.alloc (.cells #[.slice r.ka r.kinds.length r.kc,.int .i64 r.most,.slice r.wa r.weaks.length r.wc,.slice r.sa r.surs.length r.sc] 44)).cell? ⟨w.heap.size,2,none⟩ = some (.slice r.wa r.weaks.length r.wc):=newc 2 rfl
 have z3 : (w.alloc (.cells #[.slice r.ka r.kinds.length r.kc,.int .i64 r.most,.slice r.wa r.weaks.length r.wc,.slice r.sa r.surs.length r.sc] 44)).cell? ⟨w.heap.size,3,none⟩ = some (.slice r.sa r.surs.length r.sc):=newc 3 rfl
 have HBN:=Lib.hid (new1 (w:=w) (.cells #[.slice r.ka r.kinds.length r.kc,.int .i64 r.most,.slice r.wa r.weaks.length r.wc,.slice r.sa r.surs.length r.sc] 44))
 have HIN:=Lib.hid (hH.below HBN.out)
 have HBAD:=Lib.hid (fun z (hz : z ≠ 0) W (hW : Below w.heap.size w W) => RefPost.bad (z0:=rulE r) (z:=z) hz hW)
 have HSZ:=Lib.hid hz
 have HRI:=Lib.hid hR
 have HID:=Lib.hid (fun W (hW : H.In W) => refIds_any H hM r.wa r.wc r.weaks W hW hR.w hz.w hz.wt)
 have HSU:=Lib.hid (fun s (hs : s ∈ r.surs) last W (hW : H.In W) => refSur_any H s last W hW (hR.s s hs) (hz.us s hs))
 have HV : Hid (rulE r = if kdsE r.kinds ≠ 0 then kdsE r.kinds else if ¬ (2 ≤ r.most ∧ r.most ≤ 2000) then 1 else if 200 < r.weaks.length then 2 else if idsO r.weaks ≠ 0 then idsO r.weaks else sursE r.surs):=rfl
 have hk6:=hz.k
 have hw6:=hz.w
 have hu6:=hz.u
 clear hM hH hR hz
 go_enter Tryz.func79,Tryz.ntmps79
 go_upto_region 1 with (fail)
 generalize w.alloc (.cells #[.slice r.ka r.kinds.length r.kc,.int .i64 r.most,.slice r.wa r.weaks.length r.wc,.slice r.sa r.surs.length r.sc] 44) = W1 at *
 have Z0:=Lib.hid (lift_cell z0)
 have Z1:=Lib.hid (lift_cell z1)
 have Z2:=Lib.hid (lift_cell z2)
 have Z3:=Lib.hid (lift_cell z3)
 by_cases g0 : r.kinds.length = 0
 ·have k0 : ((r.kinds.length : Int) == 0) = true:=by simp [g0]
  have HF:=Lib.hid (HBAD.out 3 (by omega) _ HBN.out)
  clear g0
  go_wp2_with fail
  go_ret
  exact HF.out
 have k0 : ((r.kinds.length : Int) == 0) = false:=by simp; exact fun c => g0 (by simp [c])
 have HKD : Hid (fstErr (kd1 r.kinds) r.kinds.length = 0 → kdsE r.kinds = 0):=fun h => by
  unfold kdsE
  rw [if_neg g0]
  exact h
 have HRK:=Lib.hid HRI.out.k
 obtain ⟨ka,hka⟩ : ∃ ka,r.ka = ka:=⟨_,rfl⟩
 rw [hka] at HRK z0 Z0 ⊢
 obtain ⟨ks,hks⟩ : ∃ ks,r.kinds = ks:=⟨_,rfl⟩
 rw [hks] at HRK z0 Z0 hk6 k0 HKD HV ⊢
 clear g0 hka hks
 go_wp2_with fail
 clear z0 z1 z2 z3 k0
 go_loopw [3,18] (fun p t wr => ∃ i : Nat,i ≤ ks.length ∧ t = .int .i64 i ∧ p = .int .i64 (prevK ks i) ∧ Hid (fstErr (kd1 ks) i = 0) ∧ Hid (Below W1.heap.size W1 wr)) (fun _ t _ => ks.length - (intOf t).toNat)
 case atStart => exact ⟨0,by omega,rfl,rfl,rfl,Below.refl _ _⟩
 case round =>
  obtain ⟨i,hi,rfl,rfl,h0,hb⟩:=hrel
  by_cases hlt : i < ks.length
  ·have hin:=HIN.out.below hb.out
   obtain ⟨b,off,rfl,hbl,hc⟩:=HRK.out.at_ hin hlt (by omega)
   have c0 : wr.cell? ⟨b,off + i,none⟩ = some (.int .i64 ks[i]):=by simpa [fI] using hc 0 (by omega)
   have HAT:=Lib.hid (kd1_atR hlt)
   have HNX : Hid (kd1 ks i = 0 → fstErr (kd1 ks) (i + 1) = 0):=fun h1 => fstErr_next h0.out h1
   have HPV : Hid (0 < i → ks.getD (i - 1) ks[i] = prevK ks i):=fun hp => by
    obtain ⟨k,rfl⟩ : ∃ k,i = k + 1:=⟨i - 1,by omega⟩
    rw [Nat.add_sub_cancel,List.getD_eq_getElem?_getD,List.getElem?_eq_getElem (by omega),Option.getD_some]
    unfold prevK
    simp only
    rw [List.getElem?_eq_getElem (by omega)]
   have HPN : Hid (prevK ks (i + 1) = ks[i]):=by
    show _ = _
    unfold prevK
    simp only
    rw [List.getElem?_eq_getElem hlt]
   have HB1:=Lib.hid (HBN.out.trans (hb.out.mono HBN.out.size))
   clear hc h0
   generalize ks.getD (i - 1) ks[i] = pn at *
   generalize prevK ks i = pv at *
   generalize ks[i] = d at *
   go_wp2_with fail
   refine (in_any _ _ _ _).mono ?_
   rintro e w' ⟨rfl,rfl⟩
   by_cases g1 : 1 ≤ d ∧ d ≤ 4
   rotate_left
   ·have k1 : (decide ((1 : Int) ≤ d) && decide (d ≤ 4)) = false:=by simp; omega
    rw [k1]
    have HF:=Lib.hid (HBAD.out 4 (by omega) _ HB1.out)
    clear g1 k1
    go_wp2_with fail
    go_ret
    exact HF.out
   have k1 : (decide ((1 : Int) ≤ d) && decide (d ≤ 4)) = true:=by simp; omega
   rw [k1]
   have HA1:=Lib.hid (HAT.out.trans (if_neg (fun c => c g1)))
   clear g1 k1 HAT
   by_cases g2 : 0 < i ∧ d ≤ pv
   ·have k2 : decide ((0 : Int) < (i : Int)) = true:=by simp; omega
    have k2' : 0 < i:=g2.1
    have k3 : decide (d ≤ pv) = true:=by simpa using g2.2
    have HF:=Lib.hid (HBAD.out 7 (by omega) _ HB1.out)
    clear g2
    go_wp2_with fail
    go_ret
    exact HF.out
   ·have hok:=Lib.hid (HNX.out (HA1.out.trans (if_neg (fun c => g2 ⟨c.1,by rw [← HPV.out c.1]; exact c.2⟩))))
    by_cases k2' : 0 < i
    ·have k2 : decide ((0 : Int) < (i : Int)) = true:=by simp; omega
     have k3 : decide (d ≤ pv) = false:=by
      simp only [decide_eq_false_iff_not]
      exact fun c => g2 ⟨k2',c⟩
     clear g2
     go_wp2_with fail
     go_roundw
     case rel => exact ⟨i + 1,by omega,by go_num,by rw [HPN.out],hok,hb⟩
     case measure => simp [intOf]; omega
    ·have k2 : decide ((0 : Int) < (i : Int)) = false:=by simp; omega
     clear g2
     go_wp2_with fail
     go_roundw
     case rel => exact ⟨i + 1,by omega,by go_num,by rw [HPN.out],hok,hb⟩
     case measure => simp [intOf]; omega
  ·have hie : i = ks.length:=by omega
   subst hie
   have HV1:=Lib.hid (HV.out.trans (if_neg (by rw [HKD.out h0.out]; simp)))
   have y1:=Z1.out _ hb.out
   have y2:=Z2.out _ hb.out
   have y3:=Z3.out _ hb.out
   have HB1:=Lib.hid (HBN.out.trans (hb.out.mono HBN.out.size))
   have HIN1:=Lib.hid (HIN.out.below hb.out)
   clear Z0 Z1 Z2 Z3 HV HIN HRK hb h0
   generalize prevK ks ks.length = pk
   go_wp2_with fail
   refine (in_any _ _ _ _).mono ?_
   rintro e w' ⟨rfl,rfl⟩
   by_cases g1 : 2 ≤ r.most ∧ r.most ≤ 2000
   rotate_left
   ·have k1 : (decide ((2 : Int) ≤ r.most) && decide (r.most ≤ 2000)) = false:=by simp; omega
    rw [k1]
    have HF:=Lib.hid (HBAD.out 1 (by omega) _ HB1.out)
    clear g1 k1
    go_wp2_with fail
    go_ret
    exact HF.out
   have k1 : (decide ((2 : Int) ≤ r.most) && decide (r.most ≤ 2000)) = true:=by simp; omega
   rw [k1]
   have HV2:=Lib.hid (HV1.out.trans (if_neg (fun c => c g1)))
   clear g1 k1 HV1
   by_cases g2 : 200 < r.weaks.length
   ·have k2 : decide ((200 : Int) < (r.weaks.length : Int)) = true:=by simp; omega
    have HF:=Lib.hid (HBAD.out 2 (by omega) _ HB1.out)
    clear g2
    go_wp2_with fail
    go_ret
    exact HF.out
   have k2 : decide ((200 : Int) < (r.weaks.length : Int)) = false:=by simp; omega
   have HV3:=Lib.hid (HV2.out.trans (if_neg g2))
   clear g2 HV2
   go_wp2_with fail
   refine (HID.out _ HIN1.out).mono ?_
   rintro e W3 ⟨ze,rfl,hze,hb3⟩
   have HZE:=Lib.hid hze
   have HB3:=Lib.hid (HB1.out.trans (hb3.mono HB1.out.size))
   have HIN3:=Lib.hid (HIN1.out.below hb3)
   have x3:=lift_cell y3 _ hb3
   clear hb3 hze y1 y2 y3 HB1 HIN1
   by_cases g3 : ze = 0
   rotate_left
   ·have k3 : (ze != 0) = true:=by simpa using g3
    have HF:=Lib.hid (HBAD.out ze g3 _ HB3.out)
    clear g3
    go_wp2_with fail
    go_ret
    exact HF.out
   have k3 : (ze != 0) = false:=by simpa using g3
   have HV4:=Lib.hid (HV3.out.trans (if_neg (by rw [HZE.out g3]; simp)))
   clear g3 HV3 HZE
   by_cases g4 : 30 < r.surs.length
   ·have k4 : decide ((30 : Int) < (r.surs.length : Int)) = true:=by simp; omega
    have HF:=Lib.hid (HBAD.out 2 (by omega) _ HB3.out)
    clear g4
    go_wp2_with fail
    go_ret
    exact HF.out
   have k4 : decide ((30 : Int) < (r.surs.length : Int)) = false:=by simp; omega
   have HV5 : Hid (rulE r = fstErr (sur1 r.surs) r.surs.length):=HV4.out.trans (by unfold sursE; rw [if_neg g4])
   have HRU:=Lib.hid HRI.out.u
   obtain ⟨ua,hua⟩ : ∃ ua,r.sa = ua:=⟨_,rfl⟩
   rw [hua] at HRU x3 ⊢
   obtain ⟨us,hus⟩ : ∃ us,r.surs = us:=⟨_,rfl⟩
   rw [hus] at HRU x3 hu6 k4 HV5 HSU ⊢
   clear g4 HV4 hua hus
   go_wp2_with fail
   clear x3 k2 k3 k4
   go_loopw [7,56] (fun p t wr => ∃ j : Nat,j ≤ us.length ∧ t = .int .i64 j ∧ p = .string (prevSn us j) ∧ Hid (fstErr (sur1 us) j = 0) ∧ Hid (Below W3.heap.size W3 wr)) (fun _ t _ => us.length - (intOf t).toNat)
   case atStart => exact ⟨0,by omega,rfl,rfl,rfl,Below.refl _ _⟩
   case round =>
    obtain ⟨j,hj,rfl,rfl,h0,hb⟩:=hrel
    by_cases hlt2 : j < us.length
    ·have hin:=HIN3.out.below hb.out
     obtain ⟨b,off,rfl,hbl,hc⟩:=HRU.out.at_ hin hlt2 (by omega)
     have c0 : wr.cell? ⟨b,off + j * 3,none⟩ = some (.string us[j].name):=hc 0 (by omega)
     have c1 : wr.cell? ⟨b,off + j * 3 + 1,none⟩ = some (.int .i64 us[j].how):=hc 1 (by omega)
     have c2 : wr.cell? ⟨b,off + j * 3 + 2,none⟩ = some (.slice us[j].sa us[j].srcs.length us[j].sc):=hc 2 (by omega)
     have HAT:=Lib.hid (sur1_at hlt2)
     have HNX : Hid (sur1 us j = 0 → fstErr (sur1 us) (j + 1) = 0):=fun h1 => fstErr_next h0.out h1
     have HPV : Hid (0 < j → (us.getD (j - 1) us[j]).name = prevSn us j):=fun hp => by
      obtain ⟨k,rfl⟩ : ∃ k,j = k + 1:=⟨j - 1,by omega⟩
      rw [Nat.add_sub_cancel,List.getD_eq_getElem?_getD,List.getElem?_eq_getElem (by omega),Option.getD_some]
      unfold prevSn
      simp only
      rw [List.getElem?_eq_getElem (by omega)]
     have HPN : Hid (prevSn us (j + 1) = us[j].name):=by
      show _ = _
      unfold prevSn
      simp only
      rw [List.getElem?_eq_getElem hlt2]
     have HCD:=Lib.hid (HSU.out _ (List.getElem_mem hlt2) (prevSn us j))
     clear hc h0
     generalize (us.getD (j - 1) us[j]).name = pn at *
     generalize prevSn us j = pv at *
     generalize us[j] = d at *
     have z0 : (wr.alloc (.cells #[.string d.name,.int .i64 d.how,.slice d.sa d.srcs.length d.sc] 210)).cell? ⟨wr.heap.size,0,none⟩ = some (.string d.name):=newc 0 rfl
     have z1 : (wr.alloc (.cells #[.string d.name,.int .i64 d.how,.slice d.sa d.srcs.length d.sc] 210)).cell? ⟨wr.heap.size,1,none⟩ = some (.int .i64 d.how):=newc 1 rfl
     have z2 : (wr.alloc (.cells #[.string d.name,.int .i64 d.how,.slice d.sa d.srcs.length d.sc] 210)).cell? ⟨wr.heap.size,2,none⟩ = some (.slice d.sa d.srcs.length d.sc):=newc 2 rfl
     have HBN:=Lib.hid (new1 (w:=wr) (.cells #[.string d.name,.int .i64 d.how,.slice d.sa d.srcs.length d.sc] 210))
     go_upto_region 26 with (fail)
     clear c0 c1 c2
     have HB4:=Lib.hid (hb.out.trans (HBN.out.mono hb.out.size))
     have HIN4:=Lib.hid (hin.below HBN.out)
     generalize wr.alloc (.cells #[.string d.name,.int .i64 d.how,.slice d.sa d.srcs.length d.sc] 210) = W4 at *
     have HB4':=Lib.hid (HB3.out.trans (HB4.out.mono HB3.out.size))
     go_wp2_with fail
     refine (HCD.out W4 HIN4.out).mono ?_
     rintro e W5 ⟨ze,rfl,hze,hb5⟩
     have HZE:=Lib.hid hze
     have HB5:=Lib.hid (HB4.out.trans (hb5.mono HB4.out.size))
     have HB5':=Lib.hid (HB4'.out.trans (hb5.mono HB4'.out.size))
     have y0:=lift_cell z0 _ hb5
     clear hb5 hze z0 z1 z2 hb
     by_cases g3 : ze = 0
     rotate_left
     ·have k3 : (ze != 0) = true:=by simpa using g3
      have HF:=Lib.hid (HBAD.out ze g3 _ HB5'.out)
      clear g3
      go_wp2_with fail
      go_ret
      exact HF.out
     have k3 : (ze != 0) = false:=by simpa using g3
     have hok : Hid (fstErr (sur1 us) (j + 1) = 0):=by
      obtain ⟨q1,q2,q3,q4⟩:=HZE.out g3
      exact HNX.out (HAT.out.trans (by
       rw [if_neg (by rw [q1]; simp),if_neg (fun c => c q2),if_neg (by rw [q3]; simp),if_neg (fun c => by
        have h9:=c.2
        rw [HPV.out c.1] at h9
        have:=(leB_iff d.name pv).2 h9
        rw [q4] at this
        cases this)]))
     clear g3 HZE HNX HAT
     go_wp2_with fail
     go_roundw
     case rel => exact ⟨j + 1,by omega,by go_num,by rw [HPN.out],hok,HB5⟩
     case measure => simp [intOf]; omega
    ·have hie : j = us.length:=by omega
     subst hie
     have HF:=Lib.hid (RefPost.good (HV5.out.trans h0.out) (HB3.out.trans (hb.out.mono HB3.out.size)))
     go_wp2_with fail
     go_ret
     exact HF.out
open Go.RowKit
set_option maxHeartbeats 2000000 in
set_option maxRecDepth 100000 in
theorem Lw.id {w W : World} {bs K : Nat} {H : Frz} (h : Lw w bs K H W) (hP : PoolIn H) (hK : K ≤ 1000000) :
  Calls Tryz.prog 213 #[.pointer (some ⟨bs,0,none⟩)] W (SpPost w bs (K + 2) H W):=by
 have hbs:=h.lt
 have HP:=Lib.hid hP
 have L1:=Lib.hid (h.alloc (.cells #[.int .i64 0,.string ⟨#[]⟩] 55))
 have HK:=Lib.hid (heap_alloc_new W (.cells #[.int .i64 0,.string ⟨#[]⟩] 55))
 have HG:=Lib.hid (grown_alloc (w:=W) (.cells #[.int .i64 0,.string ⟨#[]⟩] 55) (some bs))
 have HH:=Lib.hid (h.fin.none_ (Nat.le_refl W.heap.size))
 clear h hP
 go_enter Tryz.func213,Tryz.ntmps213
 go_wp2_with fail
 refine (L1.out.flip _ (by omega) (by omega)).mono ?_
 rintro e W2 ⟨t,rfl,L2,g2,-⟩
 have hk2:=(g2.block _ (lt_of_heap HK.out) (fun e => by injection e with e; omega)).trans HK.out
 have HG2:=Lib.hid (HG.out.trans g2)
 have HL2:=Lib.hid L2
 have HK2:=Lib.hid hk2
 clear g2 L2 hk2 HG L1 HK
 cases t with
 | true =>
  go_wp2_with fail
  refine (HL2.out.spoiledId HP.out (by omega)).mono ?_
  rintro e W3 ⟨k,s,rfl,hs,L3,g3⟩
  have hk3:=(g3.block _ (lt_of_heap HK2.out) (fun e => by injection e with e; omega)).trans HK2.out
  have x0 : W3.cell? ⟨W.heap.size,0,none⟩ = some (.int .i64 0):=cell_h hk3 0 rfl
  have x1 : W3.cell? ⟨W.heap.size,1,none⟩ = some (.string ⟨#[]⟩):=cell_h hk3 1 rfl
  have y0:=froz_h hk3 0
  have y1:=froz_h hk3 1
  have HK9:=Lib.hid (set2 hk3 (.int .i64 k) (.string s))
  have HF : Hid (SpPost w bs (K + 2) H W (.returned (.agg #[.int .i64 k,.string s])) ((W3.setCell ⟨W.heap.size,0,none⟩ (.int .i64 k)).setCell ⟨W.heap.size,1,none⟩ (.string s))) :=
   ⟨k,s,rfl,hs,((L3.more (by omega)).setCell (p:=⟨W.heap.size,0,none⟩) hbs HH.out (.int .i64 k)).setCell (p:=⟨W.heap.size,1,none⟩) hbs HH.out (.string s),grown_new (HG2.out.trans g3) (grown_set2 W3 W.heap.size _ _) (Nat.le_refl _)⟩
  clear hk3 L3 g3
  go_wp2_with fail
  have u0:=cell_h HK9.out 0 (v:=.int .i64 k) rfl
  have u1:=cell_h HK9.out 1 (v:=.string s) rfl
  refine bodyPost_ret (v:=.agg #[.int .i64 k,.string s]) (by simp [results,Tryz.results213,go_sem,u0,u1]) rfl HF.out
 | false =>
  go_wp2_with fail
  refine (HL2.out.next' 10 (by omega) (by omega) (by omega)).mono ?_
  rintro e W3 ⟨r,rfl,r0,r1,L3,g3,-⟩
  obtain ⟨i,rfl⟩:=Int.eq_ofNat_of_zero_le r0
  have hi : i < poolL.length:=by show i < 10; omega
  obtain ⟨c0,c1⟩:=HP.out i hi
  replace c0:=L3.fin.cell c0
  replace c1:=L3.fin.cell c1
  have hps:=(pool_ok i hi).2
  have hk3:=(g3.block _ (lt_of_heap HK2.out) (fun e => by injection e with e; omega)).trans HK2.out
  have x0 : W3.cell? ⟨W.heap.size,0,none⟩ = some (.int .i64 0):=cell_h hk3 0 rfl
  have x1 : W3.cell? ⟨W.heap.size,1,none⟩ = some (.string ⟨#[]⟩):=cell_h hk3 1 rfl
  have y0:=froz_h hk3 0
  have y1:=froz_h hk3 1
  have hi10 : (i : Int) < 10:=r1
  generalize poolL[i].1 = k at *
  generalize hs9 : (⟨poolL[i].2.toArray⟩ : ByteArray) = s at *
  clear hs9
  have HK9:=Lib.hid (set2 hk3 (.int .i64 k) (.string s))
  have HF : Hid (SpPost w bs (K + 2) H W (.returned (.agg #[.int .i64 k,.string s])) ((W3.setCell ⟨W.heap.size,0,none⟩ (.int .i64 k)).setCell ⟨W.heap.size,1,none⟩ (.string s))) :=
   ⟨k,s,rfl,by omega,((L3.more (by omega)).setCell (p:=⟨W.heap.size,0,none⟩) hbs HH.out (.int .i64 k)).setCell (p:=⟨W.heap.size,1,none⟩) hbs HH.out (.string s),grown_new (HG2.out.trans g3) (grown_set2 W3 W.heap.size _ _) (Nat.le_refl _)⟩
  clear hk3 L3 g3
  go_wp2_with fail
  have u0:=cell_h HK9.out 0 (v:=.int .i64 k) rfl
  have u1:=cell_h HK9.out 1 (v:=.string s) rfl
  refine bodyPost_ret (v:=.agg #[.int .i64 k,.string s]) (by simp [results,Tryz.results213,go_sem,u0,u1]) rfl HF.out
open Go.RowKit
set_option maxHeartbeats 1000000 in
set_option maxRecDepth 100000 in
theorem index_Id (H : Frz) (A : Option Addr) (cap : Nat) (ids : List IdD) (x : IdD) (w : World) (hH : H.In w) (hR : Rw H A 2 fId ids) (hl : ids.length ≤ 1000000) :
  Calls Tryz.prog 86 #[.slice A ids.length cap,.agg #[.int .i64 x.kind,.string x.text]] w fun e w' => e = .returned (.int .i64 (idxF (eqId x) ids)) ∧ Below w.heap.size w w':=by
 have HR:=Lib.hid hR
 have HIN:=Lib.hid (hH.alloc (.cells #[.int .i64 x.kind,.string x.text] 55))
 have HB0:=Lib.hid (new1 (w:=w) (.cells #[.int .i64 x.kind,.string x.text] 55))
 have HX0 : Hid ((w.alloc (.cells #[.int .i64 x.kind,.string x.text] 55)).heap[w.heap.size]? = some (.cells #[.int .i64 x.kind,.string x.text] 55)):=heap_alloc_new _ _
 clear hR hH
 go_enter Tryz.func86,Tryz.ntmps86
 go_wp2_with fail
 generalize w.alloc (.cells #[.int .i64 x.kind,.string x.text] 55) = W0 at *
 go_loopw [5,8] (fun _ t wr => ∃ i : Nat,i ≤ ids.length ∧ t = .int .i64 i ∧ Hid ((ids.take i).any (eqId x) = false) ∧ Hid (Below W0.heap.size W0 wr)) (fun _ t _ => ids.length - (intOf t).toNat)
 case atStart => exact ⟨0,by omega,rfl,rfl,Below.refl _ _⟩
 case round =>
  obtain ⟨i,hi,rfl,hall,hb⟩:=hrel
  have hx:=(hb.out.block _ (lt_of_heap HX0.out)).trans HX0.out
  have x0 : wr.cell? ⟨w.heap.size,0,none⟩ = some (.int .i64 x.kind):=cell_h hx 0 rfl
  have x1 : wr.cell? ⟨w.heap.size,1,none⟩ = some (.string x.text):=cell_h hx 1 rfl
  clear hx
  have HF:=Lib.hid (HB0.out.trans (hb.out.mono HB0.out.size))
  by_cases hlt : i < ids.length
  ·obtain ⟨b,off,rfl,hbl,hc⟩:=HR.out.at_ (HIN.out.below hb.out) hlt (by omega)
   have c0 : wr.cell? ⟨b,off + i * 2,none⟩ = some (.int .i64 ids[i].kind):=hc 0 (by omega)
   have c1 : wr.cell? ⟨b,off + i * 2 + 1,none⟩ = some (.string ids[i].text):=hc 1 (by omega)
   have ht:=Lib.hid (idxF_found (p:=eqId x) hlt hall.out)
   have ht2:=Lib.hid (any_take_succ (p:=eqId x) hlt hall.out)
   have heq : Hid (eqId x ids[i] = (decide (x.kind = ids[i].kind) && eqS x.text ids[i].text)):=rfl
   clear hc
   generalize eqId x ids[i] = q at *
   generalize ids[i] = y at *
   cases k1 : (x.kind == y.kind) with
   | false =>
    have hq : q = false:=by
     rw [heq.out]
     have : decide (x.kind = y.kind) = false:=by simpa using k1
     rw [this]; rfl
    subst hq
    go_wp2_with fail
    go_quiet (fail)
    have HB1:=Lib.hid (fun n => below_drewN hb.out n)
    go_wp2_with fail
    go_roundw
    case rel => exact ⟨i + 1,by omega,by go_num,ht2.out (by simp),Lib.hid (HB1.out _)⟩
    case measure => simp [intOf]; omega
   | true =>
    have h1 : decide (x.kind = y.kind) = true:=by simpa using k1
    cases k2 : (x.text.toList == y.text.toList) with
    | false =>
     have hq : q = false:=by
      rw [heq.out,h1]
      exact k2
     subst hq
     go_wp2_with fail
     go_quiet (fail)
     have HB1:=Lib.hid (fun n => below_drewN hb.out n)
     go_wp2_with fail
     go_roundw
     case rel => exact ⟨i + 1,by omega,by go_num,ht2.out (by simp),Lib.hid (HB1.out _)⟩
     case measure => simp [intOf]; omega
    | true =>
     have hq : q = true:=by
      rw [heq.out,h1]
      exact k2
     subst hq
     go_wp2_with fail
     go_quiet (fail)
     have HB1:=Lib.hid (fun n => below_drewN HF.out n)
     go_wp2_with fail
     go_ret
     exact ⟨ret_int (ht.out (by simp)).symm,HB1.out _⟩
  ·have hf:=Lib.hid (idxF_none (p:=eqId x) (show ids.any (eqId x) = false by have:=hall.out; rwa [List.take_of_length_le (by omega)] at this))
   go_wp2_with fail
   go_ret
   exact ⟨ret_int hf.out.symm,HF.out⟩
set_option maxHeartbeats 1000000 in
set_option maxRecDepth 100000 in
theorem contains_Id (H : Frz) (A : Option Addr) (cap : Nat) (ids : List IdD) (x : IdD) (w : World) (hH : H.In w) (hR : Rw H A 2 fId ids) (hl : ids.length ≤ 1000000) :
  Calls Tryz.prog 23 #[.slice A ids.length cap,.agg #[.int .i64 x.kind,.string x.text]] w fun e w' => e = .returned (.bool (anyF (eqId x) ids)) ∧ Below w.heap.size w w':=by
 have hX : (w.alloc (.cells #[.int .i64 x.kind,.string x.text] 55)).heap[w.heap.size]? = some (.cells #[.int .i64 x.kind,.string x.text] 55):=heap_alloc_new _ _
 have HI:=Lib.hid (index_Id H A cap ids x _ (hH.alloc (.cells #[.int .i64 x.kind,.string x.text] 55)) hR hl)
 have HB0:=Lib.hid (new1 (w:=w) (.cells #[.int .i64 x.kind,.string x.text] 55))
 have hx:=Lib.hid (idxF_any (eqId x) ids)
 clear hR hH
 go_enter Tryz.func23,Tryz.ntmps23
 go_wp2_with fail
 refine HI.out.mono ?_
 rintro e w1 ⟨rfl,hb⟩
 have HB:=Lib.hid (HB0.out.trans (hb.mono HB0.out.size))
 generalize idxF (eqId x) ids = n at hx
 clear hb HI HB0 hX
 go_wp2_with fail
 go_ret
 exact ⟨ret_bool' hx.out,HB.out⟩
open Go.RowKit
theorem mem_swap {D : Type} {P : D → Prop} {ds : List D} (h : ∀ x ∈ ds,P x) {i j : Nat} {x y : D} (hx : P x) (hy : P y) : ∀ z ∈ (ds.set i y).set j x,P z:=by
 intro z hz
 rcases List.mem_or_eq_of_mem_set hz with hz | rfl
 ·rcases List.mem_or_eq_of_mem_set hz with hz | rfl
  ·exact h z hz
  ·exact hy
 ·exact hx
set_option maxHeartbeats 4000000 in
set_option maxRecDepth 100000 in
theorem reverse_Id (P : IdD → Prop) (B : Nat) (v : Value) (ds : List IdD) (w : World) (hO : Orow w B 55 2 fId v ds) (hl : ds.length ≤ 1000000) (hP : ∀ x ∈ ds,P x) :
  Calls Tryz.prog 215 #[v] w fun e w' => e = .returned (.tuple #[]) ∧ ∃ ds' : List IdD,ds'.length = ds.length ∧ (∀ x ∈ ds',P x) ∧ Orow w' B 55 2 fId v ds' ∧ w.grownBy w' v.ownBlock:=by
 by_cases hne : ds = []
 ·subst hne
  obtain ⟨A,cap,hv,-⟩:=hO.slice
  subst hv
  have HO : Hid (Orow w B 55 2 fId (.slice A 0 cap) []):=hO
  clear hO
  go_enter Tryz.func215,Tryz.ntmps215
  go_wp2_with fail
  go_loopw [2,3] (fun a b wr => a = .int .i64 0 ∧ b = .int .i64 (-1) ∧ Hid (wr = w)) (fun _ _ _ => 0)
  case atStart => exact ⟨rfl,rfl,rfl⟩
  case round =>
   obtain ⟨rfl,rfl,hw⟩:=hrel
   have hw:=hw.out
   subst hw
   go_wp2_with fail
   go_end0
   exact ⟨rfl,HO.out,World.grownBy.refl _ _⟩
 ·obtain ⟨g,cap,rest,hv,hle,hBg,hgl,hm,hblk,hr⟩:=hO.form hne
  subst hv
  obtain ⟨n,hn⟩ : ∃ n,ds.length = n:=⟨_,rfl⟩
  have hn0 : 0 < n:=by rw [← hn]; exact List.length_pos_iff.2 hne
  have HB0 : Hid (KBlk w g 55 2 fId ds rest):=hblk
  have HEND : Hid (∀ (w' : World) (ds' : List IdD),ds'.length = n → (∀ x ∈ ds',P x) → KBlk w' g 55 2 fId ds' rest → w.grownBy w' (some g) → ∃ ds' : List IdD,ds'.length = n ∧ (∀ x ∈ ds',P x) ∧ Orow w' B 55 2 fId (.slice (some ⟨g,0,none⟩) n cap) ds' ∧ w.grownBy w' (Value.slice (some ⟨g,0,none⟩) n cap).ownBlock):=fun w' ds' h1 h2 h3 h4 => by
   refine ⟨ds',h1,h2,?_,h4⟩
   have:=Orow.of_blk h3 hBg hm (by rw [h1,← hn]; exact hle) (by rw [hr,h1,hn])
   rw [h1] at this
   exact this
  rw [hn] at hl ⊢
  have HN:=Lib.hid hn
  have HP:=Lib.hid hP
  clear hO hblk hr hne hn hP hle
  have w1 : IntKind.i64.wrap ((n : Int) - 1) = (n : Int) - 1:=IntWalk.i64_in _ (by omega)
  go_enter Tryz.func215,Tryz.ntmps215
  go_wp2_with fail
  clear w1
  go_loopw [2,3] (fun a b wr => ∃ (i : Nat) (zs : List IdD),2 * i ≤ n + 1 ∧ a = .int .i64 i ∧ b = .int .i64 ((n : Int) - 1 - i) ∧ Hid (zs.length = n) ∧ Hid (∀ x ∈ zs,P x) ∧ Hid (KBlk wr g 55 2 fId zs rest) ∧ Hid (w.grownBy wr (some g))) (fun a _ _ => n + 1 - (intOf a).toNat)
  case atStart => exact ⟨0,ds,by omega,rfl,by simp,HN,HP,HB0,World.grownBy.refl _ _⟩
  case round =>
   obtain ⟨i,zs,hi,rfl,rfl,hzl,hzp,hk,hg⟩:=hrel
   clear HB0 HN HP
   by_cases hlt : (i : Int) < (n : Int) - 1 - i
   ·obtain ⟨j,hj⟩ : ∃ j : Nat,(n : Int) - 1 - i = (j : Int):=⟨n - 1 - i,by omega⟩
    rw [hj] at hlt ⊢
    have hij : i < j:=by omega
    have hjn : j < n:=by omega
    have hin : i < n:=by omega
    have hiz : i < zs.length:=by rw [hzl.out]; exact hin
    have hjz : j < zs.length:=by rw [hzl.out]; exact hjn
    have ci0 : wr.cell? ⟨g,i * 2,none⟩ = some (.int .i64 zs[i].kind):=hk.out.cell i 0 hiz (by omega)
    have ci1 : wr.cell? ⟨g,i * 2 + 1,none⟩ = some (.string zs[i].text):=hk.out.cell i 1 hiz (by omega)
    have cj0 : wr.cell? ⟨g,j * 2,none⟩ = some (.int .i64 zs[j].kind):=hk.out.cell j 0 hjz (by omega)
    have cj1 : wr.cell? ⟨g,j * 2 + 1,none⟩ = some (.string zs[j].text):=hk.out.cell j 1 hjz (by omega)
    have fi0:=hk.out.frozen (i * 2)
    have fi1:=hk.out.frozen (i * 2 + 1)
    have fj0:=hk.out.frozen (j * 2)
    have fj1:=hk.out.frozen (j * 2 + 1)
    have pi:=hzp.out _ (List.getElem_mem hiz)
    have pj:=hzp.out _ (List.getElem_mem hjz)
    have ZP:=Lib.hid ((hk.out.put i hiz zs[j]).put j (by simpa using hjz) zs[i])
    have ZM:=Lib.hid (mem_swap (i:=i) (j:=j) hzp.out pi pj)
    have ZL : Hid (((zs.set i zs[j]).set j zs[i]).length = n):=by show _ = _; simpa using hzl.out
    clear pi pj
    generalize (zs.set i zs[j]).set j zs[i] = zs2 at ZP ZM ZL
    generalize zs[i] = x at *
    generalize zs[j] = y at *
    have na0 : ¬ i * 2 = j * 2:=by omega
    have na1 : ¬ i * 2 = j * 2 + 1:=by omega
    have na2 : ¬ i * 2 + 1 = j * 2:=by omega
    have na3 : ¬ i * 2 + 1 = j * 2 + 1:=by omega
    have nb0 : ¬ j * 2 = i * 2:=by omega
    have nb1 : ¬ j * 2 = i * 2 + 1:=by omega
    have nb2 : ¬ j * 2 + 1 = i * 2:=by omega
    have nb3 : ¬ j * 2 + 1 = i * 2 + 1:=by omega
    go_upto_region 3 with (fail)
    go_region
    have ZG:=Lib.hid (setK_grown (j * 2) ((List.range 2).map (fId x)) (setK_grown (i * 2) ((List.range 2).map (fId y)) hg.out))
    have ZG2 : Hid (w.grownBy (World.drew (setK (setK wr g (i * 2) ((List.range 2).map (fId y))) g (j * 2) ((List.range 2).map (fId x)))) (some g)):=⟨ZG.out.os,ZG.out.tape,ZG.out.output,ZG.out.size,ZG.out.block⟩
    clear ci0 ci1 cj0 cj1 fi0 fi1 fj0 fj1 na0 na1 na2 na3 nb0 nb1 nb2 nb3
    have w2 : IntKind.i64.wrap ((j : Int) - 1) = (j : Int) - 1:=IntWalk.i64_in _ (by omega)
    go_wp2_with fail
    go_roundw
    case rel => exact ⟨i + 1,zs2,by omega,by go_num,by congr 1; omega,ZL,ZM,ZP,ZG2⟩
    case measure => simp [intOf]; omega
   ·have HF:=Lib.hid (HEND.out wr zs hzl.out hzp.out hk.out hg.out)
    have k : decide ((i : Int) < (n : Int) - 1 - i) = false:=by simpa using hlt
    clear hlt
    go_wp2_with fail
    go_end0
    exact ⟨rfl,HF.out⟩
open Go.RowKit
def RG {D : Type} (T k : Nat) (f : D → Nat → Value) (w : World) (bs K : Nat) (H : Frz) (W : World) (v : Value) (ds : List D) (wr : World) : Prop:=RM T k f w bs K H W.heap.size v ds wr ∧ W.grownBy wr (some bs)
section
variable {D : Type} {T k : Nat} {f : D → Nat → Value} {w W wr W' : World} {bs K K' : Nat} {H : Frz} {v v' : Value} {ds ds' : List D}
theorem RG.start (h : Lw w bs K H W) : RG T k f w bs K H W (.slice none 0 0) [] W:=⟨RM.new h,World.grownBy.refl _ _⟩
theorem RG.lw (h : RG T k f w bs K H W v ds wr) : Lw w bs K H wr:=h.1.lw
theorem RG.asked (h : RG T k f w bs K H W v ds wr) (L : Lw w bs K' H W') (g : wr.grownBy W' (some bs)) : RG T k f w bs K' H W v ds W':=⟨h.1.asked L g,vm_then h.2 g⟩
theorem RG.call (h : RG T k f w bs K H W v ds wr) (hb : Below wr.heap.size wr W') : RG T k f w bs K H W v ds W':=⟨h.1.call hb,vm_then h.2 (vm_below hb)⟩
theorem RG.alloc (h : RG T k f w bs K H W v ds wr) (o : Obj) : RG T k f w bs K H W v ds (wr.alloc o):=h.call (new1 o)
theorem RG.more (h : RG T k f w bs K H W v ds wr) (hK : K ≤ K') : RG T k f w bs K' H W v ds wr:=⟨h.1.more hK,h.2⟩
theorem RG.app (h : RG T k f w bs K H W v ds wr) (o : Orow W' W.heap.size T k f v' ds') (g1 : wr.grownBy W' v.ownBlock) (at1 : v'.ownBlock = v.ownBlock ∨ ∃ g,v'.ownBlock = some g ∧ wr.heap.size < g) : RG T k f w bs K H W v' ds' W' :=
 ⟨h.1.app o g1 at1,g1.os.trans h.2.os,g1.tape.trans h.2.tape,g1.output.trans h.2.output,Nat.le_trans h.2.size g1.size,fun b hb hne => (g1.block b (Nat.lt_of_lt_of_le hb h.2.size) (fun e => by have:=(h.1.row.lt e.symm).1; omega)).trans (h.2.block b hb hne)⟩
theorem RG.froze (h : RG T k f w bs K H W v ds wr) : ∃ A cap H',v = .slice A ds.length cap ∧ ds.length ≤ cap ∧ H'.In wr ∧ Rw H' A k f ds:=by
 obtain ⟨A,cap,H',h1,h2,h3,-,h5,-⟩:=Orow.freezeN h.1.row H
 exact ⟨A,cap,H',h1,h2,h3 h.1.1.fin,h5⟩
end
abbrev IdM:=RG (D:=IdD) 55 2 fId
theorem infoId9 : (Tryz.prog.info? 55).map (fun i => (i.zero,i.size,i.bytes)) = some (some (.agg #[.int .i64 0,.string ⟨#[]⟩]),2,24):=by kernel_rfl
def IdsOk9 (ds : List IdD) : Prop:=∀ x ∈ ds,x.text.size ≤ 10000
theorem IdsOk9.snoc {ds : List IdD} (h : IdsOk9 ds) {d : IdD} (hd : d.text.size ≤ 10000) : IdsOk9 (ds ++ [d]):=by
 intro y hy
 rcases List.mem_append.1 hy with hy | hy
 ·exact h y hy
 ·simp at hy; rw [hy]; exact hd
def IdsPost (w : World) (bs K m : Nat) (H : Frz) (W : World) (e : Ending) (W' : World) : Prop:=∃ v ds,e = .returned v ∧ IdM w bs (K + 20 * m + 20) H W v ds W' ∧ ds.length ≤ m ∧ IdsOk9 ds
set_option maxHeartbeats 4000000 in
set_option maxRecDepth 100000 in
theorem Lw.ids {w W : World} {bs K : Nat} {H : Frz} (h : Lw w bs K H W) (hK : K ≤ 500000) (hP : PoolIn H) (m : Nat) (hm : m ≤ 1000) :
  Calls Tryz.prog 146 #[.pointer (some ⟨bs,0,none⟩),.int .i64 m] W (IdsPost w bs K m H W):=by
 obtain ⟨i0,hi0,hz0,hz1,hz2⟩:=info_parts infoId9
 have hbs:=h.lt
 have C0 : Hid (IdM w bs K H W (.slice none 0 0) [] W):=RG.start h
 have HP:=Lib.hid hP
 clear h hP
 go_enter Tryz.func146,Tryz.ntmps146
 go_wp2_with fail
 go_loopw [5,8] (fun v t wr => ∃ (i : Nat) (ds : List IdD),i ≤ m ∧ t = .int .i64 i ∧ Hid (IdM w bs (K + 20 * i) H W v ds wr) ∧ ds.length ≤ i ∧ Hid (IdsOk9 ds)) (fun _ t _ => m - (intOf t).toNat)
 case atStart => exact ⟨0,[],by omega,rfl,C0,by simp,(by intro d hd; cases hd)⟩
 case round =>
  obtain ⟨i,ds,hi,rfl,C,hdl,hkb⟩:=hrel
  clear C0
  obtain ⟨A,cap,hv,hle⟩:=C.out.1.row.slice
  subst hv
  by_cases hlt : i < m
  ·have di : decide ((i : Int) < (m : Int)) = true:=by simp; omega
   go_wp2_with fail
   refine (C.out.lw.id HP.out (by omega)).mono ?_
   rintro e W2 ⟨kk,s,rfl,hs,Lq,gq⟩
   have C2:=Lib.hid (C.out.asked Lq gq)
   have D2:=Lib.hid (C2.out.alloc (.cells #[.int .i64 kk,.string s] 55))
   have z0 : (W2.alloc (.cells #[.int .i64 kk,.string s] 55)).cell? ⟨W2.heap.size,0,none⟩ = some (.int .i64 kk):=newc 0 rfl
   have z1 : (W2.alloc (.cells #[.int .i64 kk,.string s] 55)).cell? ⟨W2.heap.size,1,none⟩ = some (.string s):=newc 1 rfl
   have hbm : bs < W2.heap.size:=C2.out.lw.lt
   clear Lq gq C C2
   go_upto_region 5 with (fail)
   generalize W2.alloc (.cells #[.int .i64 kk,.string s] 55) = W3 at *
   generalize W2.heap.size = mb at *
   obtain ⟨A2,c2,H2,hv2,-,hi2,hr2⟩:=D2.out.froze
   simp only [Value.slice.injEq,true_and] at hv2
   obtain ⟨rfl,rfl⟩:=hv2
   have HCN:=Lib.hid (contains_Id H2 A cap ds ⟨kk,s⟩ W3 hi2 hr2 (by omega))
   clear hi2 hr2
   go_wp2_with fail
   refine HCN.out.mono ?_
   rintro e W4 ⟨rfl,hb4⟩
   have D4:=Lib.hid (D2.out.call hb4)
   have y0:=lift_cell z0 _ hb4
   have y1:=lift_cell z1 _ hb4
   clear hb4 z0 z1 HCN D2
   generalize anyF (eqId ⟨kk,s⟩) ds = q
   cases q with
   | true =>
    go_wp2_with fail
    go_roundw
    case rel => exact ⟨i + 1,ds,by omega,by go_num,D4.out.more (by omega),by omega,hkb⟩
    case measure => simp [intOf]; omega
   | false =>
    have hsz : ds.length ≤ 4294967296:=by omega
    generalize hv2 : Value.slice A ds.length cap = v2 at D4
    have HOr:=Lib.hid D4.out.1.row
    have HST:=Lib.hid (fun v' W' o g1 at1 => D4.out.app (v':=v') (W':=W') (ds':=ds ++ [⟨kk,s⟩]) o g1 at1)
    have hB9:=D4.out.1.2.2.2.2
    go_wp2_with (at_builtin; refine wpList_app_at rfl _ _ 41 rfl W.heap.size 55 i0 (.agg #[.int .i64 0,.string ⟨#[]⟩]) 2 24 Tryz.underlying41 hi0 hz0 hz1 hz2 rfl (by decide) fId _ ds rfl HOr.out ⟨kk,s⟩ #[.int .i64 kk,.string s] 55 rfl rfl (by simp [Value.oneCell']) (by omega) (by omega) hB9 ?_; intro v1 w2 o1 g1 b1 at1; have CA:=Lib.hid (HST.out v1 w2 o1 g1 at1); clear o1 g1 b1 at1 HST HOr)
    go_roundw
    case rel => exact ⟨i + 1,_,by omega,by go_num,CA.out.more (by omega),by simp; omega,hkb.out.snoc (by show s.size ≤ _; omega)⟩
    case measure => simp [intOf]; omega
  ·have hie : i = m:=by omega
   subst hie
   obtain ⟨v2,hv2⟩ : ∃ v2,Value.slice A ds.length cap = v2:=⟨_,rfl⟩
   rw [hv2] at C
   have HSO:=Lib.hid (sortFunc_Id idCmp idCmp_ok 214 #[] (fun _ _ => by kernel_rfl) (fun W a b => refOrd_g a b W) W.heap.size v2 ds wr C.out.1.row (by omega))
   rw [← hv2] at HSO
   have HV2:=Lib.hid hv2
   clear hv2
   go_wp2_with fail
   refine HSO.out.mono ?_
   rintro e W3 ⟨rfl,ds3,hperm,-,ho3,hg3⟩
   rw [HV2.out] at ho3 hg3
   have C3:=Lib.hid (C.out.app ho3 hg3 (Or.inl rfl))
   have hkb3:=Lib.hid (show IdsOk9 ds3 from fun x hx => hkb.out x (hperm.mem_iff.1 hx))
   have hl3 : ds3.length = ds.length:=hperm.length_eq
   have HL3:=Lib.hid hl3
   clear HSO C hkb hperm ho3 hg3 hl3
   have HFIN : Hid (∀ W' ds',IdM w bs (K + 20 * i + 1) H W v2 ds' W' → ds'.length = ds.length → IdsOk9 ds' → IdsPost w bs K i H W (.returned (.slice A ds.length cap)) W'):=fun W' ds' h1 h2 h3 => ⟨_,ds',rfl,by rw [HV2.out]; exact h1.more (by omega),by omega,h3⟩
   by_cases g1 : 1 < ds.length
   rotate_left
   ·have k1 : decide ((1 : Int) < (ds.length : Int)) = false:=by simp; omega
    have HF:=Lib.hid (HFIN.out _ _ (C3.out.more (by omega)) HL3.out hkb3.out)
    clear g1
    go_wp2_with fail
    exact bodyPost_ret (by kernel_rfl) rfl HF.out
   have k1 : decide ((1 : Int) < (ds.length : Int)) = true:=by simp; omega
   clear g1
   go_wp2_with fail
   refine (C3.out.lw.flip 60 (by omega) (by omega)).mono ?_
   rintro e W4 ⟨fb,rfl,Lq,gq,-⟩
   have C4:=Lib.hid (C3.out.asked Lq gq)
   clear Lq gq C3
   cases fb with
   | false =>
    have HF:=Lib.hid (HFIN.out _ _ C4.out HL3.out hkb3.out)
    go_wp2_with fail
    exact bodyPost_ret (by kernel_rfl) rfl HF.out
   | true =>
    have HRV:=Lib.hid (reverse_Id (fun x => x.text.size ≤ 10000) W.heap.size v2 ds3 W4 C4.out.1.row (by have:=HL3.out; omega) hkb3.out)
    rw [← HV2.out] at HRV
    go_wp2_with fail
    refine HRV.out.mono ?_
    rintro e W5 ⟨rfl,ds5,hl5,hp5,ho5,hg5⟩
    rw [HV2.out] at ho5 hg5
    have C5:=Lib.hid (C4.out.app ho5 hg5 (Or.inl rfl))
    have HF:=Lib.hid (HFIN.out _ _ C5.out (hl5.trans HL3.out) hp5)
    clear C4 C5 HRV ho5 hg5 hl5 hp5
    go_wp2_with fail
    exact bodyPost_ret (by kernel_rfl) rfl HF.out
open Go.RowKit
theorem RM.frozen2 {D : Type} {T k : Nat} {f : D → Nat → Value} {w W : World} {bs K : Nat} {H : Frz} {B : Nat} {v : Value} {ds : List D} (h : RM T k f w bs K H B v ds W) :
  ∃ A cap H',v = .slice A ds.length cap ∧ ds.length ≤ cap ∧ H.Le H' ∧ Lw w bs K H' W ∧ Rw H' A k f ds ∧ ∀ b,b < B → H' b = H b:=by
 obtain ⟨A,cap,H',h1,h2,h3,h4,h5,h6⟩:=Orow.freezeN h.row H
 exact ⟨A,cap,H',h1,h2,h4 h.2.2.1,⟨h.1.st,h.1.bel,h.1.le,h3 h.1.fin,(h6 bs (fun e => by have:=(h.2.1.lt e).1; have:=h.2.2.2.1; omega)).trans h.1.apart⟩,h5,fun b hb => h6 b (fun e => by have:=(h.2.1.lt e).1; omega)⟩
structure TcIn (H : Frz) (t : TchD) : Prop where
 ids : Rw H t.ia 2 fId t.ids
 fds : Rw H t.fa 4 fFd t.fields
 il : t.ids.length ≤ 1000
 fl : t.fields.length ≤ 1000
 src : t.source.size ≤ 1000
 idt : ∀ x ∈ t.ids,x.text.size ≤ 10000
 fdt : FdB t.fields
theorem TcIn.le {H H' : Frz} {t : TchD} (h : TcIn H t) (hl : H.Le H') : TcIn H' t:=⟨h.ids.le hl,h.fds.le hl,h.il,h.fl,h.src,h.idt,h.fdt⟩
theorem TcIn.sz {H : Frz} {t : TchD} (h : TcIn H t) : SzT t:=⟨by have:=h.src; omega,fun x hx => by have:=h.idt x hx; omega,fun f hf => by have:=h.fdt.sz hf; omega,by have:=h.il; omega,by have:=h.fl; omega⟩
structure TM (w : World) (bs K : Nat) (H0 H : Frz) (W00 : World) (ob rb : Nat) (d : TchD) (wr : World) : Prop where
 lw : Lw w bs K H wr
 blk : wr.heap[ob]? = some (.cells #[.int .i64 d.no,.int .i64 d.at_,.string d.source,.slice d.ia d.ids.length d.ic,.slice d.fa d.fields.length d.fc] 53 (0,0))
 res : wr.heap[rb]? = some (.cells #[.int .i64 0,.int .i64 0,.string ⟨#[]⟩,.slice none 0 0,.slice none 0 0] 53 (0,0))
 bo : bs < ob
 br : bs < rb
 ne : rb ≠ ob
 ho : H ob = none
 hr : H rb = none
 gr : W00.grownBy wr (some bs)
 le : H0.Le H
 old : ∀ b,b < W00.heap.size → H b = H0 b
 lo : W00.heap.size ≤ ob
 lr : W00.heap.size ≤ rb
 ok : TcIn H d
section
variable {w wr W' W00 : World} {bs K K' ob rb : Nat} {H0 H : Frz} {d : TchD}
theorem TM.more (h : TM w bs K H0 H W00 ob rb d wr) (hK : K ≤ K') : TM w bs K' H0 H W00 ob rb d wr:=⟨h.lw.more hK,h.blk,h.res,h.bo,h.br,h.ne,h.ho,h.hr,h.gr,h.le,h.old,h.lo,h.lr,h.ok⟩
theorem TM.call (h : TM w bs K H0 H W00 ob rb d wr) (hb : Below wr.heap.size wr W') : TM w bs K H0 H W00 ob rb d W' :=
 ⟨h.lw.call hb,(hb.block _ (lt_of_heap h.blk)).trans h.blk,(hb.block _ (lt_of_heap h.res)).trans h.res,h.bo,h.br,h.ne,h.ho,h.hr,vm_then h.gr (vm_below hb),h.le,h.old,h.lo,h.lr,h.ok⟩
theorem TM.alloc (h : TM w bs K H0 H W00 ob rb d wr) (o : Obj) : TM w bs K H0 H W00 ob rb d (wr.alloc o):=h.call (new1 o)
theorem TM.asked (h : TM w bs K H0 H W00 ob rb d wr) (L : Lw w bs K' H W') (g : wr.grownBy W' (some bs)) : TM w bs K' H0 H W00 ob rb d W' :=
 ⟨L,(g.block _ (lt_of_heap h.blk) (fun e => by injection e with e; have:=h.bo; omega)).trans h.blk,(g.block _ (lt_of_heap h.res) (fun e => by injection e with e; have:=h.br; omega)).trans h.res,h.bo,h.br,h.ne,h.ho,h.hr,vm_then h.gr g,h.le,h.old,h.lo,h.lr,h.ok⟩
theorem TM.set (h : TM w bs K H0 H W00 ob rb d wr) (j : Nat) (x : Value) (d' : TchD) (hd : TcIn H d') (he : (wr.setCell ⟨ob,j,none⟩ x).heap[ob]? = some (.cells #[.int .i64 d'.no,.int .i64 d'.at_,.string d'.source,.slice d'.ia d'.ids.length d'.ic,.slice d'.fa d'.fields.length d'.fc] 53 (0,0))) : TM w bs K H0 H W00 ob rb d' (wr.setCell ⟨ob,j,none⟩ x) :=
 ⟨h.lw.setCell (p:=⟨ob,j,none⟩) h.bo h.ho _,he,(Below.heap_setCell wr _ _ rb h.ne).trans h.res,h.bo,h.br,h.ne,h.ho,h.hr,⟨h.gr.os,h.gr.tape,h.gr.output,by have:=h.gr.size; simpa [World.setCell] using this,fun b hb hne => (Below.heap_setCell wr _ _ b (fun e => by have:=h.lo; simp only at e; omega)).trans (h.gr.block b hb hne)⟩,h.le,h.old,h.lo,h.lr,hd⟩
theorem TM.setNo (h : TM w bs K H0 H W00 ob rb d wr) (x : Int) : TM w bs K H0 H W00 ob rb { d with no:=x } (wr.setCell ⟨ob,0,none⟩ (.int .i64 x)):=h.set 0 _ _ ⟨h.ok.ids,h.ok.fds,h.ok.il,h.ok.fl,h.ok.src,h.ok.idt,h.ok.fdt⟩ (by simp [World.setCell,Array.getElem?_modify,h.blk])
theorem TM.setAt (h : TM w bs K H0 H W00 ob rb d wr) (x : Int) : TM w bs K H0 H W00 ob rb { d with at_:=x } (wr.setCell ⟨ob,1,none⟩ (.int .i64 x)):=h.set 1 _ _ ⟨h.ok.ids,h.ok.fds,h.ok.il,h.ok.fl,h.ok.src,h.ok.idt,h.ok.fdt⟩ (by simp [World.setCell,Array.getElem?_modify,h.blk])
theorem TM.setSrc (h : TM w bs K H0 H W00 ob rb d wr) (x : ByteArray) (hx : x.size ≤ 1000) : TM w bs K H0 H W00 ob rb { d with source:=x } (wr.setCell ⟨ob,2,none⟩ (.string x)):=h.set 2 _ _ ⟨h.ok.ids,h.ok.fds,h.ok.il,h.ok.fl,hx,h.ok.idt,h.ok.fdt⟩ (by simp [World.setCell,Array.getElem?_modify,h.blk])
theorem TM.setIds (h : TM w bs K H0 H W00 ob rb d wr) : TM w bs K H0 H W00 ob rb { d with ia:=none,ids:=[],ic:=0 } (wr.setCell ⟨ob,3,none⟩ (.slice none 0 0)):=h.set 3 _ _ ⟨Rw.nil,h.ok.fds,by show (0 : Nat) ≤ _; omega,h.ok.fl,h.ok.src,(fun x hx => by cases hx),h.ok.fdt⟩ (by simp [World.setCell,Array.getElem?_modify,h.blk])
end
theorem tm_set5 {wr : World} {r : Nat} {T : TypeId} {a0 a1 a2 a3 a4 : Value} (h : wr.heap[r]? = some (.cells #[a0,a1,a2,a3,a4] T (0,0))) (v0 v1 v2 v3 v4 : Value) :
  wr.grownBy (((((wr.setCell ⟨r,0,none⟩ v0).setCell ⟨r,1,none⟩ v1).setCell ⟨r,2,none⟩ v2).setCell ⟨r,3,none⟩ v3).setCell ⟨r,4,none⟩ v4) (some r) ∧ (((((wr.setCell ⟨r,0,none⟩ v0).setCell ⟨r,1,none⟩ v1).setCell ⟨r,2,none⟩ v2).setCell ⟨r,3,none⟩ v3).setCell ⟨r,4,none⟩ v4).heap[r]? = some (.cells #[v0,v1,v2,v3,v4] T (0,0)) :=
 ⟨vm_setc (vm_setc (vm_setc (vm_setc (vm_setc (World.grownBy.refl wr (some r)) 0 v0) 1 v1) 2 v2) 3 v3) 4 v4,by simp [World.setCell,Array.getElem?_modify,h]⟩
def TchPost (w : World) (bs K : Nat) (H : Frz) (W : World) (e : Ending) (W' : World) : Prop:=∃ (d : TchD) (H' : Frz),e = .returned (.agg #[.int .i64 d.no,.int .i64 d.at_,.string d.source,.slice d.ia d.ids.length d.ic,.slice d.fa d.fields.length d.fc]) ∧ H.Le H' ∧ (∀ b,b < W.heap.size → H' b = H b) ∧ Lw w bs (K + 500) H' W' ∧ W.grownBy W' (some bs) ∧ TcIn H' d
set_option maxHeartbeats 8000000 in
set_option maxRecDepth 100000 in
theorem Lw.touch {w W : World} {bs K : Nat} {H : Frz} (h : Lw w bs K H W) (hK : K ≤ 400000) (hP : PoolIn H) (hN : NamesIn H) (no : Int) :
  Calls Tryz.prog 80 #[.pointer (some ⟨bs,0,none⟩),.int .i64 no] W (TchPost w bs K H W):=by
 have hbs:=h.lt
 have L0:=Lib.hid (h.alloc (.cells #[.int .i64 0,.int .i64 0,.string ⟨#[]⟩,.slice none 0 0,.slice none 0 0] 53))
 have hres : Hid ((W.alloc (.cells #[.int .i64 0,.int .i64 0,.string ⟨#[]⟩,.slice none 0 0,.slice none 0 0] 53)).heap[W.heap.size]? = some (.cells #[.int .i64 0,.int .i64 0,.string ⟨#[]⟩,.slice none 0 0,.slice none 0 0] 53 (0,0))):=heap_at rfl
 have HG0:=Lib.hid (grown_alloc (w:=W) (.cells #[.int .i64 0,.int .i64 0,.string ⟨#[]⟩,.slice none 0 0,.slice none 0 0] 53) (some bs))
 have HR0:=Lib.hid (h.fin.none_ (Nat.le_refl W.heap.size))
 have C0 : Hid (Sk w bs K H (W.alloc (.cells #[.int .i64 0,.int .i64 0,.string ⟨#[]⟩,.slice none 0 0,.slice none 0 0] 53)) (W.alloc (.cells #[.int .i64 0,.int .i64 0,.string ⟨#[]⟩,.slice none 0 0,.slice none 0 0] 53))):=Sk.start L0.out
 have hWs : W.heap.size < (W.alloc (.cells #[.int .i64 0,.int .i64 0,.string ⟨#[]⟩,.slice none 0 0,.slice none 0 0] 53)).heap.size:=lt_of_heap hres.out
 have HP:=Lib.hid hP
 have HN:=Lib.hid hN
 clear h hP hN
 go_enter Tryz.func80,Tryz.ntmps80
 go_upto_region 1 with (fail)
 generalize hW0 : W.alloc (.cells #[.int .i64 0,.int .i64 0,.string ⟨#[]⟩,.slice none 0 0,.slice none 0 0] 53) = W0 at *
 clear hW0 L0
 have hne:=C0.out.lw.lt
 have hIn : Ints (W0.alloc (.cells #[.int .i64 0,.int .i64 5,.int .i64 10,.int .i64 10,.int .i64 50,.int .i64 100,.int .i64 5000] 3)) (some ⟨W0.heap.size,0,none⟩) [0,5,10,10,50,100,5000]:=Ints.of_row (heap_at rfl) rfl
 have HIn:=Lib.hid hIn
 clear hIn
 go_wp2_with fail
 refine ((C0.out.alloc _).lw.pick _ _ [0,5,10,10,50,100,5000] HIn.out (fun b off e => by injection e with e; injection e with e1 e2; omega) (by simp) (by simp) (by omega)).mono ?_
 rintro e W1 ⟨at9,rfl,hat9,Lq,gq,-⟩
 have C1:=Lib.hid ((C0.out.alloc _).asked Lq gq)
 clear Lq gq HIn hne C0
 have hne:=C1.out.lw.lt
 have hSt : StrsW (W1.alloc (.cells #[.string ⟨#[115,104,111,112]⟩,.string ⟨#[100,101,115,107]⟩,.string ⟨#[97,112,112]⟩] 9)) (some ⟨W1.heap.size,0,none⟩) [⟨#[115,104,111,112]⟩,⟨#[100,101,115,107]⟩,⟨#[97,112,112]⟩]:=StrsW.of_row (heap_at rfl) rfl
 have HSt:=Lib.hid hSt
 clear hSt
 go_wp2_with fail
 refine ((C1.out.alloc _).lw.one _ _ [⟨#[115,104,111,112]⟩,⟨#[100,101,115,107]⟩,⟨#[97,112,112]⟩] HSt.out (fun b off e => by injection e with e; injection e with e1 e2; omega) (by simp) (by simp) (by omega)).mono ?_
 rintro e W2 ⟨so,rfl,hso,Lq,gq,-⟩
 have C2:=Lib.hid ((C1.out.alloc _).asked Lq gq)
 clear Lq gq HSt hne C1
 have hso9:=sizeK hso (by decide +kernel)
 have hne:=C2.out.lw.lt
 have hIn : Ints (W2.alloc (.cells #[.int .i64 1,.int .i64 1,.int .i64 1,.int .i64 2,.int .i64 2,.int .i64 3] 3)) (some ⟨W2.heap.size,0,none⟩) [1,1,1,2,2,3]:=Ints.of_row (heap_at rfl) rfl
 have HIn:=Lib.hid hIn
 clear hIn
 go_wp2_with fail
 refine ((C2.out.alloc _).lw.pick _ _ [1,1,1,2,2,3] HIn.out (fun b off e => by injection e with e; injection e with e1 e2; omega) (by simp) (by simp) (by omega)).mono ?_
 rintro e W3 ⟨mm,rfl,hmm,Lq,gq,-⟩
 have C3:=Lib.hid ((C2.out.alloc _).asked Lq gq)
 clear Lq gq HIn hne C2
 have hmm9 : 0 ≤ mm ∧ mm ≤ 3:=by simp at hmm; omega
 obtain ⟨m,rfl⟩:=Int.eq_ofNat_of_zero_le hmm9.1
 have hm3 : m ≤ 3:=by omega
 clear hmm hmm9 hat9 hso
 go_wp2_with fail
 refine (C3.out.lw.ids (by omega) HP.out m (by omega)).mono ?_
 rintro e W4 ⟨v4,ids,rfl,C4,hil,hidt⟩
 obtain ⟨ia,ic,H1,rfl,-,le1,L4,R4,old1⟩:=C4.1.frozen2
 have G4:=Lib.hid (vm_then C3.out.g C4.2)
 have HL4:=Lib.hid L4
 have HR4:=Lib.hid R4
 have HLE1:=Lib.hid le1
 have HOLD1:=Lib.hid (fun b (hb : b < W0.heap.size) => old1 b (Nat.lt_of_lt_of_le hb C3.out.g.size))
 clear C3 C4 le1 L4 R4 old1 HP
 go_wp2_with fail
 refine (HL4.out.fields (by omega) (HN.out.le HLE1.out) 3 (by omega)).mono ?_
 rintro e W5 ⟨v5,fds,rfl,C5,hfl,hfb,g5⟩
 obtain ⟨fa,fc,H2,rfl,-,le2,L5,R5,old2⟩:=C5.frozen2
 have G5:=Lib.hid (vm_then G4.out g5)
 have D0 : Hid (TM w bs (K + 400) H H2 W W5.heap.size W.heap.size ⟨no,at9,so,ia,ic,ids,fa,fc,fds⟩ (W5.alloc (.cells #[.int .i64 no,.int .i64 at9,.string so,.slice ia ids.length ic,.slice fa fds.length fc] 53))):=by
  have hs5:=G5.out.size
  have hrb : W.heap.size < W5.heap.size:=by omega
  have h2 : ∀ b,b < W0.heap.size → H2 b = H b:=fun b hb => (old2 b (Nat.lt_of_lt_of_le hb G4.out.size)).trans (HOLD1.out b hb)
  have hr5:=(G5.out.block W.heap.size hWs (fun e => by injection e with e; omega)).trans hres.out
  exact ⟨(L5.more (by omega)).alloc _,heap_at rfl,(heap_lt hrb).trans hr5,L5.lt,hbs,by omega,L5.fin.none_ (Nat.le_refl _),(h2 _ hWs).trans HR0.out,vm_then (vm_then HG0.out G5.out) (grown_alloc _ _),HLE1.out.trans le2,fun b hb => h2 b (by omega),by omega,Nat.le_refl _,⟨HR4.out.le le2,R5,by show ids.length ≤ _; omega,by show fds.length ≤ _; omega,hso9,hidt,hfb⟩⟩
 clear HL4 HR4 HLE1 HOLD1 le2 L5 R5 old2 C5 g5 G4 G5 hfb hidt
 go_upto_region 2 with (fail)
 generalize W5.alloc (.cells #[.int .i64 no,.int .i64 at9,.string so,.slice ia ids.length ic,.slice fa fds.length fc] 53) = W6 at *
 generalize W5.heap.size = ob at *
 generalize (⟨no,at9,so,ia,ic,ids,fa,fc,fds⟩ : TchD) = d0 at D0
 go_wp2_with fail
 refine (D0.out.lw.flip 60 (by omega) (by omega)).mono ?_
 rintro e W7 ⟨fb,rfl,Lq,gq,-⟩
 have D1:=Lib.hid (D0.out.asked Lq gq)
 clear Lq gq D0
 go_upto_if 22 with (fail)
 go_cut [] (fun wx => ∃ d : TchD,Hid (TM w bs (K + 480) H H2 W ob W.heap.size d wx))
 case first =>
  cases fb with
  | false =>
   go_wp2_with fail
   go_meet
   exact ⟨_,D1.out.more (by omega)⟩
  | true =>
   go_wp2_with fail
   refine (D1.out.lw.next' 4 (by omega) (by omega) (by omega)).mono ?_
   rintro e W8 ⟨u,rfl,u0,u1,Lq,gq,-⟩
   have D2:=Lib.hid (D1.out.asked Lq gq)
   clear Lq gq D1
   have hcs : u = 0 ∨ u = 1 ∨ u = 2 ∨ (u ≠ 0 ∧ u ≠ 1 ∧ u ≠ 2):=by omega
   rcases hcs with rfl | rfl | rfl | ⟨n0,n1,n2⟩
   ·go_wp2_with fail
    refine (D2.out.lw.odd (by omega) 1 1000000 (by omega) (by omega) (by omega)).mono ?_
    rintro e W9 ⟨z,rfl,-,-,Lq,gq⟩
    have D3:=Lib.hid (D2.out.asked Lq gq)
    clear Lq gq D2
    have D4:=Lib.hid (D3.out.setNo z)
    have hc0:=cell_h D3.out.blk 0 (v:=.int .i64 d0.no) rfl
    have hf0:=froz_h D3.out.blk 0
    go_wp2_with fail
    go_meet
    exact ⟨_,D4.out.more (by omega)⟩
   ·go_wp2_with fail
    refine (D2.out.lw.odd (by omega) 0 4321439 (by omega) (by omega) (by omega)).mono ?_
    rintro e W9 ⟨z,rfl,-,-,Lq,gq⟩
    have D3:=Lib.hid (D2.out.asked Lq gq)
    clear Lq gq D2
    have D4:=Lib.hid (D3.out.setAt z)
    have hc1:=cell_h D3.out.blk 1 (v:=.int .i64 d0.at_) rfl
    have hf1:=froz_h D3.out.blk 1
    go_wp2_with fail
    go_meet
    exact ⟨_,D4.out.more (by omega)⟩
   ·skip
    have hne:=D2.out.lw.lt
    have hSt : StrsW (W8.alloc (.cells #[.string ⟨#[]⟩,.string ⟨#[83,104,111,112]⟩,.string ⟨#[97,32,98]⟩] 9)) (some ⟨W8.heap.size,0,none⟩) [⟨#[]⟩,⟨#[83,104,111,112]⟩,⟨#[97,32,98]⟩]:=StrsW.of_row (heap_at rfl) rfl
    have HSt:=Lib.hid hSt
    clear hSt
    go_wp2_with fail
    refine ((D2.out.alloc _).lw.one _ _ [⟨#[]⟩,⟨#[83,104,111,112]⟩,⟨#[97,32,98]⟩] HSt.out (fun b off e => by injection e with e; injection e with e1 e2; omega) (by simp) (by simp) (by omega)).mono ?_
    rintro e W9 ⟨z,rfl,hz,Lq,gq,-⟩
    have D3:=Lib.hid ((D2.out.alloc _).asked Lq gq)
    clear Lq gq HSt hne D2
    have D4:=Lib.hid (D3.out.setSrc z (sizeK hz (by decide +kernel)))
    have hc2:=cell_h D3.out.blk 2 (v:=.string d0.source) rfl
    have hf2:=froz_h D3.out.blk 2
    clear hz
    go_wp2_with fail
    go_meet
    exact ⟨_,D4.out.more (by omega)⟩
   ·have q0 : (u == 0) = false:=by simpa using n0
    have q1 : (u == 1) = false:=by simpa using n1
    have q2 : (u == 2) = false:=by simpa using n2
    have D4:=Lib.hid D2.out.setIds
    have hc3:=cell_h D2.out.blk 3 (v:=.slice d0.ia d0.ids.length d0.ic) rfl
    have hf3:=froz_h D2.out.blk 3
    go_wp2_with fail
    go_meet
    exact ⟨_,D4.out.more (by omega)⟩
 case rest =>
  obtain ⟨d2,D2⟩:=hcut
  have hk0:=cell_h D2.out.blk 0 (v:=.int .i64 d2.no) rfl
  have hk1:=cell_h D2.out.blk 1 (v:=.int .i64 d2.at_) rfl
  have hk2:=cell_h D2.out.blk 2 (v:=.string d2.source) rfl
  have hk3:=cell_h D2.out.blk 3 (v:=.slice d2.ia d2.ids.length d2.ic) rfl
  have hk4:=cell_h D2.out.blk 4 (v:=.slice d2.fa d2.fields.length d2.fc) rfl
  have hkr:=D2.out.res
  have rr0:=cell_h hkr 0 (v:=.int .i64 0) rfl
  have rf0:=froz_h hkr 0
  have rr1:=cell_h hkr 1 (v:=.int .i64 0) rfl
  have rf1:=froz_h hkr 1
  have rr2:=cell_h hkr 2 (v:=.string ⟨#[]⟩) rfl
  have rf2:=froz_h hkr 2
  have rr3:=cell_h hkr 3 (v:=.slice none 0 0) rfl
  have rf3:=froz_h hkr 3
  have rr4:=cell_h hkr 4 (v:=.slice none 0 0) rfl
  have rf4:=froz_h hkr 4
  go_wp2_with fail
  (try simp only [Exit.inBlock,Exit.then])
  obtain ⟨hg9,hh9⟩:=tm_set5 hkr (.int .i64 d2.no) (.int .i64 d2.at_) (.string d2.source) (.slice d2.ia d2.ids.length d2.ic) (.slice d2.fa d2.fields.length d2.fc)
  refine bodyPost_ret (results_cell_row rfl _ _ W.heap.size 53 _ (0,0) _ rfl hh9 Tryz.underlying53 rfl (by kernel_rfl)) rfl ?_
  refine ⟨d2,H2,rfl,D2.out.le,D2.out.old,(D2.out.lw.grown hg9 (fun q hq => by injection hq with hq; subst hq; exact ⟨D2.out.br,D2.out.hr⟩)).more (by omega),⟨hg9.os.trans D2.out.gr.os,hg9.tape.trans D2.out.gr.tape,hg9.output.trans D2.out.gr.output,Nat.le_trans D2.out.gr.size hg9.size,fun b hb hne => ?_⟩,D2.out.ok⟩
  have:=D2.out.lr
  exact (hg9.block b (Nat.lt_of_lt_of_le hb D2.out.gr.size) (fun e => by injection e with e; omega)).trans (D2.out.gr.block b hb hne)
end Go.Proofs.YtbidhpgjmcedaaaGreatDoor
