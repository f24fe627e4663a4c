/- Texts of this claim, put together: ChkI, ChkT, RefFds, RefEv, ChkEv. -/
import Derived.Test.YtfmnlpmgakgleaaGreatDoorGAK
import Derived.Test.YtfmnlpmgakgleaaGreatDoorGAP
import Derived.Test.YtfmnlpmgakgleaaGreatDoorGAT
import Derived.Test.YtfmnlpmgakgleaaGreatDoorGAR
import Derived.Test.YtfmnlpmgakgleaaGreatDoorGAO
import Derived.Test.YtfmnlpmgakgleaaGreatDoorGAH
namespace Go.Proofs.YtfmnlpmgakgleaaGreatDoor
set_option linter.unusedVariables false
open Go.RowKit
open Go.RowKit
open Go.RowKit
def prevNm (fs:List FD) (i:Nat):ByteArray:=match i with | 0 => ⟨#[]⟩ | k + 1 => match fs[k]? with | some f => f.name | none => ⟨#[]⟩
set_option maxHeartbeats 4000000 in
set_option maxRecDepth 100000 in
theorem refFds_any (H:Frz) (hU:UtfIn H) (A:Option Addr) (cap:Nat) (fs:List FD) (w:World) (hH:H.In w) (hR:Rw H A 4 fFd fs) (hl:fs.length ≤ 1000000) (hsz:∀ f ∈ fs,f.name.size ≤ 1000000 ∧ f.v.text.size ≤ 1000000) :
  Calls Tryz.prog 158 #[.slice A fs.length cap] w (RefPost w (fdsE okT fs)):=by
 have HR:=Lib.hid hR
 have HH:=Lib.hid hH
 have HS:=Lib.hid hsz
 have HCV:=Lib.hid (fun v W (hW:H.In W) h => refVal_any H hU v W hW h)
 have HBAD:=Lib.hid (fun z (hz:z ≠ 0) W (hW:Below w.heap.size w W) => RefPost.bad (z0:=fdsE okT fs) (z:=z) hz hW)
 clear hR hH hsz hU
 by_cases hlong:30 < fs.length
 ·have h2:decide ((30:Int) < fs.length) = true:=by simp;omega
  have HF:=Lib.hid (HBAD.out 2 (by omega) _ (Below.refl _ _))
  clear hlong
  go_enter Tryz.func158,Tryz.ntmps158
  go_wp2_with fail
  go_ret
  exact HF.out
 ·have h2:decide ((30:Int) < fs.length) = false:=by simp;omega
  have HV:Hid (fdsE okT fs = fstErr (fd1 okT fs) fs.length):=by show _ = _;unfold fdsE;rw [if_neg hlong]
  clear hlong
  go_enter Tryz.func158,Tryz.ntmps158
  go_wp2_with fail
  clear h2
  go_loopw [3,12] (fun p t wr => ∃ i:Nat,i ≤ fs.length ∧ t = .int .i64 i ∧ p = .string (prevNm fs i) ∧ Hid (fstErr (fd1 okT fs) i = 0) ∧ Hid (Below w.heap.size w wr)) (fun _ t _ => fs.length - (intOf t).toNat)
  case atStart => exact ⟨0,by omega,rfl,rfl,rfl,Below.refl _ _⟩
  case round =>
   obtain ⟨i,hi,rfl,rfl,h0,hb⟩:=hrel
   by_cases hlt:i < fs.length
   ·have hin:=HH.out.below hb.out
    obtain ⟨b,off,rfl,hbl,hc⟩:=HR.out.at_ hin hlt (by omega)
    have c0:wr.cell? ⟨b,off + i * 4,none⟩ = some (.string fs[i].name):=hc 0 (by omega)
    have c1:wr.cell? ⟨b,off + i * 4 + 1,none⟩ = some (.int .i64 fs[i].v.kind):=hc 1 (by omega)
    have c2:wr.cell? ⟨b,off + i * 4 + 2,none⟩ = some (.string fs[i].v.text):=hc 2 (by omega)
    have c3:wr.cell? ⟨b,off + i * 4 + 3,none⟩ = some (.int .i64 fs[i].v.num):=hc 3 (by omega)
    have HAT:=Lib.hid (fd1_at (ok:=okT) hlt)
    have HNX:Hid (fd1 okT fs i = 0 → fstErr (fd1 okT fs) (i + 1) = 0):=fun h1 => fstErr_next h0.out h1
    have HPV:Hid (0 < i → (fs.getD (i - 1) fs[i]).name = prevNm fs i):=fun hp => by
     obtain ⟨k,rfl⟩:∃ k,i = k + 1:=⟨i - 1,by omega⟩
     rw [Nat.add_sub_cancel,List.getD_eq_getElem?_getD,List.getElem?_eq_getElem (by omega),Option.getD_some]
     unfold prevNm
     simp only
     rw [List.getElem?_eq_getElem (by omega)]
    have HPN:Hid (prevNm fs (i + 1) = fs[i].name):=by
     show _ = _
     unfold prevNm
     simp only
     rw [List.getElem?_eq_getElem hlt]
    have hks:=HS.out _ (List.getElem_mem hlt)
    clear hc
    generalize (fs.getD (i - 1) fs[i]).name = pn at *
    generalize prevNm fs i = pv at *
    generalize fs[i] = d at *
    have z0:(wr.alloc (.cells #[.string d.name,.int .i64 d.v.kind,.string d.v.text,.int .i64 d.v.num] 119)).cell? ⟨wr.heap.size,0,none⟩ = some (.string d.name):=newc 0 rfl
    have z1:(wr.alloc (.cells #[.string d.name,.int .i64 d.v.kind,.string d.v.text,.int .i64 d.v.num] 119)).cell? ⟨wr.heap.size,1,none⟩ = some (.int .i64 d.v.kind):=newc 1 rfl
    have z2:(wr.alloc (.cells #[.string d.name,.int .i64 d.v.kind,.string d.v.text,.int .i64 d.v.num] 119)).cell? ⟨wr.heap.size,2,none⟩ = some (.string d.v.text):=newc 2 rfl
    have z3:(wr.alloc (.cells #[.string d.name,.int .i64 d.v.kind,.string d.v.text,.int .i64 d.v.num] 119)).cell? ⟨wr.heap.size,3,none⟩ = some (.int .i64 d.v.num):=newc 3 rfl
    have HBN:=Lib.hid (new1 (w:=wr) (.cells #[.string d.name,.int .i64 d.v.kind,.string d.v.text,.int .i64 d.v.num] 119))
    go_upto_region 7 with (fail)
    clear c0 c1 c2 c3
    generalize wr.alloc (.cells #[.string d.name,.int .i64 d.v.kind,.string d.v.text,.int .i64 d.v.num] 119) = W1 at *
    have HB1:=Lib.hid (hb.out.trans (HBN.out.mono hb.out.size))
    have HIN1:=Lib.hid (hin.below HBN.out)
    clear hb h0 HBN hin
    generalize wr.heap.size = fb at *
    go_wp2_with fail
    refine (Key_any d.name _ (by omega)).mono ?_
    rintro e W2 ⟨rfl,hb2⟩
    have HB2:=Lib.hid (HB1.out.trans (hb2.mono HB1.out.size))
    have HIN2:=Lib.hid (HIN1.out.below hb2)
    have y0:=lift_cell z0 _ hb2
    have y1:=lift_cell z1 _ hb2
    have y2:=lift_cell z2 _ hb2
    have y3:=lift_cell z3 _ hb2
    clear hb2 z0 z1 z2 z3 HB1 HIN1
    cases hk:isKey d.name with
    | false =>
     have HF:=Lib.hid (HBAD.out 5 (by omega) _ HB2.out)
     clear hk
     go_wp2_with fail
     go_ret
     exact HF.out
    | true =>
     have HA1:=Lib.hid (HAT.out.trans (if_neg (by rw [hk];simp)))
     clear HAT hk
     go_wp2_with fail
     refine (HCV.out d.v _ HIN2.out (by omega)).mono ?_
     rintro e W3 ⟨ze,rfl,hz,hb3⟩
     have HZ:=Lib.hid hz
     have HB3:=Lib.hid (HB2.out.trans (hb3.mono HB2.out.size))
     have x0:=lift_cell y0 _ hb3
     clear hb3 y0 y1 y2 y3 hz HB2 HIN2
     by_cases g1:ze = 0
     rotate_left
     ·have k1:(ze != 0) = true:=by simpa using g1
      have HF:=Lib.hid (HBAD.out ze g1 _ HB3.out)
      clear g1
      go_wp2_with fail
      go_ret
      exact HF.out
     have k1:(ze != 0) = false:=by simpa using g1
     have HA2:=Lib.hid (HA1.out.trans (if_neg (by rw [HZ.out g1];simp)))
     clear g1 HA1 HZ
     have HLE:=Lib.hid (leB_iff d.name pv)
     cases hle:leB d.name pv with
     | true =>
      have HF:=Lib.hid (HBAD.out 7 (by omega) _ HB3.out)
      have hle2:=hle
      unfold leB at hle2
      clear hle
      go_wp2_with fail
      go_ret
      exact HF.out
     | false =>
      have hok:=Lib.hid (HNX.out (HA2.out.trans (if_neg (fun c => by
       have:=HPV.out c.1
       rw [this] at c
       have h3:=HLE.out.2 c.2
       rw [hle] at h3
       cases h3))))
      have hle2:=hle
      unfold leB at hle2
      clear hle
      go_wp2_with fail
      go_roundw
      case rel => exact ⟨i + 1,by omega,by go_num,by rw [HPN.out],hok,HB3⟩
      case measure => simp [intOf];omega
   ·have hie:i = fs.length:=by omega
    subst hie
    have HF:=Lib.hid (RefPost.good (HV.out.trans h0.out) hb.out)
    go_wp2_with fail
    go_ret
    exact HF.out
open Go.RowKit
theorem EvIn.fsz {H:Frz} {d:EvD} (h:EvIn H d):∀ f ∈ d.fields,f.name.size ≤ 1000000 ∧ f.v.text.size ≤ 1000000:=fun f hf => by have:=h.fdt.sz hf;omega
set_option maxHeartbeats 1000000 in
theorem refEv1_any (H:Frz) (hM:MLen H) (p:Nat) (d:EvD) (w:World) (hH:H.In w) (hd:EvIn H d) (c3:w.cell? ⟨p,3,none⟩ = some (.int .i64 d.kind)) (c4:w.cell? ⟨p,4,none⟩ = some (.string d.text)) :
  Calls Tryz.prog 155 #[.pointer (some ⟨p,0,none⟩)] w (RefPost w (idErr d.kind d.text)):=by
 have HC:=Lib.hid (refId_any H hM d.kind d.text w hH (by have:=hd.txt;omega))
 clear hH hd hM
 go_enter Tryz.func155,Tryz.ntmps155
 go_wp2_with fail
 refine HC.out.mono ?_
 rintro e w1 ⟨z,rfl,hz,hb⟩
 have HF:Hid (RefPost w (idErr d.kind d.text) (.returned (.int .i64 z)) w1):=⟨z,rfl,hz,hb⟩
 clear hz hb HC
 go_wp2_with fail
 go_ret
 exact HF.out
set_option maxHeartbeats 1000000 in
theorem refEv2_any (H:Frz) (hU:UtfIn H) (p:Nat) (d:EvD) (w:World) (hH:H.In w) (hd:EvIn H d) (hc:w.cell? ⟨p,5,none⟩ = some (.slice d.fa d.fields.length d.fc)) :
  Calls Tryz.prog 157 #[.pointer (some ⟨p,0,none⟩)] w (RefPost w (fdsE okT d.fields)):=by
 have HC:=Lib.hid (refFds_any H hU d.fa d.fc d.fields w hH hd.fds (by have:=hd.fl;omega) hd.fsz)
 clear hH hd hU
 go_enter Tryz.func157,Tryz.ntmps157
 go_wp2_with fail
 refine HC.out.mono ?_
 rintro e w1 ⟨z,rfl,hz,hb⟩
 have HF:Hid (RefPost w (fdsE okT d.fields) (.returned (.int .i64 z)) w1):=⟨z,rfl,hz,hb⟩
 clear hz hb HC
 go_wp2_with fail
 go_ret
 exact HF.out
def FirPost (w:World) (d:EvD) (e:Ending) (w':World):Prop:=∃ z:Int,e = .returned (.int .i64 z) ∧ (z = 0 → idErr d.kind d.text = 0 ∧ fdsE okT d.fields = 0) ∧ Below w.heap.size w w'
set_option maxHeartbeats 2000000 in
set_option maxRecDepth 100000 in
theorem firstEv_any (H:Frz) (hU:UtfIn H) (hM:MLen H) (p q:Nat) (d:EvD) (w:World) (hH:H.In w) (hd:EvIn H d)
  (c3:w.cell? ⟨p,3,none⟩ = some (.int .i64 d.kind)) (c4:w.cell? ⟨p,4,none⟩ = some (.string d.text)) (c5:w.cell? ⟨p,5,none⟩ = some (.slice d.fa d.fields.length d.fc))
  (q0:w.cell? ⟨q,0,none⟩ = some (.func (.func 155) #[] #[.pointer (some ⟨p,0,none⟩)])) (q1:w.cell? ⟨q,1,none⟩ = some (.func (.func 157) #[] #[.pointer (some ⟨p,0,none⟩)])) :
  Calls Tryz.prog 154 #[.slice (some ⟨q,0,none⟩) 2 2] w (FirPost w d):=by
 have C3:=lift_cell c3
 have C4:=lift_cell c4
 have C5:=lift_cell c5
 have Q0:=Lib.hid (lift_cell q0)
 have Q1:=Lib.hid (lift_cell q1)
 have H1:=Lib.hid (fun W (hW:Below w.heap.size w W) => refEv1_any H hM p d W (hH.below hW) hd (C3 W hW) (C4 W hW))
 have H2:=Lib.hid (fun W (hW:Below w.heap.size w W) => refEv2_any H hU p d W (hH.below hW) hd (C5 W hW))
 clear hU hM hH hd c3 c4 c5 q0 q1 C3 C4 C5
 go_enter Tryz.func154,Tryz.ntmps154
 go_wp2_with fail
 go_loopw [8] (fun x wr => ∃ i:Nat,i ≤ 2 ∧ x = .int .i64 i ∧ Hid (1 ≤ i → idErr d.kind d.text = 0) ∧ Hid (2 ≤ i → fdsE okT d.fields = 0) ∧ Hid (Below w.heap.size w wr)) (fun x _ => 2 - (intOf x).toNat)
 case atStart => exact ⟨0,by omega,rfl,(fun h => by omega),(fun h => by omega),Below.refl _ _⟩
 case round =>
  obtain ⟨i,hi,rfl,h1,h2,hb⟩:=hrel
  have y0:=Q0.out _ hb.out
  have y1:=Q1.out _ hb.out
  have hcs:i = 0 ∨ i = 1 ∨ i = 2:=by omega
  rcases hcs with rfl | rfl | rfl
  ·go_wp2_with fail
   refine (H1.out _ hb.out).mono ?_
   rintro e W4 ⟨z,rfl,hz,hb4⟩
   have HB4:=Lib.hid (hb.out.trans (hb4.mono hb.out.size))
   have HZ:=Lib.hid hz
   clear hb4 hz y0 y1
   by_cases g:z = 0
   ·have k:(z != 0) = false:=by simpa using g
    have h9:=Lib.hid (HZ.out g)
    clear g
    go_wp2_with fail
    go_roundw
    case rel => exact ⟨1,by omega,by go_num,(fun _ => h9.out),(fun h => by omega),HB4⟩
    case measure => simp [intOf]
   ·have k:(z != 0) = true:=by simpa using g
    have HF:Hid (FirPost w d (.returned (.int .i64 z)) W4):=⟨z,rfl,fun h => absurd h g,HB4.out⟩
    clear g
    go_wp2_with fail
    go_ret
    exact HF.out
  ·go_wp2_with fail
   refine (H2.out _ hb.out).mono ?_
   rintro e W4 ⟨z,rfl,hz,hb4⟩
   have HB4:=Lib.hid (hb.out.trans (hb4.mono hb.out.size))
   have HZ:=Lib.hid hz
   clear hb4 hz y0 y1
   by_cases g:z = 0
   ·have k:(z != 0) = false:=by simpa using g
    have h9:=Lib.hid (HZ.out g)
    clear g
    go_wp2_with fail
    go_roundw
    case rel => exact ⟨2,by omega,by go_num,(fun _ => h1.out (by omega)),(fun _ => h9.out),HB4⟩
    case measure => simp [intOf]
   ·have k:(z != 0) = true:=by simpa using g
    have HF:Hid (FirPost w d (.returned (.int .i64 z)) W4):=⟨z,rfl,fun h => absurd h g,HB4.out⟩
    clear g
    go_wp2_with fail
    go_ret
    exact HF.out
  ·have HF:Hid (FirPost w d (.returned (.int .i64 0)) wr):=⟨0,rfl,fun _ => ⟨h1.out (by omega),h2.out (by omega)⟩,hb.out⟩
   go_wp2_with fail
   go_ret
   exact HF.out
set_option maxHeartbeats 4000000 in
set_option maxRecDepth 100000 in
theorem refEv_any (H:Frz) (hU:UtfIn H) (hM:MLen H) (d:EvD) (w:World) (hH:H.In w) (hd:EvIn H d) :
  Calls Tryz.prog 96 #[.agg #[.string d.id,.string d.name,.int .i64 d.at_,.int .i64 d.kind,.string d.text,.slice d.fa d.fields.length d.fc]] w (RefPost w (evE okT d)):=by
 have z0:(w.alloc (.cells #[.string d.id,.string d.name,.int .i64 d.at_,.int .i64 d.kind,.string d.text,.slice d.fa d.fields.length d.fc] 42)).cell? ⟨w.heap.size,0,none⟩ = some (.string d.id):=newc 0 rfl
 have z1:(w.alloc (.cells #[.string d.id,.string d.name,.int .i64 d.at_,.int .i64 d.kind,.string d.text,.slice d.fa d.fields.length d.fc] 42)).cell? ⟨w.heap.size,1,none⟩ = some (.string d.name):=newc 1 rfl
 have z2:(w.alloc (.cells #[.string d.id,.string d.name,.int .i64 d.at_,.int .i64 d.kind,.string d.text,.slice d.fa d.fields.length d.fc] 42)).cell? ⟨w.heap.size,2,none⟩ = some (.int .i64 d.at_):=newc 2 rfl
 have z3:(w.alloc (.cells #[.string d.id,.string d.name,.int .i64 d.at_,.int .i64 d.kind,.string d.text,.slice d.fa d.fields.length d.fc] 42)).cell? ⟨w.heap.size,3,none⟩ = some (.int .i64 d.kind):=newc 3 rfl
 have z4:(w.alloc (.cells #[.string d.id,.string d.name,.int .i64 d.at_,.int .i64 d.kind,.string d.text,.slice d.fa d.fields.length d.fc] 42)).cell? ⟨w.heap.size,4,none⟩ = some (.string d.text):=newc 4 rfl
 have z5:(w.alloc (.cells #[.string d.id,.string d.name,.int .i64 d.at_,.int .i64 d.kind,.string d.text,.slice d.fa d.fields.length d.fc] 42)).cell? ⟨w.heap.size,5,none⟩ = some (.slice d.fa d.fields.length d.fc):=newc 5 rfl
 have HBN:=Lib.hid (new1 (w:=w) (.cells #[.string d.id,.string d.name,.int .i64 d.at_,.int .i64 d.kind,.string d.text,.slice d.fa d.fields.length d.fc] 42))
 have HIN:=Lib.hid (hH.below HBN.out)
 have HBAD:=Lib.hid (fun z (hz:z ≠ 0) W (hW:Below w.heap.size w W) => RefPost.bad (z0:=evE okT d) (z:=z) hz hW)
 have HI1:=hd.idz
 have HI2:=hd.nmz
 have HFI:=Lib.hid (fun p q W (hW:H.In W) h1 h2 h3 h4 h5 => firstEv_any H hU hM p q d W hW hd h1 h2 h3 h4 h5)
 have HV:Hid (evE okT d = if isKey d.id = false ∨ isKey d.name = false then 5 else if ¬ (0 ≤ d.at_ ∧ d.at_ ≤ 4321439) then 1 else if idErr d.kind d.text ≠ 0 then idErr d.kind d.text else fdsE okT d.fields):=rfl
 clear hU hM hH hd
 go_enter Tryz.func96,Tryz.ntmps96
 go_upto_region 1 with (fail)
 generalize w.alloc (.cells #[.string d.id,.string d.name,.int .i64 d.at_,.int .i64 d.kind,.string d.text,.slice d.fa d.fields.length d.fc] 42) = W1 at *
 go_wp2_with fail
 refine (Key_any d.id _ (by omega)).mono ?_
 rintro e W2 ⟨rfl,hb2⟩
 have HB2:=Lib.hid (HBN.out.trans (hb2.mono HBN.out.size))
 have HIN2:=Lib.hid (HIN.out.below hb2)
 have y1:=lift_cell z1 _ hb2
 have y2:=lift_cell z2 _ hb2
 have y3:=lift_cell z3 _ hb2
 have y4:=lift_cell z4 _ hb2
 have y5:=lift_cell z5 _ hb2
 clear hb2 z0 z1 z2 z3 z4 z5 HIN HBN
 cases hk:isKey d.id with
 | false =>
  have HF:=Lib.hid (HBAD.out 5 (by omega) _ HB2.out)
  clear hk
  go_wp2_with fail
  go_ret
  exact HF.out
 | true =>
  have HK1:=Lib.hid hk
  clear hk
  go_wp2_with fail
  refine (Key_any d.name _ (by omega)).mono ?_
  rintro e W3 ⟨rfl,hb3⟩
  have HB3:=Lib.hid (HB2.out.trans (hb3.mono HB2.out.size))
  have HIN3:=Lib.hid (HIN2.out.below hb3)
  have u2:=lift_cell y2 _ hb3
  have u3:=lift_cell y3 _ hb3
  have u4:=lift_cell y4 _ hb3
  have u5:=lift_cell y5 _ hb3
  clear hb3 y1 y2 y3 y4 y5 HIN2 HB2
  cases hk:isKey d.name with
  | false =>
   have HF:=Lib.hid (HBAD.out 5 (by omega) _ HB3.out)
   clear hk
   go_wp2_with fail
   go_ret
   exact HF.out
  | true =>
   have HV1:=Lib.hid (HV.out.trans (if_neg (by rw [HK1.out,hk];simp)))
   clear hk HV HK1
   go_wp2_with fail
   refine (in_any _ _ _ _).mono ?_
   rintro e w' ⟨rfl,rfl⟩
   by_cases g2:0 ≤ d.at_ ∧ d.at_ ≤ 4321439
   rotate_left
   ·have k1:(decide ((0:Int) ≤ d.at_) && decide (d.at_ ≤ 4321439)) = false:=by simp;omega
    rw [k1]
    have HF:=Lib.hid (HBAD.out 1 (by omega) _ HB3.out)
    clear g2 k1
    go_wp2_with fail
    go_ret
    exact HF.out
   have k1:(decide ((0:Int) ≤ d.at_) && decide (d.at_ ≤ 4321439)) = true:=by simp;omega
   rw [k1]
   have HV2:=Lib.hid (HV1.out.trans (if_neg (fun c => c g2)))
   clear g2 k1 HV1
   go_wp2_with fail
   refine (HFI.out w.heap.size W3.heap.size _ (HIN3.out.alloc _) (lift_cell u3 _ (new1 _)) (lift_cell u4 _ (new1 _)) (lift_cell u5 _ (new1 _)) (newc 0 rfl) (newc 1 rfl)).mono ?_
   rintro e W4 ⟨z,rfl,hz,hb4⟩
   have HF:Hid (RefPost w (evE okT d) (.returned (.int .i64 z)) W4):=⟨z,rfl,fun h => HV2.out.trans (by rw [if_neg (by rw [(hz h).1];simp)];exact (hz h).2),HB3.out.trans (((new1 _).trans (hb4.mono (by simp))).mono HB3.out.size)⟩
   clear hz hb4 HFI
   go_wp2_with fail
   go_ret
   exact HF.out
open Go.RowKit
def evOrd (a b:EvD):Int:=orL [cmpI a.at_ b.at_,cmpS a.id b.id]
theorem evOrd_lt {a b:EvD}:evOrd a b < 0 ↔ evLt a b = true:=by
 unfold evOrd orL evLt
 simp only [Bool.or_eq_true,Bool.and_eq_true,decide_eq_true_eq]
 unfold cmpI
 by_cases h1:a.at_ < b.at_
 ·simp [h1]
 ·by_cases h2:a.at_ = b.at_
  ·simp [h2,orL]
   by_cases h3:cmpS a.id b.id = 0
   ·simp [h3]
   ·simp [h3]
  ·have h3:b.at_ < a.at_:=by omega
   simp [h1,h2]
set_option maxHeartbeats 1000000 in
set_option maxRecDepth 100000 in
theorem order_g (a b:EvD) (w:World):Calls Tryz.prog 99 #[.agg #[.string a.id,.string a.name,.int .i64 a.at_,.int .i64 a.kind,.string a.text,.slice a.fa a.fields.length a.fc],.agg #[.string b.id,.string b.name,.int .i64 b.at_,.int .i64 b.kind,.string b.text,.slice b.fa b.fields.length b.fc]] w fun e w' => e = .returned (.int .i64 (evOrd a b)) ∧ Gro w w':=by
 have hb:=Lib.hid ((Gro.alloc w (.cells #[.string a.id,.string a.name,.int .i64 a.at_,.int .i64 a.kind,.string a.text,.slice a.fa a.fields.length a.fc] 42)).trans (Gro.alloc _ (.cells #[.string b.id,.string b.name,.int .i64 b.at_,.int .i64 b.kind,.string b.text,.slice b.fa b.fields.length b.fc] 42)))
 have h1:((w.alloc (.cells #[.string a.id,.string a.name,.int .i64 a.at_,.int .i64 a.kind,.string a.text,.slice a.fa a.fields.length a.fc] 42)).alloc (.cells #[.string b.id,.string b.name,.int .i64 b.at_,.int .i64 b.kind,.string b.text,.slice b.fa b.fields.length b.fc] 42)).heap[w.heap.size]? = some (.cells #[.string a.id,.string a.name,.int .i64 a.at_,.int .i64 a.kind,.string a.text,.slice a.fa a.fields.length a.fc] 42):=(heap_lt (by simp)).trans (heap_alloc_new _ _)
 have h2:((w.alloc (.cells #[.string a.id,.string a.name,.int .i64 a.at_,.int .i64 a.kind,.string a.text,.slice a.fa a.fields.length a.fc] 42)).alloc (.cells #[.string b.id,.string b.name,.int .i64 b.at_,.int .i64 b.kind,.string b.text,.slice b.fa b.fields.length b.fc] 42)).heap[w.heap.size + 1]? = some (.cells #[.string b.id,.string b.name,.int .i64 b.at_,.int .i64 b.kind,.string b.text,.slice b.fa b.fields.length b.fc] 42):=heap_at (by simp)
 have H1:=Lib.hid h1
 have H2:=Lib.hid h2
 clear h1 h2
 go_enter Tryz.func99,Tryz.ntmps99
 go_wp2_with fail
 generalize (w.alloc (.cells #[.string a.id,.string a.name,.int .i64 a.at_,.int .i64 a.kind,.string a.text,.slice a.fa a.fields.length a.fc] 42)).alloc (.cells #[.string b.id,.string b.name,.int .i64 b.at_,.int .i64 b.kind,.string b.text,.slice b.fa b.fields.length b.fc] 42) = W2 at *
 have K0:=lift_gro (cell_h H1.out 2 (v:=.int .i64 a.at_) rfl)
 have K1:=lift_gro (cell_h H1.out 0 (v:=.string a.id) rfl)
 have J0:=lift_gro (cell_h H2.out 2 (v:=.int .i64 b.at_) rfl)
 have J1:=lift_gro (cell_h H2.out 0 (v:=.string b.id) rfl)
 clear H1 H2
 (refine wp_region_det 10 17 (fun W => Gro W2 W) (by kernel_rfl) (by kernel_rfl) (by rfl) (Gro.drew _) ?_;simp only [List.take_succ_cons,List.take_zero,List.drop_succ_cons,List.drop_zero])
 iterate 4 (refine detSeq_op rfl ?_ (fun W hW => ?_) ?_;rotate_left;(focus simp only [OpV];go_simp;first | exact rfl | exact ⟨rfl,hW⟩))
 (refine detSeq_op rfl ?_ (fun W hW => ?_) ?_;rotate_left;focus (simp only [OpV];go_simp;refine (cmpInt_any a.at_ b.at_ W).mono ?_;rintro e w' ⟨rfl,rfl⟩;refine ⟨_,rfl,?_,hW⟩;exact rfl))
 iterate 4 (refine detSeq_op rfl ?_ (fun W hW => ?_) ?_;rotate_left;(focus simp only [OpV];go_simp;first | exact rfl | exact ⟨rfl,hW⟩))
 (refine detSeq_op rfl ?_ (fun W hW => ?_) ?_;rotate_left;focus (simp only [OpV];go_simp;refine (cmpStr_any a.id b.id W).mono ?_;rintro e w' ⟨rfl,rfl⟩;refine ⟨_,rfl,?_,hW⟩;exact rfl))
 refine detSeq_nil (fun W3 hW3 => ?_)
 have HB3:=Lib.hid (hb.out.trans hW3)
 have HIN:Hid (Ints (W3.alloc (.cells #[.int .i64 (cmpI a.at_ b.at_),.int .i64 (cmpS a.id b.id)] 3)) (some ⟨W3.heap.size,0,none⟩) [cmpI a.at_ b.at_,cmpS a.id b.id]):=Ints.of_row (heap_at rfl) rfl
 have HQ:Hid (orL [cmpI a.at_ b.at_,cmpS a.id b.id] = evOrd a b):=rfl
 clear K0 K1 J0 J1 hW3
 generalize cmpI a.at_ b.at_ = u at *
 generalize cmpS a.id b.id = v at *
 go_wp2_with fail
 refine (orL_any _ _ [u,v] _ HIN.out (by simp)).mono ?_
 rintro e w' ⟨rfl,rfl⟩
 generalize orL [u,v] = q at HQ ⊢
 have HB4:=Lib.hid (HB3.out.trans (Gro.alloc _ (.cells #[.int .i64 u,.int .i64 v] 3)))
 go_wp2_with fail
 go_ret
 exact ⟨ret_int HQ.out,HB4.out⟩
set_option maxHeartbeats 400000 in
theorem ewithin_any (n l h:Int) (w:World):Calls Tryz.prog 46 #[.int .i64 n,.int .i64 l,.int .i64 h] w fun e w' => e = .returned (.bool (decide (l ≤ n) && decide (n ≤ h))) ∧ w = w':=by
 by_cases h1:l ≤ n
 ·go_enter Tryz.func46,Tryz.ntmps46
  go_wp2
  go_ret
  exact ⟨by simp [h1],rfl⟩
 ·go_enter Tryz.func46,Tryz.ntmps46
  go_wp2
  go_ret
  exact ⟨by simp;omega,rfl⟩
set_option maxHeartbeats 4000000 in
set_option maxRecDepth 100000 in
theorem checkOne_any (H:Frz) (hU:UtfIn H) (hM:MLen H) (d:EvD) (w:World) (hH:H.In w) (hd:EvIn H d) :
  Calls Tryz.prog 98 #[.agg #[.string d.id,.string d.name,.int .i64 d.at_,.int .i64 d.kind,.string d.text,.slice d.fa d.fields.length d.fc]] w fun e w' => e = .returned (.int .i64 (evE okT d)) ∧ Below w.heap.size w w':=by
 have z0:(w.alloc (.cells #[.string d.id,.string d.name,.int .i64 d.at_,.int .i64 d.kind,.string d.text,.slice d.fa d.fields.length d.fc] 42)).cell? ⟨w.heap.size,0,none⟩ = some (.string d.id):=newc 0 rfl
 have z1:(w.alloc (.cells #[.string d.id,.string d.name,.int .i64 d.at_,.int .i64 d.kind,.string d.text,.slice d.fa d.fields.length d.fc] 42)).cell? ⟨w.heap.size,1,none⟩ = some (.string d.name):=newc 1 rfl
 have z2:(w.alloc (.cells #[.string d.id,.string d.name,.int .i64 d.at_,.int .i64 d.kind,.string d.text,.slice d.fa d.fields.length d.fc] 42)).cell? ⟨w.heap.size,2,none⟩ = some (.int .i64 d.at_):=newc 2 rfl
 have z3:(w.alloc (.cells #[.string d.id,.string d.name,.int .i64 d.at_,.int .i64 d.kind,.string d.text,.slice d.fa d.fields.length d.fc] 42)).cell? ⟨w.heap.size,3,none⟩ = some (.int .i64 d.kind):=newc 3 rfl
 have z4:(w.alloc (.cells #[.string d.id,.string d.name,.int .i64 d.at_,.int .i64 d.kind,.string d.text,.slice d.fa d.fields.length d.fc] 42)).cell? ⟨w.heap.size,4,none⟩ = some (.string d.text):=newc 4 rfl
 have z5:(w.alloc (.cells #[.string d.id,.string d.name,.int .i64 d.at_,.int .i64 d.kind,.string d.text,.slice d.fa d.fields.length d.fc] 42)).cell? ⟨w.heap.size,5,none⟩ = some (.slice d.fa d.fields.length d.fc):=newc 5 rfl
 have HBN:=Lib.hid (new1 (w:=w) (.cells #[.string d.id,.string d.name,.int .i64 d.at_,.int .i64 d.kind,.string d.text,.slice d.fa d.fields.length d.fc] 42))
 have HIN:=Lib.hid (hH.below HBN.out)
 have HI1:=hd.idz
 have HI2:=hd.nmz
 have HCI:=Lib.hid (fun W (hW:H.In W) => checkId_any H hM d.kind d.text W hW (by have:=hd.txt;omega))
 have HCF:=Lib.hid (fun W (hW:H.In W) => checkFields_any H hU d.fa d.fc d.fields W hW hd.fds (by have:=hd.fl;omega) hd.fsz)
 have HV:Hid (evE okT d = if isKey d.id = false ∨ isKey d.name = false then 5 else if ¬ (0 ≤ d.at_ ∧ d.at_ ≤ 4321439) then 1 else if idErr d.kind d.text ≠ 0 then idErr d.kind d.text else fdsE okT d.fields):=rfl
 clear hU hM hH hd
 go_enter Tryz.func98,Tryz.ntmps98
 go_upto_region 1 with (fail)
 generalize w.alloc (.cells #[.string d.id,.string d.name,.int .i64 d.at_,.int .i64 d.kind,.string d.text,.slice d.fa d.fields.length d.fc] 42) = W1 at *
 go_wp2_with fail
 refine (isKey_any d.id _ (by omega)).mono ?_
 rintro e w' ⟨rfl,rfl⟩
 cases hk:isKey d.id with
 | false =>
  have HV1:=Lib.hid (HV.out.trans (if_pos (Or.inl hk)))
  clear hk
  go_wp2_with fail
  go_ret
  exact ⟨ret_int HV1.out.symm,HBN.out⟩
 | true =>
  have HK1:=Lib.hid hk
  clear hk
  go_wp2_with fail
  refine (isKey_any d.name _ (by omega)).mono ?_
  rintro e w' ⟨rfl,rfl⟩
  cases hk:isKey d.name with
  | false =>
   have HV1:=Lib.hid (HV.out.trans (if_pos (Or.inr hk)))
   clear hk
   go_wp2_with fail
   go_ret
   exact ⟨ret_int HV1.out.symm,HBN.out⟩
  | true =>
   have HV1:=Lib.hid (HV.out.trans (if_neg (by rw [HK1.out,hk];simp)))
   clear hk HV HK1
   go_wp2_with fail
   refine (ewithin_any _ _ _ _).mono ?_
   rintro e w' ⟨rfl,rfl⟩
   by_cases g2:0 ≤ d.at_ ∧ d.at_ ≤ 4321439
   rotate_left
   ·have k1:(decide ((0:Int) ≤ d.at_) && decide (d.at_ ≤ 4321439)) = false:=by simp;omega
    rw [k1]
    have HV2:=Lib.hid (HV1.out.trans (if_pos g2))
    clear g2 k1
    go_wp2_with fail
    go_ret
    exact ⟨ret_int HV2.out.symm,HBN.out⟩
   have k1:(decide ((0:Int) ≤ d.at_) && decide (d.at_ ≤ 4321439)) = true:=by simp;omega
   rw [k1]
   have HV2:=Lib.hid (HV1.out.trans (if_neg (fun c => c g2)))
   clear g2 k1 HV1
   go_wp2_with fail
   refine (HCI.out _ HIN.out).mono ?_
   rintro e W2 ⟨rfl,hb2⟩
   have HB2:=Lib.hid (HBN.out.trans (hb2.mono HBN.out.size))
   have HIN2:=Lib.hid (HIN.out.below hb2)
   have y5:=lift_cell z5 _ hb2
   clear hb2 z0 z1 z2 z3 z4 z5 HIN HCI
   generalize idErr d.kind d.text = ie at *
   by_cases g:ie = 0
   ·have k:(ie != 0) = false:=by simpa using g
    have HV3:=Lib.hid (HV2.out.trans (if_neg (fun c => c g)))
    clear g
    go_wp2_with fail
    refine (HCF.out _ HIN2.out).mono ?_
    rintro e W3 ⟨rfl,hb3⟩
    have HB3:=Lib.hid (HB2.out.trans (hb3.mono HB2.out.size))
    clear hb3 HCF
    go_wp2_with fail
    go_ret
    exact ⟨ret_int HV3.out.symm,HB3.out⟩
   ·have k:(ie != 0) = true:=by simpa using g
    have HV3:=Lib.hid (HV2.out.trans (if_pos g))
    clear g
    go_wp2_with fail
    go_ret
    exact ⟨ret_int HV3.out.symm,HB2.out⟩
end Go.Proofs.YtfmnlpmgakgleaaGreatDoor
