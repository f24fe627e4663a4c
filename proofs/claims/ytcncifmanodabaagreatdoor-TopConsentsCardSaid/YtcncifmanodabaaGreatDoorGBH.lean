/- Texts of this claim, put together: RefMail, RefFds, RefOrd, RefTch. -/
import Derived.Test.YtcncifmanodabaaGreatDoorGBG
import Derived.Test.YtcncifmanodabaaGreatDoorGAD
import Derived.Deep.CutBlock
import Derived.Deep.DeepCutAuto
import Derived.Test.YtcncifmanodabaaGreatDoorGBA
import Derived.Test.YtcncifmanodabaaGreatDoorGAZ
import Derived.Test.YtcncifmanodabaaGreatDoorGAS
namespace Go.Proofs.YtcncifmanodabaaGreatDoor
set_option linter.unusedVariables false
open Go.RowKit
theorem labs_len (s:ByteArray) (hz2:s.size ≤ 1000000):(labelsF s).length ≤ 1000001:=by
 rw [labelsF_len]
 have h3:∀ f s,Lib.countFrom dotB.data.toList f s ≤ s.length:=by
  intro f
  induction f with
  | zero => intro s;simp [Lib.countFrom]
  | succ f ih =>
   intro s
   unfold Lib.countFrom
   split
   ·omega
   ·rename_i hne
    have h4:=ih (s.drop ((Lib.index s dotB.data.toList).toNat + dotB.data.toList.length))
    have h5:=Lib.index_ge s dotB.data.toList
    have h6:=Lib.index_room s dotB.data.toList (by
     have h8:¬ Lib.index s dotB.data.toList = -1:=fun c => hne (by rw [c];rfl)
     omega)
    have h7:dotB.data.toList.length = 1:=rfl
    have h9:¬ Lib.index s dotB.data.toList = -1:=fun c => hne (by rw [c];rfl)
    rw [List.length_drop] at h4
    omega
 have h2:Lib.countB s dotB ≤ s.data.toList.length:=h3 _ _
 have:s.data.toList.length = s.size:=by simp
 omega
set_option maxHeartbeats 8000000 in
set_option maxRecDepth 100000 in
theorem refMail_any (H:Frz) (hM:MLen H) (s:ByteArray) (w:World) (hH:H.In w) (hs:s.size ≤ 1000000):Calls Tryz.prog 137 #[.agg #[.int .i64 1,.string s]] w (RefPost w (idErr 1 s)):=by
 obtain ⟨hz1,hz2⟩:=sizes_le s hs
 have HB:=Lib.hid (new1 (w:=w) (.cells #[.int .i64 1,.string s] 36))
 have z0:(w.alloc (.cells #[.int .i64 1,.string s] 36)).cell? ⟨w.heap.size,0,none⟩ = some (.int .i64 1):=newc 0 rfl
 have z1:(w.alloc (.cells #[.int .i64 1,.string s] 36)).cell? ⟨w.heap.size,1,none⟩ = some (.string s):=newc 1 rfl
 have HIN:=Lib.hid (hH.alloc (.cells #[.int .i64 1,.string s] 36))
 have HCUT:=Lib.hid (fun W hW => cut_any H hM s W hW (by omega))
 have HCON:=Lib.hid (fun W hW => contains2_any H hM (localF s) W hW (by omega))
 have HSPL:=Lib.hid (fun W hW => split_any H hM (domainF s) W hW (by omega))
 have HLS:=Lib.hid (labels_size (domainF s) hz2)
 have hll:=labs_len (domainF s) hz2
 have HOK:Hid (MailOk s → (∀ x ∈ labelsF (domainF s),LabOk x) → idErr 1 s = 0):=fun h1 h2 => by
  show (if mailF s = true then (0:Int) else 3) = 0
  rw [if_pos (h1.f h2)]
 have HMK:Hid ((Lib.cut s.data.toList [64]).2.2 = true → s.size ≤ 80 → (1 ≤ (localF s).size ∧ (localF s).size ≤ 64) → allB mailC (localF s) = true → Lib.trimB (localF s).data.toList 46 = (localF s).data.toList → Lib.contains (localF s).data.toList [46,46] = false → 2 ≤ (labelsF (domainF s)).length → MailOk s):=fun a b c d e f g => ⟨a,b,c,d,e,f,g⟩
 have HBAD:=Lib.hid (fun W (hW:Below w.heap.size w W) => RefPost.bad (z0:=idErr 1 s) (z:=3) (by omega) hW)
 clear hH hM
 go_enter Tryz.func137,Tryz.ntmps137
 go_wp2_with fail
 generalize w.alloc (.cells #[.int .i64 1,.string s] 36) = W0 at *
 clear z0 z1
 refine (HCUT.out _ HIN.out).mono ?_
 rintro e W1 ⟨rfl,hb1⟩
 have HB1:=Lib.hid (HB.out.trans (hb1.mono HB.out.size))
 have HIN1:=Lib.hid (HIN.out.below hb1)
 generalize (Lib.cut s.data.toList [64]).2.2 = ok at *
 clear hb1 HB HIN HCUT
 go_wp2_with fail
 refine (HSPL.out _ HIN1.out).mono ?_
 rintro e w2 ⟨rfl,rfl⟩
 have HB2:=Lib.hid (HB1.out.alloc HB1.out.size (.cells ((labelsF (domainF s)).map Value.string).toArray 9))
 have HIN2:=Lib.hid (HIN1.out.alloc (.cells ((labelsF (domainF s)).map Value.string).toArray 9))
 have HCE:Hid (∀ i (h:i < (labelsF (domainF s)).length),∀ W,Below (W1.alloc (.cells ((labelsF (domainF s)).map Value.string).toArray 9)).heap.size (W1.alloc (.cells ((labelsF (domainF s)).map Value.string).toArray 9)) W → W.cell? ⟨W1.heap.size,i,none⟩ = some (.string (labelsF (domainF s))[i])):=fun i h W hW => by
  refine lift_cell ?_ W hW
  rw [World.cell?_alloc_new];simp [h]
 clear HSPL HIN1 HB1
 generalize W1.alloc (.cells ((labelsF (domainF s)).map Value.string).toArray 9) = W2 at *
 generalize labelsF (domainF s) = lb at *
 generalize localF s = lc at *
 generalize domainF s = dm at *
 go_upto_region 8 with (fail)
 go_cut [4] (fun v wx => ∃ q:Bool,v = .bool q ∧ Hid (q = true → MailOk s) ∧ Hid (Below W2.heap.size W2 wx))
 case first =>
  cases ok with
  | false =>
   go_wp2_with fail
   all_goals (go_meet;exact ⟨_,rfl,(fun c => by cases c),Below.refl _ _⟩)
  | true =>
   by_cases g1:s.size ≤ 80
   rotate_left
   ·have k1:decide ((s.size:Int) ≤ 80) = false:=by simp;omega
    clear g1
    go_wp2_with fail
    all_goals (go_meet;exact ⟨_,rfl,(fun c => by cases c),Below.refl _ _⟩)
   have k1:decide ((s.size:Int) ≤ 80) = true:=by simp;omega
   have HM1:=Lib.hid (HMK.out rfl g1)
   clear g1 HMK
   go_wp2_with fail
   refine (in_any _ _ _ _).mono ?_
   rintro e w' ⟨rfl,rfl⟩
   by_cases g2:1 ≤ lc.size ∧ lc.size ≤ 64
   rotate_left
   ·have k2:(decide ((1:Int) ≤ (lc.size:Int)) && decide ((lc.size:Int) ≤ 64)) = false:=by simp;omega
    rw [k2]
    clear g2 k2
    go_wp2_with fail
    all_goals (go_meet;exact ⟨_,rfl,(fun c => by cases c),Below.refl _ _⟩)
   have k2:(decide ((1:Int) ≤ (lc.size:Int)) && decide ((lc.size:Int) ≤ 64)) = true:=by simp;omega
   rw [k2]
   have HM2:=Lib.hid (HM1.out g2)
   clear g2 HM1 k2
   go_wp2_with fail
   refine (only_any lc mailSigns _ (by omega) (by decide) (ascii_of _ (by decide))).mono ?_
   rintro e W3 ⟨rfl,hb3⟩
   rw [only_mail]
   have HB3:=Lib.hid hb3
   have HIN3:=Lib.hid (HIN2.out.below hb3)
   clear hb3
   cases hq:allB mailC lc with
   | false =>
    clear hq
    go_wp2_with fail
    all_goals (go_meet;exact ⟨_,rfl,(fun c => by cases c),HB3.out⟩)
   | true =>
    have HM3:=Lib.hid (HM2.out hq)
    clear hq HM2
    go_wp2_with fail
    refine (trimc_any lc 46 (by decide) _ hz1).mono ?_
    rintro e W4 ⟨rfl,hb4⟩
    have HB4:=Lib.hid (HB3.out.trans (hb4.mono HB3.out.size))
    have HIN4:=Lib.hid (HIN3.out.below hb4)
    clear hb4
    obtain ⟨X,hX⟩:∃ X:ByteArray,(⟨(Lib.trimB lc.data.toList 46).toArray⟩:ByteArray) = X:=⟨_,rfl⟩
    rw [hX]
    by_cases g4:X = lc
    rotate_left
    ·have k4:(X.toList == lc.toList) = false:=by
      rw [← Bool.not_eq_true]
      intro c
      exact g4 (eqS_iff.1 c)
     clear g4 hX
     go_wp2_with fail
     all_goals (go_meet;exact ⟨_,rfl,(fun c => by cases c),HB4.out⟩)
    have k4:(X.toList == lc.toList) = true:=eqS_iff.2 g4
    have htr:Lib.trimB lc.data.toList 46 = lc.data.toList:=by
     have:=congrArg (fun z:ByteArray => z.data.toList) (hX.trans g4)
     simpa using this
    have HM4:=Lib.hid (HM3.out htr)
    clear g4 hX htr HM3
    go_wp2_with fail
    refine (HCON.out _ HIN4.out).mono ?_
    rintro e w' ⟨rfl,rfl⟩
    cases hq:Lib.contains lc.data.toList [46,46] with
    | true =>
     clear hq
     go_wp2_with fail
     all_goals (go_meet;exact ⟨_,rfl,(fun c => by cases c),HB4.out⟩)
    | false =>
     have HM5:=Lib.hid (HM4.out hq)
     clear hq HM4
     by_cases g6:2 ≤ lb.length
     ·have k6:decide ((2:Int) ≤ (lb.length:Int)) = true:=by simp;omega
      have hmo:=Lib.hid (HM5.out g6)
      clear g6
      go_wp2_with fail
      all_goals (go_meet;exact ⟨_,rfl,(fun _ => hmo.out),HB4.out⟩)
     ·have k6:decide ((2:Int) ≤ (lb.length:Int)) = false:=by simp;omega
      clear g6
      go_wp2_with fail
      all_goals (go_meet;exact ⟨_,rfl,(fun c => by cases c),HB4.out⟩)
 case rest =>
  obtain ⟨q,rfl,HQ,HBC⟩:=hcut
  have HCE2:=Lib.hid (fun i (h:i < lb.length) W (hW:Below wc.heap.size wc W) => HCE.out i h W (HBC.out.trans (hW.mono HBC.out.size)))
  have HBD:=Lib.hid (HB2.out.trans (HBC.out.mono HB2.out.size))
  clear HCE HBC HB2 HIN2 HCON HMK
  go_wp2_with fail
  go_loopw [4,60] (fun v t wr => ∃ (i:Nat) (q:Bool),i ≤ lb.length ∧ t = .int .i64 i ∧ v = .bool q ∧ Hid (q = true → MailOk s ∧ ∀ x ∈ lb.take i,LabOk x) ∧ Hid (Below wc.heap.size wc wr)) (fun _ t _ => lb.length - (intOf t).toNat)
  case atStart => exact ⟨0,q,by omega,rfl,rfl,(fun c => ⟨HQ.out c,fun x hx => by simp at hx⟩),Below.refl _ _⟩
  case round =>
   obtain ⟨i,qq,hi,rfl,rfl,HF,hb⟩:=hrel
   clear HQ
   by_cases hlt:i < lb.length
   ·have c0:=HCE2.out i hlt _ hb.out
    have hls:=HLS.out _ (List.getElem_mem hlt)
    have HNX:Hid (qq = true → LabOk lb[i] → MailOk s ∧ ∀ x ∈ lb.take (i + 1),LabOk x):=fun c hl => by
     refine ⟨(HF.out c).1,fun x hx => ?_⟩
     rw [List.take_succ_eq_append_getElem hlt] at hx
     rcases List.mem_append.1 hx with hx | hx
     ·exact (HF.out c).2 x hx
     ·simp at hx;rw [hx];exact hl
    generalize lb[i] = x at *
    cases qq with
    | false =>
     go_wp2_with fail
     go_roundw
     case rel => exact ⟨i + 1,false,by omega,by go_num,rfl,(fun c => by cases c),hb⟩
     case measure => simp [intOf];omega
    | true =>
     have HN1:=Lib.hid (HNX.out rfl)
     clear HNX HF
     go_wp2_with fail
     refine (in_any _ _ _ _).mono ?_
     rintro e w' ⟨rfl,rfl⟩
     by_cases g2:1 ≤ x.size ∧ x.size ≤ 30
     rotate_left
     ·have k2:(decide ((1:Int) ≤ (x.size:Int)) && decide ((x.size:Int) ≤ 30)) = false:=by simp;omega
      rw [k2]
      clear g2 k2
      go_wp2_with fail
      go_roundw
      case rel => exact ⟨i + 1,false,by omega,by go_num,rfl,(fun c => by cases c),hb⟩
      case measure => simp [intOf];omega
     have k2:(decide ((1:Int) ≤ (x.size:Int)) && decide ((x.size:Int) ≤ 30)) = true:=by simp;omega
     rw [k2]
     have HG2:=Lib.hid g2
     clear g2 k2
     go_wp2_with fail
     refine (only_any x labSigns _ (by omega) (by decide) (ascii_of _ (by decide))).mono ?_
     rintro e W3 ⟨rfl,hb3⟩
     rw [only_lab]
     have HB3:=Lib.hid (hb.out.trans (hb3.mono hb.out.size))
     clear hb3 hb
     cases hq:allB labC x with
     | false =>
      clear hq
      go_wp2_with fail
      go_roundw
      case rel => exact ⟨i + 1,false,by omega,by go_num,rfl,(fun c => by cases c),HB3⟩
      case measure => simp [intOf];omega
     | true =>
      have HQ3:=Lib.hid hq
      clear hq
      go_wp2_with fail
      refine (trimc_any x 45 (by decide) _ hls).mono ?_
      rintro e W4 ⟨rfl,hb4⟩
      have HB4:=Lib.hid (HB3.out.trans (hb4.mono HB3.out.size))
      clear hb4 HB3
      obtain ⟨X,hX⟩:∃ X:ByteArray,(⟨(Lib.trimB x.data.toList 45).toArray⟩:ByteArray) = X:=⟨_,rfl⟩
      rw [hX]
      by_cases g4:X = x
      ·have k4:(X.toList == x.toList) = true:=eqS_iff.2 g4
       have htr:Lib.trimB x.data.toList 45 = x.data.toList:=by
        have:=congrArg (fun z:ByteArray => z.data.toList) (hX.trans g4)
        simpa using this
       have HN2:=Lib.hid (HN1.out ⟨HG2.out,HQ3.out,htr⟩)
       clear g4 hX htr
       go_wp2_with fail
       go_roundw
       case rel => exact ⟨i + 1,true,by omega,by go_num,rfl,(fun _ => HN2.out),HB4⟩
       case measure => simp [intOf];omega
      ·have k4:(X.toList == x.toList) = false:=by
        rw [← Bool.not_eq_true]
        intro c
        exact g4 (eqS_iff.1 c)
       clear g4 hX
       go_wp2_with fail
       go_roundw
       case rel => exact ⟨i + 1,false,by omega,by go_num,rfl,(fun c => by cases c),HB4⟩
       case measure => simp [intOf];omega
   ·have hie:i = lb.length:=by omega
    subst hie
    have HB9:=Lib.hid (HBD.out.trans (hb.out.mono HBD.out.size))
    cases qq with
    | false =>
     have HR:=Lib.hid (HBAD.out _ HB9.out)
     go_wp2_with fail
     go_ret
     exact HR.out
    | true =>
     have HR:=Lib.hid (RefPost.good (HOK.out (HF.out rfl).1 (fun x hx => (HF.out rfl).2 x (by rw [List.take_length];exact hx))) HB9.out)
     go_wp2_with fail
     go_ret
     exact HR.out
theorem refId_any (H:Frz) (hM:MLen H) (kind:Int) (s:ByteArray) (w:World) (hH:H.In w) (hs:s.size ≤ 1000000):Calls Tryz.prog 137 #[.agg #[.int .i64 kind,.string s]] w (RefPost w (idErr kind s)):=by
 by_cases h1:kind = 1
 ·subst h1;exact refMail_any H hM s w hH hs
 by_cases h2:kind = 2
 ·subst h2;exact refPho_any s w hs
 by_cases h3:kind = 3
 ·subst h3;exact refMem_any s w hs
 by_cases h4:kind = 4
 ·subst h4;exact refDev_any s w hs
 exact refOth_any kind ⟨h1,h2,h3,h4⟩ s w hs
open Go.RowKit
def prevNm (fs:List FD) (i:Nat):ByteArray:=match i with | 0 => ⟨#[]⟩ | k + 1 => match fs[k]? with | some f => f.name | none => ⟨#[]⟩
set_option maxHeartbeats 4000000 in
set_option maxRecDepth 100000 in
theorem refFds_any (H:Frz) (hU:UtfIn H) (A:Option Addr) (cap:Nat) (fs:List FD) (w:World) (hH:H.In w) (hR:Rw H A 4 fFd fs) (hl:fs.length ≤ 1000000) (hsz:∀ f ∈ fs,f.name.size ≤ 1000000 ∧ f.v.text.size ≤ 1000000) :
  Calls Tryz.prog 113 #[.slice A fs.length cap] w (RefPost w (fdsE okT fs)):=by
 have HR:=Lib.hid hR
 have HH:=Lib.hid hH
 have HS:=Lib.hid hsz
 have HCV:=Lib.hid (fun v W (hW:H.In W) h => refVal_any H hU v W hW h)
 have HBAD:=Lib.hid (fun z (hz:z ≠ 0) W (hW:Below w.heap.size w W) => RefPost.bad (z0:=fdsE okT fs) (z:=z) hz hW)
 clear hR hH hsz hU
 by_cases hlong:30 < fs.length
 ·have h2:decide ((30:Int) < fs.length) = true:=by simp;omega
  have HF:=Lib.hid (HBAD.out 2 (by omega) _ (Below.refl _ _))
  clear hlong
  go_enter Tryz.func113,Tryz.ntmps113
  go_wp2_with fail
  go_ret
  exact HF.out
 ·have h2:decide ((30:Int) < fs.length) = false:=by simp;omega
  have HV:Hid (fdsE okT fs = fstErr (fd1 okT fs) fs.length):=by show _ = _;unfold fdsE;rw [if_neg hlong]
  clear hlong
  go_enter Tryz.func113,Tryz.ntmps113
  go_wp2_with fail
  clear h2
  go_loopw [3,12] (fun p t wr => ∃ i:Nat,i ≤ fs.length ∧ t = .int .i64 i ∧ p = .string (prevNm fs i) ∧ Hid (fstErr (fd1 okT fs) i = 0) ∧ Hid (Below w.heap.size w wr)) (fun _ t _ => fs.length - (intOf t).toNat)
  case atStart => exact ⟨0,by omega,rfl,rfl,rfl,Below.refl _ _⟩
  case round =>
   obtain ⟨i,hi,rfl,rfl,h0,hb⟩:=hrel
   by_cases hlt:i < fs.length
   ·have hin:=HH.out.below hb.out
    obtain ⟨b,off,rfl,hbl,hc⟩:=HR.out.at_ hin hlt (by omega)
    have c0:wr.cell? ⟨b,off + i * 4,none⟩ = some (.string fs[i].name):=hc 0 (by omega)
    have c1:wr.cell? ⟨b,off + i * 4 + 1,none⟩ = some (.int .i64 fs[i].v.kind):=hc 1 (by omega)
    have c2:wr.cell? ⟨b,off + i * 4 + 2,none⟩ = some (.string fs[i].v.text):=hc 2 (by omega)
    have c3:wr.cell? ⟨b,off + i * 4 + 3,none⟩ = some (.int .i64 fs[i].v.num):=hc 3 (by omega)
    have HAT:=Lib.hid (fd1_at (ok:=okT) hlt)
    have HNX:Hid (fd1 okT fs i = 0 → fstErr (fd1 okT fs) (i + 1) = 0):=fun h1 => fstErr_next h0.out h1
    have HPV:Hid (0 < i → (fs.getD (i - 1) fs[i]).name = prevNm fs i):=fun hp => by
     obtain ⟨k,rfl⟩:∃ k,i = k + 1:=⟨i - 1,by omega⟩
     rw [Nat.add_sub_cancel,List.getD_eq_getElem?_getD,List.getElem?_eq_getElem (by omega),Option.getD_some]
     unfold prevNm
     simp only
     rw [List.getElem?_eq_getElem (by omega)]
    have HPN:Hid (prevNm fs (i + 1) = fs[i].name):=by
     show _ = _
     unfold prevNm
     simp only
     rw [List.getElem?_eq_getElem hlt]
    have hks:=HS.out _ (List.getElem_mem hlt)
    clear hc
    generalize (fs.getD (i - 1) fs[i]).name = pn at *
    generalize prevNm fs i = pv at *
    generalize fs[i] = d at *
    have z0:(wr.alloc (.cells #[.string d.name,.int .i64 d.v.kind,.string d.v.text,.int .i64 d.v.num] 172)).cell? ⟨wr.heap.size,0,none⟩ = some (.string d.name):=newc 0 rfl
    have z1:(wr.alloc (.cells #[.string d.name,.int .i64 d.v.kind,.string d.v.text,.int .i64 d.v.num] 172)).cell? ⟨wr.heap.size,1,none⟩ = some (.int .i64 d.v.kind):=newc 1 rfl
    have z2:(wr.alloc (.cells #[.string d.name,.int .i64 d.v.kind,.string d.v.text,.int .i64 d.v.num] 172)).cell? ⟨wr.heap.size,2,none⟩ = some (.string d.v.text):=newc 2 rfl
    have z3:(wr.alloc (.cells #[.string d.name,.int .i64 d.v.kind,.string d.v.text,.int .i64 d.v.num] 172)).cell? ⟨wr.heap.size,3,none⟩ = some (.int .i64 d.v.num):=newc 3 rfl
    have HBN:=Lib.hid (new1 (w:=wr) (.cells #[.string d.name,.int .i64 d.v.kind,.string d.v.text,.int .i64 d.v.num] 172))
    go_upto_region 7 with (fail)
    clear c0 c1 c2 c3
    generalize wr.alloc (.cells #[.string d.name,.int .i64 d.v.kind,.string d.v.text,.int .i64 d.v.num] 172) = W1 at *
    have HB1:=Lib.hid (hb.out.trans (HBN.out.mono hb.out.size))
    have HIN1:=Lib.hid (hin.below HBN.out)
    clear hb h0 HBN hin
    generalize wr.heap.size = fb at *
    go_wp2_with fail
    refine (Key_any d.name _ (by omega)).mono ?_
    rintro e W2 ⟨rfl,hb2⟩
    have HB2:=Lib.hid (HB1.out.trans (hb2.mono HB1.out.size))
    have HIN2:=Lib.hid (HIN1.out.below hb2)
    have y0:=lift_cell z0 _ hb2
    have y1:=lift_cell z1 _ hb2
    have y2:=lift_cell z2 _ hb2
    have y3:=lift_cell z3 _ hb2
    clear hb2 z0 z1 z2 z3 HB1 HIN1
    cases hk:isKey d.name with
    | false =>
     have HF:=Lib.hid (HBAD.out 5 (by omega) _ HB2.out)
     clear hk
     go_wp2_with fail
     go_ret
     exact HF.out
    | true =>
     have HA1:=Lib.hid (HAT.out.trans (if_neg (by rw [hk];simp)))
     clear HAT hk
     go_wp2_with fail
     refine (HCV.out d.v _ HIN2.out (by omega)).mono ?_
     rintro e W3 ⟨ze,rfl,hz,hb3⟩
     have HZ:=Lib.hid hz
     have HB3:=Lib.hid (HB2.out.trans (hb3.mono HB2.out.size))
     have x0:=lift_cell y0 _ hb3
     clear hb3 y0 y1 y2 y3 hz HB2 HIN2
     by_cases g1:ze = 0
     rotate_left
     ·have k1:(ze != 0) = true:=by simpa using g1
      have HF:=Lib.hid (HBAD.out ze g1 _ HB3.out)
      clear g1
      go_wp2_with fail
      go_ret
      exact HF.out
     have k1:(ze != 0) = false:=by simpa using g1
     have HA2:=Lib.hid (HA1.out.trans (if_neg (by rw [HZ.out g1];simp)))
     clear g1 HA1 HZ
     have HLE:=Lib.hid (leB_iff d.name pv)
     cases hle:leB d.name pv with
     | true =>
      have HF:=Lib.hid (HBAD.out 7 (by omega) _ HB3.out)
      have hle2:=hle
      unfold leB at hle2
      clear hle
      go_wp2_with fail
      go_ret
      exact HF.out
     | false =>
      have hok:=Lib.hid (HNX.out (HA2.out.trans (if_neg (fun c => by
       have:=HPV.out c.1
       rw [this] at c
       have h3:=HLE.out.2 c.2
       rw [hle] at h3
       cases h3))))
      have hle2:=hle
      unfold leB at hle2
      clear hle
      go_wp2_with fail
      go_roundw
      case rel => exact ⟨i + 1,by omega,by go_num,by rw [HPN.out],hok,HB3⟩
      case measure => simp [intOf];omega
   ·have hie:i = fs.length:=by omega
    subst hie
    have HF:=Lib.hid (RefPost.good (HV.out.trans h0.out) hb.out)
    go_wp2_with fail
    go_ret
    exact HF.out
open Go.RowKit
theorem idCmp_two (a b:IdD):idCmp a b = if a.kind < b.kind then -1 else if a.kind = b.kind then (if Op.bytesLess a.text.toList b.text.toList then -1 else if a.text.toList = b.text.toList then 0 else 1) else 1:=by
 unfold idCmp
 rw [orL_two]
 unfold orI cmpI cmpS
 by_cases h1:a.kind < b.kind
 ·rw [if_pos h1,if_pos h1];rfl
 ·rw [if_neg h1,if_neg h1]
  by_cases h2:a.kind = b.kind
  ·rw [if_pos h2,if_pos h2,if_pos rfl]
   cases Op.bytesLess a.text.toList b.text.toList with
   | true => rfl
   | false =>
    by_cases h3:a.text.toList = b.text.toList
    ·simp [h3]
    ·simp [h3]
  ·rw [if_neg h2,if_neg h2];rfl
set_option maxHeartbeats 2000000 in
set_option maxRecDepth 100000 in
theorem refOrd_g (a b:IdD) (w:World):Calls Tryz.prog 104 #[.agg #[.int .i64 a.kind,.string a.text],.agg #[.int .i64 b.kind,.string b.text]] w fun e w' => e = .returned (.int .i64 (idCmp a b)) ∧ Gro w w':=by
 have hb:=Lib.hid ((Gro.alloc w (.cells #[.int .i64 a.kind,.string a.text] 36)).trans (Gro.alloc _ (.cells #[.int .i64 b.kind,.string b.text] 36)))
 have h1:((w.alloc (.cells #[.int .i64 a.kind,.string a.text] 36)).alloc (.cells #[.int .i64 b.kind,.string b.text] 36)).heap[w.heap.size]? = some (.cells #[.int .i64 a.kind,.string a.text] 36 (0,0)):=(heap_lt (by simp)).trans (heap_alloc_new _ _)
 have h2:((w.alloc (.cells #[.int .i64 a.kind,.string a.text] 36)).alloc (.cells #[.int .i64 b.kind,.string b.text] 36)).heap[w.heap.size + 1]? = some (.cells #[.int .i64 b.kind,.string b.text] 36 (0,0)):=heap_at (by simp)
 have hV:=idCmp_two a b
 have HE:=Lib.hid (fun (z:Int) (hz:idCmp a b = z) => (⟨by rw [hz],hb.out⟩:(Ending.returned (.int .i64 z):Ending) = .returned (.int .i64 (idCmp a b)) ∧ Gro w ((w.alloc (.cells #[.int .i64 a.kind,.string a.text] 36)).alloc (.cells #[.int .i64 b.kind,.string b.text] 36))))
 go_enter Tryz.func104,Tryz.ntmps104
 go_upto_region 1 with (fail)
 generalize (w.alloc (.cells #[.int .i64 a.kind,.string a.text] 36)).alloc (.cells #[.int .i64 b.kind,.string b.text] 36) = W2 at *
 have a0:=cell_h h1 0 (v:=.int .i64 a.kind) rfl
 have a1:=cell_h h1 1 (v:=.string a.text) rfl
 have b0:=cell_h h2 0 (v:=.int .i64 b.kind) rfl
 have b1:=cell_h h2 1 (v:=.string b.text) rfl
 clear h1 h2 hb
 by_cases g1:a.kind < b.kind
 ·have k1:decide (a.kind < b.kind) = true:=by simpa using g1
  have HF:=Lib.hid (HE.out (-1) (by rw [hV,if_pos g1]))
  clear g1 hV
  go_wp2_with fail
  go_ret
  exact HF.out
 have k1:decide (a.kind < b.kind) = false:=by simpa using g1
 rw [if_neg g1] at hV
 by_cases g2:a.kind = b.kind
 ·have k2:(a.kind == b.kind) = true:=by simpa using g2
  rw [if_pos g2] at hV
  cases hl:Op.bytesLess a.text.toList b.text.toList with
  | true =>
   have HF:=Lib.hid (HE.out (-1) (by rw [hV,hl];rfl))
   clear g1 g2 hV
   go_wp2_with fail
   go_ret
   exact HF.out
  | false =>
   by_cases g3:a.text.toList = b.text.toList
   ·have HF:=Lib.hid (HE.out 0 (by rw [hV,hl,if_neg (by simp),if_pos g3]))
    have hab:a = b:=by
     cases a;cases b
     simp only at g2 g3
     rw [g2,toList_inj g3]
    clear g1 g2 g3 hV HE
    subst hab
    go_wp2_with fail
    all_goals (go_ret;exact HF.out)
   ·have HF:=Lib.hid (HE.out 1 (by rw [hV,hl,if_neg (by simp),if_neg g3]))
    clear g1 hV
    go_wp2_with fail
    all_goals (go_ret;exact HF.out)
 ·have k2:(a.kind == b.kind) = false:=by simpa using g2
  have HF:=Lib.hid (HE.out 1 (by rw [hV,if_neg g2]))
  clear g1 hV
  go_wp2_with fail
  all_goals (go_ret;exact HF.out)
theorem refOrd_b (a b:IdD) (w:World):Calls Tryz.prog 104 #[.agg #[.int .i64 a.kind,.string a.text],.agg #[.int .i64 b.kind,.string b.text]] w fun e w' => e = .returned (.int .i64 (idCmp a b)) ∧ Below w.heap.size w w' :=
 (refOrd_g a b w).mono fun e W' h => ⟨h.1,h.2.below⟩
set_option maxHeartbeats 4000000 in
set_option maxRecDepth 100000 in
theorem refIds_any (H:Frz) (hM:MLen H) (A:Option Addr) (cap:Nat) (ids:List IdD) (w:World) (hH:H.In w) (hR:Rw H A 2 fId ids) (hl:ids.length ≤ 1000000) (hsz:∀ x ∈ ids,x.text.size ≤ 1000000) :
  Calls Tryz.prog 111 #[.slice A ids.length cap] w (RefPost w (idsO ids)):=by
 have HR:=Lib.hid hR
 have HH:=Lib.hid hH
 have HS:=Lib.hid hsz
 have HCV:=Lib.hid (fun k s W (hW:H.In W) h => refId_any H hM k s W hW h)
 have HBAD:=Lib.hid (fun z (hz:z ≠ 0) W (hW:Below w.heap.size w W) => RefPost.bad (z0:=idsO ids) (z:=z) hz hW)
 clear hR hH hsz hM
 go_enter Tryz.func111,Tryz.ntmps111
 go_wp2_with fail
 go_loopw [8] (fun t wr => ∃ i:Nat,i ≤ ids.length ∧ t = .int .i64 i ∧ Hid (fstErr (idO1 ids) i = 0) ∧ Hid (Below w.heap.size w wr)) (fun t _ => ids.length - (intOf t).toNat)
 case atStart => exact ⟨0,by omega,rfl,rfl,Below.refl _ _⟩
 case round =>
  obtain ⟨i,hi,rfl,h0,hb⟩:=hrel
  by_cases hlt:i < ids.length
  ·have hin:=HH.out.below hb.out
   obtain ⟨b,off,hA,hbl,hc⟩:=HR.out.at_ hin hlt (by omega)
   have hprev:Hid (∀ p,i = p + 1 → ∀ W',Below wr.heap.size wr W' → W'.cell? ⟨b,off + p * 2,none⟩ = some (.int .i64 (ids.getD (i - 1) ids[i]).kind) ∧ W'.cell? ⟨b,off + p * 2 + 1,none⟩ = some (.string (ids.getD (i - 1) ids[i]).text)):=by
    rintro p rfl W' hW'
    have hp:p < ids.length:=by omega
    obtain ⟨b',off',hA',hbl',hc'⟩:=HR.out.at_ hin hp (by omega)
    rw [hA] at hA'
    simp only [Option.some.injEq,Addr.mk.injEq] at hA'
    obtain ⟨rfl,rfl,_⟩:=hA'
    rw [Nat.add_sub_cancel,List.getD_eq_getElem?_getD,List.getElem?_eq_getElem hp,Option.getD_some]
    exact ⟨lift_cell (hc' 0 (by omega)) W' hW',lift_cell (hc' 1 (by omega)) W' hW'⟩
   subst hA
   have c0:wr.cell? ⟨b,off + i * 2,none⟩ = some (.int .i64 ids[i].kind):=hc 0 (by omega)
   have c1:wr.cell? ⟨b,off + i * 2 + 1,none⟩ = some (.string ids[i].text):=hc 1 (by omega)
   have HAT:=Lib.hid (idO1_at hlt)
   have HNX:Hid (idO1 ids i = 0 → fstErr (idO1 ids) (i + 1) = 0):=fun h1 => fstErr_next h0.out h1
   have hks:=HS.out _ (List.getElem_mem hlt)
   clear hc
   generalize ids.getD (i - 1) ids[i] = pd at *
   generalize ids[i] = d at *
   have z0:(wr.alloc (.cells #[.int .i64 d.kind,.string d.text] 36)).cell? ⟨wr.heap.size,0,none⟩ = some (.int .i64 d.kind):=newc 0 rfl
   have z1:(wr.alloc (.cells #[.int .i64 d.kind,.string d.text] 36)).cell? ⟨wr.heap.size,1,none⟩ = some (.string d.text):=newc 1 rfl
   have HBN:=Lib.hid (new1 (w:=wr) (.cells #[.int .i64 d.kind,.string d.text] 36))
   go_upto_region 4 with (fail)
   clear c0 c1
   generalize wr.alloc (.cells #[.int .i64 d.kind,.string d.text] 36) = W1 at *
   have HB1:=Lib.hid (hb.out.trans (HBN.out.mono hb.out.size))
   have HIN1:=Lib.hid (hin.below HBN.out)
   have HBN2:=Lib.hid HBN.out
   clear hb h0 HBN hin
   go_wp2_with fail
   refine (HCV.out d.kind d.text _ HIN1.out (by omega)).mono ?_
   rintro e W3 ⟨ze,rfl,hz,hb3⟩
   have HZ:=Lib.hid hz
   have HB3:=Lib.hid (HB1.out.trans (hb3.mono HB1.out.size))
   have HBN3:=Lib.hid (HBN2.out.trans (hb3.mono HBN2.out.size))
   have x0:=lift_cell z0 _ hb3
   have x1:=lift_cell z1 _ hb3
   clear hb3 z0 z1 hz HBN2
   by_cases g1:ze = 0
   rotate_left
   ·have k1:(ze != 0) = true:=by simpa using g1
    have HF:=Lib.hid (HBAD.out ze g1 _ HB3.out)
    clear g1
    go_wp2_with fail
    go_ret
    exact HF.out
   have k1:(ze != 0) = false:=by simpa using g1
   have HA2:=Lib.hid (HAT.out.trans (if_neg (by rw [HZ.out g1];simp)))
   clear g1 HAT HZ
   have X0:=lift_cell x0
   have X1:=lift_cell x1
   go_upto_region 7 with (fail)
   clear x0 x1
   rcases Nat.eq_zero_or_pos i with h00 | hpos
   ·have d2:decide ((0:Int) < (i:Int)) = false:=by simp;omega
    have hok:=Lib.hid (HNX.out (HA2.out.trans (if_neg (by omega))))
    clear h00
    (refine wp_region_det 11 31 (fun W => Below (W3).heap.size (W3) W) (by kernel_rfl) (by kernel_rfl) (by rfl) (Below.refl _ _).drew ?_;simp only [List.take_succ_cons,List.take_zero,List.drop_succ_cons,List.drop_zero])
    iterate 1 (refine detSeq_op rfl ?_ (fun W hW => ?_) ?_;rotate_left;(focus simp only [OpV];go_simp;first | exact rfl | exact ⟨rfl,hW⟩))
    (refine detSeq_op rfl (.bool false) (fun W hW => ?_) ?_;focus (simp only [OpV];go_simp;try (first | exact rfl | exact hW | (have h9:=d2;simp at h9;omega))))
    iterate 1 (refine detSeq_op rfl ?_ (fun W hW => ?_) ?_;rotate_left;(focus simp only [OpV];go_simp;first | exact rfl | exact ⟨rfl,hW⟩))
    iterate 8 (refine detSeq_no (by kernel_rfl) ?_)
    refine detSeq_nil (fun W4 hW4 => ?_)
    have HB4:=Lib.hid (HB3.out.trans (hW4.mono HB3.out.size))
    clear X0 X1 hW4
    go_wp2_with fail
    go_roundw
    case rel => exact ⟨i + 1,by omega,by go_num,hok,HB4⟩
    case measure => simp [intOf];omega
   ·obtain ⟨p,hp⟩:∃ p,i = p + 1:=⟨i - 1,by omega⟩
    have d2:decide ((0:Int) < (i:Int)) = true:=by simp;omega
    have a1:IntKind.i64.wrap ((i:Int) - 1) = (p:Int):=by rw [show (i:Int) - 1 = p from by omega];exact IntWalk.i64_in _ (by omega)
    have a6:IntKind.i64.wrap (p:Int) = (p:Int):=IntWalk.i64_in _ (by omega)
    have a2:(i:Int) - 1 = (p:Int):=by omega
    have a3:(p:Int) < ids.length:=by omega
    have a4:(0:Int) ≤ (p:Int):=by omega
    have a5:p < ids.length:=by omega
    have P0:∀ W,Below W3.heap.size W3 W → W.cell? ⟨b,off + p * 2,none⟩ = some (.int .i64 pd.kind):=fun W hW => (hprev.out p hp W (HBN3.out.trans (hW.mono HBN3.out.size))).1
    have P1:∀ W,Below W3.heap.size W3 W → W.cell? ⟨b,off + p * 2 + 1,none⟩ = some (.string pd.text):=fun W hW => (hprev.out p hp W (HBN3.out.trans (hW.mono HBN3.out.size))).2
    have HPOS:Hid (0 < i):=hpos
    clear hp hpos
    (refine wp_region_det 11 31 (fun W => Below (W3).heap.size (W3) W) (by kernel_rfl) (by kernel_rfl) (by rfl) (Below.refl _ _).drew ?_;simp only [List.take_succ_cons,List.take_zero,List.drop_succ_cons,List.drop_zero])
    iterate 1 (refine detSeq_op rfl ?_ (fun W hW => ?_) ?_;rotate_left;(focus simp only [OpV];go_simp;first | exact rfl | exact ⟨rfl,hW⟩))
    (refine detSeq_op rfl (.bool true) (fun W hW => ?_) ?_;focus (simp only [OpV];go_simp;try (first | exact rfl | exact hW | (have h9:=d2;simp at h9;omega))))
    iterate 1 (refine detSeq_op rfl ?_ (fun W hW => ?_) ?_;rotate_left;(focus simp only [OpV];go_simp;first | exact rfl | exact ⟨rfl,hW⟩))
    iterate 2 (refine detSeq_yes (by kernel_rfl) ?_ (fun W hW => ?_) ?_;rotate_left;(focus simp only [OpV];go_simp;first | exact rfl | exact ⟨rfl,hW⟩))
    (refine detSeq_yes (by kernel_rfl) (.int .i64 (p:Int)) (fun W hW => ?_) ?_;focus (simp only [OpV];go_simp;try (first | exact rfl | exact hW | omega)))
    iterate 3 (refine detSeq_yes (by kernel_rfl) ?_ (fun W hW => ?_) ?_;rotate_left;(focus simp only [OpV];go_simp;first | exact rfl | exact ⟨rfl,hW⟩))
    (refine detSeq_yes (by kernel_rfl) ?_ (fun W hW => ?_) ?_;rotate_left;focus (simp only [OpV];go_simp;refine (refOrd_b pd d W).mono ?_;rintro e w' ⟨rfl,hb⟩;refine ⟨_,rfl,?_,det_back hW hb⟩;exact rfl))
    iterate 1 (refine detSeq_yes (by kernel_rfl) ?_ (fun W hW => ?_) ?_;rotate_left;(focus simp only [OpV];go_simp;first | exact rfl | exact ⟨rfl,hW⟩))
    refine detSeq_nil (fun W4 hW4 => ?_)
    have HB4:=Lib.hid (HB3.out.trans (hW4.mono HB3.out.size))
    clear X0 X1 P0 P1 hW4
    have hsw:=idCmp_ok.swap d pd
    by_cases g2:0 ≤ idCmp pd d
    ·have k2:decide (0 ≤ idCmp pd d) = true:=by simpa using g2
     have HF:=Lib.hid (HBAD.out 7 (by omega) _ HB4.out)
     rw [k2]
     clear g2 k2 hsw
     go_wp2_with fail
     go_ret
     exact HF.out
    ·have k2:decide (0 ≤ idCmp pd d) = false:=by simpa using g2
     have hok:=Lib.hid (HNX.out (HA2.out.trans (if_neg (fun c => by omega))))
     rw [k2]
     clear g2 k2 hsw
     go_wp2_with fail
     go_roundw
     case rel => exact ⟨i + 1,by omega,by go_num,hok,HB4⟩
     case measure => simp [intOf];omega
  ·have hie:i = ids.length:=by omega
   subst hie
   have HF:=Lib.hid (RefPost.good (show idsO ids = 0 from h0.out) hb.out)
   go_wp2_with fail
   go_ret
   exact HF.out
open Go.RowKit
set_option maxHeartbeats 1000000 in
theorem refTch1_any (H:Frz) (hM:MLen H) (p:Nat) (t:TchD) (w:World) (hH:H.In w) (hI:Rw H t.ia 2 fId t.ids) (hz:SzT t) (hc:w.cell? ⟨p,3,none⟩ = some (.slice t.ia t.ids.length t.ic)) :
  Calls Tryz.prog 110 #[.pointer (some ⟨p,0,none⟩)] w (RefPost w (idsO t.ids)):=by
 have HC:=Lib.hid (refIds_any H hM t.ia t.ic t.ids w hH hI hz.2.2.2.1 hz.2.1)
 clear hH hI hz hM
 go_enter Tryz.func110,Tryz.ntmps110
 go_wp2_with fail
 refine HC.out.mono ?_
 rintro e w1 ⟨z,rfl,hz,hb⟩
 have HF:Hid (RefPost w (idsO t.ids) (.returned (.int .i64 z)) w1):=⟨z,rfl,hz,hb⟩
 clear hz hb HC
 go_wp2_with fail
 go_ret
 exact HF.out
set_option maxHeartbeats 1000000 in
theorem refTch2_any (H:Frz) (hU:UtfIn H) (p:Nat) (t:TchD) (w:World) (hH:H.In w) (hF:Rw H t.fa 4 fFd t.fields) (hz:SzT t) (hc:w.cell? ⟨p,4,none⟩ = some (.slice t.fa t.fields.length t.fc)) :
  Calls Tryz.prog 112 #[.pointer (some ⟨p,0,none⟩)] w (RefPost w (fdsE okT t.fields)):=by
 have HC:=Lib.hid (refFds_any H hU t.fa t.fc t.fields w hH hF hz.2.2.2.2 hz.2.2.1)
 clear hH hF hz hU
 go_enter Tryz.func112,Tryz.ntmps112
 go_wp2_with fail
 refine HC.out.mono ?_
 rintro e w1 ⟨z,rfl,hz,hb⟩
 have HF:Hid (RefPost w (fdsE okT t.fields) (.returned (.int .i64 z)) w1):=⟨z,rfl,hz,hb⟩
 clear hz hb HC
 go_wp2_with fail
 go_ret
 exact HF.out
set_option maxHeartbeats 2000000 in
set_option maxRecDepth 100000 in
theorem refFirst_any (H:Frz) (hU:UtfIn H) (hM:MLen H) (p q:Nat) (t:TchD) (w:World) (hH:H.In w) (hI:Rw H t.ia 2 fId t.ids) (hF:Rw H t.fa 4 fFd t.fields) (hz:SzT t)
  (c3:w.cell? ⟨p,3,none⟩ = some (.slice t.ia t.ids.length t.ic)) (c4:w.cell? ⟨p,4,none⟩ = some (.slice t.fa t.fields.length t.fc))
  (q0:w.cell? ⟨q,0,none⟩ = some (.func (.func 110) #[] #[.pointer (some ⟨p,0,none⟩)])) (q1:w.cell? ⟨q,1,none⟩ = some (.func (.func 112) #[] #[.pointer (some ⟨p,0,none⟩)])) :
  Calls Tryz.prog 109 #[.slice (some ⟨q,0,none⟩) 2 2] w fun e w' => ∃ z:Int,e = .returned (.int .i64 z) ∧ (z = 0 → idsO t.ids = 0 ∧ fdsE okT t.fields = 0) ∧ Below w.heap.size w w':=by
 have C3:=lift_cell c3
 have C4:=lift_cell c4
 have Q0:=Lib.hid (lift_cell q0)
 have Q1:=Lib.hid (lift_cell q1)
 have H1:=Lib.hid (fun W (hW:Below w.heap.size w W) => refTch1_any H hM p t W (hH.below hW) hI hz (C3 W hW))
 have H2:=Lib.hid (fun W (hW:Below w.heap.size w W) => refTch2_any H hU p t W (hH.below hW) hF hz (C4 W hW))
 clear hU hM hH hI hF hz c3 c4 q0 q1 C3 C4
 go_enter Tryz.func109,Tryz.ntmps109
 go_wp2_with fail
 go_loopw [8] (fun x wr => ∃ i:Nat,i ≤ 2 ∧ x = .int .i64 i ∧ Hid (1 ≤ i → idsO t.ids = 0) ∧ Hid (2 ≤ i → fdsE okT t.fields = 0) ∧ Hid (Below w.heap.size w wr)) (fun x _ => 2 - (intOf x).toNat)
 case atStart => exact ⟨0,by omega,rfl,(fun h => by omega),(fun h => by omega),Below.refl _ _⟩
 case round =>
  obtain ⟨i,hi,rfl,h1,h2,hb⟩:=hrel
  have y0:=Q0.out _ hb.out
  have y1:=Q1.out _ hb.out
  have hcs:i = 0 ∨ i = 1 ∨ i = 2:=by omega
  rcases hcs with rfl | rfl | rfl
  ·go_wp2_with fail
   refine (H1.out _ hb.out).mono ?_
   rintro e W4 ⟨z,rfl,hz,hb4⟩
   have HB4:=Lib.hid (hb.out.trans (hb4.mono hb.out.size))
   have HZ:=Lib.hid hz
   clear hb4 hz y0 y1
   by_cases g:z = 0
   ·have k:(z != 0) = false:=by simpa using g
    have h9:=Lib.hid (HZ.out g)
    clear g
    go_wp2_with fail
    go_roundw
    case rel => exact ⟨1,by omega,by go_num,(fun _ => h9.out),(fun h => by omega),HB4⟩
    case measure => simp [intOf]
   ·have k:(z != 0) = true:=by simpa using g
    have HF:Hid (∃ z':Int,(Ending.returned (.int .i64 z):Ending) = .returned (.int .i64 z') ∧ (z' = 0 → idsO t.ids = 0 ∧ fdsE okT t.fields = 0) ∧ Below w.heap.size w W4):=⟨z,rfl,fun h => absurd h g,HB4.out⟩
    clear g
    go_wp2_with fail
    go_ret
    exact HF.out
  ·go_wp2_with fail
   refine (H2.out _ hb.out).mono ?_
   rintro e W4 ⟨z,rfl,hz,hb4⟩
   have HB4:=Lib.hid (hb.out.trans (hb4.mono hb.out.size))
   have HZ:=Lib.hid hz
   have h8:=Lib.hid (h1.out (by omega))
   clear hb4 hz y0 y1
   by_cases g:z = 0
   ·have k:(z != 0) = false:=by simpa using g
    have h9:=Lib.hid (HZ.out g)
    clear g
    go_wp2_with fail
    go_roundw
    case rel => exact ⟨2,by omega,by go_num,(fun _ => h8.out),(fun _ => h9.out),HB4⟩
    case measure => simp [intOf]
   ·have k:(z != 0) = true:=by simpa using g
    have HF:Hid (∃ z':Int,(Ending.returned (.int .i64 z):Ending) = .returned (.int .i64 z') ∧ (z' = 0 → idsO t.ids = 0 ∧ fdsE okT t.fields = 0) ∧ Below w.heap.size w W4):=⟨z,rfl,fun h => absurd h g,HB4.out⟩
    clear g
    go_wp2_with fail
    go_ret
    exact HF.out
  ·have HF:Hid (∃ z':Int,(Ending.returned (.int .i64 0):Ending) = .returned (.int .i64 z') ∧ (z' = 0 → idsO t.ids = 0 ∧ fdsE okT t.fields = 0) ∧ Below w.heap.size w wr):=⟨0,rfl,fun _ => ⟨h1.out (by omega),h2.out (by omega)⟩,hb.out⟩
   go_wp2_with fail
   go_ret
   exact HF.out
set_option maxHeartbeats 4000000 in
set_option maxRecDepth 100000 in
theorem refTch_any (H:Frz) (hU:UtfIn H) (hM:MLen H) (t:TchD) (before:Int) (w:World) (hH:H.In w) (hI:Rw H t.ia 2 fId t.ids) (hF:Rw H t.fa 4 fFd t.fields) (hz:SzT t) :
  Calls Tryz.prog 60 #[.agg #[.int .i64 t.no,.int .i64 t.at_,.string t.source,.slice t.ia t.ids.length t.ic,.slice t.fa t.fields.length t.fc],.int .i64 before] w (RefPost w (tchE okT t before)):=by
 have z0:(w.alloc (.cells #[.int .i64 t.no,.int .i64 t.at_,.string t.source,.slice t.ia t.ids.length t.ic,.slice t.fa t.fields.length t.fc] 91)).cell? ⟨w.heap.size,0,none⟩ = some (.int .i64 t.no):=newc 0 rfl
 have z1:(w.alloc (.cells #[.int .i64 t.no,.int .i64 t.at_,.string t.source,.slice t.ia t.ids.length t.ic,.slice t.fa t.fields.length t.fc] 91)).cell? ⟨w.heap.size,1,none⟩ = some (.int .i64 t.at_):=newc 1 rfl
 have z2:(w.alloc (.cells #[.int .i64 t.no,.int .i64 t.at_,.string t.source,.slice t.ia t.ids.length t.ic,.slice t.fa t.fields.length t.fc] 91)).cell? ⟨w.heap.size,2,none⟩ = some (.string t.source):=newc 2 rfl
 have z3:(w.alloc (.cells #[.int .i64 t.no,.int .i64 t.at_,.string t.source,.slice t.ia t.ids.length t.ic,.slice t.fa t.fields.length t.fc] 91)).cell? ⟨w.heap.size,3,none⟩ = some (.slice t.ia t.ids.length t.ic):=newc 3 rfl
 have z4:(w.alloc (.cells #[.int .i64 t.no,.int .i64 t.at_,.string t.source,.slice t.ia t.ids.length t.ic,.slice t.fa t.fields.length t.fc] 91)).cell? ⟨w.heap.size,4,none⟩ = some (.slice t.fa t.fields.length t.fc):=newc 4 rfl
 have HBN:=Lib.hid (new1 (w:=w) (.cells #[.int .i64 t.no,.int .i64 t.at_,.string t.source,.slice t.ia t.ids.length t.ic,.slice t.fa t.fields.length t.fc] 91))
 have HIN:=Lib.hid (hH.below HBN.out)
 have HBAD:=Lib.hid (fun z (hz:z ≠ 0) W (hW:Below w.heap.size w W) => RefPost.bad (z0:=tchE okT t before) (z:=z) hz hW)
 have HSZ:=Lib.hid hz
 have HFI:=Lib.hid (fun p q W (hW:H.In W) h1 h2 h3 h4 => refFirst_any H hU hM p q t W hW hI hF hz h1 h2 h3 h4)
 have HV:Hid (tchE okT t before = if ¬ (1 ≤ t.no ∧ t.no ≤ 1000000) then 1 else if ¬ (0 ≤ t.at_ ∧ t.at_ ≤ 4321439) then 1 else if t.no ≤ before then 7 else if isKey t.source = false then 5 else if t.ids.length = 0 then 3 else if 10 < t.ids.length then 2
  else if idsO t.ids ≠ 0 then idsO t.ids else fdsE okT t.fields):=rfl
 clear hU hM hH hI hF hz
 go_enter Tryz.func60,Tryz.ntmps60
 go_upto_region 1 with (fail)
 generalize w.alloc (.cells #[.int .i64 t.no,.int .i64 t.at_,.string t.source,.slice t.ia t.ids.length t.ic,.slice t.fa t.fields.length t.fc] 91) = W1 at *
 go_wp2_with fail
 refine (in_any _ _ _ _).mono ?_
 rintro e w' ⟨rfl,rfl⟩
 by_cases g1:1 ≤ t.no ∧ t.no ≤ 1000000
 rotate_left
 ·have k1:(decide ((1:Int) ≤ t.no) && decide (t.no ≤ 1000000)) = false:=by simp;omega
  rw [k1]
  have HF:=Lib.hid (HBAD.out 1 (by omega) _ HBN.out)
  clear g1 k1
  go_wp2_with fail
  go_ret
  exact HF.out
 have k1:(decide ((1:Int) ≤ t.no) && decide (t.no ≤ 1000000)) = true:=by simp;omega
 rw [k1]
 have HV1:=Lib.hid (HV.out.trans (if_neg (fun c => c g1)))
 clear g1 k1 HV
 go_wp2_with fail
 refine (in_any _ _ _ _).mono ?_
 rintro e w' ⟨rfl,rfl⟩
 by_cases g2:0 ≤ t.at_ ∧ t.at_ ≤ 4321439
 rotate_left
 ·have k1:(decide ((0:Int) ≤ t.at_) && decide (t.at_ ≤ 4321439)) = false:=by simp;omega
  rw [k1]
  have HF:=Lib.hid (HBAD.out 1 (by omega) _ HBN.out)
  clear g2 k1
  go_wp2_with fail
  go_ret
  exact HF.out
 have k1:(decide ((0:Int) ≤ t.at_) && decide (t.at_ ≤ 4321439)) = true:=by simp;omega
 rw [k1]
 have HV2:=Lib.hid (HV1.out.trans (if_neg (fun c => c g2)))
 clear g2 k1 HV1
 by_cases g3:t.no ≤ before
 ·have k3:decide (t.no ≤ before) = true:=by simpa using g3
  have HF:=Lib.hid (HBAD.out 7 (by omega) _ HBN.out)
  clear g3
  go_wp2_with fail
  go_ret
  exact HF.out
 have k3:decide (t.no ≤ before) = false:=by simpa using g3
 have HV3:=Lib.hid (HV2.out.trans (if_neg g3))
 clear g3 HV2
 go_wp2_with fail
 refine (Key_any t.source _ (by have:=HSZ.out.1;omega)).mono ?_
 rintro e W2 ⟨rfl,hb2⟩
 have HB2:=Lib.hid (HBN.out.trans (hb2.mono HBN.out.size))
 have HIN2:=Lib.hid (HIN.out.below hb2)
 have y3:=lift_cell z3 _ hb2
 have y4:=lift_cell z4 _ hb2
 clear hb2 z0 z1 z2 z3 z4 HIN
 cases hk:isKey t.source with
 | false =>
  have HF:=Lib.hid (HBAD.out 5 (by omega) _ HB2.out)
  clear hk
  go_wp2_with fail
  go_ret
  exact HF.out
 | true =>
  have HV4:=Lib.hid (HV3.out.trans (if_neg (by rw [hk];simp)))
  clear hk HV3
  by_cases g5:t.ids.length = 0
  ·have k5:((t.ids.length:Int) == 0) = true:=by simp [g5]
   have HF:=Lib.hid (HBAD.out 3 (by omega) _ HB2.out)
   clear g5
   go_wp2_with fail
   go_ret
   exact HF.out
  have k5:((t.ids.length:Int) == 0) = false:=by simp;exact fun c => g5 (by simp [c])
  have HV5:=Lib.hid (HV4.out.trans (if_neg g5))
  clear g5 HV4
  by_cases g6:10 < t.ids.length
  ·have k6:decide ((10:Int) < (t.ids.length:Int)) = true:=by simp;omega
   have HF:=Lib.hid (HBAD.out 2 (by omega) _ HB2.out)
   clear g6
   go_wp2_with fail
   go_ret
   exact HF.out
  have k6:decide ((10:Int) < (t.ids.length:Int)) = false:=by simp;omega
  have HV6:=Lib.hid (HV5.out.trans (if_neg g6))
  clear g6 HV5
  go_wp2_with fail
  refine (HFI.out w.heap.size W2.heap.size _ (HIN2.out.alloc _) (lift_cell y3 _ (new1 _)) (lift_cell y4 _ (new1 _)) (newc 0 rfl) (newc 1 rfl)).mono ?_
  rintro e W3 ⟨z,rfl,hz,hb3⟩
  have HF:Hid (RefPost w (tchE okT t before) (.returned (.int .i64 z)) W3):=⟨z,rfl,fun h => HV6.out.trans (by rw [if_neg (by rw [(hz h).1];simp)];exact (hz h).2),HB2.out.trans (((new1 _).trans (hb3.mono (by simp))).mono HB2.out.size)⟩
  clear hz hb3 HFI
  go_wp2_with fail
  go_ret
  exact HF.out
set_option maxHeartbeats 4000000 in
set_option maxRecDepth 100000 in
theorem refTchs_any (H:Frz) (hU:UtfIn H) (hM:MLen H) (A:Option Addr) (cap:Nat) (ts:List TchD) (w:World) (hH:H.In w) (hT:TchIn H A ts) (hl:ts.length ≤ 1000000) (hsz:∀ t ∈ ts,SzT t) :
  Calls Tryz.prog 35 #[.slice A ts.length cap] w (RefPost w (tchsE okT ts)):=by
 have HR:=Lib.hid hT.1
 have HH:=Lib.hid hH
 have HCT:=Lib.hid (fun t (ht:t ∈ ts) before W (hW:H.In W) => refTch_any H hU hM t before W hW (hT.2 t ht).1 (hT.2 t ht).2 (hsz t ht))
 have HBD:=Lib.hid (fun z (hz:z ≠ 0) W (hW:Below w.heap.size w W) => RefPost.bad (z0:=tchsE okT ts) (z:=z) hz hW)
 clear hT hH hsz hU hM
 by_cases hlong:2000 < ts.length
 ·have h2:decide ((2000:Int) < ts.length) = true:=by simp;omega
  have HF:=Lib.hid (HBD.out 2 (by omega) _ (Below.refl _ _))
  clear hlong
  go_enter Tryz.func35,Tryz.ntmps35
  go_wp2_with fail
  go_ret
  exact HF.out
 ·have h2:decide ((2000:Int) < ts.length) = false:=by simp;omega
  have HV:Hid (tchsE okT ts = fstErr (tch1 okT ts) ts.length):=by show _ = _;unfold tchsE;rw [if_neg hlong]
  clear hlong
  go_enter Tryz.func35,Tryz.ntmps35
  go_wp2_with fail
  go_loopw [3,12] (fun v t wr => ∃ i:Nat,i ≤ ts.length ∧ t = .int .i64 i ∧ v = .int .i64 (prevNo ts i) ∧ Hid (fstErr (tch1 okT ts) i = 0) ∧ Hid (Below w.heap.size w wr)) (fun _ t _ => ts.length - (intOf t).toNat)
  case atStart => exact ⟨0,by omega,rfl,rfl,rfl,Below.refl _ _⟩
  case round =>
   obtain ⟨i,hi,rfl,rfl,h0,hb⟩:=hrel
   by_cases hlt:i < ts.length
   ·have hin:=HH.out.below hb.out
    obtain ⟨b,off,rfl,hbl,hc⟩:=HR.out.at_ hin hlt (by omega)
    have c0:wr.cell? ⟨b,off + i * 5,none⟩ = some (.int .i64 ts[i].no):=hc 0 (by omega)
    have c1:wr.cell? ⟨b,off + i * 5 + 1,none⟩ = some (.int .i64 ts[i].at_):=hc 1 (by omega)
    have c2:wr.cell? ⟨b,off + i * 5 + 2,none⟩ = some (.string ts[i].source):=hc 2 (by omega)
    have c3:wr.cell? ⟨b,off + i * 5 + 3,none⟩ = some (.slice ts[i].ia ts[i].ids.length ts[i].ic):=hc 3 (by omega)
    have c4:wr.cell? ⟨b,off + i * 5 + 4,none⟩ = some (.slice ts[i].fa ts[i].fields.length ts[i].fc):=hc 4 (by omega)
    have HAT:=Lib.hid (tch1_at (ok:=okT) hlt)
    have HPN:=Lib.hid (prevNo_succ hlt)
    have HNX:Hid (tch1 okT ts i = 0 → fstErr (tch1 okT ts) (i + 1) = 0):=fun h1 => fstErr_next h0.out h1
    have HCD:=Lib.hid (HCT.out _ (List.getElem_mem hlt))
    clear hc
    generalize prevNo ts i = pn at *
    generalize ts[i] = d at *
    have z0:(wr.alloc (.cells #[.int .i64 d.no,.int .i64 d.at_,.string d.source,.slice d.ia d.ids.length d.ic,.slice d.fa d.fields.length d.fc] 91)).cell? ⟨wr.heap.size,0,none⟩ = some (.int .i64 d.no):=newc 0 rfl
    have z1:(wr.alloc (.cells #[.int .i64 d.no,.int .i64 d.at_,.string d.source,.slice d.ia d.ids.length d.ic,.slice d.fa d.fields.length d.fc] 91)).cell? ⟨wr.heap.size,1,none⟩ = some (.int .i64 d.at_):=newc 1 rfl
    have z2:(wr.alloc (.cells #[.int .i64 d.no,.int .i64 d.at_,.string d.source,.slice d.ia d.ids.length d.ic,.slice d.fa d.fields.length d.fc] 91)).cell? ⟨wr.heap.size,2,none⟩ = some (.string d.source):=newc 2 rfl
    have z3:(wr.alloc (.cells #[.int .i64 d.no,.int .i64 d.at_,.string d.source,.slice d.ia d.ids.length d.ic,.slice d.fa d.fields.length d.fc] 91)).cell? ⟨wr.heap.size,3,none⟩ = some (.slice d.ia d.ids.length d.ic):=newc 3 rfl
    have z4:(wr.alloc (.cells #[.int .i64 d.no,.int .i64 d.at_,.string d.source,.slice d.ia d.ids.length d.ic,.slice d.fa d.fields.length d.fc] 91)).cell? ⟨wr.heap.size,4,none⟩ = some (.slice d.fa d.fields.length d.fc):=newc 4 rfl
    have HBN:=Lib.hid (new1 (w:=wr) (.cells #[.int .i64 d.no,.int .i64 d.at_,.string d.source,.slice d.ia d.ids.length d.ic,.slice d.fa d.fields.length d.fc] 91))
    go_upto_region 7 with (fail)
    clear c0 c1 c2 c3 c4
    generalize wr.alloc (.cells #[.int .i64 d.no,.int .i64 d.at_,.string d.source,.slice d.ia d.ids.length d.ic,.slice d.fa d.fields.length d.fc] 91) = W1 at *
    have HB1:=Lib.hid (hb.out.trans (HBN.out.mono hb.out.size))
    have HIN1:=Lib.hid (hin.below HBN.out)
    clear hb h0 HBN hin
    go_wp2_with fail
    refine (HCD.out pn _ HIN1.out).mono ?_
    rintro e W2 ⟨ie,rfl,hie,hb2⟩
    have HIE:=Lib.hid hie
    clear hie
    have HB2:=Lib.hid (HB1.out.trans (hb2.mono HB1.out.size))
    have y0:=lift_cell z0 W2 hb2
    clear hb2 z0 z1 z2 z3 z4
    by_cases g3:ie = 0
    ·have k3:(ie != 0) = false:=by simpa using g3
     have hok:=Lib.hid (HNX.out (HAT.out.trans (HIE.out g3)))
     clear g3
     go_wp2_with fail
     go_roundw
     case rel => exact ⟨i + 1,by omega,by go_num,by rw [HPN.out],hok,HB2⟩
     case measure => simp [intOf];omega
    ·have k3:(ie != 0) = true:=by simpa using g3
     have HF:=Lib.hid (HBD.out ie g3 _ HB2.out)
     clear g3
     go_wp2_with fail
     go_ret
     exact HF.out
   ·have hie:i = ts.length:=by omega
    subst hie
    have HF:=Lib.hid (RefPost.good (HV.out.trans h0.out) hb.out)
    go_wp2_with fail
    go_ret
    exact HF.out
end Go.Proofs.YtcncifmanodabaaGreatDoor
