/- Texts of this claim, put together: ValD, LeB, ChkF, EvP. -/
import Derived.Test.YtfmnlpmgakgleaaGreatDoorGAF
import Derived.Test.YtfmnlpmgakgleaaGreatDoorGAD
import Derived.Test.YtfmnlpmgakgleaaGreatDoorLayValid
import Derived.Test.YtfmnlpmgakgleaaGreatDoorGAH
import Derived.Test.YtfmnlpmgakgleaaGreatDoorGAJ
import Derived.Test.YtfmnlpmgakgleaaGreatDoorGAG
import Derived.WalkLawsBesides
namespace Go.Proofs.YtfmnlpmgakgleaaGreatDoor
set_option linter.unusedVariables false
open Go.RowKit
def UtfIn (H:Frz):Prop:=∀ W,H.In W → Lib.Utf8Tabs 7 8 W
theorem UtfIn.le {H H':Frz} (h:UtfIn H) (hl:H.Le H'):UtfIn H':=fun W hW => h W (hW.le hl)
def txtC (c:UInt8):Bool:=decide (32 ≤ c.toNat) && decide (c.toNat ≠ 127)
def okT (s:ByteArray):Bool:=Lib.validD s.data.toList && allB txtC s
set_option maxHeartbeats 400000 in
theorem txtC_any (c:UInt8) (w:World):Calls Tryz.prog 281 #[.int .u8 (c.toNat:Int)] w fun e w' => e = .returned (.bool (txtC c)) ∧ w = w':=by
 have h0:c.toNat < 256:=c.toNat_lt
 by_cases h1:32 ≤ c.toNat
 ·by_cases h2:c.toNat = 127
  ·have HV:Hid (txtC c = false):=by show _ = _;unfold txtC;simp [h2]
   have e2:((c.toNat:Int) != 127) = false:=by simp;omega
   go_enter Tryz.func281,Tryz.ntmps281
   go_wp2_with fail
   go_ret
   exact ⟨ret_bool' HV.out.symm,rfl⟩
  ·have HV:Hid (txtC c = true):=by show _ = _;unfold txtC;simp [h1,h2]
   have e2:((c.toNat:Int) != 127) = true:=by simp;omega
   go_enter Tryz.func281,Tryz.ntmps281
   go_wp2_with fail
   go_ret
   exact ⟨ret_bool' HV.out.symm,rfl⟩
 ·have HV:Hid (txtC c = false):=by show _ = _;unfold txtC;simp [h1]
  go_enter Tryz.func281,Tryz.ntmps281
  go_wp2_with fail
  go_ret
  exact ⟨ret_bool' HV.out.symm,rfl⟩
set_option maxHeartbeats 400000 in
theorem checkText_any (H:Frz) (hU:UtfIn H) (s:ByteArray) (w:World) (hH:H.In w) (hs:s.size ≤ 1000000) :
  Calls Tryz.prog 250 #[.string s] w fun e w' => e = .returned (.int .i64 (txtErr okT s)) ∧ Below w.heap.size w w':=by
 by_cases hlong:200 < s.size
 ·have HV:Hid (txtErr okT s = 2):=by show _ = _;unfold txtErr;rw [if_pos hlong]
  go_enter Tryz.func250,Tryz.ntmps250
  go_wp2_with fail
  go_ret
  exact ⟨ret_int HV.out.symm,Below.refl _ _⟩
 ·have HV:Hid (txtErr okT s = if okT s = true then 0 else 3):=by show _ = _;unfold txtErr;rw [if_neg hlong]
  have HT:=Lib.hid (Any.utf8_ValidString Tryz.laysValid s w (by omega) (hU w hH))
  go_enter Tryz.func250,Tryz.ntmps250
  go_wp2_with fail
  refine HT.out.mono ?_
  rintro e w1 ⟨rfl,hb⟩
  have HB:=Lib.hid hb
  clear hb
  unfold okT at HV
  cases hv:Lib.validD s.data.toList with
  | false =>
   rw [hv] at HV
   clear hv
   go_wp2_with fail
   go_ret
   exact ⟨ret_int HV.out.symm,HB.out⟩
  | true =>
   rw [hv] at HV
   clear hv
   go_wp2_with fail
   refine (all_any 281 txtC txtC_any (fun _ _ => by kernel_rfl) s _ (by omega)).mono ?_
   rintro e w' ⟨rfl,rfl⟩
   cases hv:allB txtC s with
   | false =>
    rw [hv] at HV
    clear hv
    go_wp2_with fail
    go_ret
    exact ⟨ret_int HV.out.symm,HB.out⟩
   | true =>
    rw [hv] at HV
    clear hv
    go_wp2_with fail
    go_ret
    exact ⟨ret_int HV.out.symm,HB.out⟩
theorem size0V (s:ByteArray):s.size = 0 ↔ s.toList = []:=by
 rw [ByteArray.toList_eq]
 constructor
 ·intro h;exact List.eq_nil_of_length_eq_zero (by simpa using h)
 ·intro h;have:=congrArg List.length h;simpa using this
set_option maxHeartbeats 4000000 in
theorem checkValue_any (H:Frz) (hU:UtfIn H) (v:VD) (w:World) (hH:H.In w) (hs:v.text.size ≤ 1000000) :
  Calls Tryz.prog 216 #[.agg #[.int .i64 v.kind,.string v.text,.int .i64 v.num]] w fun e w' => e = .returned (.int .i64 (valErr okT v)) ∧ Below w.heap.size w w':=by
 obtain ⟨kind,text,num⟩:=v
 have HB:=Lib.hid (new1 (w:=w) (.cells #[.int .i64 kind,.string text,.int .i64 num] 110))
 have HIN:=Lib.hid (hH.alloc (.cells #[.int .i64 kind,.string text,.int .i64 num] 110))
 have z0:(w.alloc (.cells #[.int .i64 kind,.string text,.int .i64 num] 110)).cell? ⟨w.heap.size,0,none⟩ = some (.int .i64 kind):=newc 0 rfl
 have z1:(w.alloc (.cells #[.int .i64 kind,.string text,.int .i64 num] 110)).cell? ⟨w.heap.size,1,none⟩ = some (.string text):=newc 1 rfl
 have z2:(w.alloc (.cells #[.int .i64 kind,.string text,.int .i64 num] 110)).cell? ⟨w.heap.size,2,none⟩ = some (.int .i64 num):=newc 2 rfl
 have HTX:=Lib.hid (fun W (hW:H.In W) => checkText_any H hU text W hW hs)
 clear hH hU
 by_cases k1:kind = 1
 ·subst k1
  by_cases n0:num = 0
  ·subst n0
   have HV:Hid (valErr okT ⟨1,text,0⟩ = txtErr okT text):=by show _ = _;simp [valErr]
   go_enter Tryz.func216,Tryz.ntmps216
   go_wp2_with fail
   refine (HTX.out _ HIN.out).mono ?_
   rintro e w1 ⟨rfl,hb⟩
   have HB2:=Lib.hid (HB.out.trans (hb.mono HB.out.size))
   clear hb
   go_wp2_with fail
   go_ret
   exact ⟨ret_int HV.out.symm,HB2.out⟩
  ·have e0:(num != 0) = true:=by simpa using n0
   have HV:Hid (valErr okT ⟨1,text,num⟩ = 3):=by show _ = _;simp [valErr,n0]
   go_enter Tryz.func216,Tryz.ntmps216
   go_wp2_with fail
   go_ret
   exact ⟨ret_int HV.out.symm,HB.out⟩
 ·have e1:(kind == 1) = false:=by simpa using k1
  by_cases k2:kind = 2
  ·subst k2
   by_cases t0:text.toList = []
   ·have f0:text.toList.isEmpty = true:=by simpa using t0
    have ht0:text.size = 0:=(size0V text).2 t0
    by_cases r:(-1000000000000:Int) ≤ num ∧ num ≤ (1000000000000:Int)
    ·have HV:Hid (valErr okT ⟨2,text,num⟩ = 0):=by show _ = _;simp [valErr,ht0];omega
     have HD:Hid ((decide ((-1000000000000:Int) ≤ num) && decide (num ≤ (1000000000000:Int))) = true):=by show _ = true;rw [decide_eq_true r.1,decide_eq_true r.2];rfl
     go_enter Tryz.func216,Tryz.ntmps216
     go_wp2_with fail
     refine (pwithin_any _ _ _ _).mono ?_
     rintro e w1 ⟨rfl,rfl⟩
     rw [HD.out]
     go_wp2_with fail
     go_ret
     exact ⟨ret_int HV.out.symm,HB.out⟩
    ·have HV:Hid (valErr okT ⟨2,text,num⟩ = 1):=by show _ = _;simp [valErr,ht0];omega
     have HD:Hid ((decide ((-1000000000000:Int) ≤ num) && decide (num ≤ (1000000000000:Int))) = false):=by
      show _ = false
      cases hq:(decide ((-1000000000000:Int) ≤ num) && decide (num ≤ (1000000000000:Int))) with
      | false => rfl
      | true => exact absurd (by simpa using hq) r
     go_enter Tryz.func216,Tryz.ntmps216
     go_wp2_with fail
     refine (pwithin_any _ _ _ _).mono ?_
     rintro e w1 ⟨rfl,rfl⟩
     rw [HD.out]
     go_wp2_with fail
     go_ret
     exact ⟨ret_int HV.out.symm,HB.out⟩
   ·have f0:text.toList.isEmpty = false:=by simpa using t0
    have ht0:text.size ≠ 0:=fun c => t0 ((size0V text).1 c)
    have HV:Hid (valErr okT ⟨2,text,num⟩ = 3):=by show _ = _;simp [valErr,ht0]
    go_enter Tryz.func216,Tryz.ntmps216
    go_wp2_with fail
    go_ret
    exact ⟨ret_int HV.out.symm,HB.out⟩
  ·have e2:(kind == 2) = false:=by simpa using k2
   by_cases k3:kind = 3
   ·subst k3
    by_cases t0:text.toList = []
    ·have f0:text.toList.isEmpty = true:=by simpa using t0
     have ht0:text.size = 0:=(size0V text).2 t0
     by_cases r:(0:Int) ≤ num ∧ num ≤ (1:Int)
     ·have HV:Hid (valErr okT ⟨3,text,num⟩ = 0):=by show _ = _;simp [valErr,ht0];omega
      have HD:Hid ((decide ((0:Int) ≤ num) && decide (num ≤ (1:Int))) = true):=by show _ = true;rw [decide_eq_true r.1,decide_eq_true r.2];rfl
      go_enter Tryz.func216,Tryz.ntmps216
      go_wp2_with fail
      refine (pwithin_any _ _ _ _).mono ?_
      rintro e w1 ⟨rfl,rfl⟩
      rw [HD.out]
      go_wp2_with fail
      go_ret
      exact ⟨ret_int HV.out.symm,HB.out⟩
     ·have HV:Hid (valErr okT ⟨3,text,num⟩ = 1):=by show _ = _;simp [valErr,ht0];omega
      have HD:Hid ((decide ((0:Int) ≤ num) && decide (num ≤ (1:Int))) = false):=by
       show _ = false
       cases hq:(decide ((0:Int) ≤ num) && decide (num ≤ (1:Int))) with
       | false => rfl
       | true => exact absurd (by simpa using hq) r
      go_enter Tryz.func216,Tryz.ntmps216
      go_wp2_with fail
      refine (pwithin_any _ _ _ _).mono ?_
      rintro e w1 ⟨rfl,rfl⟩
      rw [HD.out]
      go_wp2_with fail
      go_ret
      exact ⟨ret_int HV.out.symm,HB.out⟩
    ·have f0:text.toList.isEmpty = false:=by simpa using t0
     have ht0:text.size ≠ 0:=fun c => t0 ((size0V text).1 c)
     have HV:Hid (valErr okT ⟨3,text,num⟩ = 3):=by show _ = _;simp [valErr,ht0]
     go_enter Tryz.func216,Tryz.ntmps216
     go_wp2_with fail
     go_ret
     exact ⟨ret_int HV.out.symm,HB.out⟩
   ·have e3:(kind == 3) = false:=by simpa using k3
    by_cases k4:kind = 4
    ·subst k4
     by_cases t0:text.toList = []
     ·have f0:text.toList.isEmpty = true:=by simpa using t0
      have ht0:text.size = 0:=(size0V text).2 t0
      by_cases r:(0:Int) ≤ num ∧ num ≤ (4321439:Int)
      ·have HV:Hid (valErr okT ⟨4,text,num⟩ = 0):=by show _ = _;simp [valErr,ht0];omega
       have HD:Hid ((decide ((0:Int) ≤ num) && decide (num ≤ (4321439:Int))) = true):=by show _ = true;rw [decide_eq_true r.1,decide_eq_true r.2];rfl
       go_enter Tryz.func216,Tryz.ntmps216
       go_wp2_with fail
       refine (pwithin_any _ _ _ _).mono ?_
       rintro e w1 ⟨rfl,rfl⟩
       rw [HD.out]
       go_wp2_with fail
       go_ret
       exact ⟨ret_int HV.out.symm,HB.out⟩
      ·have HV:Hid (valErr okT ⟨4,text,num⟩ = 1):=by show _ = _;simp [valErr,ht0];omega
       have HD:Hid ((decide ((0:Int) ≤ num) && decide (num ≤ (4321439:Int))) = false):=by
        show _ = false
        cases hq:(decide ((0:Int) ≤ num) && decide (num ≤ (4321439:Int))) with
        | false => rfl
        | true => exact absurd (by simpa using hq) r
       go_enter Tryz.func216,Tryz.ntmps216
       go_wp2_with fail
       refine (pwithin_any _ _ _ _).mono ?_
       rintro e w1 ⟨rfl,rfl⟩
       rw [HD.out]
       go_wp2_with fail
       go_ret
       exact ⟨ret_int HV.out.symm,HB.out⟩
     ·have f0:text.toList.isEmpty = false:=by simpa using t0
      have ht0:text.size ≠ 0:=fun c => t0 ((size0V text).1 c)
      have HV:Hid (valErr okT ⟨4,text,num⟩ = 3):=by show _ = _;simp [valErr,ht0]
      go_enter Tryz.func216,Tryz.ntmps216
      go_wp2_with fail
      go_ret
      exact ⟨ret_int HV.out.symm,HB.out⟩
    ·have e4:(kind == 4) = false:=by simpa using k4
     have HV:Hid (valErr okT ⟨kind,text,num⟩ = 4):=by show _ = _;simp [valErr,k1,k2,k3,k4]
     go_enter Tryz.func216,Tryz.ntmps216
     go_wp2_with fail
     go_ret
     exact ⟨ret_int HV.out.symm,HB.out⟩
open Go.RowKit
def leB (a b:ByteArray):Bool:=Op.bytesLess a.toList b.toList || a.toList == b.toList
theorem leB_iff (a b:ByteArray):leB a b = true ↔ 0 ≤ cmpS b a:=by
 have h1:=cmpS_swap a b
 unfold leB
 rw [Bool.or_eq_true,← cmpS_lt,beq_iff_eq]
 constructor
 ·rintro (h | h)
  ·omega
  ·have:a = b:=toList_inj h
   subst this
   rw [cmpS_self];exact Int.le_refl _
 ·intro h
  rcases Int.lt_or_eq_of_le (show cmpS a b ≤ 0 by omega) with h2 | h2
  ·exact Or.inl h2
  ·exact Or.inr (by rw [cmpS_zero h2])
open Go.RowKit
theorem fd1_at {ok:ByteArray → Bool} {fs:List FD} {i:Nat} (h:i < fs.length):fd1 ok fs i = if isKey fs[i].name = false then 5 else if valErr ok fs[i].v ≠ 0 then valErr ok fs[i].v else if 0 < i ∧ 0 ≤ cmpS (fs.getD (i - 1) fs[i]).name fs[i].name then 7 else 0:=by
 unfold fd1
 rw [List.getElem?_eq_getElem h]
set_option maxHeartbeats 4000000 in
set_option maxRecDepth 100000 in
theorem checkFields_any (H:Frz) (hU:UtfIn H) (A:Option Addr) (cap:Nat) (fs:List FD) (w:World) (hH:H.In w) (hR:Rw H A 4 fFd fs) (hl:fs.length ≤ 1000000) (hsz:∀ f ∈ fs,f.name.size ≤ 1000000 ∧ f.v.text.size ≤ 1000000) :
  Calls Tryz.prog 159 #[.slice A fs.length cap] w fun e w' => e = .returned (.int .i64 (fdsE okT fs)) ∧ Below w.heap.size w w':=by
 have HR:=Lib.hid hR
 have HH:=Lib.hid hH
 have HS:=Lib.hid hsz
 have HCV:=Lib.hid (fun v W (hW:H.In W) h => checkValue_any H hU v W hW h)
 clear hR hH hsz hU
 by_cases hlong:30 < fs.length
 ·have h2:decide ((30:Int) < fs.length) = true:=by simp;omega
  have hv:Hid (fdsE okT fs = 2):=by show _ = _;unfold fdsE;rw [if_pos hlong]
  clear hlong
  go_enter Tryz.func159,Tryz.ntmps159
  go_wp2_with fail
  go_ret
  exact ⟨ret_int hv.out.symm,Below.refl _ _⟩
 ·have h2:decide ((30:Int) < fs.length) = false:=by simp;omega
  have HV:Hid (fdsE okT fs = fstErr (fd1 okT fs) fs.length):=by show _ = _;unfold fdsE;rw [if_neg hlong]
  clear hlong
  go_enter Tryz.func159,Tryz.ntmps159
  go_wp2_with fail
  go_loopw [11] (fun t wr => ∃ i:Nat,i ≤ fs.length ∧ t = .int .i64 i ∧ Hid (fstErr (fd1 okT fs) i = 0) ∧ Hid (Below w.heap.size w wr)) (fun t _ => fs.length - (intOf t).toNat)
  case atStart => exact ⟨0,by omega,rfl,rfl,Below.refl _ _⟩
  case round =>
   obtain ⟨i,hi,rfl,h0,hb⟩:=hrel
   by_cases hlt:i < fs.length
   ·have hin:=HH.out.below hb.out
    obtain ⟨b,off,hA,hbl,hc⟩:=HR.out.at_ hin hlt (by omega)
    have hprev:Hid (∀ p,i = p + 1 → ∀ W',Below wr.heap.size wr W' → W'.cell? ⟨b,off + p * 4,none⟩ = some (.string (fs.getD (i - 1) fs[i]).name)):=by
     rintro p rfl W' hW'
     have hp:p < fs.length:=by omega
     obtain ⟨b',off',hA',hbl',hc'⟩:=HR.out.at_ hin hp (by omega)
     rw [hA] at hA'
     simp only [Option.some.injEq,Addr.mk.injEq] at hA'
     obtain ⟨rfl,rfl,_⟩:=hA'
     rw [Nat.add_sub_cancel,List.getD_eq_getElem?_getD,List.getElem?_eq_getElem hp,Option.getD_some]
     exact lift_cell (hc' 0 (by omega)) W' hW'
    subst hA
    have c0:wr.cell? ⟨b,off + i * 4,none⟩ = some (.string fs[i].name):=hc 0 (by omega)
    have c1:wr.cell? ⟨b,off + i * 4 + 1,none⟩ = some (.int .i64 fs[i].v.kind):=hc 1 (by omega)
    have c2:wr.cell? ⟨b,off + i * 4 + 2,none⟩ = some (.string fs[i].v.text):=hc 2 (by omega)
    have c3:wr.cell? ⟨b,off + i * 4 + 3,none⟩ = some (.int .i64 fs[i].v.num):=hc 3 (by omega)
    have HAT:=Lib.hid (fd1_at (ok:=okT) hlt)
    have HBAD:Hid (∀ n,fd1 okT fs i = n → n ≠ 0 → fdsE okT fs = n):=fun n h1 h2 => HV.out.trans ((fstErr_bad hlt h0.out (by rw [h1];exact h2)).trans h1)
    have HNX:Hid (fd1 okT fs i = 0 → fstErr (fd1 okT fs) (i + 1) = 0):=fun h1 => fstErr_next h0.out h1
    have hks:=HS.out _ (List.getElem_mem hlt)
    clear hc
    generalize (fs.getD (i - 1) fs[i]).name = pn at *
    generalize fs[i] = d at *
    have z0:(wr.alloc (.cells #[.string d.name,.int .i64 d.v.kind,.string d.v.text,.int .i64 d.v.num] 119)).cell? ⟨wr.heap.size,0,none⟩ = some (.string d.name):=newc 0 rfl
    have z1:(wr.alloc (.cells #[.string d.name,.int .i64 d.v.kind,.string d.v.text,.int .i64 d.v.num] 119)).cell? ⟨wr.heap.size,1,none⟩ = some (.int .i64 d.v.kind):=newc 1 rfl
    have z2:(wr.alloc (.cells #[.string d.name,.int .i64 d.v.kind,.string d.v.text,.int .i64 d.v.num] 119)).cell? ⟨wr.heap.size,2,none⟩ = some (.string d.v.text):=newc 2 rfl
    have z3:(wr.alloc (.cells #[.string d.name,.int .i64 d.v.kind,.string d.v.text,.int .i64 d.v.num] 119)).cell? ⟨wr.heap.size,3,none⟩ = some (.int .i64 d.v.num):=newc 3 rfl
    have HBN:=Lib.hid (new1 (w:=wr) (.cells #[.string d.name,.int .i64 d.v.kind,.string d.v.text,.int .i64 d.v.num] 119))
    go_upto_region 6 with (fail)
    clear c0 c1 c2 c3
    generalize wr.alloc (.cells #[.string d.name,.int .i64 d.v.kind,.string d.v.text,.int .i64 d.v.num] 119) = W1 at *
    have HB1:=Lib.hid (hb.out.trans (HBN.out.mono hb.out.size))
    have HBN2:=Lib.hid HBN.out
    have HIN1:=Lib.hid (hin.below HBN.out)
    clear hb h0 HBN hin
    go_wp2_with fail
    refine (isKey_any d.name _ (by omega)).mono ?_
    rintro e w' ⟨rfl,rfl⟩
    generalize isKey d.name = k1 at HAT
    cases k1 with
    | false =>
     have hv:=Lib.hid (HBAD.out 5 (HAT.out.trans (if_pos rfl)) (by omega))
     go_wp2_with fail
     go_ret
     exact ⟨ret_int hv.out.symm,HB1.out⟩
    | true =>
     have HA1:=Lib.hid (HAT.out.trans (if_neg (by simp)))
     clear HAT
     have J0:=lift_cell z0
     go_wp2_with fail
     refine (HCV.out d.v _ HIN1.out (by omega)).mono ?_
     rintro e W2 ⟨rfl,hb2⟩
     have HB2:=Lib.hid (HB1.out.trans (hb2.mono HB1.out.size))
     have HIN2:=Lib.hid (HIN1.out.below hb2)
     have J2:∀ W,Below W2.heap.size W2 W → W.cell? ⟨wr.heap.size,0,none⟩ = some (.string d.name):=fun W hW => J0 W (hb2.trans (hW.mono hb2.size))
     have HBN3:=Lib.hid (HBN2.out.trans (hb2.mono HBN2.out.size))
     generalize valErr okT d.v = ie at HA1 ⊢
     clear hb2 z0 z1 z2 z3 J0
     by_cases g3:ie = 0
     ·have k3:(ie != 0) = false:=by simpa using g3
      have HA3:=Lib.hid (HA1.out.trans (if_neg (by simpa using g3)))
      clear g3 HA1
      go_wp2_with fail
      rcases Nat.eq_zero_or_pos i with h0 | hpos
      ·have d2:decide ((0:Int) < (i:Int)) = false:=by simp;omega
       have hok:=Lib.hid (HNX.out (HA3.out.trans (if_neg (by omega))))
       clear h0
       (refine wp_region_det 12 40 (fun W => Below (W2).heap.size (W2) W) (by kernel_rfl) (by kernel_rfl) (by rfl) (Below.refl _ _).drew ?_;simp only [List.take_succ_cons,List.take_zero,List.drop_succ_cons,List.drop_zero])
       iterate 1 (refine detSeq_op rfl ?_ (fun W hW => ?_) ?_;rotate_left;(focus simp only [OpV];go_simp;first | exact rfl | exact ⟨rfl,hW⟩))
       (refine detSeq_op rfl (.bool false) (fun W hW => ?_) ?_;focus (simp only [OpV];go_simp;try (first | exact rfl | exact hW | (have h9:=d2;simp at h9;omega))))
       iterate 1 (refine detSeq_op rfl ?_ (fun W hW => ?_) ?_;rotate_left;(focus simp only [OpV];go_simp;first | exact rfl | exact ⟨rfl,hW⟩))
       iterate 9 (refine detSeq_no (by kernel_rfl) ?_)
       refine detSeq_nil (fun W3 hW3 => ?_)
       have HB3:=Lib.hid (HB2.out.trans (hW3.mono HB2.out.size))
       clear J2 hW3
       go_wp2_with fail
       go_roundw
       case rel => exact ⟨i + 1,by omega,by go_num,hok,HB3⟩
       case measure => simp [intOf];omega
      ·obtain ⟨p,hp⟩:∃ p,i = p + 1:=⟨i - 1,by omega⟩
       have d2:decide ((0:Int) < (i:Int)) = true:=by simp;omega
       have a1:IntKind.i64.wrap ((i:Int) - 1) = (p:Int):=by rw [show (i:Int) - 1 = p from by omega];exact IntWalk.i64_in _ (by omega)
       have a6:IntKind.i64.wrap (p:Int) = (p:Int):=IntWalk.i64_in _ (by omega)
       have a2:(i:Int) - 1 = (p:Int):=by omega
       have a3:(p:Int) < fs.length:=by omega
       have a4:(0:Int) ≤ (p:Int):=by omega
       have a5:p < fs.length:=by omega
       have K0:∀ W,Below W2.heap.size W2 W → W.cell? ⟨b,off + p * 4,none⟩ = some (.string pn):=fun W hW => hprev.out p hp W (HBN3.out.trans (hW.mono HBN3.out.size))
       have HPOS:Hid (0 < i):=hpos
       clear hp hpos
       (refine wp_region_det 12 40 (fun W => Below (W2).heap.size (W2) W) (by kernel_rfl) (by kernel_rfl) (by rfl) (Below.refl _ _).drew ?_;simp only [List.take_succ_cons,List.take_zero,List.drop_succ_cons,List.drop_zero])
       iterate 1 (refine detSeq_op rfl ?_ (fun W hW => ?_) ?_;rotate_left;(focus simp only [OpV];go_simp;first | exact rfl | exact ⟨rfl,hW⟩))
       (refine detSeq_op rfl (.bool true) (fun W hW => ?_) ?_;focus (simp only [OpV];go_simp;try (first | exact rfl | exact hW | (have h9:=d2;simp at h9;omega))))
       iterate 1 (refine detSeq_op rfl ?_ (fun W hW => ?_) ?_;rotate_left;(focus simp only [OpV];go_simp;first | exact rfl | exact ⟨rfl,hW⟩))
       iterate 4 (refine detSeq_yes (by kernel_rfl) ?_ (fun W hW => ?_) ?_;rotate_left;(focus simp only [OpV];go_simp;first | exact rfl | exact ⟨rfl,hW⟩))
       (refine detSeq_yes (by kernel_rfl) (.int .i64 (p:Int)) (fun W hW => ?_) ?_;focus (simp only [OpV];go_simp;try (first | exact rfl | exact hW | omega)))
       iterate 3 (refine detSeq_yes (by kernel_rfl) ?_ (fun W hW => ?_) ?_;rotate_left;(focus simp only [OpV];go_simp;first | exact rfl | exact ⟨rfl,hW⟩))
       (refine detSeq_yes (by kernel_rfl) (.bool (leB d.name pn)) (fun W hW => ?_) ?_;focus (simp only [OpV];go_simp;try (first | exact rfl | exact hW | exact ⟨rfl,hW⟩)))
       refine detSeq_nil (fun W3 hW3 => ?_)
       have HB3:=Lib.hid (HB2.out.trans (hW3.mono HB2.out.size))
       clear J2 K0 hW3
       have HLE:=Lib.hid (leB_iff d.name pn)
       generalize leB d.name pn = le at HLE ⊢
       cases le with
       | true =>
        have hv:=Lib.hid (HBAD.out 7 (HA3.out.trans (if_pos ⟨HPOS.out,HLE.out.1 rfl⟩)) (by omega))
        go_wp2_with fail
        go_ret
        exact ⟨ret_int hv.out.symm,HB3.out⟩
       | false =>
        have hok:=Lib.hid (HNX.out (HA3.out.trans (if_neg (fun c => by have:=HLE.out.2 c.2;cases this))))
        go_wp2_with fail
        go_roundw
        case rel => exact ⟨i + 1,by omega,by go_num,hok,HB3⟩
        case measure => simp [intOf];omega
     ·have k3:(ie != 0) = true:=by simpa using g3
      have hv:=Lib.hid (HBAD.out ie (HA1.out.trans (if_pos g3)) g3)
      clear g3
      go_wp2_with fail
      go_ret
      exact ⟨ret_int hv.out.symm,HB2.out⟩
   ·have hie:i = fs.length:=by omega
    subst hie
    have hv:=Lib.hid (HV.out.trans h0.out)
    go_wp2_with fail
    go_ret
    exact ⟨ret_int hv.out.symm,hb.out⟩
open Go.RowKit
structure EvD where
 id:ByteArray
 name:ByteArray
 at_:Int
 kind:Int
 text:ByteArray
 fa:Option Addr
 fc:Nat
 fields:List FD
instance:Inhabited EvD:=⟨⟨⟨#[]⟩,⟨#[]⟩,0,0,⟨#[]⟩,none,0,[]⟩⟩
def fEv (e:EvD):Nat → Value
 | 0 => .string e.id
 | 1 => .string e.name
 | 2 => .int .i64 e.at_
 | 3 => .int .i64 e.kind
 | 4 => .string e.text
 | _ => .slice e.fa e.fields.length e.fc
def evE (ok:ByteArray → Bool) (e:EvD):Int :=
 if isKey e.id = false ∨ isKey e.name = false then 5 else if ¬ (0 ≤ e.at_ ∧ e.at_ ≤ 4321439) then 1 else if idErr e.kind e.text ≠ 0 then idErr e.kind e.text else fdsE ok e.fields
def evLt (a b:EvD):Bool:=decide (a.at_ < b.at_) || (decide (a.at_ = b.at_) && decide (cmpS a.id b.id < 0))
structure EvIn (H:Frz) (e:EvD):Prop where
 fds:Rw H e.fa 4 fFd e.fields
 fl:e.fields.length ≤ 1000
 idz:e.id.size ≤ 1000
 nmz:e.name.size ≤ 1000
 txt:e.text.size ≤ 10000
 fdt:FdB e.fields
theorem EvIn.le {H H':Frz} {e:EvD} (h:EvIn H e) (hl:H.Le H'):EvIn H' e:=⟨h.fds.le hl,h.fl,h.idz,h.nmz,h.txt,h.fdt⟩
structure RightEs (es:List EvD):Prop where
 one:∀ e ∈ es,evE okT e = 0
 ord:es.Pairwise fun a b => evLt a b = true
 own:es.Pairwise fun a b => a.id ≠ b.id
theorem evLt_trans {a b c:EvD} (h:evLt a b = true) (h':evLt b c = true):evLt a c = true:=by
 unfold evLt at *
 simp only [Bool.or_eq_true,Bool.and_eq_true,decide_eq_true_eq] at *
 rcases h with h | ⟨h1,h2⟩
 ·rcases h' with g | ⟨g1,g2⟩
  ·left;omega
  ·left;omega
 ·rcases h' with g | ⟨g1,g2⟩
  ·left;omega
  ·refine Or.inr ⟨by omega,?_⟩
   have:=cmpS_ok.trans a.id b.id c.id (by omega) (by omega)
   have s1:=cmpS_ok.swap a.id c.id
   have s2:=cmpS_ok.swap a.id b.id
   by_cases e:cmpS a.id c.id = 0
   ·exfalso
    have h3:=cmpS_ok.trans b.id c.id a.id (by omega) (by omega)
    omega
   ·omega
theorem evLt_irrefl (a:EvD):evLt a a = false:=by
 unfold evLt
 have:=cmpS_ok.swap a.id a.id
 have e:cmpS a.id a.id = 0:=by omega
 simp [e]
def evCf (a b:EvD):Int:=if evLt a b = true then -1 else 1
end Go.Proofs.YtfmnlpmgakgleaaGreatDoor
