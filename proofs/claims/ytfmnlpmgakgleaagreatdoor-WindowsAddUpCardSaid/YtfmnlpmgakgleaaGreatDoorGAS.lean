/- Texts of this claim, put together: RefSign, RefIdP, RefId. -/
import Derived.Test.YtfmnlpmgakgleaaGreatDoorGAP
import Derived.Test.YtfmnlpmgakgleaaGreatDoorGAR
namespace Go.Proofs.YtfmnlpmgakgleaaGreatDoor
set_option linter.unusedVariables false
open Go.RowKit
def sgW (l:List UInt8) (j:Nat):Int:=if (l.length - j) % 2 = 1 then 2 else 1
def sgT (l:List UInt8) (j:Nat):Int:=sgW l j * Lib.indexByte signs (l.getD j 0) / 36 + sgW l j * Lib.indexByte signs (l.getD j 0) % 36
def sgS (l:List UInt8):Nat → Int
 | 0 => 0
 | i + 1 => sgS l i + sgT l i
theorem signSum_w (l:List UInt8):∀ n,(signSum l n).2 = if n % 2 = 0 then 2 else 1
 | 0 => rfl
 | n + 1 => by
  rw [signSum_succ]
  simp only
  rw [signSum_w l n]
  split <;> split <;> omega
theorem sg_eq (l:List UInt8):∀ n,n ≤ l.length → sgS l l.length = sgS l (l.length - n) + (signSum l n).1
 | 0,_ => by simp [signSum]
 | n + 1,h => by
  rw [sg_eq l n (by omega),signSum_succ]
  simp only
  have e:l.length - n = (l.length - 1 - n) + 1:=by omega
  rw [e]
  have e2:l.length - (n + 1) = l.length - 1 - n:=by omega
  rw [e2]
  show sgS l (l.length - 1 - n) + sgT l (l.length - 1 - n) + _ = _
  have hw:(signSum l n).2 = sgW l (l.length - 1 - n):=by
   rw [signSum_w]
   unfold sgW
   split <;> split <;> omega
  rw [hw]
  unfold sgT
  omega
theorem sg_all (l:List UInt8):sgS l l.length = (signSum l l.length).1:=by
 rw [sg_eq l l.length (Nat.le_refl _),Nat.sub_self]
 simp [sgS]
theorem sgT_bd {l:List UInt8} (h:∀ c ∈ l,memC c = true) {j:Nat} (hj:j < l.length):0 ≤ sgT l j ∧ sgT l j ≤ 40:=by
 have hm:l.getD j 0 ∈ l:=by
  rw [List.getD_eq_getElem?_getD,List.getElem?_eq_getElem hj]
  exact List.getElem_mem hj
 have hb:=sign_bd (h _ hm)
 unfold sgT sgW
 generalize Lib.indexByte signs (l.getD j 0) = x at *
 split <;> omega
theorem sgS_bd {l:List UInt8} (h:∀ c ∈ l,memC c = true):∀ i,i ≤ l.length → 0 ≤ sgS l i ∧ sgS l i ≤ 40 * i
 | 0,_ => by simp [sgS]
 | i + 1,hi => by
  have h1:=sgS_bd h i (by omega)
  have h2:=sgT_bd h (show i < l.length by omega)
  show 0 ≤ sgS l i + sgT l i ∧ sgS l i + sgT l i ≤ _
  omega
def refSign (s:ByteArray):Nat:=((36 - (signSum s.data.toList s.size).1 % 36) % 36).toNat
set_option maxHeartbeats 4000000 in
set_option maxRecDepth 100000 in
theorem refSign_any (s:ByteArray) (w:World) (hs:s.size ≤ 1000) (hc:∀ c ∈ s.data.toList,memC c = true):Calls Tryz.prog 214 #[.string s] w fun e w' => e = .returned (.int .i64 (refSign s)) ∧ w = w':=by
 have HC:=Lib.hid hc
 have hzl:s.data.toList.length = s.size:=by simp
 have HBD:=Lib.hid (fun i (h:i ≤ s.size) => sgS_bd hc i (by omega))
 have HZL:=Lib.hid hzl
 have HALL:=Lib.hid (sg_all s.data.toList)
 rw [hzl] at HALL
 clear hc hzl
 go_enter Tryz.func214,Tryz.ntmps214
 go_wp2_with fail
 go_loop [3,9] (fun a t => ∃ i:Nat,i ≤ s.size ∧ t = .int .i64 i ∧ a = .int .i64 (sgS s.data.toList i)) (fun _ t => s.size - (intOf t).toNat)
 case atStart => exact ⟨0,by omega,rfl,rfl⟩
 case round =>
  obtain ⟨i,hi,rfl,rfl⟩:=hrel
  obtain ⟨b1,b2⟩:=HBD.out i hi
  by_cases hlt:i < s.size
  ·have hmem:s[i] ∈ s.data.toList:=by show s.data[i] ∈ _;simp
   have hb:=sign_bd (HC.out _ hmem)
   have hgd:s.data.toList.getD i 0 = s[i]:=by
    rw [List.getD_eq_getElem?_getD,List.getElem?_eq_getElem (by rw [HZL.out];exact hlt)];rfl
   have HNX:Hid (sgS s.data.toList (i + 1) = sgS s.data.toList i + ((if (s.size - i) % 2 = 1 then 2 else 1) * Lib.indexByte signs s[i] / 36 + (if (s.size - i) % 2 = 1 then 2 else 1) * Lib.indexByte signs s[i] % 36)):=by
    show sgS s.data.toList i + sgT s.data.toList i = _
    unfold sgT sgW
    rw [hgd,HZL.out]
   generalize sgS s.data.toList i = su at *
   clear hmem hgd
   go_wp2_with fail
   refine (idxSign_any s[i] _).mono ?_
   rintro e w' ⟨rfl,rfl⟩
   generalize Lib.indexByte signs s[i] = x at HNX hb
   have hx0:=hb.1
   have hx1:=hb.2
   clear hb
   obtain ⟨r,hr⟩:∃ r:Nat,(s.size:Int) - (i:Int) = (r:Int):=⟨s.size - i,by omega⟩
   have hri:s.size - i = r:=by omega
   rw [hri] at HNX
   have hw1:IntKind.i64.wrap ((s.size:Int) - (i:Int)) = (r:Int):=by rw [hr];exact IntWalk.i64_in _ (by omega)
   have HRI:=Lib.hid hri
   have HR:=Lib.hid hr
   clear hri
   by_cases hp:r % 2 = 1
   ·have hk:((r:Int) % 2 == 1) = true:=by simp;omega
    rw [if_pos hp] at HNX
    clear hp
    go_wp2_with fail
    go_round
    case rel => exact ⟨i + 1,by omega,by go_num,by rw [HNX.out,Int.mul_comm 2 x]⟩
    case measure => simp [intOf];omega
   ·have hk:((r:Int) % 2 == 1) = false:=by simp;omega
    rw [if_neg hp] at HNX
    clear hp
    go_wp2_with fail
    go_round
    case rel => exact ⟨i + 1,by omega,by go_num,by rw [HNX.out,Int.one_mul]⟩
    case measure => simp [intOf];omega
  ·have hie:i = s.size:=by omega
   subst hie
   have hall:=HALL.out
   obtain ⟨c0,hc0⟩:∃ c0:Nat,refSign s = c0:=⟨_,rfl⟩
   have hc1:(c0:Int) = (36 - sgS s.data.toList s.size % 36) % 36:=by
    rw [← hc0,hall]
    unfold refSign
    omega
   have HC0:=Lib.hid hc0
   generalize sgS s.data.toList s.size = su at *
   have hc36:c0 < 36:=by omega
   have hz:(su + (c0:Int)) % 36 = 0:=by omega
   have hfst:∀ j:Nat,j < c0 → (su + (j:Int)) % 36 ≠ 0:=fun j hj => by omega
   have HFST:=Lib.hid hfst
   have HZ:=Lib.hid hz
   clear hall hc0 hc1 hz hfst HALL
   go_wp2_with fail
   go_loop [32] (fun t => ∃ j:Nat,j ≤ c0 ∧ t = .int .i64 j) (fun t => 36 - (intOf t).toNat)
   case atStart => exact ⟨0,by omega,rfl⟩
   case round =>
    obtain ⟨j,hj,rfl⟩:=hrel
    by_cases hjc:j < c0
    ·have hk:((su + (j:Int)) % 36 == 0) = false:=by simpa using HFST.out j hjc
     go_wp2_with fail
     go_round
     case rel => exact ⟨j + 1,by omega,by go_num⟩
     case measure => simp [intOf];omega
    ·have hje:j = c0:=by omega
     subst hje
     have hk:((su + (j:Int)) % 36 == 0) = true:=by simpa using HZ.out
     go_wp2_with fail
     go_ret
     exact ⟨ret_int (by rw [HC0.out]),rfl⟩
open Go.RowKit
theorem trim_ends {l:List UInt8} {c:UInt8} (h:Lib.trimB l c = l):l.head? ≠ some c ∧ l.getLast? ≠ some c:=by
 unfold Lib.trimB Lib.trimRightB Lib.trimLeftB at h
 constructor
 ·intro e
  have h2:=List.head?_dropWhile_not (fun x => x == c) (l.reverse.dropWhile (fun x => x == c)).reverse
  rw [h] at h2
  rw [e] at h2
  simp at h2
 ·intro e
  have h1:l.reverse.head? = some c:=by rw [List.head?_reverse];exact e
  have h3:(l.reverse.dropWhile (fun x => x == c)).length < l.length:=by
   cases hr:l.reverse with
   | nil => rw [hr] at h1;cases h1
   | cons a t =>
    rw [hr] at h1
    have ea:a = c:=by simpa using h1
    have hl:l.length = t.length + 1:=by rw [← List.length_reverse,hr];simp
    rw [List.dropWhile_cons_of_pos (by simp [ea])]
    have:=(List.dropWhile_sublist (fun x => x == c) (l:=t)).length_le
    omega
  have h4:=(List.dropWhile_sublist (fun x => x == c) (l:=(l.reverse.dropWhile (fun x => x == c)).reverse)).length_le
  rw [h,List.length_reverse] at h4
  omega
theorem head_byte {s:ByteArray} {c:UInt8} (h0:0 < s.size) (h:s.data.toList.head? ≠ some c):byteAt s 0 ≠ (c.toNat:Int):=by
 intro e
 apply h
 have hz:s.data.toList.length = s.size:=by simp
 unfold byteAt at e
 rw [List.getD_eq_getElem?_getD,List.getElem?_eq_getElem (by omega),Option.getD_some] at e
 rw [List.head?_eq_getElem?,List.getElem?_eq_getElem (by omega)]
 exact congrArg some (UInt8.toNat_inj.1 (Int.ofNat_inj.1 e))
theorem last_byte {s:ByteArray} {c:UInt8} (h0:0 < s.size) (h:s.data.toList.getLast? ≠ some c):byteAt s (s.size - 1) ≠ (c.toNat:Int):=by
 intro e
 apply h
 have hz:s.data.toList.length = s.size:=by simp
 unfold byteAt at e
 rw [List.getD_eq_getElem?_getD,List.getElem?_eq_getElem (by omega),Option.getD_some] at e
 rw [List.getLast?_eq_getElem?,hz,List.getElem?_eq_getElem (by omega)]
 exact congrArg some (UInt8.toNat_inj.1 (Int.ofNat_inj.1 e))
def mailSigns:ByteArray:=⟨#[97,98,99,100,101,102,103,104,105,106,107,108,109,110,111,112,113,114,115,116,117,118,119,120,121,122,48,49,50,51,52,53,54,55,56,57,46,45,95]⟩
def labSigns:ByteArray:=⟨#[97,98,99,100,101,102,103,104,105,106,107,108,109,110,111,112,113,114,115,116,117,118,119,120,121,122,48,49,50,51,52,53,54,55,56,57,45]⟩
def digSigns:ByteArray:=⟨#[48,49,50,51,52,53,54,55,56,57]⟩
def memSigns:ByteArray:=⟨#[48,49,50,51,52,53,54,55,56,57,65,66,67,68,69,70,71,72,73,74,75,76,77,78,79,80,81,82,83,84,85,86,87,88,89,90]⟩
def devSigns:ByteArray:=⟨#[48,49,50,51,52,53,54,55,56,57,97,98,99,100,101,102]⟩
theorem only_all {cut:ByteArray} {p:UInt8 → Bool} (h:∀ n:Fin 256,cut.data.toList.contains (UInt8.ofNat n.val) = p (UInt8.ofNat n.val)) (s:ByteArray):onlyB s cut = allB p s:=by
 unfold onlyB allB
 apply List.all_congr rfl
 intro c
 have:=h ⟨c.toNat,c.toNat_lt⟩
 simpa using this
theorem only_mail (s:ByteArray):onlyB s mailSigns = allB mailC s:=only_all (by decide +kernel) s
theorem only_lab (s:ByteArray):onlyB s labSigns = allB labC s:=only_all (by decide +kernel) s
theorem only_dig (s:ByteArray):onlyB s digSigns = allB digitB s:=only_all (by decide +kernel) s
theorem only_mem (s:ByteArray):onlyB s memSigns = allB memC s:=only_all (by decide +kernel) s
theorem only_dev (s:ByteArray):onlyB s devSigns = allB devC s:=only_all (by decide +kernel) s
structure LabOk (x:ByteArray):Prop where
 size:1 ≤ x.size ∧ x.size ≤ 30
 all:allB labC x = true
 trim:Lib.trimB x.data.toList 45 = x.data.toList
theorem LabOk.f {x:ByteArray} (h:LabOk x):labelF x = true:=by
 have h0:0 < x.size:=by have:=h.size;omega
 have h1:byteAt x 0 ≠ 45:=head_byte h0 (trim_ends h.trim).1
 have h2:byteAt x (x.size - 1) ≠ 45:=last_byte h0 (trim_ends h.trim).2
 unfold labelF
 rw [if_neg (Decidable.not_not.2 h.size),if_neg h1,if_neg h2]
 exact h.all
structure MailOk (s:ByteArray):Prop where
 two:(Lib.cut s.data.toList [64]).2.2 = true
 size:s.size ≤ 80
 lsize:1 ≤ (localF s).size ∧ (localF s).size ≤ 64
 all:allB mailC (localF s) = true
 trim:Lib.trimB (localF s).data.toList 46 = (localF s).data.toList
 dots:Lib.contains (localF s).data.toList [46,46] = false
 many:2 ≤ (labelsF (domainF s)).length
theorem MailOk.f {s:ByteArray} (h:MailOk s) (hl:∀ x ∈ labelsF (domainF s),LabOk x):mailF s = true:=by
 have h0:0 < (localF s).size:=by have:=h.lsize;omega
 have h1:byteAt (localF s) 0 ≠ 46:=head_byte h0 (trim_ends h.trim).1
 have h2:byteAt (localF s) ((localF s).size - 1) ≠ 46:=last_byte h0 (trim_ends h.trim).2
 have h3:(labelsF (domainF s)).all labelF = true:=List.all_eq_true.2 fun x hx => (hl x hx).f
 unfold mailF
 rw [if_neg (by rw [h.two];simp),if_neg (by have:=h.size;omega),if_neg (Decidable.not_not.2 h.lsize),if_neg h1,if_neg h2,if_neg (by rw [h.dots];simp),if_neg (by rw [h.all];simp),if_neg (by rw [h3];simp)]
 exact decide_eq_true h.many
theorem phone_ok {s:ByteArray} (h1:Lib.hasPrefix s.data.toList [43] = true) (h2:8 ≤ s.size ∧ s.size ≤ 16) (h3:allB digitB (s.extract 1 s.size) = true) (h4:byteAt s 1 ≠ 48):phoneF s = true:=by
 unfold phoneF
 rw [if_neg (by rw [h1];simp),if_neg (Decidable.not_not.2 h2),if_neg (by rw [h3];simp)]
 exact decide_eq_true h4
theorem trimc_any (s:ByteArray) (c:UInt8) (hc:c.toNat < 128) (w:World) (hs:s.size ≤ 1000000):Calls Tryz.prog 212 #[.string s,.string ⟨#[c]⟩] w fun e w' => e = .returned (.string ⟨(Lib.trimB s.data.toList c).toArray⟩) ∧ Below w.heap.size w w':=by
 refine (Tryz.strings_Trim_one s c hc w (by omega)).mono ?_
 rintro e w' ⟨rfl,h⟩
 refine ⟨rfl,?_⟩
 rcases h with rfl | rfl
 ·exact Below.refl _ _
 ·exact (Below.refl _ _).drew
open Go.RowKit
def RefPost (w:World) (z0:Int) (e:Ending) (w':World):Prop:=∃ z:Int,e = .returned (.int .i64 z) ∧ (z = 0 → z0 = 0) ∧ Below w.heap.size w w'
theorem RefPost.bad {w w':World} {z0 z:Int} (hz:z ≠ 0) (hb:Below w.heap.size w w'):RefPost w z0 (.returned (.int .i64 z)) w':=⟨z,rfl,fun h => absurd h hz,hb⟩
theorem RefPost.good {w w':World} {z0:Int} (h:z0 = 0) (hb:Below w.heap.size w w'):RefPost w z0 (.returned (.int .i64 0)) w':=⟨0,rfl,fun _ => h,hb⟩
set_option maxHeartbeats 4000000 in
set_option maxRecDepth 100000 in
theorem refDev_any (s:ByteArray) (w:World) (hs:s.size ≤ 1000000):Calls Tryz.prog 156 #[.agg #[.int .i64 4,.string s]] w (RefPost w (idErr 4 s)):=by
 have HB:=Lib.hid (new1 (w:=w) (.cells #[.int .i64 4,.string s] 39))
 have z0:(w.alloc (.cells #[.int .i64 4,.string s] 39)).cell? ⟨w.heap.size,0,none⟩ = some (.int .i64 4):=newc 0 rfl
 have z1:(w.alloc (.cells #[.int .i64 4,.string s] 39)).cell? ⟨w.heap.size,1,none⟩ = some (.string s):=newc 1 rfl
 go_enter Tryz.func156,Tryz.ntmps156
 by_cases h1:s.size = 32
 ·have k1:((s.size:Int) == 32) = true:=by simp [h1]
  have HS:=Lib.hid h1
  clear h1
  go_wp2_with fail
  refine (only_any s devSigns _ (by omega) (by decide) (ascii_of _ (by decide))).mono ?_
  rintro e w1 ⟨rfl,hb1⟩
  rw [only_dev]
  have HB1:=Lib.hid (HB.out.trans (hb1.mono HB.out.size))
  clear hb1
  cases hq:allB devC s with
  | true =>
   have HF:=Lib.hid (RefPost.good (z0:=idErr 4 s) (by
    show (if deviceF s = true then (0:Int) else 3) = 0
    have:deviceF s = true:=by unfold deviceF;rw [hq,HS.out];rfl
    rw [if_pos this]) HB1.out)
   clear hq
   go_wp2_with fail
   go_ret
   exact HF.out
  | false =>
   have HF:=Lib.hid (RefPost.bad (z0:=idErr 4 s) (z:=3) (by omega) HB1.out)
   clear hq
   go_wp2_with fail
   go_ret
   exact HF.out
 ·have k1:((s.size:Int) == 32) = false:=by simp;omega
  have HF:=Lib.hid (RefPost.bad (z0:=idErr 4 s) (z:=3) (by omega) HB.out)
  clear h1
  go_wp2_with fail
  go_ret
  exact HF.out
set_option maxHeartbeats 4000000 in
set_option maxRecDepth 100000 in
theorem refOth_any (kind:Int) (hk:kind ≠ 1 ∧ kind ≠ 2 ∧ kind ≠ 3 ∧ kind ≠ 4) (s:ByteArray) (w:World) (hs:s.size ≤ 1000000):Calls Tryz.prog 156 #[.agg #[.int .i64 kind,.string s]] w (RefPost w (idErr kind s)):=by
 have HB:=Lib.hid (new1 (w:=w) (.cells #[.int .i64 kind,.string s] 39))
 have z0:(w.alloc (.cells #[.int .i64 kind,.string s] 39)).cell? ⟨w.heap.size,0,none⟩ = some (.int .i64 kind):=newc 0 rfl
 have z1:(w.alloc (.cells #[.int .i64 kind,.string s] 39)).cell? ⟨w.heap.size,1,none⟩ = some (.string s):=newc 1 rfl
 have k1:(kind == 1) = false:=by simpa using hk.1
 have k2:(kind == 2) = false:=by simpa using hk.2.1
 have k3:(kind == 3) = false:=by simpa using hk.2.2.1
 have k4:(kind == 4) = false:=by simpa using hk.2.2.2
 have HF:=Lib.hid (RefPost.bad (z0:=idErr kind s) (z:=4) (by omega) HB.out)
 clear hk
 go_enter Tryz.func156,Tryz.ntmps156
 go_wp2_with fail
 go_ret
 exact HF.out
set_option maxHeartbeats 4000000 in
set_option maxRecDepth 100000 in
theorem refPho_any (s:ByteArray) (w:World) (hs:s.size ≤ 1000000):Calls Tryz.prog 156 #[.agg #[.int .i64 2,.string s]] w (RefPost w (idErr 2 s)):=by
 have HB:=Lib.hid (new1 (w:=w) (.cells #[.int .i64 2,.string s] 39))
 have z0:(w.alloc (.cells #[.int .i64 2,.string s] 39)).cell? ⟨w.heap.size,0,none⟩ = some (.int .i64 2):=newc 0 rfl
 have z1:(w.alloc (.cells #[.int .i64 2,.string s] 39)).cell? ⟨w.heap.size,1,none⟩ = some (.string s):=newc 1 rfl
 have hz:s.data.toList.length = s.size:=by simp
 have HBAD:=Lib.hid (fun W (hW:Below w.heap.size w W) => RefPost.bad (z0:=idErr 2 s) (z:=3) (by omega) hW)
 go_enter Tryz.func156,Tryz.ntmps156
 go_wp2_with fail
 refine (Tryz.strings_CutPrefix s ⟨#[43]⟩ _).mono ?_
 rintro e w1 ⟨rfl,rfl⟩
 cases hp:Lib.hasPrefix s.data.toList [43] with
 | false =>
  have HF:=Lib.hid (HBAD.out _ HB.out)
  clear HBAD hp
  go_wp2_with fail
  go_ret
  exact HF.out
 | true =>
  have htp:(⟨(Lib.trimPrefix s.data.toList [43]).toArray⟩:ByteArray) = s.extract 1 s.size:=by
   rw [ba_drop]
   unfold Lib.trimPrefix
   rw [hp]
   rfl
  rw [show (⟨#[43]⟩:ByteArray).data.toList = [43] from rfl,htp]
  have hpos:0 < s.size:=by
   apply Classical.byContradiction
   intro c
   have:s.data.toList = []:=List.eq_nil_of_length_eq_zero (by omega)
   rw [this] at hp
   cases hp
  have hns:(s.extract 1 s.size).size = s.size - 1:=by rw [ByteArray.size_extract];omega
  have HNS:=Lib.hid hns
  have HOK:Hid (8 ≤ s.size ∧ s.size ≤ 16 → allB digitB (s.extract 1 s.size) = true → byteAt s 1 ≠ 48 → idErr 2 s = 0):=fun h2 h3 h4 => by
   show (if phoneF s = true then (0:Int) else 3) = 0
   rw [if_pos (phone_ok hp h2 h3 h4)]
  have hby:1 < s.size → byteAt s 1 = byteAt (s.extract 1 s.size) 0:=fun h => by
   unfold byteAt
   rw [ba_drop]
   simp [List.getD_eq_getElem?_getD]
  have HBY:=Lib.hid hby
  clear hp htp hby hns
  generalize s.extract 1 s.size = n at *
  go_wp2_with fail
  refine (in_any _ _ _ _).mono ?_
  rintro e w' ⟨rfl,rfl⟩
  by_cases g1:7 ≤ n.size ∧ n.size ≤ 15
  rotate_left
  ·have k1:(decide ((7:Int) ≤ (n.size:Int)) && decide ((n.size:Int) ≤ 15)) = false:=by simp;omega
   rw [k1]
   have HF:=Lib.hid (HBAD.out _ HB.out)
   clear g1 k1
   go_wp2_with fail
   go_ret
   exact HF.out
  have k1:(decide ((7:Int) ≤ (n.size:Int)) && decide ((n.size:Int) ≤ 15)) = true:=by simp;omega
  rw [k1]
  have hn0:0 < n.size:=by omega
  have hn9:=g1.2
  have h816:8 ≤ s.size ∧ s.size ≤ 16:=by have:=HNS.out;omega
  clear g1 k1
  go_wp2_with fail
  refine (only_any n digSigns _ (by omega) (by decide) (ascii_of _ (by decide))).mono ?_
  rintro e w2 ⟨rfl,hb2⟩
  rw [only_dig]
  have HB2:=Lib.hid (HB.out.trans (hb2.mono HB.out.size))
  clear hb2
  cases hq:allB digitB n with
  | false =>
   have HF:=Lib.hid (HBAD.out _ HB2.out)
   clear hq
   go_wp2_with fail
   go_ret
   exact HF.out
  | true =>
   have HQ:=Lib.hid hq
   have HB0:=Lib.hid (byteAt_eq hn0)
   clear hq
   by_cases g2:(n[0].toNat:Int) = 48
   ·have k2:((n[0].toNat:Int) != 48) = false:=by simpa using g2
    have HF:=Lib.hid (HBAD.out _ HB2.out)
    clear g2
    go_wp2_with fail
    go_ret
    exact HF.out
   ·have k2:((n[0].toNat:Int) != 48) = true:=by simpa using g2
    have HF:=Lib.hid (RefPost.good (HOK.out h816 HQ.out (by rw [HBY.out (by omega),HB0.out];exact g2)) HB2.out)
    clear g2
    go_wp2_with fail
    go_ret
    exact HF.out
set_option maxHeartbeats 4000000 in
set_option maxRecDepth 100000 in
theorem refMem_any (s:ByteArray) (w:World) (hs:s.size ≤ 1000000):Calls Tryz.prog 156 #[.agg #[.int .i64 3,.string s]] w (RefPost w (idErr 3 s)):=by
 have HB:=Lib.hid (new1 (w:=w) (.cells #[.int .i64 3,.string s] 39))
 have z0:(w.alloc (.cells #[.int .i64 3,.string s] 39)).cell? ⟨w.heap.size,0,none⟩ = some (.int .i64 3):=newc 0 rfl
 have z1:(w.alloc (.cells #[.int .i64 3,.string s] 39)).cell? ⟨w.heap.size,1,none⟩ = some (.string s):=newc 1 rfl
 have HBAD:=Lib.hid (fun W (hW:Below w.heap.size w W) => RefPost.bad (z0:=idErr 3 s) (z:=3) (by omega) hW)
 have HSUM:=Lib.hid (fun W (hW:Below w.heap.size w W) => RefPost.bad (z0:=idErr 3 s) (z:=15) (by omega) hW)
 go_enter Tryz.func156,Tryz.ntmps156
 go_wp2_with fail
 refine (in_any _ _ _ _).mono ?_
 rintro e w' ⟨rfl,rfl⟩
 generalize w.alloc (.cells #[.int .i64 3,.string s] 39) = W1 at *
 by_cases g1:4 ≤ s.size ∧ s.size ≤ 20
 rotate_left
 ·have k1:(decide ((4:Int) ≤ (s.size:Int)) && decide ((s.size:Int) ≤ 20)) = false:=by simp;omega
  rw [k1]
  clear g1 k1
  go_upto_region 19 with (fail)
  (refine wp_region_det 15 139 (fun W => Below (W1).heap.size (W1) W) (by kernel_rfl) (by kernel_rfl) (by rfl) (Below.refl _ _).drew ?_;simp only [List.take_succ_cons,List.take_zero,List.drop_succ_cons,List.drop_zero])
  iterate 2 (refine detSeq_op rfl ?_ (fun W hW => ?_) ?_;rotate_left;(focus simp only [OpV];go_simp;first | exact rfl | exact ⟨rfl,hW⟩))
  iterate 13 (refine detSeq_no (by kernel_rfl) ?_)
  refine detSeq_nil (fun W3 hW3 => ?_)
  have HF:=Lib.hid (HBAD.out _ (HB.out.trans (hW3.mono HB.out.size)))
  clear hW3
  go_wp2_with fail
  go_ret
  exact HF.out
 have k1:(decide ((4:Int) ≤ (s.size:Int)) && decide ((s.size:Int) ≤ 20)) = true:=by simp;omega
 rw [k1]
 clear k1
 go_wp2_with fail
 refine (only_any s memSigns _ (by omega) (by decide) (ascii_of _ (by decide))).mono ?_
 rintro e W2 ⟨rfl,hb2⟩
 rw [only_mem]
 have HB2:=Lib.hid (HB.out.trans (hb2.mono HB.out.size))
 clear hb2 z0 z1
 cases hq:allB memC s with
 | false =>
  clear hq
  go_upto_region 19 with (fail)
  (refine wp_region_det 15 139 (fun W => Below (W2).heap.size (W2) W) (by kernel_rfl) (by kernel_rfl) (by rfl) (Below.refl _ _).drew ?_;simp only [List.take_succ_cons,List.take_zero,List.drop_succ_cons,List.drop_zero])
  iterate 2 (refine detSeq_op rfl ?_ (fun W hW => ?_) ?_;rotate_left;(focus simp only [OpV];go_simp;first | exact rfl | exact ⟨rfl,hW⟩))
  iterate 13 (refine detSeq_no (by kernel_rfl) ?_)
  refine detSeq_nil (fun W3 hW3 => ?_)
  have HF:=Lib.hid (HBAD.out _ (HB2.out.trans (hW3.mono HB2.out.size)))
  clear hW3
  go_wp2_with fail
  go_ret
  exact HF.out
 | true =>
  have hmf:memberF s = true:=by unfold memberF;rw [hq,decide_eq_true g1];rfl
  have hall:=allB_mem hq
  have hz:s.data.toList.length = s.size:=by simp
  have hpd:(s.extract 0 (s.size - 1)).data.toList = s.data.toList.take (s.size - 1):=by
   rw [ByteArray.data_extract,Array.toList_extract]
   simp [List.extract]
  have hps:(s.extract 0 (s.size - 1)).size = s.size - 1:=by rw [ByteArray.size_extract];omega
  have HCS:=Lib.hid (fun W => refSign_any (s.extract 0 (s.size - 1)) W (by rw [hps];omega) (fun c hc => hall c (by rw [hpd] at hc;exact List.mem_of_mem_take hc)))
  obtain ⟨cs,hcs⟩:∃ cs,refSign (s.extract 0 (s.size - 1)) = cs:=⟨_,rfl⟩
  have hc36:cs < 36:=by
   rw [← hcs]
   unfold refSign
   omega
  have HOK:Hid ((memSigns[cs]'(show cs < memSigns.size from hc36)).toNat = (byteAt s (s.size - 1)) → idErr 3 s = 0):=fun h => by
   show (if memberF s = false then (3:Int) else if signF (s.extract 0 (s.size - 1)) ≠ byteAt s (s.size - 1) then 15 else 0) = 0
   rw [if_neg (by rw [hmf];simp)]
   have hsf:signF (s.extract 0 (s.size - 1)) = ((memSigns[cs]'(show cs < memSigns.size from hc36)).toNat:Int):=by
    unfold signF
    unfold refSign at hcs
    rw [hcs,List.getD_eq_getElem?_getD,List.getElem?_eq_getElem (show cs < signs.length from hc36)]
    rfl
   rw [if_neg (by rw [hsf,h];simp)]
  rw [hcs] at HCS
  obtain ⟨L,hL⟩:∃ L,s.size - 1 = L:=⟨_,rfl⟩
  have hl0:L < s.size:=by omega
  have HBL:=Lib.hid (byteAt_eq hl0)
  rw [hL] at HCS HOK
  have a1:IntKind.i64.wrap ((s.size:Int) - 1) = (L:Int):=by rw [show (s.size:Int) - 1 = (L:Int) by omega];exact IntWalk.i64_in _ (by omega)
  have a2:(s.size:Int) - 1 = (L:Int):=by omega
  have a7:IntKind.i64.wrap (L:Int) = (L:Int):=IntWalk.i64_in _ (by omega)
  have a3:(L:Int) ≤ s.size:=by omega
  have a4:(0:Int) ≤ (L:Int):=by omega
  have a5:L ≤ s.size:=by omega
  have a6:(cs:Int) < 36:=by omega
  clear hcs hq hmf hall hz hpd hps hL
  have HOK2:Hid ((s[L].toNat:Int) = ((memSigns[cs]'(show cs < memSigns.size from hc36)).toNat:Int) → idErr 3 s = 0):=fun h => HOK.out (by rw [HBL.out,h])
  generalize hmc:(memSigns[cs]'(show cs < memSigns.size from hc36)) = mc at HOK2
  go_upto_region 19 with (fail)
  clear HOK HBL
  (refine wp_region_det 15 139 (fun W => Below (W2).heap.size (W2) W) (by kernel_rfl) (by kernel_rfl) (by rfl) (Below.refl _ _).drew ?_;simp only [List.take_succ_cons,List.take_zero,List.drop_succ_cons,List.drop_zero])
  iterate 2 (refine detSeq_op rfl ?_ (fun W hW => ?_) ?_;rotate_left;(focus simp only [OpV];go_simp;first | exact rfl | exact ⟨rfl,hW⟩))
  iterate 3 (refine detSeq_yes (by kernel_rfl) ?_ (fun W hW => ?_) ?_;rotate_left;(focus simp only [OpV];go_simp;first | exact rfl | exact ⟨rfl,hW⟩))
  (refine detSeq_yes (by kernel_rfl) (.int .i64 (L:Int)) (fun W hW => ?_) ?_;focus (simp only [OpV];go_simp;first | exact rfl | exact ⟨rfl,hW⟩ | exact hW | trace_state))
  (refine detSeq_yes (by kernel_rfl) (.string (s.extract 0 L)) (fun W hW => ?_) ?_;focus (simp only [OpV];go_simp;first | exact rfl | exact ⟨rfl,hW⟩ | exact hW | trace_state))
  (refine detSeq_yes (by kernel_rfl) (.int .i64 (cs:Int)) (fun W hW => ?_) ?_;focus (simp only [OpV];go_simp;refine (HCS.out W).mono ?_;rintro e w' ⟨rfl,rfl⟩;exact ⟨_,rfl,rfl,hW⟩))
  (refine detSeq_yes (by kernel_rfl) (.int .u8 (mc.toNat:Int)) (fun W hW => ?_) ?_;focus (simp only [OpV];go_simp;first | exact congrArg (fun c:UInt8 => (c.toNat:Int)) hmc | exact ⟨congrArg (fun c:UInt8 => (c.toNat:Int)) hmc,hW⟩))
  iterate 3 (refine detSeq_yes (by kernel_rfl) ?_ (fun W hW => ?_) ?_;rotate_left;(focus simp only [OpV];go_simp;first | exact rfl | exact ⟨rfl,hW⟩))
  (refine detSeq_yes (by kernel_rfl) (.int .i64 (L:Int)) (fun W hW => ?_) ?_;focus (simp only [OpV];go_simp;first | exact rfl | exact ⟨rfl,hW⟩ | exact hW | trace_state))
  (refine detSeq_yes (by kernel_rfl) (.int .u8 (s[L].toNat:Int)) (fun W hW => ?_) ?_;focus (simp only [OpV];go_simp;first | exact rfl | exact ⟨rfl,hW⟩ | exact hW | trace_state))
  (refine detSeq_yes (by kernel_rfl) (.bool ((mc.toNat:Int) != (s[L].toNat:Int))) (fun W hW => ?_) ?_;focus (simp only [OpV];go_simp;first | exact rfl | exact ⟨rfl,hW⟩ | exact hW | trace_state))
  refine detSeq_nil (fun W3 hW3 => ?_)
  have HB3:=Lib.hid (HB2.out.trans (hW3.mono HB2.out.size))
  clear hW3
  by_cases g2:(s[L].toNat:Int) = (mc.toNat:Int)
  ·have k2:((mc.toNat:Int) != (s[L].toNat:Int)) = false:=by rw [g2];simp
   have HF:=Lib.hid (RefPost.good (HOK2.out g2) HB3.out)
   rw [k2]
   clear g2 k2
   go_wp2_with fail
   go_ret
   exact HF.out
  ·have k2:((mc.toNat:Int) != (s[L].toNat:Int)) = true:=by simp;exact fun c => g2 c.symm
   have HF:=Lib.hid (HSUM.out _ HB3.out)
   rw [k2]
   clear g2 k2
   go_wp2_with fail
   go_ret
   exact HF.out
end Go.Proofs.YtfmnlpmgakgleaaGreatDoor
