/- Texts of this claim, put together: Key, Idx, StrP, Cmp. -/
import Derived.Test.YtfmnlpmgakgleaaGreatDoorGAC
namespace Go.Proofs.YtfmnlpmgakgleaaGreatDoor
set_option linter.unusedVariables false
open Go.RowKit
theorem ret_bool' {a b:Bool} (h:a = b):Ending.returned (.bool a) = .returned (.bool b):=by rw [h]
def smallB (c:UInt8):Bool:=decide ((97:Int) ≤ c.toNat) && decide ((c.toNat:Int) ≤ 122)
def digitB (c:UInt8):Bool:=decide ((48:Int) ≤ c.toNat) && decide ((c.toNat:Int) ≤ 57)
def keyC (c:UInt8):Bool:=smallB c || digitB c || ((c.toNat:Int) == 45) || ((c.toNat:Int) == 95)
def allB (p:UInt8 → Bool) (s:ByteArray):Bool:=s.data.toList.all p
def isKey (s:ByteArray):Bool:=decide (1 ≤ s.size ∧ s.size ≤ 40) && ((s.data.toList.head?.map smallB).getD false && allB keyC s)
theorem isKey_size {s:ByteArray} (h:isKey s = true):1 ≤ s.size ∧ s.size ≤ 40:=by simp [isKey] at h;exact h.1
set_option maxHeartbeats 400000 in
theorem pwithin_any (n l h:Int) (w:World):Calls Tryz.prog 118 #[.int .i64 n,.int .i64 l,.int .i64 h] w fun e w' => e = .returned (.bool (decide (l ≤ n) && decide (n ≤ h))) ∧ w = w':=by
 by_cases h1:l ≤ n
 ·go_enter Tryz.func118,Tryz.ntmps118
  go_wp2
  go_ret
  exact ⟨by simp [h1],rfl⟩
 ·go_enter Tryz.func118,Tryz.ntmps118
  go_wp2
  go_ret
  exact ⟨by simp;omega,rfl⟩
theorem small_any (c:UInt8) (w:World):Calls Tryz.prog 119 #[.int .u8 (c.toNat:Int)] w fun e w' => e = .returned (.bool (smallB c)) ∧ w = w':=by
 unfold smallB
 generalize (c.toNat:Int) = n
 by_cases h1:97 ≤ n
 ·go_enter Tryz.func119,Tryz.ntmps119
  go_wp2
  go_ret
  exact ⟨by simp [h1],rfl⟩
 ·go_enter Tryz.func119,Tryz.ntmps119
  go_wp2
  go_ret
  exact ⟨by simp;omega,rfl⟩
theorem digit_any (c:UInt8) (w:World):Calls Tryz.prog 122 #[.int .u8 (c.toNat:Int)] w fun e w' => e = .returned (.bool (digitB c)) ∧ w = w':=by
 unfold digitB
 generalize (c.toNat:Int) = n
 by_cases h1:48 ≤ n
 ·go_enter Tryz.func122,Tryz.ntmps122
  go_wp2
  go_ret
  exact ⟨by simp [h1],rfl⟩
 ·go_enter Tryz.func122,Tryz.ntmps122
  go_wp2
  go_ret
  exact ⟨by simp;omega,rfl⟩
set_option maxHeartbeats 400000 in
theorem keyC_any (c:UInt8) (w:World):Calls Tryz.prog 121 #[.int .u8 (c.toNat:Int)] w fun e w' => e = .returned (.bool (keyC c)) ∧ w = w':=by
 go_enter Tryz.func121,Tryz.ntmps121
 go_wp2_with fail
 refine (small_any c _).mono ?_
 rintro e w' ⟨rfl,rfl⟩
 generalize hs:smallB c = q1
 have HS:=Lib.hid hs
 clear hs
 cases q1 with
 | true =>
  go_wp2_with fail
  go_ret
  exact ⟨ret_bool' (by unfold keyC;rw [HS.out];rfl),rfl⟩
 | false =>
  go_wp2_with fail
  refine (digit_any c _).mono ?_
  rintro e w' ⟨rfl,rfl⟩
  generalize hd:digitB c = q2
  have HD:=Lib.hid hd
  clear hd
  cases q2 with
  | true =>
   go_wp2_with fail
   go_ret
   exact ⟨ret_bool' (by unfold keyC;rw [HS.out,HD.out];rfl),rfl⟩
  | false =>
   cases h:((c.toNat:Int) == 45) with
   | true =>
    have HN:=Lib.hid h
    go_wp2_with fail
    go_ret
    exact ⟨ret_bool' (by unfold keyC;rw [HS.out,HD.out,HN.out];rfl),rfl⟩
   | false =>
    have HN:=Lib.hid h
    go_wp2_with fail
    go_ret
    exact ⟨ret_bool' (by unfold keyC;rw [HS.out,HD.out,HN.out];rfl),rfl⟩
theorem take_snoc' (s:ByteArray) (k:Nat) (h:k < s.size):s.data.toList.take (k + 1) = s.data.toList.take k ++ [s[k]]:=by
 rw [List.take_succ_eq_append_getElem (by simpa using h)];rfl
set_option maxHeartbeats 400000 in
theorem all_any (k:Nat) (p:UInt8 → Bool) (hp:∀ (c:UInt8) (W:World),Calls Tryz.prog k #[.int .u8 (c.toNat:Int)] W fun e W' => e = .returned (.bool (p c)) ∧ W = W')
  (hcall:∀ (a:Value) (W:World),(callFunc k #[a]).run Tryz.prog W = .ok (.enter k #[a]) W) (s:ByteArray) (w:World) (hs:s.size ≤ 1000000000) :
  Calls Tryz.prog 120 #[.string s,.func (.func k) #[] #[]] w fun e w' => e = .returned (.bool (allB p s)) ∧ w = w':=by
 have HP:=Lib.hid hp
 clear hp
 go_enter Tryz.func120,Tryz.ntmps120
 go_wp2_with fail
 go_loop [8] (fun t => ∃ i:Nat,i ≤ s.size ∧ t = .int .i64 i ∧ Hid ((s.data.toList.take i).all p = true)) (fun t => s.size - (intOf t).toNat)
 case atStart => exact ⟨0,by omega,rfl,rfl⟩
 case round =>
  obtain ⟨i,hi,rfl,hall⟩:=hrel
  by_cases hlt:i < s.size
  ·have ht:=Lib.hid (take_snoc' s i hlt)
   have hm:Hid (s[i] ∈ s.data.toList):=by show s.data[i] ∈ _;simp
   go_wp2_with fail
   refine (HP.out s[i] _).mono ?_
   rintro e w' ⟨rfl,rfl⟩
   generalize s[i] = c at ht hm ⊢
   cases hc:p c with
   | false =>
    have HC:=Lib.hid hc
    clear hc
    go_wp2_with fail
    go_ret
    refine ⟨ret_bool' ?_,rfl⟩
    cases e:allB p s with
    | false => rfl
    | true => have:=List.all_eq_true.1 e _ hm.out;rw [HC.out] at this;cases this
   | true =>
    have HC:=Lib.hid hc
    clear hc
    go_wp2_with fail
    go_round
    case rel => exact ⟨i + 1,by omega,by go_num,by show _ = true;rw [ht.out,List.all_append,hall.out];simp [HC.out]⟩
    case measure => simp [intOf];omega
  ·go_wp2_with fail
   go_ret
   refine ⟨ret_bool' ?_,rfl⟩
   have:=hall.out
   rw [List.take_of_length_le (by simp;omega)] at this
   exact this.symm
set_option maxHeartbeats 400000 in
theorem isKey_any (s:ByteArray) (w:World) (hs:s.size ≤ 1000000000) :
  Calls Tryz.prog 64 #[.string s] w fun e w' => e = .returned (.bool (isKey s)) ∧ w = w':=by
 by_cases h1:1 ≤ s.size ∧ s.size ≤ 40
 ·have h2:(decide ((1:Int) ≤ (s.size:Int)) && decide ((s.size:Int) ≤ 40)) = true:=by simp;omega
  have h0:0 < s.size:=by omega
  have H2:=Lib.hid h2
  have hh:Hid (isKey s = (smallB s[0] && allB keyC s)):=by
   show _ = _
   have:s.data.toList.head? = some s[0]:=by
    rw [List.head?_eq_getElem?,List.getElem?_eq_getElem (by simpa using h0)];rfl
   unfold isKey
   rw [this,decide_eq_true h1];simp
  clear h2
  go_enter Tryz.func64,Tryz.ntmps64
  go_wp2_with fail
  refine (pwithin_any _ _ _ _).mono ?_
  rintro e w' ⟨rfl,rfl⟩
  rw [H2.out]
  go_wp2_with fail
  refine (small_any s[0] _).mono ?_
  rintro e w' ⟨rfl,rfl⟩
  generalize smallB s[0] = q at hh
  cases q with
  | false =>
   go_wp2_with fail
   go_ret
   exact ⟨ret_bool' (hh.out.trans (Bool.false_and _)).symm,rfl⟩
  | true =>
   go_wp2_with fail
   refine (all_any 121 keyC keyC_any (fun _ _ => by kernel_rfl) s _ hs).mono ?_
   rintro e w' ⟨rfl,rfl⟩
   generalize allB keyC s = q at hh
   go_wp2_with fail
   go_ret
   exact ⟨ret_bool' (hh.out.trans (Bool.true_and _)).symm,rfl⟩
 ·have h2:(decide ((1:Int) ≤ (s.size:Int)) && decide ((s.size:Int) ≤ 40)) = false:=by simp;omega
  have H2:=Lib.hid h2
  have hh:Hid (isKey s = false):=by show _ = _;unfold isKey;rw [decide_eq_false h1];rfl
  clear h2
  go_enter Tryz.func64,Tryz.ntmps64
  go_wp2_with fail
  refine (pwithin_any _ _ _ _).mono ?_
  rintro e w' ⟨rfl,rfl⟩
  rw [H2.out]
  go_wp2_with fail
  go_ret
  exact ⟨ret_bool' hh.out.symm,rfl⟩
open Go.RowKit
section
variable {D:Type}
end
open Go.RowKit
theorem bl_irrefl (a:List UInt8):Op.bytesLess a a = false:=by
 induction a with
 | nil => rfl
 | cons x a ih => simp [Op.bytesLess,ih]
theorem bl_asymm {a b:List UInt8} (h:Op.bytesLess a b = true):Op.bytesLess b a = false:=by
 induction a generalizing b with
 | nil => cases b <;> simp_all [Op.bytesLess]
 | cons x a ih =>
  cases b with
  | nil => simp [Op.bytesLess] at h
  | cons y b =>
   simp only [Op.bytesLess,Bool.or_eq_true,Bool.and_eq_true,decide_eq_true_eq,beq_iff_eq] at h
   rcases h with h | ⟨rfl,h⟩
   ·have h1:¬ y < x:=UInt8.not_lt.2 (UInt8.le_of_lt h)
    have h2:(y == x) = false:=by simp;rintro rfl;exact UInt8.lt_irrefl _ h
    simp [Op.bytesLess,h1,h2]
   ·simp [Op.bytesLess,ih h]
theorem bl_total {a b:List UInt8} (h1:Op.bytesLess a b = false) (h2:Op.bytesLess b a = false):a = b:=by
 induction a generalizing b with
 | nil => cases b <;> simp_all [Op.bytesLess]
 | cons x a ih =>
  cases b with
  | nil => simp [Op.bytesLess] at h2
  | cons y b =>
   simp only [Op.bytesLess,Bool.or_eq_false_iff,Bool.and_eq_false_iff,decide_eq_false_iff_not,beq_eq_false_iff_ne] at h1 h2
   have hxy:x = y:=UInt8.le_antisymm (UInt8.not_lt.1 h2.1) (UInt8.not_lt.1 h1.1)
   subst hxy
   simp at h1 h2
   rw [ih h1 h2]
theorem bl_trans {a b c:List UInt8} (h1:Op.bytesLess a b = true) (h2:Op.bytesLess b c = true):Op.bytesLess a c = true:=by
 induction a generalizing b c with
 | nil =>
  cases b with
  | nil => simp [Op.bytesLess] at h1
  | cons y b => cases c <;> simp_all [Op.bytesLess]
 | cons x a ih =>
  cases b with
  | nil => simp [Op.bytesLess] at h1
  | cons y b =>
   cases c with
   | nil => simp [Op.bytesLess] at h2
   | cons z c =>
    simp only [Op.bytesLess,Bool.or_eq_true,Bool.and_eq_true,decide_eq_true_eq,beq_iff_eq] at h1 h2 ⊢
    rcases h1 with h1 | ⟨rfl,h1⟩
    ·rcases h2 with h2 | ⟨rfl,h2⟩
     ·exact Or.inl (UInt8.lt_trans h1 h2)
     ·exact Or.inl h1
    ·rcases h2 with h2 | ⟨rfl,h2⟩
     ·exact Or.inl h2
     ·exact Or.inr ⟨rfl,ih h1 h2⟩
def cmpS (a b:ByteArray):Int:=if Op.bytesLess a.toList b.toList then -1 else if a.toList == b.toList then 0 else 1
theorem toList_inj {a b:ByteArray} (h:a.toList = b.toList):a = b:=by
 rw [ByteArray.toList_eq,ByteArray.toList_eq] at h
 exact ByteArray.ext (Array.toList_inj.1 h)
theorem cmpS_self (a:ByteArray):cmpS a a = 0:=by simp [cmpS,bl_irrefl]
theorem cmpS_zero {a b:ByteArray} (h:cmpS a b = 0):a = b:=by
 unfold cmpS at h
 split at h
 ·omega
 ·split at h
  ·rename_i h2
   exact toList_inj (by simpa using h2)
  ·omega
theorem cmpS_vals (a b:ByteArray):cmpS a b = -1 ∨ cmpS a b = 0 ∨ cmpS a b = 1:=by
 unfold cmpS
 split
 ·exact Or.inl rfl
 ·split
  ·exact Or.inr (Or.inl rfl)
  ·exact Or.inr (Or.inr rfl)
theorem cmpS_lt {a b:ByteArray}:cmpS a b < 0 ↔ Op.bytesLess a.toList b.toList = true:=by
 unfold cmpS
 split
 ·simp [*]
 ·rename_i h
  split <;> simp [h]
theorem cmpS_swap (a b:ByteArray):cmpS b a = - cmpS a b:=by
 rcases cmpS_vals a b with h | h | h
 ·have h1:=bl_asymm (cmpS_lt.1 (show cmpS a b < 0 by omega))
  have h2:¬ (b.toList == a.toList) = true:=by
   intro e
   have:b = a:=toList_inj (by simpa using e)
   subst this
   rw [cmpS_self] at h
   omega
  unfold cmpS at h ⊢
  rw [if_neg (by simp [h1]),if_neg h2,h]
  rfl
 ·rw [cmpS_zero h,cmpS_self];rfl
 ·have h1:¬ Op.bytesLess a.toList b.toList = true:=by intro e;have:=cmpS_lt.2 e;omega
  have h2:Op.bytesLess b.toList a.toList = true:=by
   cases e:Op.bytesLess b.toList a.toList with
   | true => rfl
   | false =>
    have:=toList_inj (bl_total (by simpa using h1) e)
    subst this
    rw [cmpS_self] at h
    omega
  have:=cmpS_lt.2 h2
  rcases cmpS_vals b a with g | g | g <;> omega
theorem cmpS_trans {a b c:ByteArray} (h1:cmpS a b < 0) (h2:cmpS b c < 0):cmpS a c < 0:=cmpS_lt.2 (bl_trans (cmpS_lt.1 h1) (cmpS_lt.1 h2))
def fS (s:ByteArray) (_:Nat):Value:=.string s
def Ss (H:Frz) (v:Value) (ss:List ByteArray):Prop:=∃ A cap,v = .slice A ss.length cap ∧ ss.length ≤ cap ∧ Rw H A 1 fS ss ∧ (∀ s ∈ ss,s.size ≤ 1000000) ∧ ss.length ≤ 1000000
theorem Ss.le {H H':Frz} {v:Value} {ss:List ByteArray} (h:Ss H v ss) (hl:H.Le H'):Ss H' v ss:=by
 obtain ⟨A,cap,h1,h0,h2,h3⟩:=h
 exact ⟨A,cap,h1,h0,h2.le hl,h3⟩
theorem Ss.nil (H:Frz):Ss H (.slice none 0 0) []:=⟨none,0,rfl,Nat.le_refl _,Rw.nil,by simp,by simp⟩
theorem Ss.at_ {H:Frz} {A:Option Addr} {ss:List ByteArray} (h:Rw H A 1 fS ss) {W:World} (hH:H.In W) {i:Nat} (hi:i < ss.length) :
  ∃ b off,A = some ⟨b,off,none⟩ ∧ b < W.heap.size ∧ W.cell? ⟨b,off + i,none⟩ = some (.string ss[i]):=by
 obtain ⟨b,off,e,hb,hc⟩:=h.at_ hH hi (by omega)
 exact ⟨b,off,e,hb,by simpa [fS] using hc 0 (by omega)⟩
open Go.RowKit
def cmpI (a b:Int):Int:=if a < b then -1 else if a = b then 0 else 1
theorem cmpI_zero {a b:Int}:cmpI a b = 0 ↔ a = b:=by unfold cmpI;split <;> (try split) <;> omega
def orL:List Int → Int
 | [] => 0
 | x :: l => if x = 0 then orL l else x
set_option maxHeartbeats 400000 in
theorem cmpStr_any (a b:ByteArray) (w:World):Calls Tryz.prog 114 #[.string a,.string b] w fun e w' => e = .returned (.int .i64 (cmpS a b)) ∧ w = w':=by
 cases h1:Op.bytesLess a.toList b.toList with
 | true =>
  have hv:Hid (cmpS a b = -1):=by show _ = _;unfold cmpS;rw [if_pos h1]
  go_enter Tryz.func114,Tryz.ntmps114
  go_wp2
  go_ret
  exact ⟨ret_int hv.out.symm,rfl⟩
 | false =>
  cases h2:(a.toList == b.toList) with
  | true =>
   have hv:Hid (cmpS a b = 0):=by show _ = _;unfold cmpS;rw [if_neg (by simp [h1]),if_pos h2]
   go_enter Tryz.func114,Tryz.ntmps114
   go_wp2
   go_ret
   exact ⟨ret_int hv.out.symm,rfl⟩
  | false =>
   have hv:Hid (cmpS a b = 1):=by show _ = _;unfold cmpS;rw [if_neg (by simp [h1]),if_neg (by simp [h2])]
   go_enter Tryz.func114,Tryz.ntmps114
   go_wp2
   go_ret
   exact ⟨ret_int hv.out.symm,rfl⟩
theorem same_below {w:World} {P:Program} {k:Nat} {args:Array Value} {R:Ending → Prop} (h:Calls P k args w fun e w' => R e ∧ w = w'):Calls P k args w fun e w' => R e ∧ Below w.heap.size w w' :=
 h.mono fun e w' ⟨h1,h2⟩ => ⟨h1,h2 ▸ Below.refl _ _⟩
set_option maxHeartbeats 400000 in
theorem cmpInt_any (a b:Int) (w:World):Calls Tryz.prog 161 #[.int .i64 a,.int .i64 b] w fun e w' => e = .returned (.int .i64 (cmpI a b)) ∧ w = w':=by
 rcases Int.lt_trichotomy a b with h | h | h
 ·have hv:Hid (cmpI a b = -1):=by show _ = _;unfold cmpI;rw [if_pos h]
  go_enter Tryz.func161,Tryz.ntmps161
  go_wp2
  go_ret
  exact ⟨ret_int hv.out.symm,rfl⟩
 ·subst h
  have hv:Hid (cmpI a a = 0):=cmpI_zero.2 rfl
  go_enter Tryz.func161,Tryz.ntmps161
  go_wp2
  go_ret
  exact ⟨ret_int hv.out.symm,rfl⟩
 ·have hv:Hid (cmpI a b = 1):=by show _ = _;unfold cmpI;rw [if_neg (by omega),if_neg (by omega)]
  go_enter Tryz.func161,Tryz.ntmps161
  go_wp2
  go_ret
  exact ⟨ret_int hv.out.symm,rfl⟩
theorem orL_drop_zero {zs:List Int} {i:Nat} (h:i < zs.length) (h0:zs[i] = 0):orL (zs.drop i) = orL (zs.drop (i + 1)):=by
 rw [List.drop_eq_getElem_cons h,orL,if_pos h0]
theorem orL_drop_ne {zs:List Int} {i:Nat} (h:i < zs.length) (h0:zs[i] ≠ 0):orL (zs.drop i) = zs[i]:=by
 rw [List.drop_eq_getElem_cons h,orL,if_neg h0]
set_option maxHeartbeats 400000 in
theorem orL_any (A:Option Addr) (cap:Nat) (zs:List Int) (w:World) (hA:Ints w A zs) (hl:zs.length ≤ 1000000) :
  Calls Tryz.prog 160 #[.slice A zs.length cap] w fun e w' => e = .returned (.int .i64 (orL zs)) ∧ w = w':=by
 have HA:=Lib.hid hA
 clear hA
 go_enter Tryz.func160,Tryz.ntmps160
 go_wp2
 go_loop [8] (fun t => ∃ i:Nat,i ≤ zs.length ∧ t = .int .i64 i ∧ Hid (orL zs = orL (zs.drop i))) (fun t => zs.length - (intOf t).toNat)
 case atStart => exact ⟨0,Nat.zero_le _,rfl,rfl⟩
 case round =>
  obtain ⟨i,hi,rfl,ho⟩:=hrel
  by_cases hlt:i < zs.length
  ·obtain ⟨b,off,rfl,hc⟩:=HA.out i hlt
   have h1:=Lib.hid (orL_drop_zero hlt)
   have h2:=Lib.hid (orL_drop_ne hlt)
   generalize zs[i] = z at hc h1 h2
   by_cases hz:z = 0
   ·have h3:=Lib.hid (ho.out.trans (h1.out hz))
    subst hz
    go_wp2
    go_round
    case rel => exact ⟨i + 1,by omega,by go_num,h3⟩
    case measure => simp [intOf];omega
   ·have hz':(z != 0) = true:=by simpa using hz
    have h3:=Lib.hid (ho.out.trans (h2.out hz))
    clear hz
    go_wp2
    go_ret
    exact ⟨ret_int h3.out.symm,rfl⟩
  ·have h3:=Lib.hid (ho.out.trans (show orL (zs.drop i) = 0 by rw [List.drop_of_length_le (by omega)];rfl))
   go_wp2
   go_ret
   exact ⟨ret_int h3.out.symm,rfl⟩
end Go.Proofs.YtfmnlpmgakgleaaGreatDoor
