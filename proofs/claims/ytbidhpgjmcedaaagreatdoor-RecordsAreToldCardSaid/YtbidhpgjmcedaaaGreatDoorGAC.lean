/- Texts of this claim, put together: Key, IdP, NormP, BytesW, Idx. -/
import Derived.Test.YtbidhpgjmcedaaaGreatDoorGAB
import Derived.Lib.Split
import Derived.Lib.IndexBytes
import Derived.Lib.TrimByte
import Derived.Laws.IdiomStrings
import Derived.Deep.Cut
namespace Go.Proofs.YtbidhpgjmcedaaaGreatDoor
set_option linter.unusedVariables false
open Go.RowKit
theorem ret_bool' {a b : Bool} (h : a = b) : Ending.returned (.bool a) = .returned (.bool b):=by rw [h]
def smallB (c : UInt8) : Bool:=decide ((97 : Int) ≤ c.toNat) && decide ((c.toNat : Int) ≤ 122)
def digitB (c : UInt8) : Bool:=decide ((48 : Int) ≤ c.toNat) && decide ((c.toNat : Int) ≤ 57)
def keyC (c : UInt8) : Bool:=smallB c || digitB c || ((c.toNat : Int) == 45) || ((c.toNat : Int) == 95)
def allB (p : UInt8 → Bool) (s : ByteArray) : Bool:=s.data.toList.all p
def isKey (s : ByteArray) : Bool:=decide (1 ≤ s.size ∧ s.size ≤ 40) && ((s.data.toList.head?.map smallB).getD false && allB keyC s)
theorem isKey_size {s : ByteArray} (h : isKey s = true) : 1 ≤ s.size ∧ s.size ≤ 40:=by simp [isKey] at h; exact h.1
set_option maxHeartbeats 400000 in
theorem pwithin_any (n l h : Int) (w : World) : Calls Tryz.prog 73 #[.int .i64 n,.int .i64 l,.int .i64 h] w fun e w' => e = .returned (.bool (decide (l ≤ n) && decide (n ≤ h))) ∧ w = w':=by
 by_cases h1 : l ≤ n
 ·go_enter Tryz.func73,Tryz.ntmps73
  go_wp2
  go_ret
  exact ⟨by simp [h1],rfl⟩
 ·go_enter Tryz.func73,Tryz.ntmps73
  go_wp2
  go_ret
  exact ⟨by simp; omega,rfl⟩
theorem small_any (c : UInt8) (w : World) : Calls Tryz.prog 140 #[.int .u8 (c.toNat : Int)] w fun e w' => e = .returned (.bool (smallB c)) ∧ w = w':=by
 unfold smallB
 generalize (c.toNat : Int) = n
 by_cases h1 : 97 ≤ n
 ·go_enter Tryz.func140,Tryz.ntmps140
  go_wp2
  go_ret
  exact ⟨by simp [h1],rfl⟩
 ·go_enter Tryz.func140,Tryz.ntmps140
  go_wp2
  go_ret
  exact ⟨by simp; omega,rfl⟩
theorem digit_any (c : UInt8) (w : World) : Calls Tryz.prog 90 #[.int .u8 (c.toNat : Int)] w fun e w' => e = .returned (.bool (digitB c)) ∧ w = w':=by
 unfold digitB
 generalize (c.toNat : Int) = n
 by_cases h1 : 48 ≤ n
 ·go_enter Tryz.func90,Tryz.ntmps90
  go_wp2
  go_ret
  exact ⟨by simp [h1],rfl⟩
 ·go_enter Tryz.func90,Tryz.ntmps90
  go_wp2
  go_ret
  exact ⟨by simp; omega,rfl⟩
set_option maxHeartbeats 400000 in
theorem keyC_any (c : UInt8) (w : World) : Calls Tryz.prog 141 #[.int .u8 (c.toNat : Int)] w fun e w' => e = .returned (.bool (keyC c)) ∧ w = w':=by
 go_enter Tryz.func141,Tryz.ntmps141
 go_wp2_with fail
 refine (small_any c _).mono ?_
 rintro e w' ⟨rfl,rfl⟩
 generalize hs : smallB c = q1
 have HS:=Lib.hid hs
 clear hs
 cases q1 with
 | true =>
  go_wp2_with fail
  go_ret
  exact ⟨ret_bool' (by unfold keyC; rw [HS.out]; rfl),rfl⟩
 | false =>
  go_wp2_with fail
  refine (digit_any c _).mono ?_
  rintro e w' ⟨rfl,rfl⟩
  generalize hd : digitB c = q2
  have HD:=Lib.hid hd
  clear hd
  cases q2 with
  | true =>
   go_wp2_with fail
   go_ret
   exact ⟨ret_bool' (by unfold keyC; rw [HS.out,HD.out]; rfl),rfl⟩
  | false =>
   cases h : ((c.toNat : Int) == 45) with
   | true =>
    have HN:=Lib.hid h
    go_wp2_with fail
    go_ret
    exact ⟨ret_bool' (by unfold keyC; rw [HS.out,HD.out,HN.out]; rfl),rfl⟩
   | false =>
    have HN:=Lib.hid h
    go_wp2_with fail
    go_ret
    exact ⟨ret_bool' (by unfold keyC; rw [HS.out,HD.out,HN.out]; rfl),rfl⟩
theorem take_snoc' (s : ByteArray) (k : Nat) (h : k < s.size) : s.data.toList.take (k + 1) = s.data.toList.take k ++ [s[k]]:=by
 rw [List.take_succ_eq_append_getElem (by simpa using h)]; rfl
set_option maxHeartbeats 400000 in
theorem all_any (k : Nat) (p : UInt8 → Bool) (hp : ∀ (c : UInt8) (W : World),Calls Tryz.prog k #[.int .u8 (c.toNat : Int)] W fun e W' => e = .returned (.bool (p c)) ∧ W = W')
  (hcall : ∀ (a : Value) (W : World),(callFunc k #[a]).run Tryz.prog W = .ok (.enter k #[a]) W) (s : ByteArray) (w : World) (hs : s.size ≤ 1000000000) :
  Calls Tryz.prog 89 #[.string s,.func (.func k) #[] #[]] w fun e w' => e = .returned (.bool (allB p s)) ∧ w = w':=by
 have HP:=Lib.hid hp
 clear hp
 go_enter Tryz.func89,Tryz.ntmps89
 go_wp2_with fail
 go_loop [8] (fun t => ∃ i : Nat,i ≤ s.size ∧ t = .int .i64 i ∧ Hid ((s.data.toList.take i).all p = true)) (fun t => s.size - (intOf t).toNat)
 case atStart => exact ⟨0,by omega,rfl,rfl⟩
 case round =>
  obtain ⟨i,hi,rfl,hall⟩:=hrel
  by_cases hlt : i < s.size
  ·have ht:=Lib.hid (take_snoc' s i hlt)
   have hm : Hid (s[i] ∈ s.data.toList):=by show s.data[i] ∈ _; simp
   go_wp2_with fail
   refine (HP.out s[i] _).mono ?_
   rintro e w' ⟨rfl,rfl⟩
   generalize s[i] = c at ht hm ⊢
   cases hc : p c with
   | false =>
    have HC:=Lib.hid hc
    clear hc
    go_wp2_with fail
    go_ret
    refine ⟨ret_bool' ?_,rfl⟩
    cases e : allB p s with
    | false => rfl
    | true => have:=List.all_eq_true.1 e _ hm.out; rw [HC.out] at this; cases this
   | true =>
    have HC:=Lib.hid hc
    clear hc
    go_wp2_with fail
    go_round
    case rel => exact ⟨i + 1,by omega,by go_num,by show _ = true; rw [ht.out,List.all_append,hall.out]; simp [HC.out]⟩
    case measure => simp [intOf]; omega
  ·go_wp2_with fail
   go_ret
   refine ⟨ret_bool' ?_,rfl⟩
   have:=hall.out
   rw [List.take_of_length_le (by simp; omega)] at this
   exact this.symm
set_option maxHeartbeats 400000 in
theorem isKey_any (s : ByteArray) (w : World) (hs : s.size ≤ 1000000000) :
  Calls Tryz.prog 72 #[.string s] w fun e w' => e = .returned (.bool (isKey s)) ∧ w = w':=by
 by_cases h1 : 1 ≤ s.size ∧ s.size ≤ 40
 ·have h2 : (decide ((1 : Int) ≤ (s.size : Int)) && decide ((s.size : Int) ≤ 40)) = true:=by simp; omega
  have h0 : 0 < s.size:=by omega
  have H2:=Lib.hid h2
  have hh : Hid (isKey s = (smallB s[0] && allB keyC s)):=by
   show _ = _
   have : s.data.toList.head? = some s[0]:=by
    rw [List.head?_eq_getElem?,List.getElem?_eq_getElem (by simpa using h0)]; rfl
   unfold isKey
   rw [this,decide_eq_true h1]; simp
  clear h2
  go_enter Tryz.func72,Tryz.ntmps72
  go_wp2_with fail
  refine (pwithin_any _ _ _ _).mono ?_
  rintro e w' ⟨rfl,rfl⟩
  rw [H2.out]
  go_wp2_with fail
  refine (small_any s[0] _).mono ?_
  rintro e w' ⟨rfl,rfl⟩
  generalize smallB s[0] = q at hh
  cases q with
  | false =>
   go_wp2_with fail
   go_ret
   exact ⟨ret_bool' (hh.out.trans (Bool.false_and _)).symm,rfl⟩
  | true =>
   go_wp2_with fail
   refine (all_any 141 keyC keyC_any (fun _ _ => by kernel_rfl) s _ hs).mono ?_
   rintro e w' ⟨rfl,rfl⟩
   generalize allB keyC s = q at hh
   go_wp2_with fail
   go_ret
   exact ⟨ret_bool' (hh.out.trans (Bool.true_and _)).symm,rfl⟩
 ·have h2 : (decide ((1 : Int) ≤ (s.size : Int)) && decide ((s.size : Int) ≤ 40)) = false:=by simp; omega
  have H2:=Lib.hid h2
  have hh : Hid (isKey s = false):=by show _ = _; unfold isKey; rw [decide_eq_false h1]; rfl
  clear h2
  go_enter Tryz.func72,Tryz.ntmps72
  go_wp2_with fail
  refine (pwithin_any _ _ _ _).mono ?_
  rintro e w' ⟨rfl,rfl⟩
  rw [H2.out]
  go_wp2_with fail
  go_ret
  exact ⟨ret_bool' hh.out.symm,rfl⟩
open Go.RowKit
def capB (c : UInt8) : Bool:=decide ((65 : Int) ≤ c.toNat) && decide ((c.toNat : Int) ≤ 90)
def labC (c : UInt8) : Bool:=smallB c || digitB c || ((c.toNat : Int) == 45)
def mailC (c : UInt8) : Bool:=smallB c || digitB c || ((c.toNat : Int) == 46) || ((c.toNat : Int) == 45) || ((c.toNat : Int) == 95)
def memC (c : UInt8) : Bool:=digitB c || capB c
def devC (c : UInt8) : Bool:=digitB c || (decide ((97 : Int) ≤ c.toNat) && decide ((c.toNat : Int) ≤ 102))
def byteAt (s : ByteArray) (i : Nat) : Int:=((s.data.toList.getD i 0).toNat : Int)
def labelF (s : ByteArray) : Bool :=
 if ¬ (1 ≤ s.size ∧ s.size ≤ 30) then false else if byteAt s 0 = 45 then false else if byteAt s (s.size - 1) = 45 then false else allB labC s
def dotB : ByteArray:=⟨#[46]⟩
def localF (s : ByteArray) : ByteArray:=⟨(Lib.cut s.data.toList [64]).1.toArray⟩
def domainF (s : ByteArray) : ByteArray:=⟨(Lib.cut s.data.toList [64]).2.1.toArray⟩
def labelsF (s : ByteArray) : List ByteArray:=Lib.splitB dotB 0 (Lib.countB s dotB) s
def mailF (s : ByteArray) : Bool :=
 if (Lib.cut s.data.toList [64]).2.2 = false then false else if 80 < s.size then false else if ¬ (1 ≤ (localF s).size ∧ (localF s).size ≤ 64) then false
 else if byteAt (localF s) 0 = 46 then false else if byteAt (localF s) ((localF s).size - 1) = 46 then false else if Lib.contains (localF s).data.toList [46,46] = true then false
 else if allB mailC (localF s) = false then false else if (labelsF (domainF s)).all labelF = false then false else decide (2 ≤ (labelsF (domainF s)).length)
def phoneF (s : ByteArray) : Bool :=
 if Lib.hasPrefix s.data.toList [43] = false then false else if ¬ (8 ≤ s.size ∧ s.size ≤ 16) then false else if allB digitB (s.extract 1 s.size) = false then false else decide (byteAt s 1 ≠ 48)
def memberF (s : ByteArray) : Bool:=decide (4 ≤ s.size ∧ s.size ≤ 20) && allB memC s
def deviceF (s : ByteArray) : Bool:=decide (s.size = 32) && allB devC s
def signs : List UInt8:=[48,49,50,51,52,53,54,55,56,57,65,66,67,68,69,70,71,72,73,74,75,76,77,78,79,80,81,82,83,84,85,86,87,88,89,90]
def signSum (l : List UInt8) : Nat → Int × Int
 | 0 => (0,2)
 | n + 1 => ((signSum l n).1 + (signSum l n).2 * Lib.indexByte signs (l.getD (l.length - 1 - n) 0) / 36 + (signSum l n).2 * Lib.indexByte signs (l.getD (l.length - 1 - n) 0) % 36,3 - (signSum l n).2)
def signF (s : ByteArray) : Int:=((signs.getD ((36 - (signSum s.data.toList s.size).1 % 36) % 36).toNat 0).toNat : Int)
def idErr (kind : Int) (s : ByteArray) : Int :=
 if kind = 1 then (if mailF s = true then 0 else 3) else if kind = 2 then (if phoneF s = true then 0 else 3)
 else if kind = 3 then (if memberF s = false then 3 else if signF (s.extract 0 (s.size - 1)) ≠ byteAt s (s.size - 1) then 15 else 0)
 else if kind = 4 then (if deviceF s = true then 0 else 3) else 4
def poolL : List (Int × List UInt8):=[(1,[97,64,98,46,100,101]),(1,[97,110,110,46,98,64,120,45,121,46,111,114,103]),(1,[98,111,98,95,49,64,98,46,100,101]),(1,[122,45,64,48,46,97]),(2,[43,52,57,51,48,49,50,51,52,53,54]),(2,[43,49,53,53,53,48,48,48,49,49,49]),(3,[65,66,49,51]),(3,[48,48,48,48,48,48,48,48,48,48,48,48,48,48,48,48,48,48,48,48]),(4,[48,49,50,51,52,53,54,55,56,57,97,98,99,100,101,102,48,49,50,51,52,53,54,55,56,57,97,98,99,100,101,102]),(4,[102,102,102,102,102,102,102,102,102,102,102,102,102,102,102,102,102,102,102,102,102,102,102,102,102,102,102,102,102,102,102,102])]
theorem pool_right : poolL.all (fun x => idErr x.1 ⟨x.2.toArray⟩ == 0) = true:=by decide +kernel
theorem pool_ok (k : Nat) (h : k < poolL.length) : idErr poolL[k].1 ⟨poolL[k].2.toArray⟩ = 0 ∧ (⟨poolL[k].2.toArray⟩ : ByteArray).size ≤ 1000:=by
 constructor
 ·have:=List.all_eq_true.1 pool_right _ (List.getElem_mem h)
  simpa using this
 ·have : ∀ x ∈ poolL,x.2.length ≤ 1000:=by decide
  exact this _ (List.getElem_mem h)
open Go.RowKit
def lowB (c : UInt8) : UInt8:=if capB c = true then c + 97 - 65 else c
def upB (c : UInt8) : UInt8:=if smallB c = true then c + 65 - 97 else c
def mapS (f : UInt8 → UInt8) (s : ByteArray) : ByteArray:=⟨(s.data.toList.map f).toArray⟩
def outS (bs : List UInt8) (s : ByteArray) : ByteArray:=⟨(s.data.toList.filter fun c => decide (Lib.indexByte bs c < 0)).toArray⟩
def mailN (s : ByteArray) : ByteArray :=
 if (Lib.cut s.data.toList [64]).2.2 = false then s else ⟨((Lib.cut (Lib.cut s.data.toList [64]).1 [43]).1 ++ [64] ++ (Lib.cut s.data.toList [64]).2.1).toArray⟩
def phoneBs : List UInt8:=[32,45,46,47,40,41]
def phoneN1 (s country : ByteArray) : ByteArray :=
 if Lib.hasPrefix s.data.toList [48,48] = true then ⟨([43] ++ s.data.toList.drop 2).toArray⟩
 else if Lib.hasPrefix s.data.toList [48] = true then ⟨([43] ++ country.data.toList ++ s.data.toList.drop 1).toArray⟩
 else if Lib.hasPrefix s.data.toList [43] = false then ⟨([43] ++ country.data.toList ++ s.data.toList).toArray⟩ else s
def phoneN (s country : ByteArray) : ByteArray:=phoneN1 (outS phoneBs s) country
def normS (kind : Int) (s country : ByteArray) : ByteArray :=
 if kind = 1 then mailN (mapS lowB s) else if kind = 2 then phoneN s country else if kind = 3 then outS [32,45] (mapS upB s) else outS [45] (mapS lowB s)
theorem ba_ext {a b : ByteArray} (h : a.data.toList = b.data.toList) : a = b:=by
 cases a with
 | mk x => cases b with
  | mk y => simp at h; simp [h]
theorem mapS_same {f : UInt8 → UInt8} {s : ByteArray} (h : ∀ c ∈ s.data.toList,f c = c) : mapS f s = s:=by
 apply ba_ext
 unfold mapS
 simp only
 conv => rhs; rw [← List.map_id s.data.toList]
 exact List.map_congr_left h
theorem outS_same {bs : List UInt8} {s : ByteArray} (h : ∀ c ∈ s.data.toList,Lib.indexByte bs c < 0) : outS bs s = s:=by
 apply ba_ext
 unfold outS
 simp only
 exact List.filter_eq_self.2 fun c hc => by simpa using h c hc
theorem cutOne_hit {s : List UInt8} {c : UInt8} {i : Nat} (h : Lib.indexByte s c = i) : Lib.cut s [c] = (s.take i,s.drop (i + 1),true) ∧ s = s.take i ++ c :: s.drop (i + 1):=by
 have h1:=Lib.index_one s c
 obtain ⟨h2,_⟩:=Lib.indexByte_some h
 constructor
 ·unfold Lib.cut
  rw [h1,h,if_pos (by omega)]
  simp
 ·obtain ⟨hi,e⟩:=List.getElem?_eq_some_iff.1 h2
  conv => lhs; rw [← List.take_append_drop i s,List.drop_eq_getElem_cons hi,e]
theorem cutOne_miss {s : List UInt8} {c : UInt8} (h : Lib.indexByte s c < 0) : Lib.cut s [c] = (s,[],false):=by
 unfold Lib.cut
 rw [Lib.index_one,if_neg (by omega)]
theorem indexByte_not {s : List UInt8} {c : UInt8} (h : c ∉ s) : Lib.indexByte s c < 0:=by
 apply Classical.byContradiction
 intro hn
 obtain ⟨i,hi⟩ : ∃ i : Nat,Lib.indexByte s c = i:=⟨(Lib.indexByte s c).toNat,by omega⟩
 exact h (List.mem_of_getElem? (Lib.indexByte_some hi).1)
theorem splitK_bytes {p : UInt8 → Bool} : ∀ (k : Nat) (s : List UInt8),(∀ l ∈ Lib.splitK [46] 0 k s,∀ c ∈ l,p c = true) → ∀ c ∈ s,p c = true ∨ c = 46
 | 0,s,h,c,hc => Or.inl (h s (by simp [Lib.splitK]) c hc)
 | k + 1,s,h,c,hc => by
  unfold Lib.splitK at h
  by_cases e : (Lib.index s [46] == -1) = true
  ·rw [if_pos e] at h
   exact Or.inl (h s (by simp) c hc)
  ·rw [if_neg e] at h
   have h1:=Lib.index_one s 46
   have h2:=Lib.index_ge s [46]
   have h3 : Lib.index s [46] ≠ -1:=by simpa using e
   obtain ⟨i,hi⟩ : ∃ i : Nat,Lib.indexByte s 46 = i:=⟨(Lib.indexByte s 46).toNat,by omega⟩
   obtain ⟨_,hs⟩:=cutOne_hit hi
   rw [h1,hi] at h
   simp only [Int.toNat_natCast,Nat.add_zero,List.length_singleton,List.mem_cons,forall_eq_or_imp] at h
   rw [hs] at hc
   rcases List.mem_append.1 hc with hc | hc
   ·exact Or.inl (h.1 c hc)
   ·rcases List.mem_cons.1 hc with hc | hc
    ·exact Or.inr hc
    ·exact splitK_bytes k _ h.2 c hc
theorem allB_mem {p : UInt8 → Bool} {s : ByteArray} (h : allB p s = true) : ∀ c ∈ s.data.toList,p c = true:=by
 unfold allB at h
 exact List.all_eq_true.1 h
theorem mail_bytes {s : ByteArray} (h : mailF s = true) : ∃ a b : List UInt8,Lib.cut s.data.toList [64] = (a,b,true) ∧ s.data.toList = a ++ 64 :: b ∧ (∀ c ∈ a,mailC c = true) ∧ (∀ c ∈ b,labC c = true ∨ c = 46) ∧ s.size ≤ 80:=by
 unfold mailF at h
 split at h
 ·cases h
 rename_i h1
 split at h
 ·cases h
 rename_i h2
 split at h
 ·cases h
 split at h
 ·cases h
 split at h
 ·cases h
 split at h
 ·cases h
 split at h
 ·cases h
 rename_i h3
 split at h
 ·cases h
 rename_i h4
 have hn : ¬ Lib.indexByte s.data.toList 64 < 0:=by
  intro c
  rw [cutOne_miss c] at h1
  exact h1 rfl
 obtain ⟨i,hi⟩ : ∃ i : Nat,Lib.indexByte s.data.toList 64 = i:=⟨(Lib.indexByte s.data.toList 64).toNat,by omega⟩
 obtain ⟨e1,e2⟩:=cutOne_hit hi
 refine ⟨_,_,e1,e2,?_,?_,by omega⟩
 ·have h5 : allB mailC (localF s) = true:=by simpa using h3
  have:=allB_mem h5
  unfold localF at this
  rw [e1] at this
  simpa using this
 ·have h5 : (labelsF (domainF s)).all labelF = true:=by simpa using h4
  have h6 : ∀ l ∈ (labelsF (domainF s)).map (·.data.toList),∀ c ∈ l,labC c = true:=by
   intro l hl c hc
   obtain ⟨x,hx,rfl⟩:=List.mem_map.1 hl
   have:=List.all_eq_true.1 h5 x hx
   unfold labelF at this
   split at this
   ·cases this
   split at this
   ·cases this
   split at this
   ·cases this
   exact allB_mem this c hc
  unfold labelsF at h6
  rw [Lib.splitB_data] at h6
  have h7:=splitK_bytes _ _ h6
  unfold domainF at h7
  rw [e1] at h7
  simpa using h7
theorem low_mail : ∀ n : Fin 256,mailC (UInt8.ofNat n.1) = true ∨ labC (UInt8.ofNat n.1) = true ∨ UInt8.ofNat n.1 = 46 ∨ UInt8.ofNat n.1 = 64 ∨ devC (UInt8.ofNat n.1) = true → lowB (UInt8.ofNat n.1) = UInt8.ofNat n.1 ∧ UInt8.ofNat n.1 ≠ 32 ∧ UInt8.ofNat n.1 ≠ 43:=by decide +kernel
theorem u8_of (c : UInt8) : ∃ n : Fin 256,c = UInt8.ofNat n.1:=⟨⟨c.toNat,c.toNat_lt⟩,by simp⟩
theorem low_ok {c : UInt8} (h : mailC c = true ∨ labC c = true ∨ c = 46 ∨ c = 64 ∨ devC c = true) : lowB c = c ∧ c ≠ 32 ∧ c ≠ 43:=by
 obtain ⟨n,rfl⟩:=u8_of c
 exact low_mail n h
theorem dig_all : ∀ n : Fin 256,digitB (UInt8.ofNat n.1) = true ∨ UInt8.ofNat n.1 = 43 → Lib.indexByte phoneBs (UInt8.ofNat n.1) < 0 ∧ UInt8.ofNat n.1 ≠ 32:=by decide +kernel
theorem dig_ok {c : UInt8} (h : digitB c = true ∨ c = 43) : Lib.indexByte phoneBs c < 0 ∧ c ≠ 32:=by
 obtain ⟨n,rfl⟩:=u8_of c
 exact dig_all n h
theorem mem_all : ∀ n : Fin 256,memC (UInt8.ofNat n.1) = true → upB (UInt8.ofNat n.1) = UInt8.ofNat n.1 ∧ Lib.indexByte [32,45] (UInt8.ofNat n.1) < 0 ∧ UInt8.ofNat n.1 ≠ 32:=by decide +kernel
theorem mem_ok {c : UInt8} (h : memC c = true) : upB c = c ∧ Lib.indexByte [32,45] c < 0 ∧ c ≠ 32:=by
 obtain ⟨n,rfl⟩:=u8_of c
 exact mem_all n h
theorem dev_all : ∀ n : Fin 256,devC (UInt8.ofNat n.1) = true → Lib.indexByte [45] (UInt8.ofNat n.1) < 0:=by decide +kernel
theorem dev_ok {c : UInt8} (h : devC c = true) : Lib.indexByte [45] c < 0:=by
 obtain ⟨n,rfl⟩:=u8_of c
 exact dev_all n h
theorem norm_same {kind : Int} {s : ByteArray} (h : idErr kind s = 0) (country : ByteArray) : normS kind s country = s ∧ (∀ c ∈ s.data.toList,c ≠ 32) ∧ s.size ≤ 80 ∧ (1 ≤ kind ∧ kind ≤ 4):=by
 unfold idErr at h
 unfold normS
 split at h
 ·next hk =>
  rw [if_pos hk]
  split at h
  ·next hm =>
   obtain ⟨a,b,e1,e2,ha,hb,hl⟩:=mail_bytes hm
   have hall : ∀ c ∈ s.data.toList,lowB c = c ∧ c ≠ 32 ∧ True:=by
    intro c hc
    rw [e2] at hc
    rcases List.mem_append.1 hc with hc | hc
    ·have:=low_ok (Or.inl (ha c hc)); exact ⟨this.1,this.2.1,trivial⟩
    ·rcases List.mem_cons.1 hc with hc | hc
     ·have:=low_ok (c:=c) (Or.inr (Or.inr (Or.inr (Or.inl hc)))); exact ⟨this.1,this.2.1,trivial⟩
     ·rcases hb c hc with d | d
      ·have:=low_ok (Or.inr (Or.inl d)); exact ⟨this.1,this.2.1,trivial⟩
      ·have:=low_ok (c:=c) (Or.inr (Or.inr (Or.inl d))); exact ⟨this.1,this.2.1,trivial⟩
   refine ⟨?_,fun c hc => (hall c hc).2.1,hl,by omega⟩
   rw [mapS_same fun c hc => (hall c hc).1]
   unfold mailN
   rw [e1]
   simp only [Bool.true_eq_false,if_false]
   rw [cutOne_miss (indexByte_not fun hc => (low_ok (Or.inl (ha _ hc))).2.2 rfl)]
   apply ba_ext
   simp [e2]
  ·cases h
 ·next hk1 =>
  rw [if_neg hk1]
  split at h
  ·next hk =>
   rw [if_pos hk]
   split at h
   ·next hm =>
    unfold phoneF at hm
    split at hm
    ·cases hm
    rename_i h1
    split at hm
    ·cases hm
    rename_i h2
    split at hm
    ·cases hm
    rename_i h3
    have h4 : Lib.hasPrefix s.data.toList [43] = true:=by simpa using h1
    obtain ⟨r,hr⟩ : ∃ r,s.data.toList = 43 :: r:=by
     unfold Lib.hasPrefix at h4
     cases hs : s.data.toList with
     | nil => rw [hs] at h4; cases h4
     | cons c r =>
      rw [hs] at h4
      simp [List.isPrefixOf] at h4
      exact ⟨r,by rw [← h4]⟩
    have h5:=allB_mem (show allB digitB (s.extract 1 s.size) = true by simpa using h3)
    rw [Lib.extract_from] at h5
    simp only at h5
    rw [hr] at h5
    have hall : ∀ c ∈ s.data.toList,Lib.indexByte phoneBs c < 0 ∧ c ≠ 32:=by
     intro c hc
     rw [hr] at hc
     rcases List.mem_cons.1 hc with hc | hc
     ·exact dig_ok (Or.inr hc)
     ·exact dig_ok (Or.inl (h5 c (by simpa using hc)))
    refine ⟨?_,fun c hc => (hall c hc).2,by omega,by omega⟩
    unfold phoneN
    rw [outS_same fun c hc => (hall c hc).1]
    unfold phoneN1
    rw [hr]
    simp [Lib.hasPrefix,List.isPrefixOf]
   ·cases h
  ·next hk2 =>
   rw [if_neg hk2]
   split at h
   ·next hk =>
    rw [if_pos hk]
    split at h
    ·cases h
    ·next hm =>
     have hm2 : memberF s = true:=by simpa using hm
     unfold memberF at hm2
     rw [Bool.and_eq_true,decide_eq_true_eq] at hm2
     have h5:=allB_mem hm2.2
     refine ⟨?_,fun c hc => (mem_ok (h5 c hc)).2.2,by omega,by omega⟩
     rw [mapS_same fun c hc => (mem_ok (h5 c hc)).1,outS_same fun c hc => (mem_ok (h5 c hc)).2.1]
   ·next hk3 =>
    rw [if_neg hk3]
    split at h
    ·next hk =>
     split at h
     ·next hm =>
      unfold deviceF at hm
      rw [Bool.and_eq_true,decide_eq_true_eq] at hm
      have h5:=allB_mem hm.2
      have h6 : ∀ c ∈ s.data.toList,lowB c = c ∧ c ≠ 32 ∧ c ≠ 43:=fun c hc => low_ok (Or.inr (Or.inr (Or.inr (Or.inr (h5 c hc)))))
      refine ⟨?_,fun c hc => (h6 c hc).2.1,by omega,by omega⟩
      rw [mapS_same fun c hc => (h6 c hc).1,outS_same fun c hc => dev_ok (h5 c hc)]
     ·cases h
    ·cases h
open Go.RowKit
theorem infoByte : (Tryz.prog.info? 5).map (fun i => (i.zero,i.size,i.bytes)) = some (some (.int .u8 0),1,1):=by kernel_rfl
def vb (c : UInt8) : Value:=.int .u8 (c.toNat : Int)
def Bytes (w : World) (g : Nat) (l : List UInt8) : Prop:=∀ j (h : j < l.length),w.cell? ⟨g,j,none⟩ = some (vb l[j])
theorem Bytes.set {w : World} {g : Nat} {l : List UInt8} (h : Bytes w g l) {i : Nat} (hi : i < l.length) (x : UInt8) : Bytes (w.setCell ⟨g,i,none⟩ (vb x)) g (l.set i x):=by
 intro j hj
 rw [List.length_set] at hj
 by_cases e : i = j
 ·subst e
  rw [World.cell?_setCell_same w _ _ (h i hi)]
  simp
 ·rw [World.cell?_setCell_other w _ _ _ (fun c => e (by injection c)),h j hj,List.getElem_set_ne e]
theorem Bytes.conv {w : World} {g : Nat} {l : List UInt8} (h : Bytes w g l) (n cap : Nat) (hn : n = l.length) :
  (convert 191 9 (.slice (some ⟨g,0,none⟩) n cap)).run Tryz.prog w = .ok (.string ⟨l.toArray⟩) w:=by
 subst hn
 refine run_convert_bytes_back w _ _ 5 ⟨g,0,none⟩ cap l Tryz.underlying191 Tryz.underlying5 Tryz.underlying9 fun j hj => ?_
 rw [Addr.add_lit,Nat.zero_add]
 exact h j hj
open Go.RowKit
section
variable {D : Type}
def idxF (p : D → Bool) (ds : List D) : Int:=match ds.findIdx? p with | some i => (i : Int) | none => -1
def anyF (p : D → Bool) (ds : List D) : Bool:=ds.any p
theorem idxF_none {p : D → Bool} {ds : List D} (h : ds.any p = false) : idxF p ds = -1:=by
 have : ds.findIdx? p = none:=by
  rw [List.findIdx?_eq_none_iff]
  intro x hx
  have:=List.any_eq_false.1 h x hx
  simpa using this
 simp [idxF,this]
theorem idxF_found {p : D → Bool} {ds : List D} {i : Nat} (hi : i < ds.length) (h : (ds.take i).any p = false) : p ds[i] = true → idxF p ds = i:=by
 intro hp
 have : ds.findIdx? p = some i:=by
  rw [List.findIdx?_eq_some_iff_getElem]
  refine ⟨hi,hp,fun j hj => ?_⟩
  have hm : ds[j] ∈ ds.take i:=List.mem_take_iff_getElem.2 ⟨j,by omega,rfl⟩
  have:=List.any_eq_false.1 h _ hm
  simpa using this
 simp [idxF,this]
theorem any_take_succ {p : D → Bool} {ds : List D} {i : Nat} (hi : i < ds.length) (h : (ds.take i).any p = false) : p ds[i] = false → (ds.take (i + 1)).any p = false:=by
 intro hp
 rw [List.take_succ_eq_append_getElem hi,List.any_append,h]
 simp [hp]
theorem idxF_any (p : D → Bool) (ds : List D) : decide (0 ≤ idxF p ds) = anyF p ds:=by
 unfold anyF
 cases h : ds.any p with
 | false => rw [idxF_none h]; rfl
 | true =>
  unfold idxF
  cases e : ds.findIdx? p with
  | none =>
   have:=List.findIdx?_eq_none_iff.1 e
   obtain ⟨x,hx,hp⟩:=List.any_eq_true.1 h
   have h2:=this x hx
   rw [hp] at h2
   cases h2
  | some i => simp
theorem idxF_cases (p : D → Bool) (ds : List D) : (idxF p ds = -1 ∧ ∀ d ∈ ds,p d = false) ∨ ∃ (i : Nat) (h : i < ds.length),idxF p ds = i ∧ p ds[i] = true:=by
 cases e : ds.findIdx? p with
 | none => exact Or.inl ⟨by simp [idxF,e],fun d hd => by simpa using List.findIdx?_eq_none_iff.1 e d hd⟩
 | some i =>
  obtain ⟨h1,h2,_⟩:=List.findIdx?_eq_some_iff_getElem.1 e
  exact Or.inr ⟨i,h1,by simp [idxF,e],h2⟩
end
end Go.Proofs.YtbidhpgjmcedaaaGreatDoor
