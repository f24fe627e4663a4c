/- Codes of package offer: signs, their sum, how a body becomes a code. -/
import Derived.Test.YtecbejmeejepmaaDoorShelf
import Derived.Test.YtecbejmeejepmaaDoorCode
import Derived.Test.YtecbejmeejepmaaDoorPick
namespace Go.Proofs.YtecbejmeejepmaaDoor
set_option linter.unusedVariables false
open Go.RowKit

theorem ret_bool {a b : Bool} (h : a = b) : Ending.returned (.bool a) = .returned (.bool b) := by rw [h]
theorem ret_string {a b : ByteArray} (h : a = b) : Ending.returned (.string a) = .returned (.string b) := by rw [h]
theorem u8_back (c : UInt8) : ((c.toNat : Int).toNat.toUInt8) = c := by simp

theorem take_snoc (s : ByteArray) (k : Nat) (h : k < s.size) : s.data.toList.take (k + 1) = s.data.toList.take k ++ [s[k]] := by
  rw [List.take_succ_eq_append_getElem (by simpa using h)]; rfl

theorem index_sign (c : UInt8) (w : World) : Calls Tryd.prog 74 #[.string ⟨#[48, 49, 50, 51, 52, 53, 54, 55, 56, 57, 65, 66, 67, 68, 69, 70, 71, 72, 74, 75, 77, 78, 80, 81, 82, 84, 85, 86, 87, 88, 89]⟩, .int .u8 (c.toNat : Int)] w fun e w' =>
    e = .returned (.int .i64 (Hb.val c)) ∧ w = w' :=
  (Tryd.strings_IndexByte _ (c.toNat : Int) w).mono fun e w' ⟨he, hw⟩ => ⟨by rw [he, u8_back]; rfl, hw.symm⟩

set_option maxHeartbeats 400000 in
theorem owithin_any (n l h : Int) (w : World) : Calls Tryd.prog 32 #[.int .i64 n, .int .i64 l, .int .i64 h] w fun e w' => e = .returned (.bool (decide (l ≤ n) && decide (n ≤ h))) ∧ w = w' := by
  by_cases h1 : l ≤ n
  · go_enter Tryd.func32, Tryd.ntmps32
    go_wp2
    go_ret
    exact ⟨by simp [h1], rfl⟩
  · go_enter Tryd.func32, Tryd.ntmps32
    go_wp2
    go_ret
    exact ⟨by simp; omega, rfl⟩

set_option maxHeartbeats 400000 in
theorem areSigns_any (s : ByteArray) (w : World) (hs : s.size ≤ 1000) :
    Calls Tryd.prog 60 #[.string s] w fun e w' => e = .returned (.bool (Hb.areSigns s.data.toList)) ∧ w = w' := by
  go_enter Tryd.func60, Tryd.ntmps60
  go_wp2_with fail
  go_loop [6] (fun t => ∃ i : Nat, i ≤ s.size ∧ t = .int .i64 i ∧ Hid (Hb.areSigns (s.data.toList.take i) = true)) (fun t => s.size - (intOf t).toNat)
  case atStart => exact ⟨0, by omega, rfl, rfl⟩
  case round =>
    obtain ⟨i, hi, rfl, hp⟩ := hrel
    by_cases hlt : i < s.size
    · have ht := Lib.hid (take_snoc s i hlt)
      have hm : Hid (s[i] ∈ s.data.toList) := by show s.data[i] ∈ _; simp
      go_wp2_with fail
      refine (index_sign s[i] _).mono ?_
      rintro e w' ⟨rfl, rfl⟩
      generalize s[i] = c at ht hm ⊢
      by_cases hv : Hb.val c < 0
      · go_wp2_with fail
        go_ret
        refine ⟨ret_bool ?_, rfl⟩
        have : Hb.areSigns s.data.toList = false := by
          cases e : Hb.areSigns s.data.toList with
          | false => rfl
          | true => have := Hb.areSigns_mem e hm.out; omega
        rw [this]
      · have hv' : 0 ≤ Hb.val c := by omega
        go_wp2_with fail
        go_round
        case rel => exact ⟨i + 1, by omega, by go_num, by
          show _ = true
          rw [ht.out, Hb.areSigns_append, hp.out]
          simp [Hb.areSigns, hv']⟩
        case measure => simp [intOf]; omega
    · go_wp2_with fail
      go_ret
      refine ⟨ret_bool ?_, rfl⟩
      have := hp.out
      rw [List.take_of_length_le (by simp; omega)] at this
      rw [this]

set_option maxHeartbeats 400000 in
theorem osum_any (s : ByteArray) (w : World) (hs : s.size ≤ 1000) (ha : Hb.areSigns s.data.toList = true) :
    Calls Tryd.prog 61 #[.string s] w fun e w' => e = .returned (.int .i64 (Hb.csum s.data.toList 0 % 31)) ∧ w = w' := by
  have HA := Lib.hid ha
  clear ha
  go_enter Tryd.func61, Tryd.ntmps61
  go_wp2_with fail
  go_loop [3, 7] (fun o t => ∃ i : Nat, i ≤ s.size ∧ t = .int .i64 i ∧ o = .int .i64 (Hb.csum (s.data.toList.take i) 0)) (fun _ t => s.size - (intOf t).toNat)
  case atStart => exact ⟨0, by omega, rfl, rfl⟩
  case round =>
    obtain ⟨i, hi, rfl, rfl⟩ := hrel
    have hA : Hb.areSigns (s.data.toList.take i) = true := by
      have := HA.out
      rw [← List.take_append_drop i s.data.toList, Hb.areSigns_append] at this
      simp at this
      exact this.1
    have hlen : (s.data.toList.take i).length = i := by simp; omega
    have hb := Hb.csum_bounds hA 0 (by omega)
    rw [hlen] at hb
    by_cases hlt : i < s.size
    · have hv := Hb.areSigns_mem HA.out (show s[i] ∈ s.data.toList by show s.data[i] ∈ _; simp)
      have hv1 := Hb.val_lt s[i]
      have ht : Hid (Hb.csum (s.data.toList.take (i + 1)) 0 = Hb.csum (s.data.toList.take i) 0 + ((i : Int) + 1) * Hb.val s[i]) := by
        show _ = _
        rw [take_snoc s i hlt, Hb.csum_snoc, hlen]
      have hm1 : 0 ≤ ((i : Int) + 1) * Hb.val s[i] := Int.mul_nonneg (by omega) hv
      have hm2 : ((i : Int) + 1) * Hb.val s[i] ≤ 1001 * 31 := Int.mul_le_mul (by omega) (by omega) hv (by omega)
      clear hA hlen
      go_wp2_with fail
      refine (index_sign s[i] _).mono ?_
      rintro e w' ⟨rfl, rfl⟩
      go_wp2_with fail
      go_round
      case rel => exact ⟨i + 1, by omega, by go_num, by rw [ht.out]⟩
      case measure => simp [intOf]; omega
    · clear hA hlen
      go_wp2_with fail
      go_ret
      refine ⟨ret_int ?_, rfl⟩
      rw [List.take_of_length_le (by simp; omega)]

/-- A body with a sign more. -/
def snoc (s : ByteArray) (k : Nat) : ByteArray := ⟨(s.data.toList ++ [Hb.sg k]).toArray⟩

theorem bytes_ext {a b : ByteArray} (h : a.data.toList = b.data.toList) : a = b := by
  cases a; cases b; simp at h; simp [h]
theorem sign_cut : ∀ i : Fin 31, (ByteArray.extract ⟨#[48, 49, 50, 51, 52, 53, 54, 55, 56, 57, 65, 66, 67, 68, 69, 70, 71, 72, 74, 75, 77, 78, 80, 81, 82, 84, 85, 86, 87, 88, 89]⟩ i.val (i.val + 1)).data.toList = [Hb.sg i.val] := by decide +kernel
theorem snoc_eq (s : ByteArray) (i : Nat) (h : i < 31) :
    s ++ ByteArray.extract ⟨#[48, 49, 50, 51, 52, 53, 54, 55, 56, 57, 65, 66, 67, 68, 69, 70, 71, 72, 74, 75, 77, 78, 80, 81, 82, 84, 85, 86, 87, 88, 89]⟩ i (i + 1) = snoc s i := by
  apply bytes_ext
  rw [ByteArray.data_append, Array.toList_append, sign_cut ⟨i, h⟩]
  simp [snoc]
theorem snoc_list (s : ByteArray) (i : Nat) : (snoc s i).data.toList = s.data.toList ++ [Hb.sg i] := by simp [snoc]
theorem snoc_size (s : ByteArray) (i : Nat) : (snoc s i).size = s.size + 1 := by
  show (snoc s i).data.size = s.data.size + 1
  simp [snoc]
theorem sign_is : ∀ i : Fin 31, Hb.areSigns [Hb.sg i.val] = true := by decide +kernel

set_option maxHeartbeats 400000 in
theorem seal_any (s : ByteArray) (w : World) (hs : s.size ≤ 23) (ha : Hb.areSigns s.data.toList = true) :
    Calls Tryd.prog 67 #[.string s] w fun e w' => (∃ k, k < 31 ∧ Hb.csum (s.data.toList ++ [Hb.sg k]) 0 % 31 = 0 ∧ e = .returned (.string (snoc s k))) ∧ w = w' := by
  obtain ⟨k0, hk0, hk1⟩ := Hb.sealed (l := s.data.toList) (by simpa using hs)
  have HA := Lib.hid ha
  have HK := Lib.hid hk1
  clear ha hk1
  go_enter Tryd.func67, Tryd.ntmps67
  go_wp2_with fail
  go_loop [5] (fun t => ∃ i : Nat, i ≤ k0 ∧ t = .int .i64 i) (fun t => 31 - (intOf t).toNat)
  case atStart => exact ⟨0, by omega, rfl⟩
  case round =>
    obtain ⟨i, hi, rfl⟩ := hrel
    have hi31 : i < 31 := by omega
    go_wp2_with fail
    rw [snoc_eq s i hi31]
    have hsg : Hb.areSigns (snoc s i).data.toList = true := by
      rw [snoc_list, Hb.areSigns_append, HA.out, sign_is ⟨i, hi31⟩]; rfl
    refine (osum_any (snoc s i) _ (by rw [snoc_size]; omega) hsg).mono ?_
    clear hsg
    rintro e w' ⟨rfl, rfl⟩
    rw [snoc_list]
    by_cases hz : Hb.csum (s.data.toList ++ [Hb.sg i]) 0 % 31 = 0
    · have hz' : (Hb.csum (s.data.toList ++ [Hb.sg i]) 0 % 31 == 0) = true := beq_iff_eq.2 hz
      have HZ := Lib.hid hz
      clear hz
      go_wp2_with fail
      go_ret
      exact ⟨⟨i, hi31, HZ.out, rfl⟩, rfl⟩
    · have hz' : (Hb.csum (s.data.toList ++ [Hb.sg i]) 0 % 31 == 0) = false := beq_eq_false_iff_ne.2 hz
      have hlt : i < k0 := by
        rcases Nat.lt_or_ge i k0 with h | h
        · exact h
        · obtain rfl : i = k0 := by omega
          exact absurd HK.out hz
      clear hz
      go_wp2_with fail
      go_round
      case rel => exact ⟨i + 1, by omega, by go_num⟩
      case measure => simp [intOf]; omega

/-- What Seal answers: the code, and the error. -/
def SealPost (s : ByteArray) (e : Ending) : Prop :=
  ((¬ (3 ≤ s.size ∧ s.size ≤ 23) ∨ Hb.areSigns s.data.toList = false) ∧ ∃ n : Int, n ≠ 0 ∧ e = .returned (.tuple #[.string ⟨#[]⟩, .int .i64 n])) ∨
  (3 ≤ s.size ∧ s.size ≤ 23 ∧ Hb.areSigns s.data.toList = true ∧ ∃ k, k < 31 ∧ Hb.csum (s.data.toList ++ [Hb.sg k]) 0 % 31 = 0 ∧ e = .returned (.tuple #[.string (snoc s k), .int .i64 0]))

set_option maxHeartbeats 400000 in
theorem Seal_any (s : ByteArray) (w : World) (hs : s.size ≤ 1000) :
    Calls Tryd.prog 34 #[.string s] w fun e w' => SealPost s e ∧ w = w' := by
  by_cases h1 : 3 ≤ s.size ∧ s.size ≤ 23
  · have h2 : (decide ((3 : Int) ≤ (s.size : Int)) && decide ((s.size : Int) ≤ 23)) = true := by simp; omega
    cases h3 : Hb.areSigns s.data.toList with
    | false =>
      go_enter Tryd.func34, Tryd.ntmps34
      go_wp2_with fail
      refine (owithin_any _ _ _ _).mono ?_
      rintro e w' ⟨rfl, rfl⟩
      rw [h2]
      go_wp2_with fail
      refine (areSigns_any s _ hs).mono ?_
      rintro e w' ⟨rfl, rfl⟩
      rw [h3]
      go_wp2_with fail
      go_ret2
      exact ⟨.inl ⟨.inr h3, 3, by omega, rfl⟩, rfl⟩
    | true =>
      go_enter Tryd.func34, Tryd.ntmps34
      go_wp2_with fail
      refine (owithin_any _ _ _ _).mono ?_
      rintro e w' ⟨rfl, rfl⟩
      rw [h2]
      go_wp2_with fail
      refine (areSigns_any s _ hs).mono ?_
      rintro e w' ⟨rfl, rfl⟩
      rw [h3]
      go_wp2_with fail
      refine (seal_any s _ h1.2 h3).mono ?_
      rintro e w' ⟨⟨k, hk, hk1, rfl⟩, rfl⟩
      have HK := Lib.hid hk1
      clear hk1
      go_wp2_with fail
      go_ret2
      exact ⟨.inr ⟨h1.1, h1.2, h3, k, hk, HK.out, rfl⟩, rfl⟩
  · have h2 : (decide ((3 : Int) ≤ (s.size : Int)) && decide ((s.size : Int) ≤ 23)) = false := by simp; omega
    go_enter Tryd.func34, Tryd.ntmps34
    go_wp2_with fail
    refine (owithin_any _ _ _ _).mono ?_
    rintro e w' ⟨rfl, rfl⟩
    rw [h2]
    go_wp2_with fail
    go_ret2
    exact ⟨.inl ⟨.inl h1, 2, by omega, rfl⟩, rfl⟩
end Go.Proofs.YtecbejmeejepmaaDoor
