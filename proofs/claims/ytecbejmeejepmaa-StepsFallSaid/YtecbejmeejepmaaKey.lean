/- Keys: which strings are names. -/
import Derived.Test.YtecbejmeejepmaaRow
namespace Go.Proofs.Ytecbejmeejepmaa
set_option linter.unusedVariables false
open Go.RowKit

theorem ret_bool' {a b : Bool} (h : a = b) : Ending.returned (.bool a) = .returned (.bool b) := by rw [h]
def smallB (c : UInt8) : Bool := decide ((97 : Int) ≤ c.toNat) && decide ((c.toNat : Int) ≤ 122)
def digitB (c : UInt8) : Bool := decide ((48 : Int) ≤ c.toNat) && decide ((c.toNat : Int) ≤ 57)
def keyC (c : UInt8) : Bool := smallB c || digitB c || ((c.toNat : Int) == 45) || ((c.toNat : Int) == 95)
def allB (p : UInt8 → Bool) (s : ByteArray) : Bool := s.data.toList.all p
/-- What IsKey says. -/
def isKey (s : ByteArray) : Bool := decide (1 ≤ s.size ∧ s.size ≤ 40) && ((s.data.toList.head?.map smallB).getD false && allB keyC s)
theorem isKey_size {s : ByteArray} (h : isKey s = true) : 1 ≤ s.size ∧ s.size ≤ 40 := by simp [isKey] at h; exact h.1

set_option maxHeartbeats 400000 in
theorem pwithin_any (n l h : Int) (w : World) : Calls Try.prog 28 #[.int .i64 n, .int .i64 l, .int .i64 h] w fun e w' => e = .returned (.bool (decide (l ≤ n) && decide (n ≤ h))) ∧ w = w' := by
  by_cases h1 : l ≤ n
  · go_enter Try.func28, Try.ntmps28
    go_wp2
    go_ret
    exact ⟨by simp [h1], rfl⟩
  · go_enter Try.func28, Try.ntmps28
    go_wp2
    go_ret
    exact ⟨by simp; omega, rfl⟩
theorem small_any (c : UInt8) (w : World) : Calls Try.prog 29 #[.int .u8 (c.toNat : Int)] w fun e w' => e = .returned (.bool (smallB c)) ∧ w = w' := by
  unfold smallB
  generalize (c.toNat : Int) = n
  by_cases h1 : 97 ≤ n
  · go_enter Try.func29, Try.ntmps29
    go_wp2
    go_ret
    exact ⟨by simp [h1], rfl⟩
  · go_enter Try.func29, Try.ntmps29
    go_wp2
    go_ret
    exact ⟨by simp; omega, rfl⟩
theorem digit_any (c : UInt8) (w : World) : Calls Try.prog 32 #[.int .u8 (c.toNat : Int)] w fun e w' => e = .returned (.bool (digitB c)) ∧ w = w' := by
  unfold digitB
  generalize (c.toNat : Int) = n
  by_cases h1 : 48 ≤ n
  · go_enter Try.func32, Try.ntmps32
    go_wp2
    go_ret
    exact ⟨by simp [h1], rfl⟩
  · go_enter Try.func32, Try.ntmps32
    go_wp2
    go_ret
    exact ⟨by simp; omega, rfl⟩
set_option maxHeartbeats 400000 in
theorem keyC_any (c : UInt8) (w : World) : Calls Try.prog 31 #[.int .u8 (c.toNat : Int)] w fun e w' => e = .returned (.bool (keyC c)) ∧ w = w' := by
  go_enter Try.func31, Try.ntmps31
  go_wp2_with fail
  refine (small_any c _).mono ?_
  rintro e w' ⟨rfl, rfl⟩
  generalize hs : smallB c = q1
  have HS := Lib.hid hs
  clear hs
  cases q1 with
  | true =>
    go_wp2_with fail
    go_ret
    exact ⟨ret_bool' (by unfold keyC; rw [HS.out]; rfl), rfl⟩
  | false =>
    go_wp2_with fail
    refine (digit_any c _).mono ?_
    rintro e w' ⟨rfl, rfl⟩
    generalize hd : digitB c = q2
    have HD := Lib.hid hd
    clear hd
    cases q2 with
    | true =>
      go_wp2_with fail
      go_ret
      exact ⟨ret_bool' (by unfold keyC; rw [HS.out, HD.out]; rfl), rfl⟩
    | false =>
      cases h : ((c.toNat : Int) == 45) with
      | true =>
        have HN := Lib.hid h
        go_wp2_with fail
        go_ret
        exact ⟨ret_bool' (by unfold keyC; rw [HS.out, HD.out, HN.out]; rfl), rfl⟩
      | false =>
        have HN := Lib.hid h
        go_wp2_with fail
        go_ret
        exact ⟨ret_bool' (by unfold keyC; rw [HS.out, HD.out, HN.out]; rfl), rfl⟩

theorem take_snoc' (s : ByteArray) (k : Nat) (h : k < s.size) : s.data.toList.take (k + 1) = s.data.toList.take k ++ [s[k]] := by
  rw [List.take_succ_eq_append_getElem (by simpa using h)]; rfl
set_option maxHeartbeats 400000 in
theorem all_any (k : Nat) (p : UInt8 → Bool) (hp : ∀ (c : UInt8) (W : World), Calls Try.prog k #[.int .u8 (c.toNat : Int)] W fun e W' => e = .returned (.bool (p c)) ∧ W = W')
    (hcall : ∀ (a : Value) (W : World), (callFunc k #[a]).run Try.prog W = .ok (.enter k #[a]) W) (s : ByteArray) (w : World) (hs : s.size ≤ 1000000000) :
    Calls Try.prog 30 #[.string s, .func (.func k) #[] #[]] w fun e w' => e = .returned (.bool (allB p s)) ∧ w = w' := by
  have HP := Lib.hid hp
  clear hp
  go_enter Try.func30, Try.ntmps30
  go_wp2_with fail
  go_loop [8] (fun t => ∃ i : Nat, i ≤ s.size ∧ t = .int .i64 i ∧ Hid ((s.data.toList.take i).all p = true)) (fun t => s.size - (intOf t).toNat)
  case atStart => exact ⟨0, by omega, rfl, rfl⟩
  case round =>
    obtain ⟨i, hi, rfl, hall⟩ := hrel
    by_cases hlt : i < s.size
    · have ht := Lib.hid (take_snoc' s i hlt)
      have hm : Hid (s[i] ∈ s.data.toList) := by show s.data[i] ∈ _; simp
      go_wp2_with fail
      refine (HP.out s[i] _).mono ?_
      rintro e w' ⟨rfl, rfl⟩
      generalize s[i] = c at ht hm ⊢
      cases hc : p c with
      | false =>
        have HC := Lib.hid hc
        clear hc
        go_wp2_with fail
        go_ret
        refine ⟨ret_bool' ?_, rfl⟩
        cases e : allB p s with
        | false => rfl
        | true => have := List.all_eq_true.1 e _ hm.out; rw [HC.out] at this; cases this
      | true =>
        have HC := Lib.hid hc
        clear hc
        go_wp2_with fail
        go_round
        case rel => exact ⟨i + 1, by omega, by go_num, by show _ = true; rw [ht.out, List.all_append, hall.out]; simp [HC.out]⟩
        case measure => simp [intOf]; omega
    · go_wp2_with fail
      go_ret
      refine ⟨ret_bool' ?_, rfl⟩
      have := hall.out
      rw [List.take_of_length_le (by simp; omega)] at this
      exact this.symm

set_option maxHeartbeats 400000 in
theorem isKey_any (s : ByteArray) (w : World) (hs : s.size ≤ 1000000000) :
    Calls Try.prog 23 #[.string s] w fun e w' => e = .returned (.bool (isKey s)) ∧ w = w' := by
  by_cases h1 : 1 ≤ s.size ∧ s.size ≤ 40
  · have h2 : (decide ((1 : Int) ≤ (s.size : Int)) && decide ((s.size : Int) ≤ 40)) = true := by simp; omega
    have h0 : 0 < s.size := by omega
    have H2 := Lib.hid h2
    have hh : Hid (isKey s = (smallB s[0] && allB keyC s)) := by
      show _ = _
      have : s.data.toList.head? = some s[0] := by
        rw [List.head?_eq_getElem?, List.getElem?_eq_getElem (by simpa using h0)]; rfl
      unfold isKey
      rw [this, decide_eq_true h1]; simp
    clear h2
    go_enter Try.func23, Try.ntmps23
    go_wp2_with fail
    refine (pwithin_any _ _ _ _).mono ?_
    rintro e w' ⟨rfl, rfl⟩
    rw [H2.out]
    go_wp2_with fail
    refine (small_any s[0] _).mono ?_
    rintro e w' ⟨rfl, rfl⟩
    generalize smallB s[0] = q at hh
    cases q with
    | false =>
      go_wp2_with fail
      go_ret
      exact ⟨ret_bool' (hh.out.trans (Bool.false_and _)).symm, rfl⟩
    | true =>
      go_wp2_with fail
      refine (all_any 31 keyC keyC_any (fun _ _ => by kernel_rfl) s _ hs).mono ?_
      rintro e w' ⟨rfl, rfl⟩
      generalize allB keyC s = q at hh
      go_wp2_with fail
      go_ret
      exact ⟨ret_bool' (hh.out.trans (Bool.true_and _)).symm, rfl⟩
  · have h2 : (decide ((1 : Int) ≤ (s.size : Int)) && decide ((s.size : Int) ≤ 40)) = false := by simp; omega
    have H2 := Lib.hid h2
    have hh : Hid (isKey s = false) := by show _ = _; unfold isKey; rw [decide_eq_false h1]; rfl
    clear h2
    go_enter Try.func23, Try.ntmps23
    go_wp2_with fail
    refine (pwithin_any _ _ _ _).mono ?_
    rintro e w' ⟨rfl, rfl⟩
    rw [H2.out]
    go_wp2_with fail
    go_ret
    exact ⟨ret_bool' hh.out.symm, rfl⟩
end Go.Proofs.Ytecbejmeejepmaa
