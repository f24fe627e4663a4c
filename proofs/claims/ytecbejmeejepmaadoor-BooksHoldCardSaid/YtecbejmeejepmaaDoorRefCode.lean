/- Codes, as the document's answer has them: codeSum, CodeFault, SealOf. -/
import Derived.Test.YtecbejmeejepmaaDoorRefKey
import Derived.Test.YtecbejmeejepmaaDoorCheckCode
namespace Go.Proofs.YtecbejmeejepmaaDoor
set_option linter.unusedVariables false
open Go.RowKit

def codeSigns : ByteArray := ⟨#[48, 49, 50, 51, 52, 53, 54, 55, 56, 57, 65, 66, 67, 68, 69, 70, 71, 72, 74, 75, 77, 78, 80, 81, 82, 84, 85, 86, 87, 88, 89]⟩
set_option maxHeartbeats 400000 in
theorem made_any (s cut : ByteArray) (w : World) (hs : s.size ≤ 1000000000) (hcs : cut.size < 1000) (hascii : ∀ (j : Nat) b, cut.data.toList[j]? = some b → b.toNat < 128) :
    Calls Tryd.prog 56 #[.string s, .string cut] w fun e w' => e = .returned (.bool (onlyB s cut)) ∧ Below w.heap.size w w' := by
  have HT := Lib.hid (Any.strings_Trim_laid Tryd.lays160 (by kernel_rfl) s cut w (by omega) (by omega) hascii)
  have hv : Hid ((ByteArray.mk (Lib.trimS s.data.toList cut.data.toList).toArray).toList = [] ↔ onlyB s cut = true) := by
    show _ ↔ _
    rw [ByteArray.toList_eq]
    exact trimS_nil _ _
  clear hascii
  go_enter Tryd.func56, Tryd.ntmps56
  go_wp2_with fail
  refine HT.out.mono ?_
  rintro e w1 ⟨rfl, hb⟩
  generalize ByteArray.mk (Lib.trimS s.data.toList cut.data.toList).toArray = X at hv
  have HB := Lib.hid hb
  clear hb HT
  by_cases hX : X.toList = []
  · have h1 : X.toList.isEmpty = true := by rw [hX]; rfl
    have hr := Lib.hid (hv.out.1 hX)
    have HX := Lib.hid hX
    clear hX
    go_wp2_with fail
    go_ret
    exact ⟨ret_bool' hr.out.symm, HB.out⟩
  · have h1 : X.toList.isEmpty = false := by cases e : X.toList with | nil => exact absurd e hX | cons a l => rfl
    have hr : Hid (onlyB s cut = false) := by
      show _ = _
      cases e : onlyB s cut with
      | false => rfl
      | true => exact absurd (hv.out.2 e) hX
    clear hX
    go_wp2_with fail
    go_ret
    exact ⟨ret_bool' hr.out.symm, HB.out⟩

theorem sign_in (c : UInt8) : codeSigns.data.toList.contains c = decide (0 ≤ Hb.val c) := by
  have : ∀ n : Fin 256, codeSigns.data.toList.contains (UInt8.ofNat n.val) = decide (0 ≤ Hb.val (UInt8.ofNat n.val)) := by decide +kernel
  have h := this ⟨c.toNat, c.toNat_lt⟩
  simpa using h
theorem onlyB_signs (s : ByteArray) : onlyB s codeSigns = Hb.areSigns s.data.toList := by
  unfold onlyB Hb.areSigns
  congr 1
  funext c
  exact sign_in c
theorem signs_ascii : ∀ (j : Nat) b, codeSigns.data.toList[j]? = some b → b.toNat < 128 := by
  intro j b h
  have hm : b ∈ codeSigns.data.toList := List.mem_of_getElem? h
  have : ∀ b ∈ codeSigns.data.toList, b.toNat < 128 := by decide +kernel
  exact this b hm
theorem madeCode_any (s : ByteArray) (w : World) (hs : s.size ≤ 1000) :
    Calls Tryd.prog 56 #[.string s, .string ⟨#[48, 49, 50, 51, 52, 53, 54, 55, 56, 57, 65, 66, 67, 68, 69, 70, 71, 72, 74, 75, 77, 78, 80, 81, 82, 84, 85, 86, 87, 88, 89]⟩] w fun e w' => e = .returned (.bool (Hb.areSigns s.data.toList)) ∧ Below w.heap.size w w' := by
  have := made_any s codeSigns w (by omega) (by decide +kernel) signs_ascii
  rw [onlyB_signs] at this
  exact this
set_option maxHeartbeats 400000 in
theorem codeSum_any (s : ByteArray) (w : World) (hs : s.size ≤ 1000) (ha : Hb.areSigns s.data.toList = true) :
    Calls Tryd.prog 57 #[.string s] w fun e w' => e = .returned (.int .i64 (Hb.csum s.data.toList 0 % 31)) ∧ w = w' := by
  have HA := Lib.hid ha
  clear ha
  go_enter Tryd.func57, Tryd.ntmps57
  go_wp2_with fail
  go_loop [3, 4] (fun o t => ∃ i : Nat, i ≤ s.size ∧ t = .int .i64 i ∧ o = .int .i64 (Hb.csum (s.data.toList.take i) 0)) (fun _ t => s.size - (intOf t).toNat)
  case atStart => exact ⟨0, by omega, rfl, rfl⟩
  case round =>
    obtain ⟨i, hi, rfl, rfl⟩ := hrel
    have hA : Hb.areSigns (s.data.toList.take i) = true := by
      have := HA.out
      rw [← List.take_append_drop i s.data.toList, Hb.areSigns_append] at this
      simp at this
      exact this.1
    have hlen : (s.data.toList.take i).length = i := by simp; omega
    have hb := Hb.csum_bounds hA 0 (by omega)
    rw [hlen] at hb
    by_cases hlt : i < s.size
    · have hv := Hb.areSigns_mem HA.out (show s[i] ∈ s.data.toList by show s.data[i] ∈ _; simp)
      have hv1 := Hb.val_lt s[i]
      have ht : Hid (Hb.csum (s.data.toList.take (i + 1)) 0 = Hb.csum (s.data.toList.take i) 0 + ((i : Int) + 1) * Hb.val s[i]) := by
        show _ = _
        rw [take_snoc s i hlt, Hb.csum_snoc, hlen]
      have hm1 : 0 ≤ ((i : Int) + 1) * Hb.val s[i] := Int.mul_nonneg (by omega) hv
      have hm2 : ((i : Int) + 1) * Hb.val s[i] ≤ 1001 * 31 := Int.mul_le_mul (by omega) (by omega) hv (by omega)
      clear hA hlen
      go_wp2_with fail
      refine (index_sign s[i] _).mono ?_
      rintro e w' ⟨rfl, rfl⟩
      go_wp2_with fail
      go_round
      case rel => exact ⟨i + 1, by omega, by go_num, by rw [ht.out]⟩
      case measure => simp [intOf]; omega
    · clear hA hlen
      go_wp2_with fail
      go_ret
      refine ⟨ret_int ?_, rfl⟩
      rw [List.take_of_length_le (by simp; omega)]


set_option maxHeartbeats 400000 in
theorem codeFault_any (s : ByteArray) (w : World) (hs : s.size ≤ 1000) :
    Calls Tryd.prog 35 #[.string s] w fun e w' => e = .returned (.int .i64 (codeErr s)) ∧ Below w.heap.size w w' := by
  by_cases h1 : 4 ≤ s.size ∧ s.size ≤ 24
  · have h1a : (4 : Int) ≤ s.size := by omega
    have h1b : (s.size : Int) ≤ 24 := by omega
    cases h3 : Hb.areSigns s.data.toList with
    | false =>
      have hc := Lib.hid (show codeErr s = 3 by unfold codeErr; simp [h1, h3])
      clear h1
      go_enter Tryd.func35, Tryd.ntmps35
      go_wp2_with fail
      refine (madeCode_any s _ hs).mono ?_
      rintro e w' ⟨rfl, hb⟩
      rw [h3]
      have HB := Lib.hid hb
      clear hb
      go_wp2_with fail
      go_ret
      exact ⟨ret_int hc.out.symm, HB.out⟩
    | true =>
      by_cases h4 : Hb.csum s.data.toList 0 % 31 = 0
      · have hc := Lib.hid (codeErr_ok h1.1 h1.2 h3 h4)
        have hb : (Hb.csum s.data.toList 0 % 31 != 0) = false := by simp [h4]
        clear h4 h1
        go_enter Tryd.func35, Tryd.ntmps35
        go_wp2_with fail
        refine (madeCode_any s _ hs).mono ?_
        rintro e w1 ⟨rfl, hbb⟩
        rw [h3]
        have HB := Lib.hid hbb
        clear hbb
        go_wp2_with fail
        refine (codeSum_any s _ hs h3).mono ?_
        rintro e w' ⟨rfl, rfl⟩
        go_wp2_with fail
        go_ret
        exact ⟨ret_int hc.out.symm, HB.out⟩
      · have hc := Lib.hid (codeErr_sum h1.1 h1.2 h3 h4)
        have hb : (Hb.csum s.data.toList 0 % 31 != 0) = true := by simp [h4]
        clear h4 h1
        go_enter Tryd.func35, Tryd.ntmps35
        go_wp2_with fail
        refine (madeCode_any s _ hs).mono ?_
        rintro e w1 ⟨rfl, hbb⟩
        rw [h3]
        have HB := Lib.hid hbb
        clear hbb
        go_wp2_with fail
        refine (codeSum_any s _ hs h3).mono ?_
        rintro e w' ⟨rfl, rfl⟩
        go_wp2_with fail
        go_ret
        exact ⟨ret_int hc.out.symm, HB.out⟩
  · have hc := Lib.hid (show codeErr s = 2 by unfold codeErr; rw [if_pos h1])
    by_cases h2 : (4 : Int) ≤ s.size
    · have h2b : (24 : Int) < s.size := by omega
      clear h1
      go_enter Tryd.func35, Tryd.ntmps35
      go_wp2_with fail
      go_ret
      exact ⟨ret_int hc.out.symm, Below.refl _ _⟩
    · clear h1
      go_enter Tryd.func35, Tryd.ntmps35
      go_wp2_with fail
      go_ret
      exact ⟨ret_int hc.out.symm, Below.refl _ _⟩
end Go.Proofs.YtecbejmeejepmaaDoor
