/- Codes of package offer: CheckCode. -/
import Derived.Test.YtecbejmeejepmaaDoorOffCode
namespace Go.Proofs.YtecbejmeejepmaaDoor
set_option linter.unusedVariables false
open Go.RowKit

/-- What CheckCode answers. -/
def codeErr (s : ByteArray) : Int :=
  if ¬ (4 ≤ s.size ∧ s.size ≤ 24) then 2 else if Hb.areSigns s.data.toList = false then 3 else if Hb.csum s.data.toList 0 % 31 ≠ 0 then 15 else 0

theorem codeErr_ok {s : ByteArray} (h1 : 4 ≤ s.size) (h2 : s.size ≤ 24) (h3 : Hb.areSigns s.data.toList = true) (h4 : Hb.csum s.data.toList 0 % 31 = 0) : codeErr s = 0 := by
  unfold codeErr; simp [h1, h2, h3, h4]
theorem codeErr_sum {s : ByteArray} (h1 : 4 ≤ s.size) (h2 : s.size ≤ 24) (h3 : Hb.areSigns s.data.toList = true) (h4 : Hb.csum s.data.toList 0 % 31 ≠ 0) : codeErr s = 15 := by
  unfold codeErr; simp [h1, h2, h3, h4]

set_option maxHeartbeats 400000 in
theorem checkCode_any (s : ByteArray) (w : World) (hs : s.size ≤ 1000) :
    Calls Tryd.prog 30 #[.string s] w fun e w' => e = .returned (.int .i64 (codeErr s)) ∧ w = w' := by
  by_cases h1 : 4 ≤ s.size ∧ s.size ≤ 24
  · have h2 : (decide ((4 : Int) ≤ (s.size : Int)) && decide ((s.size : Int) ≤ 24)) = true := by simp; omega
    cases h3 : Hb.areSigns s.data.toList with
    | false =>
      have hc := Lib.hid (show codeErr s = 3 by unfold codeErr; simp [h1, h3])
      go_enter Tryd.func30, Tryd.ntmps30
      go_wp2_with fail
      refine (owithin_any _ _ _ _).mono ?_
      rintro e w' ⟨rfl, rfl⟩
      rw [h2]
      go_wp2_with fail
      refine (areSigns_any s _ hs).mono ?_
      rintro e w' ⟨rfl, rfl⟩
      rw [h3]
      go_wp2_with fail
      go_ret
      exact ⟨ret_int hc.out.symm, rfl⟩
    | true =>
      by_cases h4 : Hb.csum s.data.toList 0 % 31 = 0
      · have hc := Lib.hid (codeErr_ok h1.1 h1.2 h3 h4)
        have hb : (Hb.csum s.data.toList 0 % 31 != 0) = false := by simp [h4]
        clear h4
        go_enter Tryd.func30, Tryd.ntmps30
        go_wp2_with fail
        refine (owithin_any _ _ _ _).mono ?_
        rintro e w' ⟨rfl, rfl⟩
        rw [h2]
        go_wp2_with fail
        refine (areSigns_any s _ hs).mono ?_
        rintro e w' ⟨rfl, rfl⟩
        rw [h3]
        go_wp2_with fail
        refine (osum_any s _ hs h3).mono ?_
        rintro e w' ⟨rfl, rfl⟩
        go_wp2_with fail
        go_ret
        exact ⟨ret_int hc.out.symm, rfl⟩
      · have hc := Lib.hid (codeErr_sum h1.1 h1.2 h3 h4)
        have hb : (Hb.csum s.data.toList 0 % 31 != 0) = true := by simp [h4]
        clear h4
        go_enter Tryd.func30, Tryd.ntmps30
        go_wp2_with fail
        refine (owithin_any _ _ _ _).mono ?_
        rintro e w' ⟨rfl, rfl⟩
        rw [h2]
        go_wp2_with fail
        refine (areSigns_any s _ hs).mono ?_
        rintro e w' ⟨rfl, rfl⟩
        rw [h3]
        go_wp2_with fail
        refine (osum_any s _ hs h3).mono ?_
        rintro e w' ⟨rfl, rfl⟩
        go_wp2_with fail
        go_ret
        exact ⟨ret_int hc.out.symm, rfl⟩
  · have h2 : (decide ((4 : Int) ≤ (s.size : Int)) && decide ((s.size : Int) ≤ 24)) = false := by simp; omega
    have hc := Lib.hid (show codeErr s = 2 by unfold codeErr; rw [if_pos h1])
    go_enter Tryd.func30, Tryd.ntmps30
    go_wp2_with fail
    refine (owithin_any _ _ _ _).mono ?_
    rintro e w' ⟨rfl, rfl⟩
    rw [h2]
    go_wp2_with fail
    go_ret
    exact ⟨ret_int hc.out.symm, rfl⟩

end Go.Proofs.YtecbejmeejepmaaDoor
