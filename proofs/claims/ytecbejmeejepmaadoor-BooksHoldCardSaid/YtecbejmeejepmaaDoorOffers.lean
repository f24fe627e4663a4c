/- The package offer is there: it seals a code. -/
import Derived.Test.YtecbejmeejepmaaDoorOffCode
namespace Go.Proofs.YtecbejmeejepmaaDoor
set_option linter.unusedVariables false
open Go.RowKit

theorem seal123 : ∀ k : Fin 31, Hb.csum ([49, 50, 51] ++ [Hb.sg k.val]) 0 % 31 = 0 → Hb.sg k.val = 67 := by decide +kernel

set_option maxHeartbeats 400000 in
theorem offers_any (w : World) : Calls Tryd.prog 7 #[] w fun e w' => e = .returned (.bool true) ∧ w = w' := by
  go_enter Tryd.func7, Tryd.ntmps7
  go_wp2_with fail
  refine (Seal_any ⟨#[49, 50, 51]⟩ _ (by decide)).mono ?_
  rintro e w' ⟨hp, rfl⟩
  have hx : e = .returned (.tuple #[.string ⟨#[49, 50, 51, 67]⟩, .int .i64 0]) := by
    rcases hp with ⟨hno, n, hn, he⟩ | ⟨_, _, _, k, hk, hk1, he⟩
    · exact absurd hno (by decide +kernel)
    · rw [he]
      have : snoc ⟨#[49, 50, 51]⟩ k = ⟨#[49, 50, 51, 67]⟩ := by
        apply bytes_ext
        rw [snoc_list, seal123 ⟨k, hk⟩ hk1]
        rfl
      rw [this]
  subst hx
  go_wp2_with fail
  go_ret
  exact ⟨rfl, rfl⟩
end Go.Proofs.YtecbejmeejepmaaDoor
