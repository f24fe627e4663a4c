/- Closed facts on the row of the law TopConsents. -/
import Derived.Test.YtcncifmanodabaaGreatDoorChecked
import Derived.Test.YtcncifmanodabaaGreatDoorRows
import Derived.JoinedOf
import Derived.SevenTiedAt
import Derived.KernelRfl
namespace Go.Proofs.YtcncifmanodabaaGreatDoor.topConsentsClosed
theorem cGoes:false = Rows.topConsentsRow.goesBy Tryz.pinned.checked.prog:=by kernel_rfl
theorem cMain : Tryz.pinned.checked.prog.mainIs = some (true, "9edba52db5c1b76dafcc08ce580eeaee2bf7d6f8de49d12fb3816feb4ec9d07e".toList) := by kernel_rfl
theorem cLooks:false = Tryz.pinned.checked.prog.looks []:=by kernel_rfl
theorem cInPlace:(Rows.topConsentsRow.inPlace == Tryz.checked.prog.inPlace 3) = true:=by kernel_rfl
theorem cUnfollowed:(Rows.topConsentsRow.unfollowed == Tryz.checked.prog.unfollowed 3) = true:=by kernel_rfl
theorem cRecurses:(Rows.topConsentsRow.recurses == Tryz.checked.prog.recurses 3) = true:=by kernel_rfl
theorem cNamed:(Rows.topConsentsRow.named == Tryz.checked.prog.varsNamed 3) = true:=by kernel_rfl
theorem cLaidOut:(laidOutB Tryz.checked.prog) = true:=by kernel_rfl
theorem cRowed:(mapsRowed Tryz.checked.prog) = true:=by kernel_rfl
theorem closed:joinedFacts Tryz.checked.prog 3 Tryz.f3 Rows.topConsentsSpec Rows.topConsentsRow = true:=by
 unfold joinedFacts
 rw [cInPlace,cUnfollowed,cRecurses,cNamed,cLaidOut,cRowed]
 kernel_rfl
end Go.Proofs.YtcncifmanodabaaGreatDoor.topConsentsClosed
