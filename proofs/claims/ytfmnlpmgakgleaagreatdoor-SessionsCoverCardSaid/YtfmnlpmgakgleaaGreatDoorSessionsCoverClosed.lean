/- Closed facts on the row of the law SessionsCover. -/
import Derived.Test.YtfmnlpmgakgleaaGreatDoorChecked
import Derived.Test.YtfmnlpmgakgleaaGreatDoorRows
import Derived.JoinedOf
import Derived.SevenTiedAt
import Derived.KernelRfl
namespace Go.Proofs.YtfmnlpmgakgleaaGreatDoor.sessionsCoverClosed
theorem cGoes:false = Rows.sessionsCoverRow.goesBy Tryz.pinned.checked.prog:=by kernel_rfl
theorem cMain : Tryz.pinned.checked.prog.mainIs = some (true, "2ddf598c4d841370bcea60a930f9fd48ddc85c4e55c147a4805aac1d0a654b93".toList) := by kernel_rfl
theorem cLooks:true = Tryz.pinned.checked.prog.looks []:=by kernel_rfl
theorem cInPlace:(Rows.sessionsCoverRow.inPlace == Tryz.checked.prog.inPlace 3) = true:=by kernel_rfl
theorem cUnfollowed:(Rows.sessionsCoverRow.unfollowed == Tryz.checked.prog.unfollowed 3) = true:=by kernel_rfl
theorem cRecurses:(Rows.sessionsCoverRow.recurses == Tryz.checked.prog.recurses 3) = true:=by kernel_rfl
theorem cNamed:(Rows.sessionsCoverRow.named == Tryz.checked.prog.varsNamed 3) = true:=by kernel_rfl
theorem cLaidOut:(laidOutB Tryz.checked.prog) = true:=by kernel_rfl
theorem cRowed:(mapsRowed Tryz.checked.prog) = true:=by kernel_rfl
theorem closed:joinedFacts Tryz.checked.prog 3 Tryz.f3 Rows.sessionsCoverSpec Rows.sessionsCoverRow = true:=by
 unfold joinedFacts
 rw [cInPlace,cUnfollowed,cRecurses,cNamed,cLaidOut,cRowed]
 kernel_rfl
end Go.Proofs.YtfmnlpmgakgleaaGreatDoor.sessionsCoverClosed
