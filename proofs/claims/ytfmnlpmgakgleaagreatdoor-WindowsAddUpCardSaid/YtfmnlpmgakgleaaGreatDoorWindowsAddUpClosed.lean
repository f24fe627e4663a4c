/- Closed facts on the row of the law WindowsAddUp. -/
import Derived.Test.YtfmnlpmgakgleaaGreatDoorChecked
import Derived.Test.YtfmnlpmgakgleaaGreatDoorRows
import Derived.JoinedOf
import Derived.SevenTiedAt
import Derived.KernelRfl
namespace Go.Proofs.YtfmnlpmgakgleaaGreatDoor.windowsAddUpClosed
theorem cGoes:false = Rows.windowsAddUpRow.goesBy Tryz.pinned.checked.prog:=by kernel_rfl
theorem cMain : Tryz.pinned.checked.prog.mainIs = some (true, "2ddf598c4d841370bcea60a930f9fd48ddc85c4e55c147a4805aac1d0a654b93".toList) := by kernel_rfl
theorem cLooks:true = Tryz.pinned.checked.prog.looks []:=by kernel_rfl
theorem cInPlace:(Rows.windowsAddUpRow.inPlace == Tryz.checked.prog.inPlace 4) = true:=by kernel_rfl
theorem cUnfollowed:(Rows.windowsAddUpRow.unfollowed == Tryz.checked.prog.unfollowed 4) = true:=by kernel_rfl
theorem cRecurses:(Rows.windowsAddUpRow.recurses == Tryz.checked.prog.recurses 4) = true:=by kernel_rfl
theorem cNamed:(Rows.windowsAddUpRow.named == Tryz.checked.prog.varsNamed 4) = true:=by kernel_rfl
theorem cLaidOut:(laidOutB Tryz.checked.prog) = true:=by kernel_rfl
theorem cRowed:(mapsRowed Tryz.checked.prog) = true:=by kernel_rfl
theorem closed:joinedFacts Tryz.checked.prog 4 Tryz.f4 Rows.windowsAddUpSpec Rows.windowsAddUpRow = true:=by
 unfold joinedFacts
 rw [cInPlace,cUnfollowed,cRecurses,cNamed,cLaidOut,cRowed]
 kernel_rfl
end Go.Proofs.YtfmnlpmgakgleaaGreatDoor.windowsAddUpClosed
