/- Closed facts on the row of the law RecordsAreTold. -/
import Derived.Test.YtbidhpgjmcedaaaGreatDoorChecked
import Derived.Test.YtbidhpgjmcedaaaGreatDoorRows
import Derived.JoinedOf
import Derived.SevenTiedAt
import Derived.KernelRfl
namespace Go.Proofs.YtbidhpgjmcedaaaGreatDoor.recordsAreToldClosed
theorem cGoes : false = Rows.recordsAreToldRow.goesBy Tryz.pinned.checked.prog:=by kernel_rfl
theorem cMain : Tryz.pinned.checked.prog.mainIs = some (true, "47f849fb938800985dae5141abfdd94e6ff011cdbadf23517725ffa9089ec449".toList) := by kernel_rfl
theorem cLooks : false = Tryz.pinned.checked.prog.looks []:=by kernel_rfl
theorem cInPlace : (Rows.recordsAreToldRow.inPlace == Tryz.checked.prog.inPlace 7) = true:=by kernel_rfl
theorem cUnfollowed : (Rows.recordsAreToldRow.unfollowed == Tryz.checked.prog.unfollowed 7) = true:=by kernel_rfl
theorem cRecurses : (Rows.recordsAreToldRow.recurses == Tryz.checked.prog.recurses 7) = true:=by kernel_rfl
theorem cNamed : (Rows.recordsAreToldRow.named == Tryz.checked.prog.varsNamed 7) = true:=by kernel_rfl
theorem cLaidOut : (laidOutB Tryz.checked.prog) = true:=by kernel_rfl
theorem cRowed : (mapsRowed Tryz.checked.prog) = true:=by kernel_rfl
theorem closed : joinedFacts Tryz.checked.prog 7 Tryz.f7 Rows.recordsAreToldSpec Rows.recordsAreToldRow = true:=by
 unfold joinedFacts
 rw [cInPlace,cUnfollowed,cRecurses,cNamed,cLaidOut,cRowed]
 kernel_rfl
end Go.Proofs.YtbidhpgjmcedaaaGreatDoor.recordsAreToldClosed
