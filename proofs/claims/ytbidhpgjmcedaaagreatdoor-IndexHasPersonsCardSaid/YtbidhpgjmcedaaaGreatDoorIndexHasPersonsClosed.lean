/- Closed facts on the row of the law IndexHasPersons. -/
import Derived.Test.YtbidhpgjmcedaaaGreatDoorChecked
import Derived.Test.YtbidhpgjmcedaaaGreatDoorRows
import Derived.JoinedOf
import Derived.SevenTiedAt
import Derived.KernelRfl
namespace Go.Proofs.YtbidhpgjmcedaaaGreatDoor.indexHasPersonsClosed
theorem cGoes : false = Rows.indexHasPersonsRow.goesBy Tryz.pinned.checked.prog := by kernel_rfl
theorem cMain : Tryz.pinned.checked.prog.mainIs = some (true, "47f849fb938800985dae5141abfdd94e6ff011cdbadf23517725ffa9089ec449".toList) := by kernel_rfl
theorem cLooks : false = Tryz.pinned.checked.prog.looks [] := by kernel_rfl
theorem cInPlace : (Rows.indexHasPersonsRow.inPlace == Tryz.checked.prog.inPlace 8) = true := by kernel_rfl
theorem cUnfollowed : (Rows.indexHasPersonsRow.unfollowed == Tryz.checked.prog.unfollowed 8) = true := by kernel_rfl
theorem cRecurses : (Rows.indexHasPersonsRow.recurses == Tryz.checked.prog.recurses 8) = true := by kernel_rfl
theorem cNamed : (Rows.indexHasPersonsRow.named == Tryz.checked.prog.varsNamed 8) = true := by kernel_rfl
theorem cLaidOut : (laidOutB Tryz.checked.prog) = true := by kernel_rfl
theorem cRowed : (mapsRowed Tryz.checked.prog) = true := by kernel_rfl
theorem closed : joinedFacts Tryz.checked.prog 8 Tryz.f8 Rows.indexHasPersonsSpec Rows.indexHasPersonsRow = true := by
 unfold joinedFacts
 rw [cInPlace, cUnfollowed, cRecurses, cNamed, cLaidOut, cRowed]
 kernel_rfl
end Go.Proofs.YtbidhpgjmcedaaaGreatDoor.indexHasPersonsClosed
