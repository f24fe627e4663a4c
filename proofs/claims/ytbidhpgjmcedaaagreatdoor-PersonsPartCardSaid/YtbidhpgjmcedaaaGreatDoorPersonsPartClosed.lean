/- Closed facts on the row of the law PersonsPart. -/
import Derived.Test.YtbidhpgjmcedaaaGreatDoorChecked
import Derived.Test.YtbidhpgjmcedaaaGreatDoorRows
import Derived.JoinedOf
import Derived.SevenTiedAt
import Derived.KernelRfl
namespace Go.Proofs.YtbidhpgjmcedaaaGreatDoor.personsPartClosed
theorem cGoes : false = Rows.personsPartRow.goesBy Tryz.pinned.checked.prog := by kernel_rfl
theorem cMain : Tryz.pinned.checked.prog.mainIs = some (true, "47f849fb938800985dae5141abfdd94e6ff011cdbadf23517725ffa9089ec449".toList) := by kernel_rfl
theorem cLooks : false = Tryz.pinned.checked.prog.looks [] := by kernel_rfl
theorem cInPlace : (Rows.personsPartRow.inPlace == Tryz.checked.prog.inPlace 6) = true := by kernel_rfl
theorem cUnfollowed : (Rows.personsPartRow.unfollowed == Tryz.checked.prog.unfollowed 6) = true := by kernel_rfl
theorem cRecurses : (Rows.personsPartRow.recurses == Tryz.checked.prog.recurses 6) = true := by kernel_rfl
theorem cNamed : (Rows.personsPartRow.named == Tryz.checked.prog.varsNamed 6) = true := by kernel_rfl
theorem cLaidOut : (laidOutB Tryz.checked.prog) = true := by kernel_rfl
theorem cRowed : (mapsRowed Tryz.checked.prog) = true := by kernel_rfl
theorem closed : joinedFacts Tryz.checked.prog 6 Tryz.f6 Rows.personsPartSpec Rows.personsPartRow = true := by
  unfold joinedFacts
  rw [cInPlace, cUnfollowed, cRecurses, cNamed, cLaidOut, cRowed]
  kernel_rfl
end Go.Proofs.YtbidhpgjmcedaaaGreatDoor.personsPartClosed
