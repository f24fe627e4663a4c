/- Closed facts on the row of the law ChainsTie. -/
import Derived.Test.YtbidhpgjmcedaaaGreatDoorChecked
import Derived.Test.YtbidhpgjmcedaaaGreatDoorRows
import Derived.JoinedOf
import Derived.SevenTiedAt
import Derived.KernelRfl
namespace Go.Proofs.YtbidhpgjmcedaaaGreatDoor.chainsTieClosed
theorem cGoes : false = Rows.chainsTieRow.goesBy Tryz.pinned.checked.prog := by kernel_rfl
theorem cMain : Tryz.pinned.checked.prog.mainIs = some (true, "47f849fb938800985dae5141abfdd94e6ff011cdbadf23517725ffa9089ec449".toList) := by kernel_rfl
theorem cLooks : false = Tryz.pinned.checked.prog.looks [] := by kernel_rfl
theorem cInPlace : (Rows.chainsTieRow.inPlace == Tryz.checked.prog.inPlace 9) = true := by kernel_rfl
theorem cUnfollowed : (Rows.chainsTieRow.unfollowed == Tryz.checked.prog.unfollowed 9) = true := by kernel_rfl
theorem cRecurses : (Rows.chainsTieRow.recurses == Tryz.checked.prog.recurses 9) = true := by kernel_rfl
theorem cNamed : (Rows.chainsTieRow.named == Tryz.checked.prog.varsNamed 9) = true := by kernel_rfl
theorem cLaidOut : (laidOutB Tryz.checked.prog) = true := by kernel_rfl
theorem cRowed : (mapsRowed Tryz.checked.prog) = true := by kernel_rfl
theorem closed : joinedFacts Tryz.checked.prog 9 Tryz.f9 Rows.chainsTieSpec Rows.chainsTieRow = true := by
  unfold joinedFacts
  rw [cInPlace, cUnfollowed, cRecurses, cNamed, cLaidOut, cRowed]
  kernel_rfl
end Go.Proofs.YtbidhpgjmcedaaaGreatDoor.chainsTieClosed
