/- Texts of this claim, put together: Neigh. -/
import Derived.Test.YtbidhpgjmcedaaaGreatDoorGBL
import Derived.Test.YtbidhpgjmcedaaaGreatDoorGBQ
namespace Go.Proofs.YtbidhpgjmcedaaaGreatDoor
set_option linter.unusedVariables false
open Go.RowKit
theorem Below.mk9 {w W W' : World} {row : Option Nat} (h : Below w.heap.size w W) (g : W.grownBy W' row) (hr : ∀ b, row = some b → w.heap.size ≤ b) : Below w.heap.size w W' :=
 ⟨g.os.trans h.os, g.tape.trans h.tape, g.output.trans h.output, Nat.le_trans h.size g.size, fun k hk => (g.block k (Nat.lt_of_lt_of_le hk h.size) (fun e => by have := hr k e.symm; omega)).trans (h.block k hk)⟩
end Go.Proofs.YtbidhpgjmcedaaaGreatDoor
