/- Texts of this claim, put together: Cuts. -/
import Derived.Test.YtbidhpgjmcedaaaGreatDoorGBN
import Derived.Deep.MidRow
/- Cuts: the ids without which a person would be several. -/
namespace Go.Proofs.YtbidhpgjmcedaaaGreatDoor
set_option linter.unusedVariables false
open Go.RowKit
end Go.Proofs.YtbidhpgjmcedaaaGreatDoor
