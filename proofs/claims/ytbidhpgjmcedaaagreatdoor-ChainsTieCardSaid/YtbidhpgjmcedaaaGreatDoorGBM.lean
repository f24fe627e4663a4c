/- Texts of this claim, put together: PartsO. -/
import Derived.Test.YtbidhpgjmcedaaaGreatDoorGAN
import Derived.Test.YtbidhpgjmcedaaaGreatDoorGBL
import Derived.StillTailTactics
import Derived.Deep.Cut
/- The parts of a group without an id. -/
namespace Go.Proofs.YtbidhpgjmcedaaaGreatDoor
set_option linter.unusedVariables false
open Go.RowKit
end Go.Proofs.YtbidhpgjmcedaaaGreatDoor
