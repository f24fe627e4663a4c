/- Texts of this claim, put together: RowsA, CompI. -/
import Derived.Test.YtbidhpgjmcedaaaGreatDoorGAI
import Derived.Test.YtbidhpgjmcedaaaGreatDoorGAG
import Derived.Laws.OwnMore
import Derived.Test.YtbidhpgjmcedaaaGreatDoorGAN
namespace Go.Proofs.YtbidhpgjmcedaaaGreatDoor
set_option linter.unusedVariables false
open Go.RowKit
open Go.RowKit
end Go.Proofs.YtbidhpgjmcedaaaGreatDoor
