/- Texts of this claim, put together: PartP, OnlyJoinW. -/
import Derived.Test.YtbidhpgjmcedaaaGreatDoorGBO
import Derived.Test.YtbidhpgjmcedaaaGreatDoorGBH
import Derived.Test.YtbidhpgjmcedaaaGreatDoorGBJ
/- Each touch is of one person, whose ids are those of its touches; and rules with a weak id more: plainly, and what the law's walk asks. -/
namespace Go.Proofs.YtbidhpgjmcedaaaGreatDoor
set_option linter.unusedVariables false
open Go.RowKit
section
variable {J : IdD → Bool} {ts : List TchD} {rr : List Nat} {ps : List PerD}
end
end Go.Proofs.YtbidhpgjmcedaaaGreatDoor

/- With a touch more, nobody is parted, unless an id comes to have more than Most touches: the law. -/
namespace Go.Proofs.YtbidhpgjmcedaaaGreatDoor
open Go.RowKit
theorem joinsMake : JoinsMake := fun _ _ _ _ _ h hK hP hN => h.joinRules hK hP hN
end Go.Proofs.YtbidhpgjmcedaaaGreatDoor
