/- With a touch more, nobody is parted, unless an id comes to have more than Most touches: the law. -/
import Derived.Test.YtbidhpgjmcedaaaGreatDoorGBH
import Derived.Test.YtbidhpgjmcedaaaGreatDoorGBJ
namespace Go.Proofs.YtbidhpgjmcedaaaGreatDoor
open Go.RowKit
theorem joinsMake : JoinsMake := fun _ _ _ _ _ h hK hP hN => h.joinRules hK hP hN
theorem touchesOnlyJoin_walk (a0 : Option Addr) (len0 cap0 : Nat) (z0 : List Int) (w : World) (w0 : IsRow .i64 w a0 len0 cap0 z0) (hG : GlobP w) :
    Calls Tryz.prog 4 #[.slice a0 len0 cap0] w fun e w' => e = .returned (.bool true) ∧ Below w.heap.size w w' :=
  touchesOnlyJoin_of joinsMake a0 len0 cap0 z0 w w0 hG
end Go.Proofs.YtbidhpgjmcedaaaGreatDoor
