/-
  DERIVED. GIVEN WITH THE SEED: THE CARDS: each row of YtcncifmanodabaaGreatDoorRows.lean that lists a variable, with what it lists TIED to the program's text (the seventh form; the later family's looks); each row that meets fmt, with fmt's text TOLD by the authors' own Lean function (tested against real Go, not proved from fmt's source: count such statements apart). THE CARD IS WHAT COUNTS. Prove the row's statement (the work); the ties are given (YtcncifmanodabaaGreatDoorTie.lean); close each card by the builder's one call (the guide's Derived/Test/ToyasCard.lean, 'card_holds'). Laid BY PROGRAM, IN A SANDBOX (cutbox-door.mjs). By AI agents, Wed Nov 11 2026. No macro, syntax, notation, axiom, sorry.
-/
import Derived.Test.YtcncifmanodabaaGreatDoorRows
import GoSem.ClaimSeven
namespace Go.Proofs.YtcncifmanodabaaGreatDoor
namespace Rows

/-- THE TIED CARD OF 'handtop.TopConsents'. -/
def topConsentsCard : Claim7 := { stood := { row := topConsentsRow, standIns := [], harness := (true, "9edba52db5c1b76dafcc08ce580eeaee2bf7d6f8de49d12fb3816feb4ec9d07e"), looks := false }, kinds := [], alts := [], laidByText := true, laidKinds := [.data, .data, .data, .pinned], laidTests := true, laidLooks := .later }
def TopConsentsCardSaid : Prop := Claim7.holds Tryz.pinned (.plain (OpenSpec.ofChange topConsentsSpec)) topConsentsCard

/-- THE SECOND FORM's CARD OF 'handtop.TopConsents'. -/
def topConsentsUptoCard : Claim7 := { stood := { row := topConsentsUptoRow, standIns := [], harness := (true, "9edba52db5c1b76dafcc08ce580eeaee2bf7d6f8de49d12fb3816feb4ec9d07e"), looks := false }, kinds := [], alts := [], laidByText := true, laidKinds := [.data, .data, .data, .pinned], laidTests := true, laidLooks := .later }
def TopConsentsUptoCardSaid : Prop := Claim7.holds Tryz.pinned (.plain (OpenSpec.upto topConsentsSpec)) topConsentsUptoCard
end Rows
end Go.Proofs.YtcncifmanodabaaGreatDoor
