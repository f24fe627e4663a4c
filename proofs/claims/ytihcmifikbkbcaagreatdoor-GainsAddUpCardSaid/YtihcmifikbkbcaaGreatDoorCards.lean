/-
  DERIVED. GIVEN WITH THE SEED: THE CARDS: each row of YtihcmifikbkbcaaGreatDoorRows.lean that lists a variable, with what it lists TIED to the program's text (the seventh form; the later family's looks); each row that meets fmt, with fmt's text TOLD by the authors' own Lean function (tested against real Go, not proved from fmt's source: count such statements apart). THE CARD IS WHAT COUNTS. Prove the row's statement (the work); the ties are given (YtihcmifikbkbcaaGreatDoorTie.lean); close each card by the builder's one call (the guide's Derived/Test/ToyasCard.lean, 'card_holds'). Laid BY PROGRAM, IN A SANDBOX (cutbox-door.mjs). By AI agents, Wed Nov 11 2026. No macro, syntax, notation, axiom, sorry.
-/
import Derived.Test.YtihcmifikbkbcaaGreatDoorRows
import GoSem.ClaimSeven
namespace Go.Proofs.YtihcmifikbkbcaaGreatDoor
namespace Rows

/-- THE TIED CARD OF 'handkeep1.GainsAddUp'. -/
def gainsAddUpCard : Claim7 := { stood := { row := gainsAddUpRow, standIns := [], harness := (true, "b6a29f8cd5aa89083b9df3bbfce8792de65f7e251f92962fd1eaad756e599002"), looks := false }, kinds := [], alts := [], laidByText := true, laidKinds := [.data, .pinned], laidTests := true, laidLooks := .later }
def GainsAddUpCardSaid : Prop := Claim7.holds Tryz.pinned (.plain (OpenSpec.ofChange gainsAddUpSpec)) gainsAddUpCard

/-- THE SECOND FORM's CARD OF 'handkeep1.GainsAddUp'. -/
def gainsAddUpUptoCard : Claim7 := { stood := { row := gainsAddUpUptoRow, standIns := [], harness := (true, "b6a29f8cd5aa89083b9df3bbfce8792de65f7e251f92962fd1eaad756e599002"), looks := false }, kinds := [], alts := [], laidByText := true, laidKinds := [.data, .pinned], laidTests := true, laidLooks := .later }
def GainsAddUpUptoCardSaid : Prop := Claim7.holds Tryz.pinned (.plain (OpenSpec.upto gainsAddUpSpec)) gainsAddUpUptoCard
end Rows
end Go.Proofs.YtihcmifikbkbcaaGreatDoor
