/-
  DERIVED. GIVEN WITH THE SEED: THE CARDS: each row of YtmlpfbffecdepaaGreatDoorRows.lean that lists a variable, with what it lists TIED to the program's text (the seventh form; the later family's looks); each row that meets fmt, with fmt's text TOLD by the authors' own Lean function (tested against real Go, not proved from fmt's source: count such statements apart). THE CARD IS WHAT COUNTS. Prove the row's statement (the work); the ties are given (YtmlpfbffecdepaaGreatDoorTie.lean); close each card by the builder's one call (the guide's Derived/Test/ToyasCard.lean, 'card_holds'). Laid BY PROGRAM, IN A SANDBOX (cutbox-door.mjs). By AI agents, Wed Nov 11 2026. No macro, syntax, notation, axiom, sorry.
-/
import Derived.Test.YtmlpfbffecdepaaGreatDoorRows
import GoSem.ClaimSeven
namespace Go.Proofs.YtmlpfbffecdepaaGreatDoor
namespace Rows

/-- THE TIED CARD OF 'handkeep2.ConsentsStay'. -/
def consentsStayCard : Claim7 := { stood := { row := consentsStayRow, standIns := [], harness := (true, "397da3e1b3f9ede998d22ac1426106a4ae8d5c6c660f4fbe41350a63d666159e"), looks := false }, kinds := [], alts := [], laidByText := true, laidKinds := [.data, .data, .data, .data, .data, .pinned], laidTests := true, laidLooks := .later }
def ConsentsStayCardSaid : Prop := Claim7.holds Tryz.pinned (.plain (OpenSpec.ofChange consentsStaySpec)) consentsStayCard

/-- THE SECOND FORM's CARD OF 'handkeep2.ConsentsStay'. -/
def consentsStayUptoCard : Claim7 := { stood := { row := consentsStayUptoRow, standIns := [], harness := (true, "397da3e1b3f9ede998d22ac1426106a4ae8d5c6c660f4fbe41350a63d666159e"), looks := false }, kinds := [], alts := [], laidByText := true, laidKinds := [.data, .data, .data, .data, .data, .pinned], laidTests := true, laidLooks := .later }
def ConsentsStayUptoCardSaid : Prop := Claim7.holds Tryz.pinned (.plain (OpenSpec.upto consentsStaySpec)) consentsStayUptoCard
end Rows
end Go.Proofs.YtmlpfbffecdepaaGreatDoor
