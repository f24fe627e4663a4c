/-
  DERIVED. GIVEN WITH THE SEED: THE CARDS: each row of YtecbejmeejepmaaDoorRows.lean that lists a variable, with what it lists TIED to the program's text (the seventh form; the later family's looks); each row that meets fmt, with fmt's text TOLD by the authors' own Lean function (tested against real Go, not proved from fmt's source: count such statements apart). THE CARD IS WHAT COUNTS. Prove the row's statement (the work); the ties are given (YtecbejmeejepmaaDoorTie.lean); close each card by the builder's one call (the guide's Derived/Test/ToyasCard.lean, 'card_holds'). Laid BY PROGRAM, IN A SANDBOX (cutbox-door.mjs). By AI agents, Wed Nov 11 2026. No macro, syntax, notation, axiom, sorry.
-/
import Derived.Test.YtecbejmeejepmaaDoorRows
import GoSem.ClaimSeven
namespace Go.Proofs.YtecbejmeejepmaaDoor
namespace Rows

/-- THE TIED CARD OF 'handkeep1.BooksHold'. -/
def booksHoldCard : Claim7 := { stood := { row := booksHoldRow, standIns := [], harness := (true, "6a15c9872f2e0ea1c0c51c98df32be66a7789493ecb4c7a396f07a160da1187e"), looks := false }, kinds := [], alts := [], laidByText := true, laidKinds := [.data, .pinned], laidTests := true, laidLooks := .later }
def BooksHoldCardSaid : Prop := Claim7.holds Tryd.pinned (.plain (OpenSpec.ofChange booksHoldSpec)) booksHoldCard

/-- THE TIED CARD OF 'handkeep1.PursesHold'. -/
def pursesHoldCard : Claim7 := { stood := { row := pursesHoldRow, standIns := [], harness := (true, "6a15c9872f2e0ea1c0c51c98df32be66a7789493ecb4c7a396f07a160da1187e"), looks := false }, kinds := [], alts := [], laidByText := true, laidKinds := [.data, .pinned], laidTests := true, laidLooks := .later }
def PursesHoldCardSaid : Prop := Claim7.holds Tryd.pinned (.plain (OpenSpec.ofChange pursesHoldSpec)) pursesHoldCard

/-- THE SECOND FORM's CARD OF 'handkeep1.BooksHold'. -/
def booksHoldUptoCard : Claim7 := { stood := { row := booksHoldUptoRow, standIns := [], harness := (true, "6a15c9872f2e0ea1c0c51c98df32be66a7789493ecb4c7a396f07a160da1187e"), looks := false }, kinds := [], alts := [], laidByText := true, laidKinds := [.data, .pinned], laidTests := true, laidLooks := .later }
def BooksHoldUptoCardSaid : Prop := Claim7.holds Tryd.pinned (.plain (OpenSpec.upto booksHoldSpec)) booksHoldUptoCard

/-- THE SECOND FORM's CARD OF 'handkeep1.PursesHold'. -/
def pursesHoldUptoCard : Claim7 := { stood := { row := pursesHoldUptoRow, standIns := [], harness := (true, "6a15c9872f2e0ea1c0c51c98df32be66a7789493ecb4c7a396f07a160da1187e"), looks := false }, kinds := [], alts := [], laidByText := true, laidKinds := [.data, .pinned], laidTests := true, laidLooks := .later }
def PursesHoldUptoCardSaid : Prop := Claim7.holds Tryd.pinned (.plain (OpenSpec.upto pursesHoldSpec)) pursesHoldUptoCard
end Rows
end Go.Proofs.YtecbejmeejepmaaDoor
