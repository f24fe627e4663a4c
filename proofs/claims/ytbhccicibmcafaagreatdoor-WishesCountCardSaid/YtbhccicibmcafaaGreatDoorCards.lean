/-
  DERIVED. GIVEN WITH THE SEED: THE CARDS: each row of YtbhccicibmcafaaGreatDoorRows.lean that lists a variable, with what it lists TIED to the program's text (the seventh form; the later family's looks); each row that meets fmt, with fmt's text TOLD by the authors' own Lean function (tested against real Go, not proved from fmt's source: count such statements apart). THE CARD IS WHAT COUNTS. Prove the row's statement (the work); the ties are given (YtbhccicibmcafaaGreatDoorTie.lean); close each card by the builder's one call (the guide's Derived/Test/ToyasCard.lean, 'card_holds'). Laid BY PROGRAM, IN A SANDBOX (cutbox-door.mjs). By AI agents, Wed Nov 11 2026. No macro, syntax, notation, axiom, sorry.
-/
import Derived.Test.YtbhccicibmcafaaGreatDoorRows
import GoSem.ClaimSeven
namespace Go.Proofs.YtbhccicibmcafaaGreatDoor
namespace Rows

/-- THE TIED CARD OF 'handkeep2.ConsentsLookBack'. -/
def consentsLookBackCard : Claim7 := { stood := { row := consentsLookBackRow, standIns := [], harness := (true, "db0d133558821a147c74efabcdeb1ab16d5f1e993a49f21925ddb2bf8cb4b6fd"), looks := false }, kinds := [], alts := [], laidByText := true, laidKinds := [.data, .data, .pinned], laidTests := true, laidLooks := .later }
def ConsentsLookBackCardSaid : Prop := Claim7.holds Tryz.pinned (.plain (OpenSpec.ofChange consentsLookBackSpec)) consentsLookBackCard

/-- THE TIED CARD OF 'handkeep2.ConsentsNarrow'. -/
def consentsNarrowCard : Claim7 := { stood := { row := consentsNarrowRow, standIns := [], harness := (true, "db0d133558821a147c74efabcdeb1ab16d5f1e993a49f21925ddb2bf8cb4b6fd"), looks := false }, kinds := [], alts := [], laidByText := true, laidKinds := [.data, .data, .pinned], laidTests := true, laidLooks := .later }
def ConsentsNarrowCardSaid : Prop := Claim7.holds Tryz.pinned (.plain (OpenSpec.ofChange consentsNarrowSpec)) consentsNarrowCard

/-- THE TIED CARD OF 'handkeep2.ProofsSuffice'. -/
def proofsSufficeCard : Claim7 := { stood := { row := proofsSufficeRow, standIns := [], harness := (true, "db0d133558821a147c74efabcdeb1ab16d5f1e993a49f21925ddb2bf8cb4b6fd"), looks := false }, kinds := [], alts := [], laidByText := true, laidKinds := [.data, .data, .pinned], laidTests := true, laidLooks := .later }
def ProofsSufficeCardSaid : Prop := Claim7.holds Tryz.pinned (.plain (OpenSpec.ofChange proofsSufficeSpec)) proofsSufficeCard

/-- THE TIED CARD OF 'handkeep2.PeriodsAreAnswers'. -/
def periodsAreAnswersCard : Claim7 := { stood := { row := periodsAreAnswersRow, standIns := [], harness := (true, "db0d133558821a147c74efabcdeb1ab16d5f1e993a49f21925ddb2bf8cb4b6fd"), looks := false }, kinds := [], alts := [], laidByText := true, laidKinds := [.data, .data, .pinned], laidTests := true, laidLooks := .later }
def PeriodsAreAnswersCardSaid : Prop := Claim7.holds Tryz.pinned (.plain (OpenSpec.ofChange periodsAreAnswersSpec)) periodsAreAnswersCard

/-- THE TIED CARD OF 'handkeep2.WishesCount'. -/
def wishesCountCard : Claim7 := { stood := { row := wishesCountRow, standIns := [], harness := (true, "db0d133558821a147c74efabcdeb1ab16d5f1e993a49f21925ddb2bf8cb4b6fd"), looks := false }, kinds := [], alts := [], laidByText := true, laidKinds := [.data, .data, .pinned], laidTests := true, laidLooks := .later }
def WishesCountCardSaid : Prop := Claim7.holds Tryz.pinned (.plain (OpenSpec.ofChange wishesCountSpec)) wishesCountCard

/-- THE SECOND FORM's CARD OF 'handkeep2.ConsentsLookBack'. -/
def consentsLookBackUptoCard : Claim7 := { stood := { row := consentsLookBackUptoRow, standIns := [], harness := (true, "db0d133558821a147c74efabcdeb1ab16d5f1e993a49f21925ddb2bf8cb4b6fd"), looks := false }, kinds := [], alts := [], laidByText := true, laidKinds := [.data, .data, .pinned], laidTests := true, laidLooks := .later }
def ConsentsLookBackUptoCardSaid : Prop := Claim7.holds Tryz.pinned (.plain (OpenSpec.upto consentsLookBackSpec)) consentsLookBackUptoCard

/-- THE SECOND FORM's CARD OF 'handkeep2.ConsentsNarrow'. -/
def consentsNarrowUptoCard : Claim7 := { stood := { row := consentsNarrowUptoRow, standIns := [], harness := (true, "db0d133558821a147c74efabcdeb1ab16d5f1e993a49f21925ddb2bf8cb4b6fd"), looks := false }, kinds := [], alts := [], laidByText := true, laidKinds := [.data, .data, .pinned], laidTests := true, laidLooks := .later }
def ConsentsNarrowUptoCardSaid : Prop := Claim7.holds Tryz.pinned (.plain (OpenSpec.upto consentsNarrowSpec)) consentsNarrowUptoCard

/-- THE SECOND FORM's CARD OF 'handkeep2.ProofsSuffice'. -/
def proofsSufficeUptoCard : Claim7 := { stood := { row := proofsSufficeUptoRow, standIns := [], harness := (true, "db0d133558821a147c74efabcdeb1ab16d5f1e993a49f21925ddb2bf8cb4b6fd"), looks := false }, kinds := [], alts := [], laidByText := true, laidKinds := [.data, .data, .pinned], laidTests := true, laidLooks := .later }
def ProofsSufficeUptoCardSaid : Prop := Claim7.holds Tryz.pinned (.plain (OpenSpec.upto proofsSufficeSpec)) proofsSufficeUptoCard

/-- THE SECOND FORM's CARD OF 'handkeep2.PeriodsAreAnswers'. -/
def periodsAreAnswersUptoCard : Claim7 := { stood := { row := periodsAreAnswersUptoRow, standIns := [], harness := (true, "db0d133558821a147c74efabcdeb1ab16d5f1e993a49f21925ddb2bf8cb4b6fd"), looks := false }, kinds := [], alts := [], laidByText := true, laidKinds := [.data, .data, .pinned], laidTests := true, laidLooks := .later }
def PeriodsAreAnswersUptoCardSaid : Prop := Claim7.holds Tryz.pinned (.plain (OpenSpec.upto periodsAreAnswersSpec)) periodsAreAnswersUptoCard

/-- THE SECOND FORM's CARD OF 'handkeep2.WishesCount'. -/
def wishesCountUptoCard : Claim7 := { stood := { row := wishesCountUptoRow, standIns := [], harness := (true, "db0d133558821a147c74efabcdeb1ab16d5f1e993a49f21925ddb2bf8cb4b6fd"), looks := false }, kinds := [], alts := [], laidByText := true, laidKinds := [.data, .data, .pinned], laidTests := true, laidLooks := .later }
def WishesCountUptoCardSaid : Prop := Claim7.holds Tryz.pinned (.plain (OpenSpec.upto wishesCountSpec)) wishesCountUptoCard
end Rows
end Go.Proofs.YtbhccicibmcafaaGreatDoor
