/-
  DERIVED. GIVEN WITH THE SEED: THE CARDS: each row of YtbidhpgjmcedaaaGreatDoorRows.lean that lists a variable, with what it lists TIED to the program's text (the seventh form; the later family's looks); each row that meets fmt, with fmt's text TOLD by the authors' own Lean function (tested against real Go, not proved from fmt's source: count such statements apart). THE CARD IS WHAT COUNTS. Prove the row's statement (the work); the ties are given (YtbidhpgjmcedaaaGreatDoorTie.lean); close each card by the builder's one call (the guide's Derived/Test/ToyasCard.lean, 'card_holds'). Laid BY PROGRAM, IN A SANDBOX (cutbox-door.mjs). By AI agents, Wed Nov 11 2026. No macro, syntax, notation, axiom, sorry.
-/
import Derived.Test.YtbidhpgjmcedaaaGreatDoorRows
import GoSem.ClaimSeven
namespace Go.Proofs.YtbidhpgjmcedaaaGreatDoor
namespace Rows

/-- THE TIED CARD OF 'handkeep2.PointsTurn'. -/
def pointsTurnCard : Claim7 := { stood := { row := pointsTurnRow, standIns := [], harness := (true, "47f849fb938800985dae5141abfdd94e6ff011cdbadf23517725ffa9089ec449"), looks := false }, kinds := [], alts := [], laidByText := true, laidKinds := [.data, .data, .pinned], laidTests := true, laidLooks := .later }
def PointsTurnCardSaid : Prop := Claim7.holds Tryz.pinned (.plain (OpenSpec.ofChange pointsTurnSpec)) pointsTurnCard

/-- THE TIED CARD OF 'handkeep2.TouchesOnlyJoin'. -/
def touchesOnlyJoinCard : Claim7 := { stood := { row := touchesOnlyJoinRow, standIns := [], harness := (true, "47f849fb938800985dae5141abfdd94e6ff011cdbadf23517725ffa9089ec449"), looks := false }, kinds := [], alts := [], laidByText := true, laidKinds := [.data, .data, .data, .pinned], laidTests := true, laidLooks := .later }
def TouchesOnlyJoinCardSaid : Prop := Claim7.holds Tryz.pinned (.plain (OpenSpec.ofChange touchesOnlyJoinSpec)) touchesOnlyJoinCard

/-- THE TIED CARD OF 'handkeep2.NormalsStay'. -/
def normalsStayCard : Claim7 := { stood := { row := normalsStayRow, standIns := [], harness := (true, "47f849fb938800985dae5141abfdd94e6ff011cdbadf23517725ffa9089ec449"), looks := false }, kinds := [], alts := [], laidByText := true, laidKinds := [.data, .pinned], laidTests := true, laidLooks := .later }
def NormalsStayCardSaid : Prop := Claim7.holds Tryz.pinned (.plain (OpenSpec.ofChange normalsStaySpec)) normalsStayCard

/-- THE TIED CARD OF 'handkeep2.PersonsPart'. -/
def personsPartCard : Claim7 := { stood := { row := personsPartRow, standIns := [], harness := (true, "47f849fb938800985dae5141abfdd94e6ff011cdbadf23517725ffa9089ec449"), looks := false }, kinds := [], alts := [], laidByText := true, laidKinds := [.data, .data, .data, .pinned], laidTests := true, laidLooks := .later }
def PersonsPartCardSaid : Prop := Claim7.holds Tryz.pinned (.plain (OpenSpec.ofChange personsPartSpec)) personsPartCard

/-- THE TIED CARD OF 'handkeep2.RecordsAreTold'. -/
def recordsAreToldCard : Claim7 := { stood := { row := recordsAreToldRow, standIns := [], harness := (true, "47f849fb938800985dae5141abfdd94e6ff011cdbadf23517725ffa9089ec449"), looks := false }, kinds := [], alts := [], laidByText := true, laidKinds := [.data, .data, .data, .pinned], laidTests := true, laidLooks := .later }
def RecordsAreToldCardSaid : Prop := Claim7.holds Tryz.pinned (.plain (OpenSpec.ofChange recordsAreToldSpec)) recordsAreToldCard

/-- THE TIED CARD OF 'handkeep2.IndexHasPersons'. -/
def indexHasPersonsCard : Claim7 := { stood := { row := indexHasPersonsRow, standIns := [], harness := (true, "47f849fb938800985dae5141abfdd94e6ff011cdbadf23517725ffa9089ec449"), looks := false }, kinds := [], alts := [], laidByText := true, laidKinds := [.data, .data, .data, .pinned], laidTests := true, laidLooks := .later }
def IndexHasPersonsCardSaid : Prop := Claim7.holds Tryz.pinned (.plain (OpenSpec.ofChange indexHasPersonsSpec)) indexHasPersonsCard

/-- THE TIED CARD OF 'handkeep2.ChainsTie'. -/
def chainsTieCard : Claim7 := { stood := { row := chainsTieRow, standIns := [], harness := (true, "47f849fb938800985dae5141abfdd94e6ff011cdbadf23517725ffa9089ec449"), looks := false }, kinds := [], alts := [], laidByText := true, laidKinds := [.data, .data, .data, .pinned], laidTests := true, laidLooks := .later }
def ChainsTieCardSaid : Prop := Claim7.holds Tryz.pinned (.plain (OpenSpec.ofChange chainsTieSpec)) chainsTieCard

/-- THE TIED CARD OF 'handkeep2.TouchesStay'. -/
def touchesStayCard : Claim7 := { stood := { row := touchesStayRow, standIns := [], harness := (true, "47f849fb938800985dae5141abfdd94e6ff011cdbadf23517725ffa9089ec449"), looks := false }, kinds := [], alts := [], laidByText := true, laidKinds := [.data, .data, .data, .pinned], laidTests := true, laidLooks := .later }
def TouchesStayCardSaid : Prop := Claim7.holds Tryz.pinned (.plain (OpenSpec.ofChange touchesStaySpec)) touchesStayCard

/-- THE SECOND FORM's CARD OF 'handkeep2.PointsTurn'. -/
def pointsTurnUptoCard : Claim7 := { stood := { row := pointsTurnUptoRow, standIns := [], harness := (true, "47f849fb938800985dae5141abfdd94e6ff011cdbadf23517725ffa9089ec449"), looks := false }, kinds := [], alts := [], laidByText := true, laidKinds := [.data, .data, .pinned], laidTests := true, laidLooks := .later }
def PointsTurnUptoCardSaid : Prop := Claim7.holds Tryz.pinned (.plain (OpenSpec.upto pointsTurnSpec)) pointsTurnUptoCard

/-- THE SECOND FORM's CARD OF 'handkeep2.TouchesOnlyJoin'. -/
def touchesOnlyJoinUptoCard : Claim7 := { stood := { row := touchesOnlyJoinUptoRow, standIns := [], harness := (true, "47f849fb938800985dae5141abfdd94e6ff011cdbadf23517725ffa9089ec449"), looks := false }, kinds := [], alts := [], laidByText := true, laidKinds := [.data, .data, .data, .pinned], laidTests := true, laidLooks := .later }
def TouchesOnlyJoinUptoCardSaid : Prop := Claim7.holds Tryz.pinned (.plain (OpenSpec.upto touchesOnlyJoinSpec)) touchesOnlyJoinUptoCard

/-- THE SECOND FORM's CARD OF 'handkeep2.NormalsStay'. -/
def normalsStayUptoCard : Claim7 := { stood := { row := normalsStayUptoRow, standIns := [], harness := (true, "47f849fb938800985dae5141abfdd94e6ff011cdbadf23517725ffa9089ec449"), looks := false }, kinds := [], alts := [], laidByText := true, laidKinds := [.data, .pinned], laidTests := true, laidLooks := .later }
def NormalsStayUptoCardSaid : Prop := Claim7.holds Tryz.pinned (.plain (OpenSpec.upto normalsStaySpec)) normalsStayUptoCard

/-- THE SECOND FORM's CARD OF 'handkeep2.PersonsPart'. -/
def personsPartUptoCard : Claim7 := { stood := { row := personsPartUptoRow, standIns := [], harness := (true, "47f849fb938800985dae5141abfdd94e6ff011cdbadf23517725ffa9089ec449"), looks := false }, kinds := [], alts := [], laidByText := true, laidKinds := [.data, .data, .data, .pinned], laidTests := true, laidLooks := .later }
def PersonsPartUptoCardSaid : Prop := Claim7.holds Tryz.pinned (.plain (OpenSpec.upto personsPartSpec)) personsPartUptoCard

/-- THE SECOND FORM's CARD OF 'handkeep2.RecordsAreTold'. -/
def recordsAreToldUptoCard : Claim7 := { stood := { row := recordsAreToldUptoRow, standIns := [], harness := (true, "47f849fb938800985dae5141abfdd94e6ff011cdbadf23517725ffa9089ec449"), looks := false }, kinds := [], alts := [], laidByText := true, laidKinds := [.data, .data, .data, .pinned], laidTests := true, laidLooks := .later }
def RecordsAreToldUptoCardSaid : Prop := Claim7.holds Tryz.pinned (.plain (OpenSpec.upto recordsAreToldSpec)) recordsAreToldUptoCard

/-- THE SECOND FORM's CARD OF 'handkeep2.IndexHasPersons'. -/
def indexHasPersonsUptoCard : Claim7 := { stood := { row := indexHasPersonsUptoRow, standIns := [], harness := (true, "47f849fb938800985dae5141abfdd94e6ff011cdbadf23517725ffa9089ec449"), looks := false }, kinds := [], alts := [], laidByText := true, laidKinds := [.data, .data, .data, .pinned], laidTests := true, laidLooks := .later }
def IndexHasPersonsUptoCardSaid : Prop := Claim7.holds Tryz.pinned (.plain (OpenSpec.upto indexHasPersonsSpec)) indexHasPersonsUptoCard

/-- THE SECOND FORM's CARD OF 'handkeep2.ChainsTie'. -/
def chainsTieUptoCard : Claim7 := { stood := { row := chainsTieUptoRow, standIns := [], harness := (true, "47f849fb938800985dae5141abfdd94e6ff011cdbadf23517725ffa9089ec449"), looks := false }, kinds := [], alts := [], laidByText := true, laidKinds := [.data, .data, .data, .pinned], laidTests := true, laidLooks := .later }
def ChainsTieUptoCardSaid : Prop := Claim7.holds Tryz.pinned (.plain (OpenSpec.upto chainsTieSpec)) chainsTieUptoCard

/-- THE SECOND FORM's CARD OF 'handkeep2.TouchesStay'. -/
def touchesStayUptoCard : Claim7 := { stood := { row := touchesStayUptoRow, standIns := [], harness := (true, "47f849fb938800985dae5141abfdd94e6ff011cdbadf23517725ffa9089ec449"), looks := false }, kinds := [], alts := [], laidByText := true, laidKinds := [.data, .data, .data, .pinned], laidTests := true, laidLooks := .later }
def TouchesStayUptoCardSaid : Prop := Claim7.holds Tryz.pinned (.plain (OpenSpec.upto touchesStaySpec)) touchesStayUptoCard
end Rows
end Go.Proofs.YtbidhpgjmcedaaaGreatDoor
