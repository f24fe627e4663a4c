/-
  DERIVED. GIVEN WITH THE SEED: THE CARDS: each row of YtfmnlpmgakgleaaGreatDoorRows.lean that lists a variable, with what it lists TIED to the program's text (the seventh form; the later family's looks); each row that meets fmt, with fmt's text TOLD by the authors' own Lean function (tested against real Go, not proved from fmt's source: count such statements apart). THE CARD IS WHAT COUNTS. Prove the row's statement (the work); the ties are given (YtfmnlpmgakgleaaGreatDoorTie.lean); close each card by the builder's one call (the guide's Derived/Test/ToyasCard.lean, 'card_holds'). Laid BY PROGRAM, IN A SANDBOX (cutbox-door.mjs). By AI agents, Wed Nov 11 2026. No macro, syntax, notation, axiom, sorry.
-/
import Derived.Test.YtfmnlpmgakgleaaGreatDoorRows
import GoSem.ClaimSeven
namespace Go.Proofs.YtfmnlpmgakgleaaGreatDoor
namespace Rows

/-- THE TIED CARD OF 'handkeep2.SessionsCover'. -/
def sessionsCoverCard : Claim7 := { stood := { row := sessionsCoverRow, standIns := [], harness := (true, "2ddf598c4d841370bcea60a930f9fd48ddc85c4e55c147a4805aac1d0a654b93"), looks := true }, kinds := [], alts := [], laidByText := true, laidKinds := [.data, .data, .data, .data, .pinned], laidTests := true, laidLooks := .later }
def SessionsCoverCardSaid : Prop := Claim7.holds Tryz.pinned (.plain (OpenSpec.ofChange sessionsCoverSpec)) sessionsCoverCard

/-- THE TIED CARD OF 'handkeep2.WindowsAddUp'. -/
def windowsAddUpCard : Claim7 := { stood := { row := windowsAddUpRow, standIns := [], harness := (true, "2ddf598c4d841370bcea60a930f9fd48ddc85c4e55c147a4805aac1d0a654b93"), looks := true }, kinds := [], alts := [], laidByText := true, laidKinds := [.data, .data, .data, .data, .pinned], laidTests := true, laidLooks := .later }
def WindowsAddUpCardSaid : Prop := Claim7.holds Tryz.pinned (.plain (OpenSpec.ofChange windowsAddUpSpec)) windowsAddUpCard

/-- THE TIED CARD OF 'handkeep2.LogsMeet'. -/
def logsMeetCard : Claim7 := { stood := { row := logsMeetRow, standIns := [], harness := (true, "2ddf598c4d841370bcea60a930f9fd48ddc85c4e55c147a4805aac1d0a654b93"), looks := true }, kinds := [], alts := [], laidByText := true, laidKinds := [.data, .data, .data, .data, .pinned], laidTests := true, laidLooks := .later }
def LogsMeetCardSaid : Prop := Claim7.holds Tryz.pinned (.plain (OpenSpec.ofChange logsMeetSpec)) logsMeetCard

/-- THE TIED CARD OF 'handkeep2.EventsStay'. -/
def eventsStayCard : Claim7 := { stood := { row := eventsStayRow, standIns := [], harness := (true, "2ddf598c4d841370bcea60a930f9fd48ddc85c4e55c147a4805aac1d0a654b93"), looks := true }, kinds := [], alts := [], laidByText := true, laidKinds := [.data, .data, .data, .data, .pinned], laidTests := true, laidLooks := .later }
def EventsStayCardSaid : Prop := Claim7.holds Tryz.pinned (.plain (OpenSpec.ofChange eventsStaySpec)) eventsStayCard

/-- THE TIED CARD OF 'handkeep2.PacksComeBack'. -/
def packsComeBackCard : Claim7 := { stood := { row := packsComeBackRow, standIns := [], harness := (true, "2ddf598c4d841370bcea60a930f9fd48ddc85c4e55c147a4805aac1d0a654b93"), looks := true }, kinds := [], alts := [], laidByText := true, laidKinds := [.data, .data, .data, .data, .sentinel, .sentinel, .data, .data, .data, .pinned], laidTests := true, laidLooks := .later }
def PacksComeBackCardSaid : Prop := Claim7.holds Tryz.pinned (.plain (OpenSpec.ofChange packsComeBackSpec)) packsComeBackCard

/-- THE SECOND FORM's CARD OF 'handkeep2.SessionsCover'. -/
def sessionsCoverUptoCard : Claim7 := { stood := { row := sessionsCoverUptoRow, standIns := [], harness := (true, "2ddf598c4d841370bcea60a930f9fd48ddc85c4e55c147a4805aac1d0a654b93"), looks := true }, kinds := [], alts := [], laidByText := true, laidKinds := [.data, .data, .data, .data, .pinned], laidTests := true, laidLooks := .later }
def SessionsCoverUptoCardSaid : Prop := Claim7.holds Tryz.pinned (.plain (OpenSpec.upto sessionsCoverSpec)) sessionsCoverUptoCard

/-- THE SECOND FORM's CARD OF 'handkeep2.WindowsAddUp'. -/
def windowsAddUpUptoCard : Claim7 := { stood := { row := windowsAddUpUptoRow, standIns := [], harness := (true, "2ddf598c4d841370bcea60a930f9fd48ddc85c4e55c147a4805aac1d0a654b93"), looks := true }, kinds := [], alts := [], laidByText := true, laidKinds := [.data, .data, .data, .data, .pinned], laidTests := true, laidLooks := .later }
def WindowsAddUpUptoCardSaid : Prop := Claim7.holds Tryz.pinned (.plain (OpenSpec.upto windowsAddUpSpec)) windowsAddUpUptoCard

/-- THE SECOND FORM's CARD OF 'handkeep2.LogsMeet'. -/
def logsMeetUptoCard : Claim7 := { stood := { row := logsMeetUptoRow, standIns := [], harness := (true, "2ddf598c4d841370bcea60a930f9fd48ddc85c4e55c147a4805aac1d0a654b93"), looks := true }, kinds := [], alts := [], laidByText := true, laidKinds := [.data, .data, .data, .data, .pinned], laidTests := true, laidLooks := .later }
def LogsMeetUptoCardSaid : Prop := Claim7.holds Tryz.pinned (.plain (OpenSpec.upto logsMeetSpec)) logsMeetUptoCard

/-- THE SECOND FORM's CARD OF 'handkeep2.EventsStay'. -/
def eventsStayUptoCard : Claim7 := { stood := { row := eventsStayUptoRow, standIns := [], harness := (true, "2ddf598c4d841370bcea60a930f9fd48ddc85c4e55c147a4805aac1d0a654b93"), looks := true }, kinds := [], alts := [], laidByText := true, laidKinds := [.data, .data, .data, .data, .pinned], laidTests := true, laidLooks := .later }
def EventsStayUptoCardSaid : Prop := Claim7.holds Tryz.pinned (.plain (OpenSpec.upto eventsStaySpec)) eventsStayUptoCard

/-- THE SECOND FORM's CARD OF 'handkeep2.PacksComeBack'. -/
def packsComeBackUptoCard : Claim7 := { stood := { row := packsComeBackUptoRow, standIns := [], harness := (true, "2ddf598c4d841370bcea60a930f9fd48ddc85c4e55c147a4805aac1d0a654b93"), looks := true }, kinds := [], alts := [], laidByText := true, laidKinds := [.data, .data, .data, .data, .sentinel, .sentinel, .data, .data, .data, .pinned], laidTests := true, laidLooks := .later }
def PacksComeBackUptoCardSaid : Prop := Claim7.holds Tryz.pinned (.plain (OpenSpec.upto packsComeBackSpec)) packsComeBackUptoCard
end Rows
end Go.Proofs.YtfmnlpmgakgleaaGreatDoor
