/-
  NARROWER THAN 'FOR EVERY INPUT', by the rows' own cells (each row's printed sentence says how): PointsTurn: laid · TouchesOnlyJoin: laid · NormalsStay: laid · PersonsPart: laid · RecordsAreTold: laid · IndexHasPersons: laid · ChainsTie: laid · TouchesStay: laid.
  DERIVED. THE GIVEN ROWS OF THIS SEAT. 8 by the template 'for every input the law returns true; each argument reads behind the call as it read before'; 0 by the template 'total and deterministic' (their statements: YtbidhpgjmcedaaaGreatDoorTotals.lean).
  GIVEN WITH THE SEED: the statements are not yours to turn. If you find one false, say at which input.
  Laid BY PROGRAM, IN A SANDBOX (cutbox-rows.mjs): the forced cells as the released guide's own fill.sh prints them over the translation 7817db0f19bd3844… (all of the seat's roots in one cut). By AI agents, Wed Nov 11 2026. No macro, syntax, notation, axiom, sorry.
-/
import Derived.Test.YtbidhpgjmcedaaaGreatDoorChecked
import GoSem.PinnedTables
import GoSem.Claim
import GoSem.ClaimJoined
import GoSem.ClaimMapViews
import Derived.JoinedTies
import Derived.KernelRfl
namespace Go.Proofs.YtbidhpgjmcedaaaGreatDoor
/- THE CELL 'sum', in the pinned program and in every row, IS THE sha256 OF THE DUMP (.gsa) THAT YtbidhpgjmcedaaaGreatDoorProg.lean LOADS. Nothing in Lean hashes anything: it is a label: what it is worth is what the hold of that sum in a sandbox is worth. -/
noncomputable def Tryz.pinned : Pinned := { name := "ytbidhpgjmcedaaagreatdoor", sum := "7817db0f19bd384461dac2387ee7b25e68ee0a087cb44c36bba30871af4d2997", checked := Tryz.checked }
namespace Rows
def none {H : Type} : Left H := { results := [], args := [] }

/- WHAT THE LISTED PACKAGE-LEVEL VARIABLES READ AS WHEN THE CALL BEGINS. Each datum BY PROGRAM (the guide's laid-datum.mjs) off the statement by which the dump's own 'gosem.cut.vars' lays the variable. In a bare row this is a premise. The card (YtbidhpgjmcedaaaGreatDoorCards.lean) ties it to the program's text. -/
def laid_unicode_utf8_acceptRanges {H : Type} : DataW H := .agg [.agg [.lit (.int .u8 128), .lit (.int .u8 191)], .agg [.lit (.int .u8 160), .lit (.int .u8 191)], .agg [.lit (.int .u8 128), .lit (.int .u8 159)], .agg [.lit (.int .u8 144), .lit (.int .u8 191)], .agg [.lit (.int .u8 128), .lit (.int .u8 143)], .agg [.lit (.int .u8 0), .lit (.int .u8 0)], .agg [.lit (.int .u8 0), .lit (.int .u8 0)], .agg [.lit (.int .u8 0), .lit (.int .u8 0)], .agg [.lit (.int .u8 0), .lit (.int .u8 0)], .agg [.lit (.int .u8 0), .lit (.int .u8 0)], .agg [.lit (.int .u8 0), .lit (.int .u8 0)], .agg [.lit (.int .u8 0), .lit (.int .u8 0)], .agg [.lit (.int .u8 0), .lit (.int .u8 0)], .agg [.lit (.int .u8 0), .lit (.int .u8 0)], .agg [.lit (.int .u8 0), .lit (.int .u8 0)], .agg [.lit (.int .u8 0), .lit (.int .u8 0)]]
def laid_handbill_handmake_fieldNames {H : Type} : DataW H := .agg [.lit (.string [97, 103, 101]), .lit (.string [99, 105, 116, 121]), .lit (.string [106, 111, 105, 110, 101, 100]), .lit (.string [110, 97, 109, 101]), .lit (.string [112, 108, 97, 110]), .lit (.string [118, 105, 112])]
/-- One of Go's own tables, pinned by name: the form's constant. -/
def laid_unicode_utf8_first : DataW Unit := Go.Pinned.utf8First
def laid_handbill_handmake_idPool {H : Type} : DataW H := .agg [.agg [.lit (.int .i64 1), .lit (.string [97, 64, 98, 46, 100, 101])], .agg [.lit (.int .i64 1), .lit (.string [97, 110, 110, 46, 98, 64, 120, 45, 121, 46, 111, 114, 103])], .agg [.lit (.int .i64 1), .lit (.string [98, 111, 98, 95, 49, 64, 98, 46, 100, 101])], .agg [.lit (.int .i64 1), .lit (.string [122, 45, 64, 48, 46, 97])], .agg [.lit (.int .i64 2), .lit (.string [43, 52, 57, 51, 48, 49, 50, 51, 52, 53, 54])], .agg [.lit (.int .i64 2), .lit (.string [43, 49, 53, 53, 53, 48, 48, 48, 49, 49, 49])], .agg [.lit (.int .i64 3), .lit (.string [65, 66, 49, 51])], .agg [.lit (.int .i64 3), .lit (.string [48, 48, 48, 48, 48, 48, 48, 48, 48, 48, 48, 48, 48, 48, 48, 48, 48, 48, 48, 48])], .agg [.lit (.int .i64 4), .lit (.string [48, 49, 50, 51, 52, 53, 54, 55, 56, 57, 97, 98, 99, 100, 101, 102, 48, 49, 50, 51, 52, 53, 54, 55, 56, 57, 97, 98, 99, 100, 101, 102])], .agg [.lit (.int .i64 4), .lit (.string [102, 102, 102, 102, 102, 102, 102, 102, 102, 102, 102, 102, 102, 102, 102, 102, 102, 102, 102, 102, 102, 102, 102, 102, 102, 102, 102, 102, 102, 102, 102, 102])]]

/-- 'handkeep2.PointsTurn': WHATEVER THE INPUT: true; the input reads as it did. -/
def pointsTurnSpec : ChangeSpec := { name := "pointsTurn", fn := fun _ => fun
  | [d] => { results := [.lit (.bool true)], args := [d] }
  | _ => none }
def pointsTurnRow : OpenClaim := { program := "ytbidhpgjmcedaaagreatdoor", sum := "7817db0f19bd384461dac2387ee7b25e68ee0a087cb44c36bba30871af4d2997", func := "handbill/handkeep2.PointsTurn", spec := "pointsTurn", inPlace := ["internal/abi.NoEscape", "internal/bytealg.MakeNoZero", "internal/bytealg.IndexByteString", "internal/bytealg.IndexString", "internal/bytealg.CountString"], unfollowed := true, recurses := true, named := ["handbill/handmake.fieldNames", "unicode/utf8.first", "unicode/utf8.acceptRanges", "internal/bytealg.MaxLen"], plainKeys := false, apart := false, laid := [("unicode/utf8.acceptRanges", laid_unicode_utf8_acceptRanges), ("handbill/handmake.fieldNames", laid_handbill_handmake_fieldNames), ("unicode/utf8.first", laid_unicode_utf8_first)] }
def PointsTurnSaid : Prop := pointsTurnRow.holds Tryz.pinned (OpenSpec.ofChange pointsTurnSpec)

/-- ITS FALSE NEIGHBOUR: 'it returns false'. Refute it at one input. -/
def pointsTurnWrong : ChangeSpec := { name := "pointsTurn", fn := fun _ => fun
  | [d] => { results := [.lit (.bool false)], args := [d] }
  | _ => none }
def PointsTurnWrongFalsely : Prop := pointsTurnRow.holds Tryz.pinned (OpenSpec.ofChange pointsTurnWrong)

/-- 'handkeep2.TouchesOnlyJoin': WHATEVER THE INPUT: true; the input reads as it did. -/
def touchesOnlyJoinSpec : ChangeSpec := { name := "touchesOnlyJoin", fn := fun _ => fun
  | [d] => { results := [.lit (.bool true)], args := [d] }
  | _ => none }
def touchesOnlyJoinRow : OpenClaim := { program := "ytbidhpgjmcedaaagreatdoor", sum := "7817db0f19bd384461dac2387ee7b25e68ee0a087cb44c36bba30871af4d2997", func := "handbill/handkeep2.TouchesOnlyJoin", spec := "touchesOnlyJoin", inPlace := ["internal/abi.NoEscape", "internal/bytealg.MakeNoZero", "internal/bytealg.IndexByteString", "internal/bytealg.IndexString", "internal/bytealg.CountString"], unfollowed := true, recurses := true, named := ["handbill/handmake.fieldNames", "handbill/handmake.idPool", "internal/bytealg.MaxLen", "unicode/utf8.first", "unicode/utf8.acceptRanges"], plainKeys := false, apart := false, laid := [("unicode/utf8.acceptRanges", laid_unicode_utf8_acceptRanges), ("handbill/handmake.idPool", laid_handbill_handmake_idPool), ("handbill/handmake.fieldNames", laid_handbill_handmake_fieldNames), ("unicode/utf8.first", laid_unicode_utf8_first)] }
def TouchesOnlyJoinSaid : Prop := touchesOnlyJoinRow.holds Tryz.pinned (OpenSpec.ofChange touchesOnlyJoinSpec)

/-- ITS FALSE NEIGHBOUR: 'it returns false'. Refute it at one input. -/
def touchesOnlyJoinWrong : ChangeSpec := { name := "touchesOnlyJoin", fn := fun _ => fun
  | [d] => { results := [.lit (.bool false)], args := [d] }
  | _ => none }
def TouchesOnlyJoinWrongFalsely : Prop := touchesOnlyJoinRow.holds Tryz.pinned (OpenSpec.ofChange touchesOnlyJoinWrong)

/-- 'handkeep2.NormalsStay': WHATEVER THE INPUT: true; the input reads as it did. -/
def normalsStaySpec : ChangeSpec := { name := "normalsStay", fn := fun _ => fun
  | [d] => { results := [.lit (.bool true)], args := [d] }
  | _ => none }
def normalsStayRow : OpenClaim := { program := "ytbidhpgjmcedaaagreatdoor", sum := "7817db0f19bd384461dac2387ee7b25e68ee0a087cb44c36bba30871af4d2997", func := "handbill/handkeep2.NormalsStay", spec := "normalsStay", inPlace := ["internal/abi.NoEscape", "internal/bytealg.MakeNoZero", "internal/bytealg.IndexByteString", "internal/bytealg.IndexString", "internal/bytealg.CountString"], unfollowed := true, recurses := true, named := ["unicode/utf8.first", "unicode/utf8.acceptRanges", "internal/bytealg.MaxLen"], plainKeys := false, apart := false, laid := [("unicode/utf8.acceptRanges", laid_unicode_utf8_acceptRanges), ("unicode/utf8.first", laid_unicode_utf8_first)] }
def NormalsStaySaid : Prop := normalsStayRow.holds Tryz.pinned (OpenSpec.ofChange normalsStaySpec)

/-- ITS FALSE NEIGHBOUR: 'it returns false'. Refute it at one input. -/
def normalsStayWrong : ChangeSpec := { name := "normalsStay", fn := fun _ => fun
  | [d] => { results := [.lit (.bool false)], args := [d] }
  | _ => none }
def NormalsStayWrongFalsely : Prop := normalsStayRow.holds Tryz.pinned (OpenSpec.ofChange normalsStayWrong)

/-- 'handkeep2.PersonsPart': WHATEVER THE INPUT: true; the input reads as it did. -/
def personsPartSpec : ChangeSpec := { name := "personsPart", fn := fun _ => fun
  | [d] => { results := [.lit (.bool true)], args := [d] }
  | _ => none }
def personsPartRow : OpenClaim := { program := "ytbidhpgjmcedaaagreatdoor", sum := "7817db0f19bd384461dac2387ee7b25e68ee0a087cb44c36bba30871af4d2997", func := "handbill/handkeep2.PersonsPart", spec := "personsPart", inPlace := ["internal/abi.NoEscape", "internal/bytealg.MakeNoZero", "internal/bytealg.IndexByteString", "internal/bytealg.IndexString", "internal/bytealg.CountString"], unfollowed := true, recurses := true, named := ["handbill/handmake.fieldNames", "handbill/handmake.idPool", "internal/bytealg.MaxLen", "unicode/utf8.first", "unicode/utf8.acceptRanges"], plainKeys := false, apart := false, laid := [("unicode/utf8.acceptRanges", laid_unicode_utf8_acceptRanges), ("handbill/handmake.idPool", laid_handbill_handmake_idPool), ("handbill/handmake.fieldNames", laid_handbill_handmake_fieldNames), ("unicode/utf8.first", laid_unicode_utf8_first)] }
def PersonsPartSaid : Prop := personsPartRow.holds Tryz.pinned (OpenSpec.ofChange personsPartSpec)

/-- ITS FALSE NEIGHBOUR: 'it returns false'. Refute it at one input. -/
def personsPartWrong : ChangeSpec := { name := "personsPart", fn := fun _ => fun
  | [d] => { results := [.lit (.bool false)], args := [d] }
  | _ => none }
def PersonsPartWrongFalsely : Prop := personsPartRow.holds Tryz.pinned (OpenSpec.ofChange personsPartWrong)

/-- 'handkeep2.RecordsAreTold': WHATEVER THE INPUT: true; the input reads as it did. -/
def recordsAreToldSpec : ChangeSpec := { name := "recordsAreTold", fn := fun _ => fun
  | [d] => { results := [.lit (.bool true)], args := [d] }
  | _ => none }
def recordsAreToldRow : OpenClaim := { program := "ytbidhpgjmcedaaagreatdoor", sum := "7817db0f19bd384461dac2387ee7b25e68ee0a087cb44c36bba30871af4d2997", func := "handbill/handkeep2.RecordsAreTold", spec := "recordsAreTold", inPlace := ["internal/abi.NoEscape", "internal/bytealg.MakeNoZero", "internal/bytealg.IndexByteString", "internal/bytealg.IndexString", "internal/bytealg.CountString"], unfollowed := true, recurses := true, named := ["handbill/handmake.fieldNames", "handbill/handmake.idPool", "internal/bytealg.MaxLen", "unicode/utf8.first", "unicode/utf8.acceptRanges"], plainKeys := false, apart := false, laid := [("unicode/utf8.acceptRanges", laid_unicode_utf8_acceptRanges), ("handbill/handmake.idPool", laid_handbill_handmake_idPool), ("handbill/handmake.fieldNames", laid_handbill_handmake_fieldNames), ("unicode/utf8.first", laid_unicode_utf8_first)] }
def RecordsAreToldSaid : Prop := recordsAreToldRow.holds Tryz.pinned (OpenSpec.ofChange recordsAreToldSpec)

/-- ITS FALSE NEIGHBOUR: 'it returns false'. Refute it at one input. -/
def recordsAreToldWrong : ChangeSpec := { name := "recordsAreTold", fn := fun _ => fun
  | [d] => { results := [.lit (.bool false)], args := [d] }
  | _ => none }
def RecordsAreToldWrongFalsely : Prop := recordsAreToldRow.holds Tryz.pinned (OpenSpec.ofChange recordsAreToldWrong)

/-- 'handkeep2.IndexHasPersons': WHATEVER THE INPUT: true; the input reads as it did. -/
def indexHasPersonsSpec : ChangeSpec := { name := "indexHasPersons", fn := fun _ => fun
  | [d] => { results := [.lit (.bool true)], args := [d] }
  | _ => none }
def indexHasPersonsRow : OpenClaim := { program := "ytbidhpgjmcedaaagreatdoor", sum := "7817db0f19bd384461dac2387ee7b25e68ee0a087cb44c36bba30871af4d2997", func := "handbill/handkeep2.IndexHasPersons", spec := "indexHasPersons", inPlace := ["internal/abi.NoEscape", "internal/bytealg.MakeNoZero", "internal/bytealg.IndexByteString", "internal/bytealg.IndexString", "internal/bytealg.CountString", "slices.overlaps[handbill/api.Touch]"], unfollowed := true, recurses := true, named := ["handbill/handmake.fieldNames", "handbill/handmake.idPool", "internal/bytealg.MaxLen", "unicode/utf8.first", "unicode/utf8.acceptRanges"], plainKeys := false, apart := false, laid := [("unicode/utf8.acceptRanges", laid_unicode_utf8_acceptRanges), ("handbill/handmake.idPool", laid_handbill_handmake_idPool), ("handbill/handmake.fieldNames", laid_handbill_handmake_fieldNames), ("unicode/utf8.first", laid_unicode_utf8_first)] }
def IndexHasPersonsSaid : Prop := indexHasPersonsRow.holds Tryz.pinned (OpenSpec.ofChange indexHasPersonsSpec)

/-- ITS FALSE NEIGHBOUR: 'it returns false'. Refute it at one input. -/
def indexHasPersonsWrong : ChangeSpec := { name := "indexHasPersons", fn := fun _ => fun
  | [d] => { results := [.lit (.bool false)], args := [d] }
  | _ => none }
def IndexHasPersonsWrongFalsely : Prop := indexHasPersonsRow.holds Tryz.pinned (OpenSpec.ofChange indexHasPersonsWrong)

/-- 'handkeep2.ChainsTie': WHATEVER THE INPUT: true; the input reads as it did. -/
def chainsTieSpec : ChangeSpec := { name := "chainsTie", fn := fun _ => fun
  | [d] => { results := [.lit (.bool true)], args := [d] }
  | _ => none }
def chainsTieRow : OpenClaim := { program := "ytbidhpgjmcedaaagreatdoor", sum := "7817db0f19bd384461dac2387ee7b25e68ee0a087cb44c36bba30871af4d2997", func := "handbill/handkeep2.ChainsTie", spec := "chainsTie", inPlace := ["internal/abi.NoEscape", "internal/bytealg.MakeNoZero", "internal/bytealg.IndexByteString", "internal/bytealg.IndexString", "internal/bytealg.CountString"], unfollowed := true, recurses := true, named := ["handbill/handmake.fieldNames", "handbill/handmake.idPool", "internal/bytealg.MaxLen", "unicode/utf8.first", "unicode/utf8.acceptRanges"], plainKeys := false, apart := false, laid := [("unicode/utf8.acceptRanges", laid_unicode_utf8_acceptRanges), ("handbill/handmake.idPool", laid_handbill_handmake_idPool), ("handbill/handmake.fieldNames", laid_handbill_handmake_fieldNames), ("unicode/utf8.first", laid_unicode_utf8_first)] }
def ChainsTieSaid : Prop := chainsTieRow.holds Tryz.pinned (OpenSpec.ofChange chainsTieSpec)

/-- ITS FALSE NEIGHBOUR: 'it returns false'. Refute it at one input. -/
def chainsTieWrong : ChangeSpec := { name := "chainsTie", fn := fun _ => fun
  | [d] => { results := [.lit (.bool false)], args := [d] }
  | _ => none }
def ChainsTieWrongFalsely : Prop := chainsTieRow.holds Tryz.pinned (OpenSpec.ofChange chainsTieWrong)

/-- 'handkeep2.TouchesStay': WHATEVER THE INPUT: true; the input reads as it did. -/
def touchesStaySpec : ChangeSpec := { name := "touchesStay", fn := fun _ => fun
  | [d] => { results := [.lit (.bool true)], args := [d] }
  | _ => none }
def touchesStayRow : OpenClaim := { program := "ytbidhpgjmcedaaagreatdoor", sum := "7817db0f19bd384461dac2387ee7b25e68ee0a087cb44c36bba30871af4d2997", func := "handbill/handkeep2.TouchesStay", spec := "touchesStay", inPlace := ["internal/abi.NoEscape", "internal/bytealg.MakeNoZero", "internal/bytealg.IndexByteString", "internal/bytealg.IndexString", "internal/bytealg.CountString", "slices.overlaps[handbill/api.Touch]"], unfollowed := true, recurses := true, named := ["handbill/handmake.fieldNames", "handbill/handmake.idPool", "internal/bytealg.MaxLen", "unicode/utf8.first", "unicode/utf8.acceptRanges"], plainKeys := false, apart := false, laid := [("unicode/utf8.acceptRanges", laid_unicode_utf8_acceptRanges), ("handbill/handmake.idPool", laid_handbill_handmake_idPool), ("handbill/handmake.fieldNames", laid_handbill_handmake_fieldNames), ("unicode/utf8.first", laid_unicode_utf8_first)] }
def TouchesStaySaid : Prop := touchesStayRow.holds Tryz.pinned (OpenSpec.ofChange touchesStaySpec)

/-- ITS FALSE NEIGHBOUR: 'it returns false'. Refute it at one input. -/
def touchesStayWrong : ChangeSpec := { name := "touchesStay", fn := fun _ => fun
  | [d] => { results := [.lit (.bool false)], args := [d] }
  | _ => none }
def TouchesStayWrongFalsely : Prop := touchesStayRow.holds Tryz.pinned (OpenSpec.ofChange touchesStayWrong)

/- THE SECOND FORM. 'bulk': how many values and letters a reading holds, each counted each time it is reached (what is shared counts as often as it is met; a slice's spare places count too). A statement '..UptoSaid' is the law's where the arguments, and the package variables that the reading takes, are together of bulk at most 1048576: NARROWER than '..Said'. Prove '..Said' where nothing that the law and all that it calls make is longer than what came in: it says more and counts as full. Else prove '..UptoSaid'. A law counts once. -/
mutual
def uptoBulk {H : Type} : DataW H → Nat
  | .lit (.string bytes) => bytes.length + 1
  | .lit _ => 1
  | .nil => 1
  | .ptr d => uptoBulk d + 1
  | .slice elems spare => uptoBulkAll elems + uptoBulkAll spare + 1
  | .agg parts => uptoBulkAll parts + 1
  | .iface _ d => uptoBulk d + 1
  | .map entries => uptoBulkEntries entries + 1
  | .held _ => 1
def uptoBulkAll {H : Type} : List (DataW H) → Nat
  | [] => 0
  | d :: r => uptoBulk d + uptoBulkAll r
def uptoBulkEntries {H : Type} : List (Lit × DataW H) → Nat
  | [] => 0
  | x :: r => uptoBulkEntry x + uptoBulkEntries r
def uptoBulkEntry {H : Type} : Lit × DataW H → Nat
  | (.string bytes, d) => bytes.length + uptoBulk d + 1
  | (_, d) => uptoBulk d + 1
 end
def uptoSmall : (H : Type) → List (DataW H) → Bool := fun _ ds => decide (uptoBulkAll ds ≤ 1048576)
def OpenSpec.upto (s : _root_.Go.ChangeSpec) : _root_.Go.OpenSpec := { _root_.Go.OpenSpec.ofChange s with cond := some uptoSmall }

/-- 'handkeep2.PointsTurn', WHERE WHAT IT READS IS OF BULK AT MOST 1048576: true; the input reads as it did. -/
def pointsTurnUptoRow : OpenClaim := { program := "ytbidhpgjmcedaaagreatdoor", sum := "7817db0f19bd384461dac2387ee7b25e68ee0a087cb44c36bba30871af4d2997", func := "handbill/handkeep2.PointsTurn", spec := "pointsTurn", inPlace := ["internal/abi.NoEscape", "internal/bytealg.MakeNoZero", "internal/bytealg.IndexByteString", "internal/bytealg.IndexString", "internal/bytealg.CountString"], unfollowed := true, recurses := true, named := ["handbill/handmake.fieldNames", "unicode/utf8.first", "unicode/utf8.acceptRanges", "internal/bytealg.MaxLen"], plainKeys := false, apart := false, laid := [("unicode/utf8.acceptRanges", laid_unicode_utf8_acceptRanges), ("handbill/handmake.fieldNames", laid_handbill_handmake_fieldNames), ("unicode/utf8.first", laid_unicode_utf8_first)], narrowed := true }
def PointsTurnUptoSaid : Prop := pointsTurnUptoRow.holds Tryz.pinned (OpenSpec.upto pointsTurnSpec)

/-- 'handkeep2.TouchesOnlyJoin', WHERE WHAT IT READS IS OF BULK AT MOST 1048576: true; the input reads as it did. -/
def touchesOnlyJoinUptoRow : OpenClaim := { program := "ytbidhpgjmcedaaagreatdoor", sum := "7817db0f19bd384461dac2387ee7b25e68ee0a087cb44c36bba30871af4d2997", func := "handbill/handkeep2.TouchesOnlyJoin", spec := "touchesOnlyJoin", inPlace := ["internal/abi.NoEscape", "internal/bytealg.MakeNoZero", "internal/bytealg.IndexByteString", "internal/bytealg.IndexString", "internal/bytealg.CountString"], unfollowed := true, recurses := true, named := ["handbill/handmake.fieldNames", "handbill/handmake.idPool", "internal/bytealg.MaxLen", "unicode/utf8.first", "unicode/utf8.acceptRanges"], plainKeys := false, apart := false, laid := [("unicode/utf8.acceptRanges", laid_unicode_utf8_acceptRanges), ("handbill/handmake.idPool", laid_handbill_handmake_idPool), ("handbill/handmake.fieldNames", laid_handbill_handmake_fieldNames), ("unicode/utf8.first", laid_unicode_utf8_first)], narrowed := true }
def TouchesOnlyJoinUptoSaid : Prop := touchesOnlyJoinUptoRow.holds Tryz.pinned (OpenSpec.upto touchesOnlyJoinSpec)

/-- 'handkeep2.NormalsStay', WHERE WHAT IT READS IS OF BULK AT MOST 1048576: true; the input reads as it did. -/
def normalsStayUptoRow : OpenClaim := { program := "ytbidhpgjmcedaaagreatdoor", sum := "7817db0f19bd384461dac2387ee7b25e68ee0a087cb44c36bba30871af4d2997", func := "handbill/handkeep2.NormalsStay", spec := "normalsStay", inPlace := ["internal/abi.NoEscape", "internal/bytealg.MakeNoZero", "internal/bytealg.IndexByteString", "internal/bytealg.IndexString", "internal/bytealg.CountString"], unfollowed := true, recurses := true, named := ["unicode/utf8.first", "unicode/utf8.acceptRanges", "internal/bytealg.MaxLen"], plainKeys := false, apart := false, laid := [("unicode/utf8.acceptRanges", laid_unicode_utf8_acceptRanges), ("unicode/utf8.first", laid_unicode_utf8_first)], narrowed := true }
def NormalsStayUptoSaid : Prop := normalsStayUptoRow.holds Tryz.pinned (OpenSpec.upto normalsStaySpec)

/-- 'handkeep2.PersonsPart', WHERE WHAT IT READS IS OF BULK AT MOST 1048576: true; the input reads as it did. -/
def personsPartUptoRow : OpenClaim := { program := "ytbidhpgjmcedaaagreatdoor", sum := "7817db0f19bd384461dac2387ee7b25e68ee0a087cb44c36bba30871af4d2997", func := "handbill/handkeep2.PersonsPart", spec := "personsPart", inPlace := ["internal/abi.NoEscape", "internal/bytealg.MakeNoZero", "internal/bytealg.IndexByteString", "internal/bytealg.IndexString", "internal/bytealg.CountString"], unfollowed := true, recurses := true, named := ["handbill/handmake.fieldNames", "handbill/handmake.idPool", "internal/bytealg.MaxLen", "unicode/utf8.first", "unicode/utf8.acceptRanges"], plainKeys := false, apart := false, laid := [("unicode/utf8.acceptRanges", laid_unicode_utf8_acceptRanges), ("handbill/handmake.idPool", laid_handbill_handmake_idPool), ("handbill/handmake.fieldNames", laid_handbill_handmake_fieldNames), ("unicode/utf8.first", laid_unicode_utf8_first)], narrowed := true }
def PersonsPartUptoSaid : Prop := personsPartUptoRow.holds Tryz.pinned (OpenSpec.upto personsPartSpec)

/-- 'handkeep2.RecordsAreTold', WHERE WHAT IT READS IS OF BULK AT MOST 1048576: true; the input reads as it did. -/
def recordsAreToldUptoRow : OpenClaim := { program := "ytbidhpgjmcedaaagreatdoor", sum := "7817db0f19bd384461dac2387ee7b25e68ee0a087cb44c36bba30871af4d2997", func := "handbill/handkeep2.RecordsAreTold", spec := "recordsAreTold", inPlace := ["internal/abi.NoEscape", "internal/bytealg.MakeNoZero", "internal/bytealg.IndexByteString", "internal/bytealg.IndexString", "internal/bytealg.CountString"], unfollowed := true, recurses := true, named := ["handbill/handmake.fieldNames", "handbill/handmake.idPool", "internal/bytealg.MaxLen", "unicode/utf8.first", "unicode/utf8.acceptRanges"], plainKeys := false, apart := false, laid := [("unicode/utf8.acceptRanges", laid_unicode_utf8_acceptRanges), ("handbill/handmake.idPool", laid_handbill_handmake_idPool), ("handbill/handmake.fieldNames", laid_handbill_handmake_fieldNames), ("unicode/utf8.first", laid_unicode_utf8_first)], narrowed := true }
def RecordsAreToldUptoSaid : Prop := recordsAreToldUptoRow.holds Tryz.pinned (OpenSpec.upto recordsAreToldSpec)

/-- 'handkeep2.IndexHasPersons', WHERE WHAT IT READS IS OF BULK AT MOST 1048576: true; the input reads as it did. -/
def indexHasPersonsUptoRow : OpenClaim := { program := "ytbidhpgjmcedaaagreatdoor", sum := "7817db0f19bd384461dac2387ee7b25e68ee0a087cb44c36bba30871af4d2997", func := "handbill/handkeep2.IndexHasPersons", spec := "indexHasPersons", inPlace := ["internal/abi.NoEscape", "internal/bytealg.MakeNoZero", "internal/bytealg.IndexByteString", "internal/bytealg.IndexString", "internal/bytealg.CountString", "slices.overlaps[handbill/api.Touch]"], unfollowed := true, recurses := true, named := ["handbill/handmake.fieldNames", "handbill/handmake.idPool", "internal/bytealg.MaxLen", "unicode/utf8.first", "unicode/utf8.acceptRanges"], plainKeys := false, apart := false, laid := [("unicode/utf8.acceptRanges", laid_unicode_utf8_acceptRanges), ("handbill/handmake.idPool", laid_handbill_handmake_idPool), ("handbill/handmake.fieldNames", laid_handbill_handmake_fieldNames), ("unicode/utf8.first", laid_unicode_utf8_first)], narrowed := true }
def IndexHasPersonsUptoSaid : Prop := indexHasPersonsUptoRow.holds Tryz.pinned (OpenSpec.upto indexHasPersonsSpec)

/-- 'handkeep2.ChainsTie', WHERE WHAT IT READS IS OF BULK AT MOST 1048576: true; the input reads as it did. -/
def chainsTieUptoRow : OpenClaim := { program := "ytbidhpgjmcedaaagreatdoor", sum := "7817db0f19bd384461dac2387ee7b25e68ee0a087cb44c36bba30871af4d2997", func := "handbill/handkeep2.ChainsTie", spec := "chainsTie", inPlace := ["internal/abi.NoEscape", "internal/bytealg.MakeNoZero", "internal/bytealg.IndexByteString", "internal/bytealg.IndexString", "internal/bytealg.CountString"], unfollowed := true, recurses := true, named := ["handbill/handmake.fieldNames", "handbill/handmake.idPool", "internal/bytealg.MaxLen", "unicode/utf8.first", "unicode/utf8.acceptRanges"], plainKeys := false, apart := false, laid := [("unicode/utf8.acceptRanges", laid_unicode_utf8_acceptRanges), ("handbill/handmake.idPool", laid_handbill_handmake_idPool), ("handbill/handmake.fieldNames", laid_handbill_handmake_fieldNames), ("unicode/utf8.first", laid_unicode_utf8_first)], narrowed := true }
def ChainsTieUptoSaid : Prop := chainsTieUptoRow.holds Tryz.pinned (OpenSpec.upto chainsTieSpec)

/-- 'handkeep2.TouchesStay', WHERE WHAT IT READS IS OF BULK AT MOST 1048576: true; the input reads as it did. -/
def touchesStayUptoRow : OpenClaim := { program := "ytbidhpgjmcedaaagreatdoor", sum := "7817db0f19bd384461dac2387ee7b25e68ee0a087cb44c36bba30871af4d2997", func := "handbill/handkeep2.TouchesStay", spec := "touchesStay", inPlace := ["internal/abi.NoEscape", "internal/bytealg.MakeNoZero", "internal/bytealg.IndexByteString", "internal/bytealg.IndexString", "internal/bytealg.CountString", "slices.overlaps[handbill/api.Touch]"], unfollowed := true, recurses := true, named := ["handbill/handmake.fieldNames", "handbill/handmake.idPool", "internal/bytealg.MaxLen", "unicode/utf8.first", "unicode/utf8.acceptRanges"], plainKeys := false, apart := false, laid := [("unicode/utf8.acceptRanges", laid_unicode_utf8_acceptRanges), ("handbill/handmake.idPool", laid_handbill_handmake_idPool), ("handbill/handmake.fieldNames", laid_handbill_handmake_fieldNames), ("unicode/utf8.first", laid_unicode_utf8_first)], narrowed := true }
def TouchesStayUptoSaid : Prop := touchesStayUptoRow.holds Tryz.pinned (OpenSpec.upto touchesStaySpec)

end Rows
end Go.Proofs.YtbidhpgjmcedaaaGreatDoor
