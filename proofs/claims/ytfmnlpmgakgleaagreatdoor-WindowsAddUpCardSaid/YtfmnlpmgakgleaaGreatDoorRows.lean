/-
  NARROWER THAN 'FOR EVERY INPUT', by the rows' own cells (each row's printed sentence says how): SessionsCover: laid · WindowsAddUp: laid · LogsMeet: laid · EventsStay: laid · PacksComeBack: laid.
  DERIVED. THE GIVEN ROWS OF THIS SEAT. 5 by the template 'for every input the law returns true; each argument reads behind the call as it read before'; 0 by the template 'total and deterministic' (their statements: YtfmnlpmgakgleaaGreatDoorTotals.lean).
  GIVEN WITH THE SEED: the statements are not yours to turn. If you find one false, say at which input.
  Laid BY PROGRAM, IN A SANDBOX (cutbox-rows.mjs): the forced cells as the released guide's own fill.sh prints them over the translation 35d37546988a1bbe… (all of the seat's roots in one cut). By AI agents, Wed Nov 11 2026. No macro, syntax, notation, axiom, sorry.
-/
import Derived.Test.YtfmnlpmgakgleaaGreatDoorChecked
import GoSem.PinnedTables
import GoSem.Claim
import GoSem.ClaimJoined
import GoSem.ClaimMapViews
import Derived.JoinedTies
import Derived.KernelRfl
namespace Go.Proofs.YtfmnlpmgakgleaaGreatDoor
/- THE CELL 'sum', in the pinned program and in every row, IS THE sha256 OF THE DUMP (.gsa) THAT YtfmnlpmgakgleaaGreatDoorProg.lean LOADS. Nothing in Lean hashes anything: it is a label: what it is worth is what the hold of that sum in a sandbox is worth. -/
noncomputable def Tryz.pinned : Pinned := { name := "ytfmnlpmgakgleaagreatdoor", sum := "35d37546988a1bbe380754b59b1f1a4ce37460f13cec13782b66534ac496ff0b", checked := Tryz.checked }
namespace Rows
def none {H : Type} : Left H := { results := [], args := [] }

/- WHAT THE LISTED PACKAGE-LEVEL VARIABLES READ AS WHEN THE CALL BEGINS. Each datum BY PROGRAM (the guide's laid-datum.mjs) off the statement by which the dump's own 'gosem.cut.vars' lays the variable. In a bare row this is a premise. The card (YtfmnlpmgakgleaaGreatDoorCards.lean) ties it to the program's text. -/
def laid_unicode_utf8_acceptRanges {H : Type} : DataW H := .agg [.agg [.lit (.int .u8 128), .lit (.int .u8 191)], .agg [.lit (.int .u8 160), .lit (.int .u8 191)], .agg [.lit (.int .u8 128), .lit (.int .u8 159)], .agg [.lit (.int .u8 144), .lit (.int .u8 191)], .agg [.lit (.int .u8 128), .lit (.int .u8 143)], .agg [.lit (.int .u8 0), .lit (.int .u8 0)], .agg [.lit (.int .u8 0), .lit (.int .u8 0)], .agg [.lit (.int .u8 0), .lit (.int .u8 0)], .agg [.lit (.int .u8 0), .lit (.int .u8 0)], .agg [.lit (.int .u8 0), .lit (.int .u8 0)], .agg [.lit (.int .u8 0), .lit (.int .u8 0)], .agg [.lit (.int .u8 0), .lit (.int .u8 0)], .agg [.lit (.int .u8 0), .lit (.int .u8 0)], .agg [.lit (.int .u8 0), .lit (.int .u8 0)], .agg [.lit (.int .u8 0), .lit (.int .u8 0)], .agg [.lit (.int .u8 0), .lit (.int .u8 0)]]
def laid_handbill_handmake_eventNames {H : Type} : DataW H := .agg [.lit (.string [98, 117, 121]), .lit (.string [111, 112, 101, 110]), .lit (.string [113, 117, 105, 116]), .lit (.string [118, 105, 101, 119])]
def laid_handbill_handmake_idPool {H : Type} : DataW H := .agg [.agg [.lit (.int .i64 1), .lit (.string [97, 64, 98, 46, 100, 101])], .agg [.lit (.int .i64 1), .lit (.string [97, 110, 110, 46, 98, 64, 120, 45, 121, 46, 111, 114, 103])], .agg [.lit (.int .i64 1), .lit (.string [98, 111, 98, 95, 49, 64, 98, 46, 100, 101])], .agg [.lit (.int .i64 1), .lit (.string [122, 45, 64, 48, 46, 97])], .agg [.lit (.int .i64 2), .lit (.string [43, 52, 57, 51, 48, 49, 50, 51, 52, 53, 54])], .agg [.lit (.int .i64 2), .lit (.string [43, 49, 53, 53, 53, 48, 48, 48, 49, 49, 49])], .agg [.lit (.int .i64 3), .lit (.string [65, 66, 49, 51])], .agg [.lit (.int .i64 3), .lit (.string [48, 48, 48, 48, 48, 48, 48, 48, 48, 48, 48, 48, 48, 48, 48, 48, 48, 48, 48, 48])], .agg [.lit (.int .i64 4), .lit (.string [48, 49, 50, 51, 52, 53, 54, 55, 56, 57, 97, 98, 99, 100, 101, 102, 48, 49, 50, 51, 52, 53, 54, 55, 56, 57, 97, 98, 99, 100, 101, 102])], .agg [.lit (.int .i64 4), .lit (.string [102, 102, 102, 102, 102, 102, 102, 102, 102, 102, 102, 102, 102, 102, 102, 102, 102, 102, 102, 102, 102, 102, 102, 102, 102, 102, 102, 102, 102, 102, 102, 102])]]
def laid_handbill_handmake_fieldNames {H : Type} : DataW H := .agg [.lit (.string [97, 103, 101]), .lit (.string [99, 105, 116, 121]), .lit (.string [106, 111, 105, 110, 101, 100]), .lit (.string [110, 97, 109, 101]), .lit (.string [112, 108, 97, 110]), .lit (.string [118, 105, 112])]
/-- One of Go's own tables, pinned by name: the form's constant. -/
def laid_unicode_utf8_first : DataW Unit := Go.Pinned.utf8First
def laid_math_bits_deBruijn32tab {H : Type} : DataW H := .agg [.lit (.int .u8 0), .lit (.int .u8 1), .lit (.int .u8 28), .lit (.int .u8 2), .lit (.int .u8 29), .lit (.int .u8 14), .lit (.int .u8 24), .lit (.int .u8 3), .lit (.int .u8 30), .lit (.int .u8 22), .lit (.int .u8 20), .lit (.int .u8 15), .lit (.int .u8 25), .lit (.int .u8 17), .lit (.int .u8 4), .lit (.int .u8 8), .lit (.int .u8 31), .lit (.int .u8 27), .lit (.int .u8 13), .lit (.int .u8 23), .lit (.int .u8 21), .lit (.int .u8 19), .lit (.int .u8 16), .lit (.int .u8 7), .lit (.int .u8 26), .lit (.int .u8 12), .lit (.int .u8 18), .lit (.int .u8 6), .lit (.int .u8 11), .lit (.int .u8 5), .lit (.int .u8 10), .lit (.int .u8 9)]
def laid_math_bits_deBruijn64tab {H : Type} : DataW H := .agg [.lit (.int .u8 0), .lit (.int .u8 1), .lit (.int .u8 56), .lit (.int .u8 2), .lit (.int .u8 57), .lit (.int .u8 49), .lit (.int .u8 28), .lit (.int .u8 3), .lit (.int .u8 61), .lit (.int .u8 58), .lit (.int .u8 42), .lit (.int .u8 50), .lit (.int .u8 38), .lit (.int .u8 29), .lit (.int .u8 17), .lit (.int .u8 4), .lit (.int .u8 62), .lit (.int .u8 47), .lit (.int .u8 59), .lit (.int .u8 36), .lit (.int .u8 45), .lit (.int .u8 43), .lit (.int .u8 51), .lit (.int .u8 22), .lit (.int .u8 53), .lit (.int .u8 39), .lit (.int .u8 33), .lit (.int .u8 30), .lit (.int .u8 24), .lit (.int .u8 18), .lit (.int .u8 12), .lit (.int .u8 5), .lit (.int .u8 63), .lit (.int .u8 55), .lit (.int .u8 48), .lit (.int .u8 27), .lit (.int .u8 60), .lit (.int .u8 41), .lit (.int .u8 37), .lit (.int .u8 16), .lit (.int .u8 46), .lit (.int .u8 35), .lit (.int .u8 44), .lit (.int .u8 21), .lit (.int .u8 52), .lit (.int .u8 32), .lit (.int .u8 23), .lit (.int .u8 11), .lit (.int .u8 54), .lit (.int .u8 26), .lit (.int .u8 40), .lit (.int .u8 15), .lit (.int .u8 34), .lit (.int .u8 20), .lit (.int .u8 31), .lit (.int .u8 10), .lit (.int .u8 25), .lit (.int .u8 14), .lit (.int .u8 19), .lit (.int .u8 9), .lit (.int .u8 13), .lit (.int .u8 8), .lit (.int .u8 7), .lit (.int .u8 6)]
def laid_internal_strconv_uint64pow10 {H : Type} : DataW H := .agg [.lit (.int .u64 1), .lit (.int .u64 10), .lit (.int .u64 100), .lit (.int .u64 1000), .lit (.int .u64 10000), .lit (.int .u64 100000), .lit (.int .u64 1000000), .lit (.int .u64 10000000), .lit (.int .u64 100000000), .lit (.int .u64 1000000000), .lit (.int .u64 10000000000), .lit (.int .u64 100000000000), .lit (.int .u64 1000000000000), .lit (.int .u64 10000000000000), .lit (.int .u64 100000000000000), .lit (.int .u64 1000000000000000), .lit (.int .u64 10000000000000000), .lit (.int .u64 100000000000000000), .lit (.int .u64 1000000000000000000), .lit (.int .u64 10000000000000000000)]
def laid_strconv_ErrRange {H : Type} : DataW H := .iface "*errors.errorString" (.ptr (.agg [.lit (.string [118, 97, 108, 117, 101, 32, 111, 117, 116, 32, 111, 102, 32, 114, 97, 110, 103, 101])]))
def laid_strconv_ErrSyntax {H : Type} : DataW H := .iface "*errors.errorString" (.ptr (.agg [.lit (.string [105, 110, 118, 97, 108, 105, 100, 32, 115, 121, 110, 116, 97, 120])]))

/-- 'handkeep2.SessionsCover': WHATEVER THE INPUT: true; the input reads as it did. -/
def sessionsCoverSpec : ChangeSpec := { name := "sessionsCover", fn := fun _ => fun
  | [d] => { results := [.lit (.bool true)], args := [d] }
  | _ => none }
def sessionsCoverRow : OpenClaim := { program := "ytfmnlpmgakgleaagreatdoor", sum := "35d37546988a1bbe380754b59b1f1a4ce37460f13cec13782b66534ac496ff0b", func := "handbill/handkeep2.SessionsCover", spec := "sessionsCover", inPlace := ["internal/abi.NoEscape", "internal/bytealg.MakeNoZero", "internal/bytealg.IndexByteString", "internal/bytealg.IndexString", "internal/bytealg.CountString"], unfollowed := true, recurses := true, named := ["handbill/handmake.eventNames", "handbill/handmake.idPool", "handbill/handmake.fieldNames", "unicode/utf8.first", "unicode/utf8.acceptRanges", "internal/bytealg.MaxLen"], plainKeys := false, apart := false, laid := [("unicode/utf8.acceptRanges", laid_unicode_utf8_acceptRanges), ("handbill/handmake.eventNames", laid_handbill_handmake_eventNames), ("handbill/handmake.idPool", laid_handbill_handmake_idPool), ("handbill/handmake.fieldNames", laid_handbill_handmake_fieldNames), ("unicode/utf8.first", laid_unicode_utf8_first)] }
def SessionsCoverSaid : Prop := sessionsCoverRow.holds Tryz.pinned (OpenSpec.ofChange sessionsCoverSpec)

/-- ITS FALSE NEIGHBOUR: 'it returns false'. Refute it at one input. -/
def sessionsCoverWrong : ChangeSpec := { name := "sessionsCover", fn := fun _ => fun
  | [d] => { results := [.lit (.bool false)], args := [d] }
  | _ => none }
def SessionsCoverWrongFalsely : Prop := sessionsCoverRow.holds Tryz.pinned (OpenSpec.ofChange sessionsCoverWrong)

/-- 'handkeep2.WindowsAddUp': WHATEVER THE INPUT: true; the input reads as it did. -/
def windowsAddUpSpec : ChangeSpec := { name := "windowsAddUp", fn := fun _ => fun
  | [d] => { results := [.lit (.bool true)], args := [d] }
  | _ => none }
def windowsAddUpRow : OpenClaim := { program := "ytfmnlpmgakgleaagreatdoor", sum := "35d37546988a1bbe380754b59b1f1a4ce37460f13cec13782b66534ac496ff0b", func := "handbill/handkeep2.WindowsAddUp", spec := "windowsAddUp", inPlace := ["internal/abi.NoEscape", "internal/bytealg.MakeNoZero", "internal/bytealg.IndexByteString", "internal/bytealg.IndexString", "internal/bytealg.CountString"], unfollowed := true, recurses := true, named := ["handbill/handmake.eventNames", "handbill/handmake.idPool", "handbill/handmake.fieldNames", "unicode/utf8.first", "unicode/utf8.acceptRanges", "internal/bytealg.MaxLen"], plainKeys := false, apart := false, laid := [("unicode/utf8.acceptRanges", laid_unicode_utf8_acceptRanges), ("handbill/handmake.eventNames", laid_handbill_handmake_eventNames), ("handbill/handmake.idPool", laid_handbill_handmake_idPool), ("handbill/handmake.fieldNames", laid_handbill_handmake_fieldNames), ("unicode/utf8.first", laid_unicode_utf8_first)] }
def WindowsAddUpSaid : Prop := windowsAddUpRow.holds Tryz.pinned (OpenSpec.ofChange windowsAddUpSpec)

/-- ITS FALSE NEIGHBOUR: 'it returns false'. Refute it at one input. -/
def windowsAddUpWrong : ChangeSpec := { name := "windowsAddUp", fn := fun _ => fun
  | [d] => { results := [.lit (.bool false)], args := [d] }
  | _ => none }
def WindowsAddUpWrongFalsely : Prop := windowsAddUpRow.holds Tryz.pinned (OpenSpec.ofChange windowsAddUpWrong)

/-- 'handkeep2.LogsMeet': WHATEVER THE INPUT: true; the input reads as it did. -/
def logsMeetSpec : ChangeSpec := { name := "logsMeet", fn := fun _ => fun
  | [d] => { results := [.lit (.bool true)], args := [d] }
  | _ => none }
def logsMeetRow : OpenClaim := { program := "ytfmnlpmgakgleaagreatdoor", sum := "35d37546988a1bbe380754b59b1f1a4ce37460f13cec13782b66534ac496ff0b", func := "handbill/handkeep2.LogsMeet", spec := "logsMeet", inPlace := ["internal/abi.NoEscape", "internal/bytealg.MakeNoZero", "internal/bytealg.IndexByteString", "internal/bytealg.IndexString", "internal/bytealg.CountString", "slices.overlaps[handbill/api.Event]"], unfollowed := true, recurses := true, named := ["handbill/handmake.eventNames", "handbill/handmake.idPool", "handbill/handmake.fieldNames", "unicode/utf8.first", "unicode/utf8.acceptRanges", "internal/bytealg.MaxLen"], plainKeys := false, apart := false, laid := [("unicode/utf8.acceptRanges", laid_unicode_utf8_acceptRanges), ("handbill/handmake.eventNames", laid_handbill_handmake_eventNames), ("handbill/handmake.idPool", laid_handbill_handmake_idPool), ("handbill/handmake.fieldNames", laid_handbill_handmake_fieldNames), ("unicode/utf8.first", laid_unicode_utf8_first)] }
def LogsMeetSaid : Prop := logsMeetRow.holds Tryz.pinned (OpenSpec.ofChange logsMeetSpec)

/-- ITS FALSE NEIGHBOUR: 'it returns false'. Refute it at one input. -/
def logsMeetWrong : ChangeSpec := { name := "logsMeet", fn := fun _ => fun
  | [d] => { results := [.lit (.bool false)], args := [d] }
  | _ => none }
def LogsMeetWrongFalsely : Prop := logsMeetRow.holds Tryz.pinned (OpenSpec.ofChange logsMeetWrong)

/-- 'handkeep2.EventsStay': WHATEVER THE INPUT: true; the input reads as it did. -/
def eventsStaySpec : ChangeSpec := { name := "eventsStay", fn := fun _ => fun
  | [d] => { results := [.lit (.bool true)], args := [d] }
  | _ => none }
def eventsStayRow : OpenClaim := { program := "ytfmnlpmgakgleaagreatdoor", sum := "35d37546988a1bbe380754b59b1f1a4ce37460f13cec13782b66534ac496ff0b", func := "handbill/handkeep2.EventsStay", spec := "eventsStay", inPlace := ["internal/abi.NoEscape", "internal/bytealg.MakeNoZero", "internal/bytealg.IndexByteString", "internal/bytealg.IndexString", "internal/bytealg.CountString", "slices.overlaps[handbill/api.Event]"], unfollowed := true, recurses := true, named := ["handbill/handmake.eventNames", "handbill/handmake.idPool", "handbill/handmake.fieldNames", "unicode/utf8.first", "unicode/utf8.acceptRanges", "internal/bytealg.MaxLen"], plainKeys := false, apart := false, laid := [("unicode/utf8.acceptRanges", laid_unicode_utf8_acceptRanges), ("handbill/handmake.eventNames", laid_handbill_handmake_eventNames), ("handbill/handmake.idPool", laid_handbill_handmake_idPool), ("handbill/handmake.fieldNames", laid_handbill_handmake_fieldNames), ("unicode/utf8.first", laid_unicode_utf8_first)] }
def EventsStaySaid : Prop := eventsStayRow.holds Tryz.pinned (OpenSpec.ofChange eventsStaySpec)

/-- ITS FALSE NEIGHBOUR: 'it returns false'. Refute it at one input. -/
def eventsStayWrong : ChangeSpec := { name := "eventsStay", fn := fun _ => fun
  | [d] => { results := [.lit (.bool false)], args := [d] }
  | _ => none }
def EventsStayWrongFalsely : Prop := eventsStayRow.holds Tryz.pinned (OpenSpec.ofChange eventsStayWrong)

/-- 'handkeep2.PacksComeBack': WHATEVER THE INPUT: true; the input reads as it did. -/
def packsComeBackSpec : ChangeSpec := { name := "packsComeBack", fn := fun _ => fun
  | [d] => { results := [.lit (.bool true)], args := [d] }
  | _ => none }
def packsComeBackRow : OpenClaim := { program := "ytfmnlpmgakgleaagreatdoor", sum := "35d37546988a1bbe380754b59b1f1a4ce37460f13cec13782b66534ac496ff0b", func := "handbill/handkeep2.PacksComeBack", spec := "packsComeBack", inPlace := ["internal/abi.NoEscape", "internal/bytealg.MakeNoZero", "internal/bytealg.IndexByteString", "internal/bytealg.IndexString", "internal/bytealg.CountString"], unfollowed := true, recurses := true, named := ["handbill/handmake.eventNames", "handbill/handmake.idPool", "handbill/handmake.fieldNames", "unicode/utf8.first", "unicode/utf8.acceptRanges", "internal/bytealg.MaxLen", "internal/strconv.uint64pow10", "math/bits.deBruijn32tab", "math/bits.deBruijn64tab", "strconv.ErrSyntax", "strconv.ErrRange"], plainKeys := false, apart := false, laid := [("math/bits.deBruijn32tab", laid_math_bits_deBruijn32tab), ("math/bits.deBruijn64tab", laid_math_bits_deBruijn64tab), ("internal/strconv.uint64pow10", laid_internal_strconv_uint64pow10), ("unicode/utf8.acceptRanges", laid_unicode_utf8_acceptRanges), ("strconv.ErrRange", laid_strconv_ErrRange), ("strconv.ErrSyntax", laid_strconv_ErrSyntax), ("handbill/handmake.eventNames", laid_handbill_handmake_eventNames), ("handbill/handmake.idPool", laid_handbill_handmake_idPool), ("handbill/handmake.fieldNames", laid_handbill_handmake_fieldNames), ("unicode/utf8.first", laid_unicode_utf8_first)] }
def PacksComeBackSaid : Prop := packsComeBackRow.holds Tryz.pinned (OpenSpec.ofChange packsComeBackSpec)

/-- ITS FALSE NEIGHBOUR: 'it returns false'. Refute it at one input. -/
def packsComeBackWrong : ChangeSpec := { name := "packsComeBack", fn := fun _ => fun
  | [d] => { results := [.lit (.bool false)], args := [d] }
  | _ => none }
def PacksComeBackWrongFalsely : Prop := packsComeBackRow.holds Tryz.pinned (OpenSpec.ofChange packsComeBackWrong)

/- THE SECOND FORM. 'bulk': how many values and letters a reading holds, each counted each time it is reached (what is shared counts as often as it is met; a slice's spare places count too). A statement '..UptoSaid' is the law's where the arguments, and the package variables that the reading takes, are together of bulk at most 1048576: NARROWER than '..Said'. Prove '..Said' where nothing that the law and all that it calls make is longer than what came in: it says more and counts as full. Else prove '..UptoSaid'. A law counts once. -/
mutual
def uptoBulk {H : Type} : DataW H → Nat
  | .lit (.string bytes) => bytes.length + 1
  | .lit _ => 1
  | .nil => 1
  | .ptr d => uptoBulk d + 1
  | .slice elems spare => uptoBulkAll elems + uptoBulkAll spare + 1
  | .agg parts => uptoBulkAll parts + 1
  | .iface _ d => uptoBulk d + 1
  | .map entries => uptoBulkEntries entries + 1
  | .held _ => 1
def uptoBulkAll {H : Type} : List (DataW H) → Nat
  | [] => 0
  | d :: r => uptoBulk d + uptoBulkAll r
def uptoBulkEntries {H : Type} : List (Lit × DataW H) → Nat
  | [] => 0
  | x :: r => uptoBulkEntry x + uptoBulkEntries r
def uptoBulkEntry {H : Type} : Lit × DataW H → Nat
  | (.string bytes, d) => bytes.length + uptoBulk d + 1
  | (_, d) => uptoBulk d + 1
 end
def uptoSmall : (H : Type) → List (DataW H) → Bool := fun _ ds => decide (uptoBulkAll ds ≤ 1048576)
def OpenSpec.upto (s : _root_.Go.ChangeSpec) : _root_.Go.OpenSpec := { _root_.Go.OpenSpec.ofChange s with cond := some uptoSmall }

/-- 'handkeep2.SessionsCover', WHERE WHAT IT READS IS OF BULK AT MOST 1048576: true; the input reads as it did. -/
def sessionsCoverUptoRow : OpenClaim := { program := "ytfmnlpmgakgleaagreatdoor", sum := "35d37546988a1bbe380754b59b1f1a4ce37460f13cec13782b66534ac496ff0b", func := "handbill/handkeep2.SessionsCover", spec := "sessionsCover", inPlace := ["internal/abi.NoEscape", "internal/bytealg.MakeNoZero", "internal/bytealg.IndexByteString", "internal/bytealg.IndexString", "internal/bytealg.CountString"], unfollowed := true, recurses := true, named := ["handbill/handmake.eventNames", "handbill/handmake.idPool", "handbill/handmake.fieldNames", "unicode/utf8.first", "unicode/utf8.acceptRanges", "internal/bytealg.MaxLen"], plainKeys := false, apart := false, laid := [("unicode/utf8.acceptRanges", laid_unicode_utf8_acceptRanges), ("handbill/handmake.eventNames", laid_handbill_handmake_eventNames), ("handbill/handmake.idPool", laid_handbill_handmake_idPool), ("handbill/handmake.fieldNames", laid_handbill_handmake_fieldNames), ("unicode/utf8.first", laid_unicode_utf8_first)], narrowed := true }
def SessionsCoverUptoSaid : Prop := sessionsCoverUptoRow.holds Tryz.pinned (OpenSpec.upto sessionsCoverSpec)

/-- 'handkeep2.WindowsAddUp', WHERE WHAT IT READS IS OF BULK AT MOST 1048576: true; the input reads as it did. -/
def windowsAddUpUptoRow : OpenClaim := { program := "ytfmnlpmgakgleaagreatdoor", sum := "35d37546988a1bbe380754b59b1f1a4ce37460f13cec13782b66534ac496ff0b", func := "handbill/handkeep2.WindowsAddUp", spec := "windowsAddUp", inPlace := ["internal/abi.NoEscape", "internal/bytealg.MakeNoZero", "internal/bytealg.IndexByteString", "internal/bytealg.IndexString", "internal/bytealg.CountString"], unfollowed := true, recurses := true, named := ["handbill/handmake.eventNames", "handbill/handmake.idPool", "handbill/handmake.fieldNames", "unicode/utf8.first", "unicode/utf8.acceptRanges", "internal/bytealg.MaxLen"], plainKeys := false, apart := false, laid := [("unicode/utf8.acceptRanges", laid_unicode_utf8_acceptRanges), ("handbill/handmake.eventNames", laid_handbill_handmake_eventNames), ("handbill/handmake.idPool", laid_handbill_handmake_idPool), ("handbill/handmake.fieldNames", laid_handbill_handmake_fieldNames), ("unicode/utf8.first", laid_unicode_utf8_first)], narrowed := true }
def WindowsAddUpUptoSaid : Prop := windowsAddUpUptoRow.holds Tryz.pinned (OpenSpec.upto windowsAddUpSpec)

/-- 'handkeep2.LogsMeet', WHERE WHAT IT READS IS OF BULK AT MOST 1048576: true; the input reads as it did. -/
def logsMeetUptoRow : OpenClaim := { program := "ytfmnlpmgakgleaagreatdoor", sum := "35d37546988a1bbe380754b59b1f1a4ce37460f13cec13782b66534ac496ff0b", func := "handbill/handkeep2.LogsMeet", spec := "logsMeet", inPlace := ["internal/abi.NoEscape", "internal/bytealg.MakeNoZero", "internal/bytealg.IndexByteString", "internal/bytealg.IndexString", "internal/bytealg.CountString", "slices.overlaps[handbill/api.Event]"], unfollowed := true, recurses := true, named := ["handbill/handmake.eventNames", "handbill/handmake.idPool", "handbill/handmake.fieldNames", "unicode/utf8.first", "unicode/utf8.acceptRanges", "internal/bytealg.MaxLen"], plainKeys := false, apart := false, laid := [("unicode/utf8.acceptRanges", laid_unicode_utf8_acceptRanges), ("handbill/handmake.eventNames", laid_handbill_handmake_eventNames), ("handbill/handmake.idPool", laid_handbill_handmake_idPool), ("handbill/handmake.fieldNames", laid_handbill_handmake_fieldNames), ("unicode/utf8.first", laid_unicode_utf8_first)], narrowed := true }
def LogsMeetUptoSaid : Prop := logsMeetUptoRow.holds Tryz.pinned (OpenSpec.upto logsMeetSpec)

/-- 'handkeep2.EventsStay', WHERE WHAT IT READS IS OF BULK AT MOST 1048576: true; the input reads as it did. -/
def eventsStayUptoRow : OpenClaim := { program := "ytfmnlpmgakgleaagreatdoor", sum := "35d37546988a1bbe380754b59b1f1a4ce37460f13cec13782b66534ac496ff0b", func := "handbill/handkeep2.EventsStay", spec := "eventsStay", inPlace := ["internal/abi.NoEscape", "internal/bytealg.MakeNoZero", "internal/bytealg.IndexByteString", "internal/bytealg.IndexString", "internal/bytealg.CountString", "slices.overlaps[handbill/api.Event]"], unfollowed := true, recurses := true, named := ["handbill/handmake.eventNames", "handbill/handmake.idPool", "handbill/handmake.fieldNames", "unicode/utf8.first", "unicode/utf8.acceptRanges", "internal/bytealg.MaxLen"], plainKeys := false, apart := false, laid := [("unicode/utf8.acceptRanges", laid_unicode_utf8_acceptRanges), ("handbill/handmake.eventNames", laid_handbill_handmake_eventNames), ("handbill/handmake.idPool", laid_handbill_handmake_idPool), ("handbill/handmake.fieldNames", laid_handbill_handmake_fieldNames), ("unicode/utf8.first", laid_unicode_utf8_first)], narrowed := true }
def EventsStayUptoSaid : Prop := eventsStayUptoRow.holds Tryz.pinned (OpenSpec.upto eventsStaySpec)

/-- 'handkeep2.PacksComeBack', WHERE WHAT IT READS IS OF BULK AT MOST 1048576: true; the input reads as it did. -/
def packsComeBackUptoRow : OpenClaim := { program := "ytfmnlpmgakgleaagreatdoor", sum := "35d37546988a1bbe380754b59b1f1a4ce37460f13cec13782b66534ac496ff0b", func := "handbill/handkeep2.PacksComeBack", spec := "packsComeBack", inPlace := ["internal/abi.NoEscape", "internal/bytealg.MakeNoZero", "internal/bytealg.IndexByteString", "internal/bytealg.IndexString", "internal/bytealg.CountString"], unfollowed := true, recurses := true, named := ["handbill/handmake.eventNames", "handbill/handmake.idPool", "handbill/handmake.fieldNames", "unicode/utf8.first", "unicode/utf8.acceptRanges", "internal/bytealg.MaxLen", "internal/strconv.uint64pow10", "math/bits.deBruijn32tab", "math/bits.deBruijn64tab", "strconv.ErrSyntax", "strconv.ErrRange"], plainKeys := false, apart := false, laid := [("math/bits.deBruijn32tab", laid_math_bits_deBruijn32tab), ("math/bits.deBruijn64tab", laid_math_bits_deBruijn64tab), ("internal/strconv.uint64pow10", laid_internal_strconv_uint64pow10), ("unicode/utf8.acceptRanges", laid_unicode_utf8_acceptRanges), ("strconv.ErrRange", laid_strconv_ErrRange), ("strconv.ErrSyntax", laid_strconv_ErrSyntax), ("handbill/handmake.eventNames", laid_handbill_handmake_eventNames), ("handbill/handmake.idPool", laid_handbill_handmake_idPool), ("handbill/handmake.fieldNames", laid_handbill_handmake_fieldNames), ("unicode/utf8.first", laid_unicode_utf8_first)], narrowed := true }
def PacksComeBackUptoSaid : Prop := packsComeBackUptoRow.holds Tryz.pinned (OpenSpec.upto packsComeBackSpec)

end Rows
end Go.Proofs.YtfmnlpmgakgleaaGreatDoor
