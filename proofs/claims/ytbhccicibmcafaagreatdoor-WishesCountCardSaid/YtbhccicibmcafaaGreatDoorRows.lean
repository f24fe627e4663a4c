/-
  NARROWER THAN 'FOR EVERY INPUT', by the rows' own cells (each row's printed sentence says how): ConsentsLookBack: laid · ConsentsNarrow: laid · ProofsSuffice: laid · PeriodsAreAnswers: laid · WishesCount: laid.
  DERIVED. THE GIVEN ROWS OF THIS SEAT. 5 by the template 'for every input the law returns true; each argument reads behind the call as it read before'; 0 by the template 'total and deterministic' (their statements: YtbhccicibmcafaaGreatDoorTotals.lean).
  GIVEN WITH THE SEED: the statements are not yours to turn. If you find one false, say at which input.
  Laid BY PROGRAM, IN A SANDBOX (cutbox-rows.mjs): the forced cells as the released guide's own fill.sh prints them over the translation ca13536290adf576… (all of the seat's roots in one cut). By AI agents, Wed Nov 11 2026. No macro, syntax, notation, axiom, sorry.
-/
import Derived.Test.YtbhccicibmcafaaGreatDoorChecked
import GoSem.PinnedTables
import GoSem.Claim
import GoSem.ClaimJoined
import GoSem.ClaimMapViews
import Derived.JoinedTies
import Derived.KernelRfl
namespace Go.Proofs.YtbhccicibmcafaaGreatDoor
/- THE CELL 'sum', in the pinned program and in every row, IS THE sha256 OF THE DUMP (.gsa) THAT YtbhccicibmcafaaGreatDoorProg.lean LOADS. Nothing in Lean hashes anything: it is a label: what it is worth is what the hold of that sum in a sandbox is worth. -/
noncomputable def Tryz.pinned : Pinned := { name := "ytbhccicibmcafaagreatdoor", sum := "ca13536290adf57645754fa2ab3836f687c52a9e9a3341877a4a8ccc94e1a762", checked := Tryz.checked }
namespace Rows
def none {H : Type} : Left H := { results := [], args := [] }

/- WHAT THE LISTED PACKAGE-LEVEL VARIABLES READ AS WHEN THE CALL BEGINS. Each datum BY PROGRAM (the guide's laid-datum.mjs) off the statement by which the dump's own 'gosem.cut.vars' lays the variable. In a bare row this is a premise. The card (YtbhccicibmcafaaGreatDoorCards.lean) ties it to the program's text. -/
def laid_unicode_utf8_acceptRanges {H : Type} : DataW H := .agg [.agg [.lit (.int .u8 128), .lit (.int .u8 191)], .agg [.lit (.int .u8 160), .lit (.int .u8 191)], .agg [.lit (.int .u8 128), .lit (.int .u8 159)], .agg [.lit (.int .u8 144), .lit (.int .u8 191)], .agg [.lit (.int .u8 128), .lit (.int .u8 143)], .agg [.lit (.int .u8 0), .lit (.int .u8 0)], .agg [.lit (.int .u8 0), .lit (.int .u8 0)], .agg [.lit (.int .u8 0), .lit (.int .u8 0)], .agg [.lit (.int .u8 0), .lit (.int .u8 0)], .agg [.lit (.int .u8 0), .lit (.int .u8 0)], .agg [.lit (.int .u8 0), .lit (.int .u8 0)], .agg [.lit (.int .u8 0), .lit (.int .u8 0)], .agg [.lit (.int .u8 0), .lit (.int .u8 0)], .agg [.lit (.int .u8 0), .lit (.int .u8 0)], .agg [.lit (.int .u8 0), .lit (.int .u8 0)], .agg [.lit (.int .u8 0), .lit (.int .u8 0)]]
def laid_handbill_handmake_idPool {H : Type} : DataW H := .agg [.agg [.lit (.int .i64 1), .lit (.string [97, 64, 98, 46, 100, 101])], .agg [.lit (.int .i64 1), .lit (.string [97, 110, 110, 46, 98, 64, 120, 45, 121, 46, 111, 114, 103])], .agg [.lit (.int .i64 1), .lit (.string [98, 111, 98, 95, 49, 64, 98, 46, 100, 101])], .agg [.lit (.int .i64 1), .lit (.string [122, 45, 64, 48, 46, 97])], .agg [.lit (.int .i64 2), .lit (.string [43, 52, 57, 51, 48, 49, 50, 51, 52, 53, 54])], .agg [.lit (.int .i64 2), .lit (.string [43, 49, 53, 53, 53, 48, 48, 48, 49, 49, 49])], .agg [.lit (.int .i64 3), .lit (.string [65, 66, 49, 51])], .agg [.lit (.int .i64 3), .lit (.string [48, 48, 48, 48, 48, 48, 48, 48, 48, 48, 48, 48, 48, 48, 48, 48, 48, 48, 48, 48])], .agg [.lit (.int .i64 4), .lit (.string [48, 49, 50, 51, 52, 53, 54, 55, 56, 57, 97, 98, 99, 100, 101, 102, 48, 49, 50, 51, 52, 53, 54, 55, 56, 57, 97, 98, 99, 100, 101, 102])], .agg [.lit (.int .i64 4), .lit (.string [102, 102, 102, 102, 102, 102, 102, 102, 102, 102, 102, 102, 102, 102, 102, 102, 102, 102, 102, 102, 102, 102, 102, 102, 102, 102, 102, 102, 102, 102, 102, 102])]]
/-- One of Go's own tables, pinned by name: the form's constant. -/
def laid_unicode_utf8_first : DataW Unit := Go.Pinned.utf8First

/-- 'handkeep2.ConsentsLookBack': WHATEVER THE INPUT: true; the input reads as it did. -/
def consentsLookBackSpec : ChangeSpec := { name := "consentsLookBack", fn := fun _ => fun
  | [d] => { results := [.lit (.bool true)], args := [d] }
  | _ => none }
def consentsLookBackRow : OpenClaim := { program := "ytbhccicibmcafaagreatdoor", sum := "ca13536290adf57645754fa2ab3836f687c52a9e9a3341877a4a8ccc94e1a762", func := "handbill/handkeep2.ConsentsLookBack", spec := "consentsLookBack", inPlace := ["internal/abi.NoEscape", "internal/bytealg.MakeNoZero", "internal/bytealg.IndexByteString", "internal/bytealg.IndexString", "internal/bytealg.CountString"], unfollowed := true, recurses := true, named := ["handbill/handmake.idPool", "internal/bytealg.MaxLen", "unicode/utf8.first", "unicode/utf8.acceptRanges"], apart := false, laid := [("unicode/utf8.acceptRanges", laid_unicode_utf8_acceptRanges), ("handbill/handmake.idPool", laid_handbill_handmake_idPool), ("unicode/utf8.first", laid_unicode_utf8_first)] }
def ConsentsLookBackSaid : Prop := consentsLookBackRow.holds Tryz.pinned (OpenSpec.ofChange consentsLookBackSpec)

/-- ITS FALSE NEIGHBOUR: 'it returns false'. Refute it at one input. -/
def consentsLookBackWrong : ChangeSpec := { name := "consentsLookBack", fn := fun _ => fun
  | [d] => { results := [.lit (.bool false)], args := [d] }
  | _ => none }
def ConsentsLookBackWrongFalsely : Prop := consentsLookBackRow.holds Tryz.pinned (OpenSpec.ofChange consentsLookBackWrong)

/-- 'handkeep2.ConsentsNarrow': WHATEVER THE INPUT: true; the input reads as it did. -/
def consentsNarrowSpec : ChangeSpec := { name := "consentsNarrow", fn := fun _ => fun
  | [d] => { results := [.lit (.bool true)], args := [d] }
  | _ => none }
def consentsNarrowRow : OpenClaim := { program := "ytbhccicibmcafaagreatdoor", sum := "ca13536290adf57645754fa2ab3836f687c52a9e9a3341877a4a8ccc94e1a762", func := "handbill/handkeep2.ConsentsNarrow", spec := "consentsNarrow", inPlace := ["internal/abi.NoEscape", "internal/bytealg.MakeNoZero", "internal/bytealg.IndexByteString", "internal/bytealg.IndexString", "internal/bytealg.CountString"], unfollowed := true, recurses := true, named := ["handbill/handmake.idPool", "internal/bytealg.MaxLen", "unicode/utf8.first", "unicode/utf8.acceptRanges"], apart := false, laid := [("unicode/utf8.acceptRanges", laid_unicode_utf8_acceptRanges), ("handbill/handmake.idPool", laid_handbill_handmake_idPool), ("unicode/utf8.first", laid_unicode_utf8_first)] }
def ConsentsNarrowSaid : Prop := consentsNarrowRow.holds Tryz.pinned (OpenSpec.ofChange consentsNarrowSpec)

/-- ITS FALSE NEIGHBOUR: 'it returns false'. Refute it at one input. -/
def consentsNarrowWrong : ChangeSpec := { name := "consentsNarrow", fn := fun _ => fun
  | [d] => { results := [.lit (.bool false)], args := [d] }
  | _ => none }
def ConsentsNarrowWrongFalsely : Prop := consentsNarrowRow.holds Tryz.pinned (OpenSpec.ofChange consentsNarrowWrong)

/-- 'handkeep2.ProofsSuffice': WHATEVER THE INPUT: true; the input reads as it did. -/
def proofsSufficeSpec : ChangeSpec := { name := "proofsSuffice", fn := fun _ => fun
  | [d] => { results := [.lit (.bool true)], args := [d] }
  | _ => none }
def proofsSufficeRow : OpenClaim := { program := "ytbhccicibmcafaagreatdoor", sum := "ca13536290adf57645754fa2ab3836f687c52a9e9a3341877a4a8ccc94e1a762", func := "handbill/handkeep2.ProofsSuffice", spec := "proofsSuffice", inPlace := ["internal/abi.NoEscape", "internal/bytealg.MakeNoZero", "internal/bytealg.IndexByteString", "internal/bytealg.IndexString", "internal/bytealg.CountString"], unfollowed := true, recurses := true, named := ["handbill/handmake.idPool", "internal/bytealg.MaxLen", "unicode/utf8.first", "unicode/utf8.acceptRanges"], apart := false, laid := [("unicode/utf8.acceptRanges", laid_unicode_utf8_acceptRanges), ("handbill/handmake.idPool", laid_handbill_handmake_idPool), ("unicode/utf8.first", laid_unicode_utf8_first)] }
def ProofsSufficeSaid : Prop := proofsSufficeRow.holds Tryz.pinned (OpenSpec.ofChange proofsSufficeSpec)

/-- ITS FALSE NEIGHBOUR: 'it returns false'. Refute it at one input. -/
def proofsSufficeWrong : ChangeSpec := { name := "proofsSuffice", fn := fun _ => fun
  | [d] => { results := [.lit (.bool false)], args := [d] }
  | _ => none }
def ProofsSufficeWrongFalsely : Prop := proofsSufficeRow.holds Tryz.pinned (OpenSpec.ofChange proofsSufficeWrong)

/-- 'handkeep2.PeriodsAreAnswers': WHATEVER THE INPUT: true; the input reads as it did. -/
def periodsAreAnswersSpec : ChangeSpec := { name := "periodsAreAnswers", fn := fun _ => fun
  | [d] => { results := [.lit (.bool true)], args := [d] }
  | _ => none }
def periodsAreAnswersRow : OpenClaim := { program := "ytbhccicibmcafaagreatdoor", sum := "ca13536290adf57645754fa2ab3836f687c52a9e9a3341877a4a8ccc94e1a762", func := "handbill/handkeep2.PeriodsAreAnswers", spec := "periodsAreAnswers", inPlace := ["internal/abi.NoEscape", "internal/bytealg.MakeNoZero", "internal/bytealg.IndexByteString", "internal/bytealg.IndexString", "internal/bytealg.CountString"], unfollowed := true, recurses := true, named := ["handbill/handmake.idPool", "internal/bytealg.MaxLen", "unicode/utf8.first", "unicode/utf8.acceptRanges"], apart := false, laid := [("unicode/utf8.acceptRanges", laid_unicode_utf8_acceptRanges), ("handbill/handmake.idPool", laid_handbill_handmake_idPool), ("unicode/utf8.first", laid_unicode_utf8_first)] }
def PeriodsAreAnswersSaid : Prop := periodsAreAnswersRow.holds Tryz.pinned (OpenSpec.ofChange periodsAreAnswersSpec)

/-- ITS FALSE NEIGHBOUR: 'it returns false'. Refute it at one input. -/
def periodsAreAnswersWrong : ChangeSpec := { name := "periodsAreAnswers", fn := fun _ => fun
  | [d] => { results := [.lit (.bool false)], args := [d] }
  | _ => none }
def PeriodsAreAnswersWrongFalsely : Prop := periodsAreAnswersRow.holds Tryz.pinned (OpenSpec.ofChange periodsAreAnswersWrong)

/-- 'handkeep2.WishesCount': WHATEVER THE INPUT: true; the input reads as it did. -/
def wishesCountSpec : ChangeSpec := { name := "wishesCount", fn := fun _ => fun
  | [d] => { results := [.lit (.bool true)], args := [d] }
  | _ => none }
def wishesCountRow : OpenClaim := { program := "ytbhccicibmcafaagreatdoor", sum := "ca13536290adf57645754fa2ab3836f687c52a9e9a3341877a4a8ccc94e1a762", func := "handbill/handkeep2.WishesCount", spec := "wishesCount", inPlace := ["internal/abi.NoEscape", "internal/bytealg.MakeNoZero", "internal/bytealg.IndexByteString", "internal/bytealg.IndexString", "internal/bytealg.CountString"], unfollowed := true, recurses := true, named := ["handbill/handmake.idPool", "internal/bytealg.MaxLen", "unicode/utf8.first", "unicode/utf8.acceptRanges"], apart := false, laid := [("unicode/utf8.acceptRanges", laid_unicode_utf8_acceptRanges), ("handbill/handmake.idPool", laid_handbill_handmake_idPool), ("unicode/utf8.first", laid_unicode_utf8_first)] }
def WishesCountSaid : Prop := wishesCountRow.holds Tryz.pinned (OpenSpec.ofChange wishesCountSpec)

/-- ITS FALSE NEIGHBOUR: 'it returns false'. Refute it at one input. -/
def wishesCountWrong : ChangeSpec := { name := "wishesCount", fn := fun _ => fun
  | [d] => { results := [.lit (.bool false)], args := [d] }
  | _ => none }
def WishesCountWrongFalsely : Prop := wishesCountRow.holds Tryz.pinned (OpenSpec.ofChange wishesCountWrong)

/- THE SECOND FORM. 'bulk': how many values and letters a reading holds, each counted each time it is reached (what is shared counts as often as it is met; a slice's spare places count too). A statement '..UptoSaid' is the law's where the arguments, and the package variables that the reading takes, are together of bulk at most 1048576: NARROWER than '..Said'. Prove '..Said' where nothing that the law and all that it calls make is longer than what came in: it says more and counts as full. Else prove '..UptoSaid'. A law counts once. -/
mutual
def uptoBulk {H : Type} : DataW H → Nat
  | .lit (.string bytes) => bytes.length + 1
  | .lit _ => 1
  | .nil => 1
  | .ptr d => uptoBulk d + 1
  | .slice elems spare => uptoBulkAll elems + uptoBulkAll spare + 1
  | .agg parts => uptoBulkAll parts + 1
  | .iface _ d => uptoBulk d + 1
  | .map entries => uptoBulkEntries entries + 1
  | .held _ => 1
def uptoBulkAll {H : Type} : List (DataW H) → Nat
  | [] => 0
  | d :: r => uptoBulk d + uptoBulkAll r
def uptoBulkEntries {H : Type} : List (Lit × DataW H) → Nat
  | [] => 0
  | x :: r => uptoBulkEntry x + uptoBulkEntries r
def uptoBulkEntry {H : Type} : Lit × DataW H → Nat
  | (.string bytes, d) => bytes.length + uptoBulk d + 1
  | (_, d) => uptoBulk d + 1
 end
def uptoSmall : (H : Type) → List (DataW H) → Bool := fun _ ds => decide (uptoBulkAll ds ≤ 1048576)
def OpenSpec.upto (s : _root_.Go.ChangeSpec) : _root_.Go.OpenSpec := { _root_.Go.OpenSpec.ofChange s with cond := some uptoSmall }

/-- 'handkeep2.ConsentsLookBack', WHERE WHAT IT READS IS OF BULK AT MOST 1048576: true; the input reads as it did. -/
def consentsLookBackUptoRow : OpenClaim := { program := "ytbhccicibmcafaagreatdoor", sum := "ca13536290adf57645754fa2ab3836f687c52a9e9a3341877a4a8ccc94e1a762", func := "handbill/handkeep2.ConsentsLookBack", spec := "consentsLookBack", inPlace := ["internal/abi.NoEscape", "internal/bytealg.MakeNoZero", "internal/bytealg.IndexByteString", "internal/bytealg.IndexString", "internal/bytealg.CountString"], unfollowed := true, recurses := true, named := ["handbill/handmake.idPool", "internal/bytealg.MaxLen", "unicode/utf8.first", "unicode/utf8.acceptRanges"], apart := false, laid := [("unicode/utf8.acceptRanges", laid_unicode_utf8_acceptRanges), ("handbill/handmake.idPool", laid_handbill_handmake_idPool), ("unicode/utf8.first", laid_unicode_utf8_first)], narrowed := true }
def ConsentsLookBackUptoSaid : Prop := consentsLookBackUptoRow.holds Tryz.pinned (OpenSpec.upto consentsLookBackSpec)

/-- 'handkeep2.ConsentsNarrow', WHERE WHAT IT READS IS OF BULK AT MOST 1048576: true; the input reads as it did. -/
def consentsNarrowUptoRow : OpenClaim := { program := "ytbhccicibmcafaagreatdoor", sum := "ca13536290adf57645754fa2ab3836f687c52a9e9a3341877a4a8ccc94e1a762", func := "handbill/handkeep2.ConsentsNarrow", spec := "consentsNarrow", inPlace := ["internal/abi.NoEscape", "internal/bytealg.MakeNoZero", "internal/bytealg.IndexByteString", "internal/bytealg.IndexString", "internal/bytealg.CountString"], unfollowed := true, recurses := true, named := ["handbill/handmake.idPool", "internal/bytealg.MaxLen", "unicode/utf8.first", "unicode/utf8.acceptRanges"], apart := false, laid := [("unicode/utf8.acceptRanges", laid_unicode_utf8_acceptRanges), ("handbill/handmake.idPool", laid_handbill_handmake_idPool), ("unicode/utf8.first", laid_unicode_utf8_first)], narrowed := true }
def ConsentsNarrowUptoSaid : Prop := consentsNarrowUptoRow.holds Tryz.pinned (OpenSpec.upto consentsNarrowSpec)

/-- 'handkeep2.ProofsSuffice', WHERE WHAT IT READS IS OF BULK AT MOST 1048576: true; the input reads as it did. -/
def proofsSufficeUptoRow : OpenClaim := { program := "ytbhccicibmcafaagreatdoor", sum := "ca13536290adf57645754fa2ab3836f687c52a9e9a3341877a4a8ccc94e1a762", func := "handbill/handkeep2.ProofsSuffice", spec := "proofsSuffice", inPlace := ["internal/abi.NoEscape", "internal/bytealg.MakeNoZero", "internal/bytealg.IndexByteString", "internal/bytealg.IndexString", "internal/bytealg.CountString"], unfollowed := true, recurses := true, named := ["handbill/handmake.idPool", "internal/bytealg.MaxLen", "unicode/utf8.first", "unicode/utf8.acceptRanges"], apart := false, laid := [("unicode/utf8.acceptRanges", laid_unicode_utf8_acceptRanges), ("handbill/handmake.idPool", laid_handbill_handmake_idPool), ("unicode/utf8.first", laid_unicode_utf8_first)], narrowed := true }
def ProofsSufficeUptoSaid : Prop := proofsSufficeUptoRow.holds Tryz.pinned (OpenSpec.upto proofsSufficeSpec)

/-- 'handkeep2.PeriodsAreAnswers', WHERE WHAT IT READS IS OF BULK AT MOST 1048576: true; the input reads as it did. -/
def periodsAreAnswersUptoRow : OpenClaim := { program := "ytbhccicibmcafaagreatdoor", sum := "ca13536290adf57645754fa2ab3836f687c52a9e9a3341877a4a8ccc94e1a762", func := "handbill/handkeep2.PeriodsAreAnswers", spec := "periodsAreAnswers", inPlace := ["internal/abi.NoEscape", "internal/bytealg.MakeNoZero", "internal/bytealg.IndexByteString", "internal/bytealg.IndexString", "internal/bytealg.CountString"], unfollowed := true, recurses := true, named := ["handbill/handmake.idPool", "internal/bytealg.MaxLen", "unicode/utf8.first", "unicode/utf8.acceptRanges"], apart := false, laid := [("unicode/utf8.acceptRanges", laid_unicode_utf8_acceptRanges), ("handbill/handmake.idPool", laid_handbill_handmake_idPool), ("unicode/utf8.first", laid_unicode_utf8_first)], narrowed := true }
def PeriodsAreAnswersUptoSaid : Prop := periodsAreAnswersUptoRow.holds Tryz.pinned (OpenSpec.upto periodsAreAnswersSpec)

/-- 'handkeep2.WishesCount', WHERE WHAT IT READS IS OF BULK AT MOST 1048576: true; the input reads as it did. -/
def wishesCountUptoRow : OpenClaim := { program := "ytbhccicibmcafaagreatdoor", sum := "ca13536290adf57645754fa2ab3836f687c52a9e9a3341877a4a8ccc94e1a762", func := "handbill/handkeep2.WishesCount", spec := "wishesCount", inPlace := ["internal/abi.NoEscape", "internal/bytealg.MakeNoZero", "internal/bytealg.IndexByteString", "internal/bytealg.IndexString", "internal/bytealg.CountString"], unfollowed := true, recurses := true, named := ["handbill/handmake.idPool", "internal/bytealg.MaxLen", "unicode/utf8.first", "unicode/utf8.acceptRanges"], apart := false, laid := [("unicode/utf8.acceptRanges", laid_unicode_utf8_acceptRanges), ("handbill/handmake.idPool", laid_handbill_handmake_idPool), ("unicode/utf8.first", laid_unicode_utf8_first)], narrowed := true }
def WishesCountUptoSaid : Prop := wishesCountUptoRow.holds Tryz.pinned (OpenSpec.upto wishesCountSpec)

end Rows
end Go.Proofs.YtbhccicibmcafaaGreatDoor
