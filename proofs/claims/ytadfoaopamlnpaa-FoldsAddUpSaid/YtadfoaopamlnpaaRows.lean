/-
  No cell of these rows narrows 'for every input' (looked for: loops, veiled, ifaces, maps, wideKeys, modest, calm, conditions, laid).
  DERIVED. THE GIVEN ROWS OF THIS SEAT. 6 by the template 'for every input the law returns true; each argument reads behind the call as it read before'; 0 by the template 'total and deterministic' (their statements: YtadfoaopamlnpaaTotals.lean).
  GIVEN WITH THE SEED: the statements are not yours to turn. If you find one false, say at which input.
  Laid BY PROGRAM, IN A SANDBOX (cutbox-rows.mjs): the forced cells as the released guide's own fill.sh prints them over the translation 5636475e77fd4143… (all of the seat's roots in one cut). By AI agents, Wed Nov 11 2026. No macro, syntax, notation, axiom, sorry.
-/
import Derived.Test.YtadfoaopamlnpaaChecked
import GoSem.Claim
import GoSem.ClaimJoined
import GoSem.ClaimMapViews
import Derived.JoinedTies
import Derived.KernelRfl
namespace Go.Proofs.Ytadfoaopamlnpaa
/- THE CELL 'sum', in the pinned program and in every row, IS THE sha256 OF THE DUMP (.gsa) THAT YtadfoaopamlnpaaProg.lean LOADS. Nothing in Lean hashes anything: it is a label: what it is worth is what the hold of that sum in a sandbox is worth. -/
noncomputable def Try.pinned : Pinned := { name := "ytadfoaopamlnpaa", sum := "5636475e77fd41437c47dda23100f614f323bf1f54399ac20a39c03d6c7c5c47", checked := Try.checked }
namespace Rows
def none {H : Type} : Left H := { results := [], args := [] }

/-- 'handkeep1.TestsTurn': WHATEVER THE INPUT: true; the input reads as it did. -/
def testsTurnSpec : ChangeSpec := { name := "testsTurn", fn := fun _ => fun
  | [d] => { results := [.lit (.bool true)], args := [d] }
  | _ => none }
def testsTurnRow : OpenClaim := { program := "ytadfoaopamlnpaa", sum := "5636475e77fd41437c47dda23100f614f323bf1f54399ac20a39c03d6c7c5c47", func := "handbill/handkeep1.TestsTurn", spec := "testsTurn", unfollowed := true, recurses := true, apart := false }
def TestsTurnSaid : Prop := testsTurnRow.holds Try.pinned (OpenSpec.ofChange testsTurnSpec)

/-- ITS FALSE NEIGHBOUR: 'it returns false'. Refute it at one input. -/
def testsTurnWrong : ChangeSpec := { name := "testsTurn", fn := fun _ => fun
  | [d] => { results := [.lit (.bool false)], args := [d] }
  | _ => none }
def TestsTurnWrongFalsely : Prop := testsTurnRow.holds Try.pinned (OpenSpec.ofChange testsTurnWrong)

/-- 'handkeep1.CodesNotice': WHATEVER THE INPUT: true; the input reads as it did. -/
def codesNoticeSpec : ChangeSpec := { name := "codesNotice", fn := fun _ => fun
  | [d] => { results := [.lit (.bool true)], args := [d] }
  | _ => none }
def codesNoticeRow : OpenClaim := { program := "ytadfoaopamlnpaa", sum := "5636475e77fd41437c47dda23100f614f323bf1f54399ac20a39c03d6c7c5c47", func := "handbill/handkeep1.CodesNotice", spec := "codesNotice", inPlace := ["internal/bytealg.IndexByteString", "internal/abi.NoEscape", "internal/bytealg.MakeNoZero"], apart := false }
def CodesNoticeSaid : Prop := codesNoticeRow.holds Try.pinned (OpenSpec.ofChange codesNoticeSpec)

/-- ITS FALSE NEIGHBOUR: 'it returns false'. Refute it at one input. -/
def codesNoticeWrong : ChangeSpec := { name := "codesNotice", fn := fun _ => fun
  | [d] => { results := [.lit (.bool false)], args := [d] }
  | _ => none }
def CodesNoticeWrongFalsely : Prop := codesNoticeRow.holds Try.pinned (OpenSpec.ofChange codesNoticeWrong)

/-- 'handkeep1.CodesCount': WHATEVER THE INPUT: true; the input reads as it did. -/
def codesCountSpec : ChangeSpec := { name := "codesCount", fn := fun _ => fun
  | [d] => { results := [.lit (.bool true)], args := [d] }
  | _ => none }
def codesCountRow : OpenClaim := { program := "ytadfoaopamlnpaa", sum := "5636475e77fd41437c47dda23100f614f323bf1f54399ac20a39c03d6c7c5c47", func := "handbill/handkeep1.CodesCount", spec := "codesCount", inPlace := ["internal/bytealg.IndexByteString"], named := ["math/bits.divideError", "math/bits.overflowError"], apart := false }
def CodesCountSaid : Prop := codesCountRow.holds Try.pinned (OpenSpec.ofChange codesCountSpec)

/-- ITS FALSE NEIGHBOUR: 'it returns false'. Refute it at one input. -/
def codesCountWrong : ChangeSpec := { name := "codesCount", fn := fun _ => fun
  | [d] => { results := [.lit (.bool false)], args := [d] }
  | _ => none }
def CodesCountWrongFalsely : Prop := codesCountRow.holds Try.pinned (OpenSpec.ofChange codesCountWrong)

/-- 'handkeep1.FoldsAddUp': WHATEVER THE INPUT: true; the input reads as it did. -/
def foldsAddUpSpec : ChangeSpec := { name := "foldsAddUp", fn := fun _ => fun
  | [d] => { results := [.lit (.bool true)], args := [d] }
  | _ => none }
def foldsAddUpRow : OpenClaim := { program := "ytadfoaopamlnpaa", sum := "5636475e77fd41437c47dda23100f614f323bf1f54399ac20a39c03d6c7c5c47", func := "handbill/handkeep1.FoldsAddUp", spec := "foldsAddUp", unfollowed := true, recurses := true, apart := false }
def FoldsAddUpSaid : Prop := foldsAddUpRow.holds Try.pinned (OpenSpec.ofChange foldsAddUpSpec)

/-- ITS FALSE NEIGHBOUR: 'it returns false'. Refute it at one input. -/
def foldsAddUpWrong : ChangeSpec := { name := "foldsAddUp", fn := fun _ => fun
  | [d] => { results := [.lit (.bool false)], args := [d] }
  | _ => none }
def FoldsAddUpWrongFalsely : Prop := foldsAddUpRow.holds Try.pinned (OpenSpec.ofChange foldsAddUpWrong)

/-- 'handkeep1.SharesAddUp': WHATEVER THE INPUT: true; the input reads as it did. -/
def sharesAddUpSpec : ChangeSpec := { name := "sharesAddUp", fn := fun _ => fun
  | [d1, d2] => { results := [.lit (.bool true)], args := [d1, d2] }
  | _ => none }
def sharesAddUpRow : OpenClaim := { program := "ytadfoaopamlnpaa", sum := "5636475e77fd41437c47dda23100f614f323bf1f54399ac20a39c03d6c7c5c47", func := "handbill/handkeep1.SharesAddUp", spec := "sharesAddUp", unfollowed := true, recurses := true, apart := false }
def SharesAddUpSaid : Prop := sharesAddUpRow.holds Try.pinned (OpenSpec.ofChange sharesAddUpSpec)

/-- ITS FALSE NEIGHBOUR: 'it returns false'. Refute it at one input. -/
def sharesAddUpWrong : ChangeSpec := { name := "sharesAddUp", fn := fun _ => fun
  | [d1, d2] => { results := [.lit (.bool false)], args := [d1, d2] }
  | _ => none }
def SharesAddUpWrongFalsely : Prop := sharesAddUpRow.holds Try.pinned (OpenSpec.ofChange sharesAddUpWrong)

/-- 'handkeep1.StepsFall': WHATEVER THE INPUT: true; the input reads as it did. -/
def stepsFallSpec : ChangeSpec := { name := "stepsFall", fn := fun _ => fun
  | [d] => { results := [.lit (.bool true)], args := [d] }
  | _ => none }
def stepsFallRow : OpenClaim := { program := "ytadfoaopamlnpaa", sum := "5636475e77fd41437c47dda23100f614f323bf1f54399ac20a39c03d6c7c5c47", func := "handbill/handkeep1.StepsFall", spec := "stepsFall", unfollowed := true, recurses := true, apart := false }
def StepsFallSaid : Prop := stepsFallRow.holds Try.pinned (OpenSpec.ofChange stepsFallSpec)

/-- ITS FALSE NEIGHBOUR: 'it returns false'. Refute it at one input. -/
def stepsFallWrong : ChangeSpec := { name := "stepsFall", fn := fun _ => fun
  | [d] => { results := [.lit (.bool false)], args := [d] }
  | _ => none }
def StepsFallWrongFalsely : Prop := stepsFallRow.holds Try.pinned (OpenSpec.ofChange stepsFallWrong)

/- THE SECOND FORM. 'bulk': how many values and letters a reading holds, each counted each time it is reached (what is shared counts as often as it is met; a slice's spare places count too). A statement '..UptoSaid' is the law's where the arguments, and the package variables that the reading takes, are together of bulk at most 1048576: NARROWER than '..Said'. Prove '..Said' where nothing that the law and all that it calls make is longer than what came in: it says more and counts as full. Else prove '..UptoSaid'. A law counts once. -/
mutual
def uptoBulk {H : Type} : DataW H → Nat
  | .lit (.string bytes) => bytes.length + 1
  | .lit _ => 1
  | .nil => 1
  | .ptr d => uptoBulk d + 1
  | .slice elems spare => uptoBulkAll elems + uptoBulkAll spare + 1
  | .agg parts => uptoBulkAll parts + 1
  | .iface _ d => uptoBulk d + 1
  | .map entries => uptoBulkEntries entries + 1
  | .held _ => 1
def uptoBulkAll {H : Type} : List (DataW H) → Nat
  | [] => 0
  | d :: r => uptoBulk d + uptoBulkAll r
def uptoBulkEntries {H : Type} : List (Lit × DataW H) → Nat
  | [] => 0
  | x :: r => uptoBulkEntry x + uptoBulkEntries r
def uptoBulkEntry {H : Type} : Lit × DataW H → Nat
  | (.string bytes, d) => bytes.length + uptoBulk d + 1
  | (_, d) => uptoBulk d + 1
 end
def uptoSmall : (H : Type) → List (DataW H) → Bool := fun _ ds => decide (uptoBulkAll ds ≤ 1048576)
def OpenSpec.upto (s : _root_.Go.ChangeSpec) : _root_.Go.OpenSpec := { _root_.Go.OpenSpec.ofChange s with cond := some uptoSmall }

/-- 'handkeep1.TestsTurn', WHERE WHAT IT READS IS OF BULK AT MOST 1048576: true; the input reads as it did. -/
def testsTurnUptoRow : OpenClaim := { program := "ytadfoaopamlnpaa", sum := "5636475e77fd41437c47dda23100f614f323bf1f54399ac20a39c03d6c7c5c47", func := "handbill/handkeep1.TestsTurn", spec := "testsTurn", unfollowed := true, recurses := true, apart := false, narrowed := true }
def TestsTurnUptoSaid : Prop := testsTurnUptoRow.holds Try.pinned (OpenSpec.upto testsTurnSpec)

/-- 'handkeep1.CodesNotice', WHERE WHAT IT READS IS OF BULK AT MOST 1048576: true; the input reads as it did. -/
def codesNoticeUptoRow : OpenClaim := { program := "ytadfoaopamlnpaa", sum := "5636475e77fd41437c47dda23100f614f323bf1f54399ac20a39c03d6c7c5c47", func := "handbill/handkeep1.CodesNotice", spec := "codesNotice", inPlace := ["internal/bytealg.IndexByteString", "internal/abi.NoEscape", "internal/bytealg.MakeNoZero"], apart := false, narrowed := true }
def CodesNoticeUptoSaid : Prop := codesNoticeUptoRow.holds Try.pinned (OpenSpec.upto codesNoticeSpec)

/-- 'handkeep1.CodesCount', WHERE WHAT IT READS IS OF BULK AT MOST 1048576: true; the input reads as it did. -/
def codesCountUptoRow : OpenClaim := { program := "ytadfoaopamlnpaa", sum := "5636475e77fd41437c47dda23100f614f323bf1f54399ac20a39c03d6c7c5c47", func := "handbill/handkeep1.CodesCount", spec := "codesCount", inPlace := ["internal/bytealg.IndexByteString"], named := ["math/bits.divideError", "math/bits.overflowError"], apart := false, narrowed := true }
def CodesCountUptoSaid : Prop := codesCountUptoRow.holds Try.pinned (OpenSpec.upto codesCountSpec)

/-- 'handkeep1.FoldsAddUp', WHERE WHAT IT READS IS OF BULK AT MOST 1048576: true; the input reads as it did. -/
def foldsAddUpUptoRow : OpenClaim := { program := "ytadfoaopamlnpaa", sum := "5636475e77fd41437c47dda23100f614f323bf1f54399ac20a39c03d6c7c5c47", func := "handbill/handkeep1.FoldsAddUp", spec := "foldsAddUp", unfollowed := true, recurses := true, apart := false, narrowed := true }
def FoldsAddUpUptoSaid : Prop := foldsAddUpUptoRow.holds Try.pinned (OpenSpec.upto foldsAddUpSpec)

/-- 'handkeep1.SharesAddUp', WHERE WHAT IT READS IS OF BULK AT MOST 1048576: true; the input reads as it did. -/
def sharesAddUpUptoRow : OpenClaim := { program := "ytadfoaopamlnpaa", sum := "5636475e77fd41437c47dda23100f614f323bf1f54399ac20a39c03d6c7c5c47", func := "handbill/handkeep1.SharesAddUp", spec := "sharesAddUp", unfollowed := true, recurses := true, apart := false, narrowed := true }
def SharesAddUpUptoSaid : Prop := sharesAddUpUptoRow.holds Try.pinned (OpenSpec.upto sharesAddUpSpec)

/-- 'handkeep1.StepsFall', WHERE WHAT IT READS IS OF BULK AT MOST 1048576: true; the input reads as it did. -/
def stepsFallUptoRow : OpenClaim := { program := "ytadfoaopamlnpaa", sum := "5636475e77fd41437c47dda23100f614f323bf1f54399ac20a39c03d6c7c5c47", func := "handbill/handkeep1.StepsFall", spec := "stepsFall", unfollowed := true, recurses := true, apart := false, narrowed := true }
def StepsFallUptoSaid : Prop := stepsFallUptoRow.holds Try.pinned (OpenSpec.upto stepsFallSpec)

end Rows
end Go.Proofs.Ytadfoaopamlnpaa
