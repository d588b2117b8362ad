/-
  NARROWER THAN 'FOR EVERY INPUT', by the rows' own cells (each row's printed sentence says how): FnTextCut: laid · FnMergeFew: laid · FnMergeMore: laid · FnMergeSame: laid · FnMergeTurn: laid · FnMergeTurned: laid · FnMergeUndo: laid · FnMergeClash: laid.
  DERIVED. THE GIVEN ROWS OF THIS SEAT. 8 by the template 'for every input the law returns true; each argument reads behind the call as it read before'; 0 by the template 'total and deterministic' (their statements: YtmnjlhjpeebfdaaGreatDoorTotals.lean).
  GIVEN WITH THE SEED: the statements are not yours to turn. If you find one false, say at which input.
  Laid BY PROGRAM, IN A SANDBOX (cutbox-rows.mjs): the forced cells as the released guide's own fill.sh prints them over the translation fa24c04bf45b396d… (all of the seat's roots in one cut). By AI agents, Wed Nov 11 2026. No macro, syntax, notation, axiom, sorry.
-/
import Derived.Test.YtmnjlhjpeebfdaaGreatDoorChecked
import GoSem.PinnedTables
import GoSem.Claim
import GoSem.ClaimJoined
import GoSem.ClaimMapViews
import Derived.JoinedTies
import Derived.KernelRfl
namespace Go.Proofs.YtmnjlhjpeebfdaaGreatDoor
/- THE CELL 'sum', in the pinned program and in every row, IS THE sha256 OF THE DUMP (.gsa) THAT YtmnjlhjpeebfdaaGreatDoorProg.lean LOADS. Nothing in Lean hashes anything: it is a label: what it is worth is what the hold of that sum in a sandbox is worth. -/
noncomputable def Tryz.pinned : Pinned := { name := "ytmnjlhjpeebfdaagreatdoor", sum := "fa24c04bf45b396d14c4bbab8e618db1b5c3b1f8d2bf3acbf84e3eab8fc8d4b9", checked := Tryz.checked }
namespace Rows
def none {H : Type} : Left H := { results := [], args := [] }

/- WHAT THE LISTED PACKAGE-LEVEL VARIABLES READ AS WHEN THE CALL BEGINS. Each datum BY PROGRAM (the guide's laid-datum.mjs) off the statement by which the dump's own 'gosem.cut.vars' lays the variable. In a bare row this is a premise. The card (YtmnjlhjpeebfdaaGreatDoorCards.lean) ties it to the program's text. -/
def laid_unicode_utf8_acceptRanges {H : Type} : DataW H := .agg [.agg [.lit (.int .u8 128), .lit (.int .u8 191)], .agg [.lit (.int .u8 160), .lit (.int .u8 191)], .agg [.lit (.int .u8 128), .lit (.int .u8 159)], .agg [.lit (.int .u8 144), .lit (.int .u8 191)], .agg [.lit (.int .u8 128), .lit (.int .u8 143)], .agg [.lit (.int .u8 0), .lit (.int .u8 0)], .agg [.lit (.int .u8 0), .lit (.int .u8 0)], .agg [.lit (.int .u8 0), .lit (.int .u8 0)], .agg [.lit (.int .u8 0), .lit (.int .u8 0)], .agg [.lit (.int .u8 0), .lit (.int .u8 0)], .agg [.lit (.int .u8 0), .lit (.int .u8 0)], .agg [.lit (.int .u8 0), .lit (.int .u8 0)], .agg [.lit (.int .u8 0), .lit (.int .u8 0)], .agg [.lit (.int .u8 0), .lit (.int .u8 0)], .agg [.lit (.int .u8 0), .lit (.int .u8 0)], .agg [.lit (.int .u8 0), .lit (.int .u8 0)]]
/-- One of Go's own tables, pinned by name: the form's constant. -/
def laid_unicode_utf8_first : DataW Unit := Go.Pinned.utf8First

/-- 'laws.FnTextCut': WHATEVER THE INPUT: true; the input reads as it did. -/
def fnTextCutSpec : ChangeSpec := { name := "fnTextCut", fn := fun _ => fun
  | [d1, d2] => { results := [.lit (.bool true)], args := [d1, d2] }
  | _ => none }
def fnTextCutRow : OpenClaim := { program := "ytmnjlhjpeebfdaagreatdoor", sum := "fa24c04bf45b396d14c4bbab8e618db1b5c3b1f8d2bf3acbf84e3eab8fc8d4b9", func := "loop.example/pargeting/laws.FnTextCut", spec := "fnTextCut", inPlace := ["internal/bytealg.CountString", "internal/bytealg.IndexByteString", "internal/bytealg.IndexString", "internal/abi.NoEscape", "internal/bytealg.MakeNoZero"], recurses := true, named := ["unicode/utf8.first", "unicode/utf8.acceptRanges", "internal/bytealg.MaxLen"], apart := false, laid := [("unicode/utf8.acceptRanges", laid_unicode_utf8_acceptRanges), ("unicode/utf8.first", laid_unicode_utf8_first)] }
def FnTextCutSaid : Prop := fnTextCutRow.holds Tryz.pinned (OpenSpec.ofChange fnTextCutSpec)

/-- ITS FALSE NEIGHBOUR: 'it returns false'. Refute it at one input. -/
def fnTextCutWrong : ChangeSpec := { name := "fnTextCut", fn := fun _ => fun
  | [d1, d2] => { results := [.lit (.bool false)], args := [d1, d2] }
  | _ => none }
def FnTextCutWrongFalsely : Prop := fnTextCutRow.holds Tryz.pinned (OpenSpec.ofChange fnTextCutWrong)

/-- 'laws.FnMergeFew': WHATEVER THE INPUT: true; the input reads as it did. -/
def fnMergeFewSpec : ChangeSpec := { name := "fnMergeFew", fn := fun _ => fun
  | [d] => { results := [.lit (.bool true)], args := [d] }
  | _ => none }
def fnMergeFewRow : OpenClaim := { program := "ytmnjlhjpeebfdaagreatdoor", sum := "fa24c04bf45b396d14c4bbab8e618db1b5c3b1f8d2bf3acbf84e3eab8fc8d4b9", func := "loop.example/pargeting/laws.FnMergeFew", spec := "fnMergeFew", inPlace := ["internal/bytealg.CountString", "internal/bytealg.IndexByteString", "internal/bytealg.IndexString", "internal/abi.NoEscape", "internal/bytealg.MakeNoZero"], recurses := true, named := ["unicode/utf8.first", "unicode/utf8.acceptRanges", "internal/bytealg.MaxLen"], apart := false, laid := [("unicode/utf8.acceptRanges", laid_unicode_utf8_acceptRanges), ("unicode/utf8.first", laid_unicode_utf8_first)] }
def FnMergeFewSaid : Prop := fnMergeFewRow.holds Tryz.pinned (OpenSpec.ofChange fnMergeFewSpec)

/-- ITS FALSE NEIGHBOUR: 'it returns false'. Refute it at one input. -/
def fnMergeFewWrong : ChangeSpec := { name := "fnMergeFew", fn := fun _ => fun
  | [d] => { results := [.lit (.bool false)], args := [d] }
  | _ => none }
def FnMergeFewWrongFalsely : Prop := fnMergeFewRow.holds Tryz.pinned (OpenSpec.ofChange fnMergeFewWrong)

/-- 'laws.FnMergeMore': WHATEVER THE INPUT: true; the input reads as it did. -/
def fnMergeMoreSpec : ChangeSpec := { name := "fnMergeMore", fn := fun _ => fun
  | [d] => { results := [.lit (.bool true)], args := [d] }
  | _ => none }
def fnMergeMoreRow : OpenClaim := { program := "ytmnjlhjpeebfdaagreatdoor", sum := "fa24c04bf45b396d14c4bbab8e618db1b5c3b1f8d2bf3acbf84e3eab8fc8d4b9", func := "loop.example/pargeting/laws.FnMergeMore", spec := "fnMergeMore", inPlace := ["internal/bytealg.CountString", "internal/bytealg.IndexByteString", "internal/bytealg.IndexString", "internal/abi.NoEscape", "internal/bytealg.MakeNoZero"], recurses := true, named := ["unicode/utf8.first", "unicode/utf8.acceptRanges", "internal/bytealg.MaxLen"], apart := false, laid := [("unicode/utf8.acceptRanges", laid_unicode_utf8_acceptRanges), ("unicode/utf8.first", laid_unicode_utf8_first)] }
def FnMergeMoreSaid : Prop := fnMergeMoreRow.holds Tryz.pinned (OpenSpec.ofChange fnMergeMoreSpec)

/-- ITS FALSE NEIGHBOUR: 'it returns false'. Refute it at one input. -/
def fnMergeMoreWrong : ChangeSpec := { name := "fnMergeMore", fn := fun _ => fun
  | [d] => { results := [.lit (.bool false)], args := [d] }
  | _ => none }
def FnMergeMoreWrongFalsely : Prop := fnMergeMoreRow.holds Tryz.pinned (OpenSpec.ofChange fnMergeMoreWrong)

/-- 'laws.FnMergeSame': WHATEVER THE INPUT: true; the input reads as it did. -/
def fnMergeSameSpec : ChangeSpec := { name := "fnMergeSame", fn := fun _ => fun
  | [d] => { results := [.lit (.bool true)], args := [d] }
  | _ => none }
def fnMergeSameRow : OpenClaim := { program := "ytmnjlhjpeebfdaagreatdoor", sum := "fa24c04bf45b396d14c4bbab8e618db1b5c3b1f8d2bf3acbf84e3eab8fc8d4b9", func := "loop.example/pargeting/laws.FnMergeSame", spec := "fnMergeSame", inPlace := ["internal/bytealg.CountString", "internal/bytealg.IndexByteString", "internal/bytealg.IndexString", "internal/abi.NoEscape", "internal/bytealg.MakeNoZero"], recurses := true, named := ["unicode/utf8.first", "unicode/utf8.acceptRanges", "internal/bytealg.MaxLen"], apart := false, laid := [("unicode/utf8.acceptRanges", laid_unicode_utf8_acceptRanges), ("unicode/utf8.first", laid_unicode_utf8_first)] }
def FnMergeSameSaid : Prop := fnMergeSameRow.holds Tryz.pinned (OpenSpec.ofChange fnMergeSameSpec)

/-- ITS FALSE NEIGHBOUR: 'it returns false'. Refute it at one input. -/
def fnMergeSameWrong : ChangeSpec := { name := "fnMergeSame", fn := fun _ => fun
  | [d] => { results := [.lit (.bool false)], args := [d] }
  | _ => none }
def FnMergeSameWrongFalsely : Prop := fnMergeSameRow.holds Tryz.pinned (OpenSpec.ofChange fnMergeSameWrong)

/-- 'laws.FnMergeTurn': WHATEVER THE INPUT: true; the input reads as it did. -/
def fnMergeTurnSpec : ChangeSpec := { name := "fnMergeTurn", fn := fun _ => fun
  | [d] => { results := [.lit (.bool true)], args := [d] }
  | _ => none }
def fnMergeTurnRow : OpenClaim := { program := "ytmnjlhjpeebfdaagreatdoor", sum := "fa24c04bf45b396d14c4bbab8e618db1b5c3b1f8d2bf3acbf84e3eab8fc8d4b9", func := "loop.example/pargeting/laws.FnMergeTurn", spec := "fnMergeTurn", inPlace := ["internal/bytealg.CountString", "internal/bytealg.IndexByteString", "internal/bytealg.IndexString", "internal/abi.NoEscape", "internal/bytealg.MakeNoZero"], recurses := true, named := ["unicode/utf8.first", "unicode/utf8.acceptRanges", "internal/bytealg.MaxLen"], apart := false, laid := [("unicode/utf8.acceptRanges", laid_unicode_utf8_acceptRanges), ("unicode/utf8.first", laid_unicode_utf8_first)] }
def FnMergeTurnSaid : Prop := fnMergeTurnRow.holds Tryz.pinned (OpenSpec.ofChange fnMergeTurnSpec)

/-- ITS FALSE NEIGHBOUR: 'it returns false'. Refute it at one input. -/
def fnMergeTurnWrong : ChangeSpec := { name := "fnMergeTurn", fn := fun _ => fun
  | [d] => { results := [.lit (.bool false)], args := [d] }
  | _ => none }
def FnMergeTurnWrongFalsely : Prop := fnMergeTurnRow.holds Tryz.pinned (OpenSpec.ofChange fnMergeTurnWrong)

/-- 'laws.FnMergeTurned': WHATEVER THE INPUT: true; the input reads as it did. -/
def fnMergeTurnedSpec : ChangeSpec := { name := "fnMergeTurned", fn := fun _ => fun
  | [d] => { results := [.lit (.bool true)], args := [d] }
  | _ => none }
def fnMergeTurnedRow : OpenClaim := { program := "ytmnjlhjpeebfdaagreatdoor", sum := "fa24c04bf45b396d14c4bbab8e618db1b5c3b1f8d2bf3acbf84e3eab8fc8d4b9", func := "loop.example/pargeting/laws.FnMergeTurned", spec := "fnMergeTurned", inPlace := ["internal/bytealg.CountString", "internal/bytealg.IndexByteString", "internal/bytealg.IndexString", "internal/abi.NoEscape", "internal/bytealg.MakeNoZero"], recurses := true, named := ["unicode/utf8.first", "unicode/utf8.acceptRanges", "internal/bytealg.MaxLen"], apart := false, laid := [("unicode/utf8.acceptRanges", laid_unicode_utf8_acceptRanges), ("unicode/utf8.first", laid_unicode_utf8_first)] }
def FnMergeTurnedSaid : Prop := fnMergeTurnedRow.holds Tryz.pinned (OpenSpec.ofChange fnMergeTurnedSpec)

/-- ITS FALSE NEIGHBOUR: 'it returns false'. Refute it at one input. -/
def fnMergeTurnedWrong : ChangeSpec := { name := "fnMergeTurned", fn := fun _ => fun
  | [d] => { results := [.lit (.bool false)], args := [d] }
  | _ => none }
def FnMergeTurnedWrongFalsely : Prop := fnMergeTurnedRow.holds Tryz.pinned (OpenSpec.ofChange fnMergeTurnedWrong)

/-- 'laws.FnMergeUndo': WHATEVER THE INPUT: true; the input reads as it did. -/
def fnMergeUndoSpec : ChangeSpec := { name := "fnMergeUndo", fn := fun _ => fun
  | [d] => { results := [.lit (.bool true)], args := [d] }
  | _ => none }
def fnMergeUndoRow : OpenClaim := { program := "ytmnjlhjpeebfdaagreatdoor", sum := "fa24c04bf45b396d14c4bbab8e618db1b5c3b1f8d2bf3acbf84e3eab8fc8d4b9", func := "loop.example/pargeting/laws.FnMergeUndo", spec := "fnMergeUndo", inPlace := ["internal/bytealg.CountString", "internal/bytealg.IndexByteString", "internal/bytealg.IndexString", "internal/abi.NoEscape", "internal/bytealg.MakeNoZero"], recurses := true, named := ["unicode/utf8.first", "unicode/utf8.acceptRanges", "internal/bytealg.MaxLen"], apart := false, laid := [("unicode/utf8.acceptRanges", laid_unicode_utf8_acceptRanges), ("unicode/utf8.first", laid_unicode_utf8_first)] }
def FnMergeUndoSaid : Prop := fnMergeUndoRow.holds Tryz.pinned (OpenSpec.ofChange fnMergeUndoSpec)

/-- ITS FALSE NEIGHBOUR: 'it returns false'. Refute it at one input. -/
def fnMergeUndoWrong : ChangeSpec := { name := "fnMergeUndo", fn := fun _ => fun
  | [d] => { results := [.lit (.bool false)], args := [d] }
  | _ => none }
def FnMergeUndoWrongFalsely : Prop := fnMergeUndoRow.holds Tryz.pinned (OpenSpec.ofChange fnMergeUndoWrong)

/-- 'laws.FnMergeClash': WHATEVER THE INPUT: true; the input reads as it did. -/
def fnMergeClashSpec : ChangeSpec := { name := "fnMergeClash", fn := fun _ => fun
  | [d] => { results := [.lit (.bool true)], args := [d] }
  | _ => none }
def fnMergeClashRow : OpenClaim := { program := "ytmnjlhjpeebfdaagreatdoor", sum := "fa24c04bf45b396d14c4bbab8e618db1b5c3b1f8d2bf3acbf84e3eab8fc8d4b9", func := "loop.example/pargeting/laws.FnMergeClash", spec := "fnMergeClash", inPlace := ["internal/bytealg.CountString", "internal/bytealg.IndexByteString", "internal/bytealg.IndexString", "internal/abi.NoEscape", "internal/bytealg.MakeNoZero"], recurses := true, named := ["unicode/utf8.first", "unicode/utf8.acceptRanges", "internal/bytealg.MaxLen"], apart := false, laid := [("unicode/utf8.acceptRanges", laid_unicode_utf8_acceptRanges), ("unicode/utf8.first", laid_unicode_utf8_first)] }
def FnMergeClashSaid : Prop := fnMergeClashRow.holds Tryz.pinned (OpenSpec.ofChange fnMergeClashSpec)

/-- ITS FALSE NEIGHBOUR: 'it returns false'. Refute it at one input. -/
def fnMergeClashWrong : ChangeSpec := { name := "fnMergeClash", fn := fun _ => fun
  | [d] => { results := [.lit (.bool false)], args := [d] }
  | _ => none }
def FnMergeClashWrongFalsely : Prop := fnMergeClashRow.holds Tryz.pinned (OpenSpec.ofChange fnMergeClashWrong)

/- THE SECOND FORM. 'bulk': how many values and letters a reading holds, each counted each time it is reached (what is shared counts as often as it is met; a slice's spare places count too). A statement '..UptoSaid' is the law's where the arguments, and the package variables that the reading takes, are together of bulk at most 1048576: NARROWER than '..Said'. Prove '..Said' where nothing that the law and all that it calls make is longer than what came in: it says more and counts as full. Else prove '..UptoSaid'. A law counts once. -/
mutual
def uptoBulk {H : Type} : DataW H → Nat
  | .lit (.string bytes) => bytes.length + 1
  | .lit _ => 1
  | .nil => 1
  | .ptr d => uptoBulk d + 1
  | .slice elems spare => uptoBulkAll elems + uptoBulkAll spare + 1
  | .agg parts => uptoBulkAll parts + 1
  | .iface _ d => uptoBulk d + 1
  | .map entries => uptoBulkEntries entries + 1
  | .held _ => 1
def uptoBulkAll {H : Type} : List (DataW H) → Nat
  | [] => 0
  | d :: r => uptoBulk d + uptoBulkAll r
def uptoBulkEntries {H : Type} : List (Lit × DataW H) → Nat
  | [] => 0
  | x :: r => uptoBulkEntry x + uptoBulkEntries r
def uptoBulkEntry {H : Type} : Lit × DataW H → Nat
  | (.string bytes, d) => bytes.length + uptoBulk d + 1
  | (_, d) => uptoBulk d + 1
 end
def uptoSmall : (H : Type) → List (DataW H) → Bool := fun _ ds => decide (uptoBulkAll ds ≤ 1048576)
def OpenSpec.upto (s : _root_.Go.ChangeSpec) : _root_.Go.OpenSpec := { _root_.Go.OpenSpec.ofChange s with cond := some uptoSmall }

/-- 'laws.FnTextCut', WHERE WHAT IT READS IS OF BULK AT MOST 1048576: true; the input reads as it did. -/
def fnTextCutUptoRow : OpenClaim := { program := "ytmnjlhjpeebfdaagreatdoor", sum := "fa24c04bf45b396d14c4bbab8e618db1b5c3b1f8d2bf3acbf84e3eab8fc8d4b9", func := "loop.example/pargeting/laws.FnTextCut", spec := "fnTextCut", inPlace := ["internal/bytealg.CountString", "internal/bytealg.IndexByteString", "internal/bytealg.IndexString", "internal/abi.NoEscape", "internal/bytealg.MakeNoZero"], recurses := true, named := ["unicode/utf8.first", "unicode/utf8.acceptRanges", "internal/bytealg.MaxLen"], apart := false, laid := [("unicode/utf8.acceptRanges", laid_unicode_utf8_acceptRanges), ("unicode/utf8.first", laid_unicode_utf8_first)], narrowed := true }
def FnTextCutUptoSaid : Prop := fnTextCutUptoRow.holds Tryz.pinned (OpenSpec.upto fnTextCutSpec)

/-- 'laws.FnMergeFew', WHERE WHAT IT READS IS OF BULK AT MOST 1048576: true; the input reads as it did. -/
def fnMergeFewUptoRow : OpenClaim := { program := "ytmnjlhjpeebfdaagreatdoor", sum := "fa24c04bf45b396d14c4bbab8e618db1b5c3b1f8d2bf3acbf84e3eab8fc8d4b9", func := "loop.example/pargeting/laws.FnMergeFew", spec := "fnMergeFew", inPlace := ["internal/bytealg.CountString", "internal/bytealg.IndexByteString", "internal/bytealg.IndexString", "internal/abi.NoEscape", "internal/bytealg.MakeNoZero"], recurses := true, named := ["unicode/utf8.first", "unicode/utf8.acceptRanges", "internal/bytealg.MaxLen"], apart := false, laid := [("unicode/utf8.acceptRanges", laid_unicode_utf8_acceptRanges), ("unicode/utf8.first", laid_unicode_utf8_first)], narrowed := true }
def FnMergeFewUptoSaid : Prop := fnMergeFewUptoRow.holds Tryz.pinned (OpenSpec.upto fnMergeFewSpec)

/-- 'laws.FnMergeMore', WHERE WHAT IT READS IS OF BULK AT MOST 1048576: true; the input reads as it did. -/
def fnMergeMoreUptoRow : OpenClaim := { program := "ytmnjlhjpeebfdaagreatdoor", sum := "fa24c04bf45b396d14c4bbab8e618db1b5c3b1f8d2bf3acbf84e3eab8fc8d4b9", func := "loop.example/pargeting/laws.FnMergeMore", spec := "fnMergeMore", inPlace := ["internal/bytealg.CountString", "internal/bytealg.IndexByteString", "internal/bytealg.IndexString", "internal/abi.NoEscape", "internal/bytealg.MakeNoZero"], recurses := true, named := ["unicode/utf8.first", "unicode/utf8.acceptRanges", "internal/bytealg.MaxLen"], apart := false, laid := [("unicode/utf8.acceptRanges", laid_unicode_utf8_acceptRanges), ("unicode/utf8.first", laid_unicode_utf8_first)], narrowed := true }
def FnMergeMoreUptoSaid : Prop := fnMergeMoreUptoRow.holds Tryz.pinned (OpenSpec.upto fnMergeMoreSpec)

/-- 'laws.FnMergeSame', WHERE WHAT IT READS IS OF BULK AT MOST 1048576: true; the input reads as it did. -/
def fnMergeSameUptoRow : OpenClaim := { program := "ytmnjlhjpeebfdaagreatdoor", sum := "fa24c04bf45b396d14c4bbab8e618db1b5c3b1f8d2bf3acbf84e3eab8fc8d4b9", func := "loop.example/pargeting/laws.FnMergeSame", spec := "fnMergeSame", inPlace := ["internal/bytealg.CountString", "internal/bytealg.IndexByteString", "internal/bytealg.IndexString", "internal/abi.NoEscape", "internal/bytealg.MakeNoZero"], recurses := true, named := ["unicode/utf8.first", "unicode/utf8.acceptRanges", "internal/bytealg.MaxLen"], apart := false, laid := [("unicode/utf8.acceptRanges", laid_unicode_utf8_acceptRanges), ("unicode/utf8.first", laid_unicode_utf8_first)], narrowed := true }
def FnMergeSameUptoSaid : Prop := fnMergeSameUptoRow.holds Tryz.pinned (OpenSpec.upto fnMergeSameSpec)

/-- 'laws.FnMergeTurn', WHERE WHAT IT READS IS OF BULK AT MOST 1048576: true; the input reads as it did. -/
def fnMergeTurnUptoRow : OpenClaim := { program := "ytmnjlhjpeebfdaagreatdoor", sum := "fa24c04bf45b396d14c4bbab8e618db1b5c3b1f8d2bf3acbf84e3eab8fc8d4b9", func := "loop.example/pargeting/laws.FnMergeTurn", spec := "fnMergeTurn", inPlace := ["internal/bytealg.CountString", "internal/bytealg.IndexByteString", "internal/bytealg.IndexString", "internal/abi.NoEscape", "internal/bytealg.MakeNoZero"], recurses := true, named := ["unicode/utf8.first", "unicode/utf8.acceptRanges", "internal/bytealg.MaxLen"], apart := false, laid := [("unicode/utf8.acceptRanges", laid_unicode_utf8_acceptRanges), ("unicode/utf8.first", laid_unicode_utf8_first)], narrowed := true }
def FnMergeTurnUptoSaid : Prop := fnMergeTurnUptoRow.holds Tryz.pinned (OpenSpec.upto fnMergeTurnSpec)

/-- 'laws.FnMergeTurned', WHERE WHAT IT READS IS OF BULK AT MOST 1048576: true; the input reads as it did. -/
def fnMergeTurnedUptoRow : OpenClaim := { program := "ytmnjlhjpeebfdaagreatdoor", sum := "fa24c04bf45b396d14c4bbab8e618db1b5c3b1f8d2bf3acbf84e3eab8fc8d4b9", func := "loop.example/pargeting/laws.FnMergeTurned", spec := "fnMergeTurned", inPlace := ["internal/bytealg.CountString", "internal/bytealg.IndexByteString", "internal/bytealg.IndexString", "internal/abi.NoEscape", "internal/bytealg.MakeNoZero"], recurses := true, named := ["unicode/utf8.first", "unicode/utf8.acceptRanges", "internal/bytealg.MaxLen"], apart := false, laid := [("unicode/utf8.acceptRanges", laid_unicode_utf8_acceptRanges), ("unicode/utf8.first", laid_unicode_utf8_first)], narrowed := true }
def FnMergeTurnedUptoSaid : Prop := fnMergeTurnedUptoRow.holds Tryz.pinned (OpenSpec.upto fnMergeTurnedSpec)

/-- 'laws.FnMergeUndo', WHERE WHAT IT READS IS OF BULK AT MOST 1048576: true; the input reads as it did. -/
def fnMergeUndoUptoRow : OpenClaim := { program := "ytmnjlhjpeebfdaagreatdoor", sum := "fa24c04bf45b396d14c4bbab8e618db1b5c3b1f8d2bf3acbf84e3eab8fc8d4b9", func := "loop.example/pargeting/laws.FnMergeUndo", spec := "fnMergeUndo", inPlace := ["internal/bytealg.CountString", "internal/bytealg.IndexByteString", "internal/bytealg.IndexString", "internal/abi.NoEscape", "internal/bytealg.MakeNoZero"], recurses := true, named := ["unicode/utf8.first", "unicode/utf8.acceptRanges", "internal/bytealg.MaxLen"], apart := false, laid := [("unicode/utf8.acceptRanges", laid_unicode_utf8_acceptRanges), ("unicode/utf8.first", laid_unicode_utf8_first)], narrowed := true }
def FnMergeUndoUptoSaid : Prop := fnMergeUndoUptoRow.holds Tryz.pinned (OpenSpec.upto fnMergeUndoSpec)

/-- 'laws.FnMergeClash', WHERE WHAT IT READS IS OF BULK AT MOST 1048576: true; the input reads as it did. -/
def fnMergeClashUptoRow : OpenClaim := { program := "ytmnjlhjpeebfdaagreatdoor", sum := "fa24c04bf45b396d14c4bbab8e618db1b5c3b1f8d2bf3acbf84e3eab8fc8d4b9", func := "loop.example/pargeting/laws.FnMergeClash", spec := "fnMergeClash", inPlace := ["internal/bytealg.CountString", "internal/bytealg.IndexByteString", "internal/bytealg.IndexString", "internal/abi.NoEscape", "internal/bytealg.MakeNoZero"], recurses := true, named := ["unicode/utf8.first", "unicode/utf8.acceptRanges", "internal/bytealg.MaxLen"], apart := false, laid := [("unicode/utf8.acceptRanges", laid_unicode_utf8_acceptRanges), ("unicode/utf8.first", laid_unicode_utf8_first)], narrowed := true }
def FnMergeClashUptoSaid : Prop := fnMergeClashUptoRow.holds Tryz.pinned (OpenSpec.upto fnMergeClashSpec)

end Rows
end Go.Proofs.YtmnjlhjpeebfdaaGreatDoor
