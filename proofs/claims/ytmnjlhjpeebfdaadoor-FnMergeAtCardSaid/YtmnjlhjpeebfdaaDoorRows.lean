/-
  NARROWER THAN 'FOR EVERY INPUT', by the rows' own cells (each row's printed sentence says how): FnOpText: laid · FnExactMergeAt: laid · FnTextSame: laid · FnLayerText: laid · FnMergeAt: laid · FnTreeText: laid · FnTextMany: laid · FnExactMergeClash: laid · FnExactMerge: laid.
  DERIVED. THE GIVEN ROWS OF THIS SEAT. 9 by the template 'for every input the law returns true; each argument reads behind the call as it read before'; 0 by the template 'total and deterministic' (their statements: YtmnjlhjpeebfdaaDoorTotals.lean).
  GIVEN WITH THE SEED: the statements are not yours to turn. If you find one false, say at which input.
  Laid BY PROGRAM, IN A SANDBOX (cutbox-rows.mjs): the forced cells as the released guide's own fill.sh prints them over the translation d666513e07c6386a… (all of the seat's roots in one cut). By AI agents, Wed Nov 11 2026. No macro, syntax, notation, axiom, sorry.
-/
import Derived.Test.YtmnjlhjpeebfdaaDoorChecked
import GoSem.PinnedTables
import GoSem.Claim
import GoSem.ClaimJoined
import GoSem.ClaimMapViews
import Derived.JoinedTies
import Derived.KernelRfl
namespace Go.Proofs.YtmnjlhjpeebfdaaDoor
/- THE CELL 'sum', in the pinned program and in every row, IS THE sha256 OF THE DUMP (.gsa) THAT YtmnjlhjpeebfdaaDoorProg.lean LOADS. Nothing in Lean hashes anything: it is a label: what it is worth is what the hold of that sum in a sandbox is worth. -/
noncomputable def Tryd.pinned : Pinned := { name := "ytmnjlhjpeebfdaadoor", sum := "d666513e07c6386a454cb98f00a19abc765c129d2e0baf31bb6792edc89d616a", checked := Tryd.checked }
namespace Rows
def none {H : Type} : Left H := { results := [], args := [] }

/- WHAT THE LISTED PACKAGE-LEVEL VARIABLES READ AS WHEN THE CALL BEGINS. Each datum BY PROGRAM (the guide's laid-datum.mjs) off the statement by which the dump's own 'gosem.cut.vars' lays the variable. In a bare row this is a premise. The card (YtmnjlhjpeebfdaaDoorCards.lean) ties it to the program's text. -/
def laid_unicode_utf8_acceptRanges {H : Type} : DataW H := .agg [.agg [.lit (.int .u8 128), .lit (.int .u8 191)], .agg [.lit (.int .u8 160), .lit (.int .u8 191)], .agg [.lit (.int .u8 128), .lit (.int .u8 159)], .agg [.lit (.int .u8 144), .lit (.int .u8 191)], .agg [.lit (.int .u8 128), .lit (.int .u8 143)], .agg [.lit (.int .u8 0), .lit (.int .u8 0)], .agg [.lit (.int .u8 0), .lit (.int .u8 0)], .agg [.lit (.int .u8 0), .lit (.int .u8 0)], .agg [.lit (.int .u8 0), .lit (.int .u8 0)], .agg [.lit (.int .u8 0), .lit (.int .u8 0)], .agg [.lit (.int .u8 0), .lit (.int .u8 0)], .agg [.lit (.int .u8 0), .lit (.int .u8 0)], .agg [.lit (.int .u8 0), .lit (.int .u8 0)], .agg [.lit (.int .u8 0), .lit (.int .u8 0)], .agg [.lit (.int .u8 0), .lit (.int .u8 0)], .agg [.lit (.int .u8 0), .lit (.int .u8 0)]]
def laid_loop_example_pargeting_impl_opWords {H : Type} : DataW H := .agg [.lit (.string []), .lit (.string [109, 97, 107, 101]), .lit (.string [112, 117, 116]), .lit (.string [114, 109]), .lit (.string [114, 109, 100, 105, 114]), .lit (.string [109, 111, 118, 101])]
/-- One of Go's own tables, pinned by name: the form's constant. -/
def laid_unicode_utf8_first : DataW Unit := Go.Pinned.utf8First

/-- 'laws.FnOpText': WHATEVER THE INPUT: true; the input reads as it did. -/
def fnOpTextSpec : ChangeSpec := { name := "fnOpText", vars := ["loop.example/pargeting/impl.opWords"], fn := fun _ => fun
  | [d1, d2, g1] => { results := [.lit (.bool true)], args := [d1, d2], vars := [g1] }
  | _ => none }
def fnOpTextRow : OpenClaim := { program := "ytmnjlhjpeebfdaadoor", sum := "d666513e07c6386a454cb98f00a19abc765c129d2e0baf31bb6792edc89d616a", func := "loop.example/pargeting/laws.FnOpText", spec := "fnOpText", inPlace := ["internal/bytealg.CountString", "internal/bytealg.IndexByteString", "internal/bytealg.IndexString"], named := ["loop.example/pargeting/impl.opWords", "unicode/utf8.first", "unicode/utf8.acceptRanges", "internal/bytealg.MaxLen"], apart := false, laid := [("unicode/utf8.acceptRanges", laid_unicode_utf8_acceptRanges), ("loop.example/pargeting/impl.opWords", laid_loop_example_pargeting_impl_opWords), ("unicode/utf8.first", laid_unicode_utf8_first)] }
def FnOpTextSaid : Prop := fnOpTextRow.holds Tryd.pinned (OpenSpec.ofChange fnOpTextSpec)

/-- ITS FALSE NEIGHBOUR: 'it returns false'. Refute it at one input. -/
def fnOpTextWrong : ChangeSpec := { name := "fnOpText", vars := ["loop.example/pargeting/impl.opWords"], fn := fun _ => fun
  | [d1, d2, g1] => { results := [.lit (.bool false)], args := [d1, d2], vars := [g1] }
  | _ => none }
def FnOpTextWrongFalsely : Prop := fnOpTextRow.holds Tryd.pinned (OpenSpec.ofChange fnOpTextWrong)

/-- 'laws.FnExactMergeAt': WHATEVER THE INPUT: true; the input reads as it did. -/
def fnExactMergeAtSpec : ChangeSpec := { name := "fnExactMergeAt", fn := fun _ => fun
  | [d1, d2, d3, d4] => { results := [.lit (.bool true)], args := [d1, d2, d3, d4] }
  | _ => none }
def fnExactMergeAtRow : OpenClaim := { program := "ytmnjlhjpeebfdaadoor", sum := "d666513e07c6386a454cb98f00a19abc765c129d2e0baf31bb6792edc89d616a", func := "loop.example/pargeting/laws.FnExactMergeAt", spec := "fnExactMergeAt", inPlace := ["internal/bytealg.CountString", "internal/bytealg.IndexByteString", "internal/bytealg.IndexString", "internal/abi.NoEscape", "internal/bytealg.MakeNoZero"], named := ["unicode/utf8.first", "unicode/utf8.acceptRanges", "internal/bytealg.MaxLen"], apart := false, laid := [("unicode/utf8.acceptRanges", laid_unicode_utf8_acceptRanges), ("unicode/utf8.first", laid_unicode_utf8_first)] }
def FnExactMergeAtSaid : Prop := fnExactMergeAtRow.holds Tryd.pinned (OpenSpec.ofChange fnExactMergeAtSpec)

/-- ITS FALSE NEIGHBOUR: 'it returns false'. Refute it at one input. -/
def fnExactMergeAtWrong : ChangeSpec := { name := "fnExactMergeAt", fn := fun _ => fun
  | [d1, d2, d3, d4] => { results := [.lit (.bool false)], args := [d1, d2, d3, d4] }
  | _ => none }
def FnExactMergeAtWrongFalsely : Prop := fnExactMergeAtRow.holds Tryd.pinned (OpenSpec.ofChange fnExactMergeAtWrong)

/-- 'laws.FnTextSame': WHATEVER THE INPUT: true; the input reads as it did. -/
def fnTextSameSpec : ChangeSpec := { name := "fnTextSame", vars := ["loop.example/pargeting/impl.opWords"], fn := fun _ => fun
  | [d1, d2, g1] => { results := [.lit (.bool true)], args := [d1, d2], vars := [g1] }
  | _ => none }
def fnTextSameRow : OpenClaim := { program := "ytmnjlhjpeebfdaadoor", sum := "d666513e07c6386a454cb98f00a19abc765c129d2e0baf31bb6792edc89d616a", func := "loop.example/pargeting/laws.FnTextSame", spec := "fnTextSame", inPlace := ["internal/bytealg.CountString", "internal/bytealg.IndexByteString", "internal/bytealg.IndexString", "internal/abi.NoEscape", "internal/bytealg.MakeNoZero"], recurses := true, named := ["unicode/utf8.first", "unicode/utf8.acceptRanges", "internal/bytealg.MaxLen", "loop.example/pargeting/impl.opWords"], apart := false, laid := [("unicode/utf8.acceptRanges", laid_unicode_utf8_acceptRanges), ("loop.example/pargeting/impl.opWords", laid_loop_example_pargeting_impl_opWords), ("unicode/utf8.first", laid_unicode_utf8_first)] }
def FnTextSameSaid : Prop := fnTextSameRow.holds Tryd.pinned (OpenSpec.ofChange fnTextSameSpec)

/-- ITS FALSE NEIGHBOUR: 'it returns false'. Refute it at one input. -/
def fnTextSameWrong : ChangeSpec := { name := "fnTextSame", vars := ["loop.example/pargeting/impl.opWords"], fn := fun _ => fun
  | [d1, d2, g1] => { results := [.lit (.bool false)], args := [d1, d2], vars := [g1] }
  | _ => none }
def FnTextSameWrongFalsely : Prop := fnTextSameRow.holds Tryd.pinned (OpenSpec.ofChange fnTextSameWrong)

/-- 'laws.FnLayerText': WHATEVER THE INPUT: true; the input reads as it did. -/
def fnLayerTextSpec : ChangeSpec := { name := "fnLayerText", fn := fun _ => fun
  | [d1, d2] => { results := [.lit (.bool true)], args := [d1, d2] }
  | _ => none }
def fnLayerTextRow : OpenClaim := { program := "ytmnjlhjpeebfdaadoor", sum := "d666513e07c6386a454cb98f00a19abc765c129d2e0baf31bb6792edc89d616a", func := "loop.example/pargeting/laws.FnLayerText", spec := "fnLayerText", inPlace := ["internal/bytealg.CountString", "internal/bytealg.IndexByteString", "internal/bytealg.IndexString", "internal/abi.NoEscape", "internal/bytealg.MakeNoZero"], recurses := true, named := ["unicode/utf8.first", "unicode/utf8.acceptRanges", "internal/bytealg.MaxLen"], apart := false, laid := [("unicode/utf8.acceptRanges", laid_unicode_utf8_acceptRanges), ("unicode/utf8.first", laid_unicode_utf8_first)] }
def FnLayerTextSaid : Prop := fnLayerTextRow.holds Tryd.pinned (OpenSpec.ofChange fnLayerTextSpec)

/-- ITS FALSE NEIGHBOUR: 'it returns false'. Refute it at one input. -/
def fnLayerTextWrong : ChangeSpec := { name := "fnLayerText", fn := fun _ => fun
  | [d1, d2] => { results := [.lit (.bool false)], args := [d1, d2] }
  | _ => none }
def FnLayerTextWrongFalsely : Prop := fnLayerTextRow.holds Tryd.pinned (OpenSpec.ofChange fnLayerTextWrong)

/-- 'laws.FnMergeAt': WHATEVER THE INPUT: true; the input reads as it did. -/
def fnMergeAtSpec : ChangeSpec := { name := "fnMergeAt", fn := fun _ => fun
  | [d] => { results := [.lit (.bool true)], args := [d] }
  | _ => none }
def fnMergeAtRow : OpenClaim := { program := "ytmnjlhjpeebfdaadoor", sum := "d666513e07c6386a454cb98f00a19abc765c129d2e0baf31bb6792edc89d616a", func := "loop.example/pargeting/laws.FnMergeAt", spec := "fnMergeAt", inPlace := ["internal/bytealg.CountString", "internal/bytealg.IndexByteString", "internal/bytealg.IndexString", "internal/abi.NoEscape", "internal/bytealg.MakeNoZero"], named := ["unicode/utf8.first", "unicode/utf8.acceptRanges", "internal/bytealg.MaxLen"], apart := false, laid := [("unicode/utf8.acceptRanges", laid_unicode_utf8_acceptRanges), ("unicode/utf8.first", laid_unicode_utf8_first)] }
def FnMergeAtSaid : Prop := fnMergeAtRow.holds Tryd.pinned (OpenSpec.ofChange fnMergeAtSpec)

/-- ITS FALSE NEIGHBOUR: 'it returns false'. Refute it at one input. -/
def fnMergeAtWrong : ChangeSpec := { name := "fnMergeAt", fn := fun _ => fun
  | [d] => { results := [.lit (.bool false)], args := [d] }
  | _ => none }
def FnMergeAtWrongFalsely : Prop := fnMergeAtRow.holds Tryd.pinned (OpenSpec.ofChange fnMergeAtWrong)

/-- 'laws.FnTreeText': WHATEVER THE INPUT: true; the input reads as it did. -/
def fnTreeTextSpec : ChangeSpec := { name := "fnTreeText", fn := fun _ => fun
  | [d1, d2] => { results := [.lit (.bool true)], args := [d1, d2] }
  | _ => none }
def fnTreeTextRow : OpenClaim := { program := "ytmnjlhjpeebfdaadoor", sum := "d666513e07c6386a454cb98f00a19abc765c129d2e0baf31bb6792edc89d616a", func := "loop.example/pargeting/laws.FnTreeText", spec := "fnTreeText", inPlace := ["internal/bytealg.CountString", "internal/bytealg.IndexByteString", "internal/bytealg.IndexString", "internal/abi.NoEscape", "internal/bytealg.MakeNoZero"], named := ["unicode/utf8.first", "unicode/utf8.acceptRanges", "internal/bytealg.MaxLen"], apart := false, laid := [("unicode/utf8.acceptRanges", laid_unicode_utf8_acceptRanges), ("unicode/utf8.first", laid_unicode_utf8_first)] }
def FnTreeTextSaid : Prop := fnTreeTextRow.holds Tryd.pinned (OpenSpec.ofChange fnTreeTextSpec)

/-- ITS FALSE NEIGHBOUR: 'it returns false'. Refute it at one input. -/
def fnTreeTextWrong : ChangeSpec := { name := "fnTreeText", fn := fun _ => fun
  | [d1, d2] => { results := [.lit (.bool false)], args := [d1, d2] }
  | _ => none }
def FnTreeTextWrongFalsely : Prop := fnTreeTextRow.holds Tryd.pinned (OpenSpec.ofChange fnTreeTextWrong)

/-- 'laws.FnTextMany': WHATEVER THE INPUT: true; the input reads as it did. -/
def fnTextManySpec : ChangeSpec := { name := "fnTextMany", fn := fun _ => fun
  | [d1, d2] => { results := [.lit (.bool true)], args := [d1, d2] }
  | _ => none }
def fnTextManyRow : OpenClaim := { program := "ytmnjlhjpeebfdaadoor", sum := "d666513e07c6386a454cb98f00a19abc765c129d2e0baf31bb6792edc89d616a", func := "loop.example/pargeting/laws.FnTextMany", spec := "fnTextMany", inPlace := ["internal/bytealg.CountString", "internal/bytealg.IndexByteString", "internal/bytealg.IndexString", "internal/abi.NoEscape", "internal/bytealg.MakeNoZero"], recurses := true, named := ["unicode/utf8.first", "unicode/utf8.acceptRanges", "internal/bytealg.MaxLen"], apart := false, laid := [("unicode/utf8.acceptRanges", laid_unicode_utf8_acceptRanges), ("unicode/utf8.first", laid_unicode_utf8_first)] }
def FnTextManySaid : Prop := fnTextManyRow.holds Tryd.pinned (OpenSpec.ofChange fnTextManySpec)

/-- ITS FALSE NEIGHBOUR: 'it returns false'. Refute it at one input. -/
def fnTextManyWrong : ChangeSpec := { name := "fnTextMany", fn := fun _ => fun
  | [d1, d2] => { results := [.lit (.bool false)], args := [d1, d2] }
  | _ => none }
def FnTextManyWrongFalsely : Prop := fnTextManyRow.holds Tryd.pinned (OpenSpec.ofChange fnTextManyWrong)

/-- 'laws.FnExactMergeClash': WHATEVER THE INPUT: true; the input reads as it did. -/
def fnExactMergeClashSpec : ChangeSpec := { name := "fnExactMergeClash", fn := fun _ => fun
  | [d1, d2, d3] => { results := [.lit (.bool true)], args := [d1, d2, d3] }
  | _ => none }
def fnExactMergeClashRow : OpenClaim := { program := "ytmnjlhjpeebfdaadoor", sum := "d666513e07c6386a454cb98f00a19abc765c129d2e0baf31bb6792edc89d616a", func := "loop.example/pargeting/laws.FnExactMergeClash", spec := "fnExactMergeClash", inPlace := ["internal/bytealg.CountString", "internal/bytealg.IndexByteString", "internal/bytealg.IndexString", "internal/abi.NoEscape", "internal/bytealg.MakeNoZero"], recurses := true, named := ["unicode/utf8.first", "unicode/utf8.acceptRanges", "internal/bytealg.MaxLen"], apart := false, laid := [("unicode/utf8.acceptRanges", laid_unicode_utf8_acceptRanges), ("unicode/utf8.first", laid_unicode_utf8_first)] }
def FnExactMergeClashSaid : Prop := fnExactMergeClashRow.holds Tryd.pinned (OpenSpec.ofChange fnExactMergeClashSpec)

/-- ITS FALSE NEIGHBOUR: 'it returns false'. Refute it at one input. -/
def fnExactMergeClashWrong : ChangeSpec := { name := "fnExactMergeClash", fn := fun _ => fun
  | [d1, d2, d3] => { results := [.lit (.bool false)], args := [d1, d2, d3] }
  | _ => none }
def FnExactMergeClashWrongFalsely : Prop := fnExactMergeClashRow.holds Tryd.pinned (OpenSpec.ofChange fnExactMergeClashWrong)

/-- 'laws.FnExactMerge': WHATEVER THE INPUT: true; the input reads as it did. -/
def fnExactMergeSpec : ChangeSpec := { name := "fnExactMerge", fn := fun _ => fun
  | [d1, d2, d3] => { results := [.lit (.bool true)], args := [d1, d2, d3] }
  | _ => none }
def fnExactMergeRow : OpenClaim := { program := "ytmnjlhjpeebfdaadoor", sum := "d666513e07c6386a454cb98f00a19abc765c129d2e0baf31bb6792edc89d616a", func := "loop.example/pargeting/laws.FnExactMerge", spec := "fnExactMerge", inPlace := ["internal/bytealg.CountString", "internal/bytealg.IndexByteString", "internal/bytealg.IndexString", "internal/abi.NoEscape", "internal/bytealg.MakeNoZero"], recurses := true, named := ["unicode/utf8.first", "unicode/utf8.acceptRanges", "internal/bytealg.MaxLen"], apart := false, laid := [("unicode/utf8.acceptRanges", laid_unicode_utf8_acceptRanges), ("unicode/utf8.first", laid_unicode_utf8_first)] }
def FnExactMergeSaid : Prop := fnExactMergeRow.holds Tryd.pinned (OpenSpec.ofChange fnExactMergeSpec)

/-- ITS FALSE NEIGHBOUR: 'it returns false'. Refute it at one input. -/
def fnExactMergeWrong : ChangeSpec := { name := "fnExactMerge", fn := fun _ => fun
  | [d1, d2, d3] => { results := [.lit (.bool false)], args := [d1, d2, d3] }
  | _ => none }
def FnExactMergeWrongFalsely : Prop := fnExactMergeRow.holds Tryd.pinned (OpenSpec.ofChange fnExactMergeWrong)

/- THE SECOND FORM. 'bulk': how many values and letters a reading holds, each counted each time it is reached (what is shared counts as often as it is met; a slice's spare places count too). A statement '..UptoSaid' is the law's where the arguments, and the package variables that the reading takes, are together of bulk at most 1048576: NARROWER than '..Said'. Prove '..Said' where nothing that the law and all that it calls make is longer than what came in: it says more and counts as full. Else prove '..UptoSaid'. A law counts once. -/
mutual
def uptoBulk {H : Type} : DataW H → Nat
  | .lit (.string bytes) => bytes.length + 1
  | .lit _ => 1
  | .nil => 1
  | .ptr d => uptoBulk d + 1
  | .slice elems spare => uptoBulkAll elems + uptoBulkAll spare + 1
  | .agg parts => uptoBulkAll parts + 1
  | .iface _ d => uptoBulk d + 1
  | .map entries => uptoBulkEntries entries + 1
  | .held _ => 1
def uptoBulkAll {H : Type} : List (DataW H) → Nat
  | [] => 0
  | d :: r => uptoBulk d + uptoBulkAll r
def uptoBulkEntries {H : Type} : List (Lit × DataW H) → Nat
  | [] => 0
  | x :: r => uptoBulkEntry x + uptoBulkEntries r
def uptoBulkEntry {H : Type} : Lit × DataW H → Nat
  | (.string bytes, d) => bytes.length + uptoBulk d + 1
  | (_, d) => uptoBulk d + 1
 end
def uptoSmall : (H : Type) → List (DataW H) → Bool := fun _ ds => decide (uptoBulkAll ds ≤ 1048576)
def OpenSpec.upto (s : _root_.Go.ChangeSpec) : _root_.Go.OpenSpec := { _root_.Go.OpenSpec.ofChange s with cond := some uptoSmall }

/-- 'laws.FnOpText', WHERE WHAT IT READS IS OF BULK AT MOST 1048576: true; the input reads as it did. -/
def fnOpTextUptoRow : OpenClaim := { program := "ytmnjlhjpeebfdaadoor", sum := "d666513e07c6386a454cb98f00a19abc765c129d2e0baf31bb6792edc89d616a", func := "loop.example/pargeting/laws.FnOpText", spec := "fnOpText", inPlace := ["internal/bytealg.CountString", "internal/bytealg.IndexByteString", "internal/bytealg.IndexString"], named := ["loop.example/pargeting/impl.opWords", "unicode/utf8.first", "unicode/utf8.acceptRanges", "internal/bytealg.MaxLen"], apart := false, laid := [("unicode/utf8.acceptRanges", laid_unicode_utf8_acceptRanges), ("loop.example/pargeting/impl.opWords", laid_loop_example_pargeting_impl_opWords), ("unicode/utf8.first", laid_unicode_utf8_first)], narrowed := true }
def FnOpTextUptoSaid : Prop := fnOpTextUptoRow.holds Tryd.pinned (OpenSpec.upto fnOpTextSpec)

/-- 'laws.FnExactMergeAt', WHERE WHAT IT READS IS OF BULK AT MOST 1048576: true; the input reads as it did. -/
def fnExactMergeAtUptoRow : OpenClaim := { program := "ytmnjlhjpeebfdaadoor", sum := "d666513e07c6386a454cb98f00a19abc765c129d2e0baf31bb6792edc89d616a", func := "loop.example/pargeting/laws.FnExactMergeAt", spec := "fnExactMergeAt", inPlace := ["internal/bytealg.CountString", "internal/bytealg.IndexByteString", "internal/bytealg.IndexString", "internal/abi.NoEscape", "internal/bytealg.MakeNoZero"], named := ["unicode/utf8.first", "unicode/utf8.acceptRanges", "internal/bytealg.MaxLen"], apart := false, laid := [("unicode/utf8.acceptRanges", laid_unicode_utf8_acceptRanges), ("unicode/utf8.first", laid_unicode_utf8_first)], narrowed := true }
def FnExactMergeAtUptoSaid : Prop := fnExactMergeAtUptoRow.holds Tryd.pinned (OpenSpec.upto fnExactMergeAtSpec)

/-- 'laws.FnTextSame', WHERE WHAT IT READS IS OF BULK AT MOST 1048576: true; the input reads as it did. -/
def fnTextSameUptoRow : OpenClaim := { program := "ytmnjlhjpeebfdaadoor", sum := "d666513e07c6386a454cb98f00a19abc765c129d2e0baf31bb6792edc89d616a", func := "loop.example/pargeting/laws.FnTextSame", spec := "fnTextSame", inPlace := ["internal/bytealg.CountString", "internal/bytealg.IndexByteString", "internal/bytealg.IndexString", "internal/abi.NoEscape", "internal/bytealg.MakeNoZero"], recurses := true, named := ["unicode/utf8.first", "unicode/utf8.acceptRanges", "internal/bytealg.MaxLen", "loop.example/pargeting/impl.opWords"], apart := false, laid := [("unicode/utf8.acceptRanges", laid_unicode_utf8_acceptRanges), ("loop.example/pargeting/impl.opWords", laid_loop_example_pargeting_impl_opWords), ("unicode/utf8.first", laid_unicode_utf8_first)], narrowed := true }
def FnTextSameUptoSaid : Prop := fnTextSameUptoRow.holds Tryd.pinned (OpenSpec.upto fnTextSameSpec)

/-- 'laws.FnLayerText', WHERE WHAT IT READS IS OF BULK AT MOST 1048576: true; the input reads as it did. -/
def fnLayerTextUptoRow : OpenClaim := { program := "ytmnjlhjpeebfdaadoor", sum := "d666513e07c6386a454cb98f00a19abc765c129d2e0baf31bb6792edc89d616a", func := "loop.example/pargeting/laws.FnLayerText", spec := "fnLayerText", inPlace := ["internal/bytealg.CountString", "internal/bytealg.IndexByteString", "internal/bytealg.IndexString", "internal/abi.NoEscape", "internal/bytealg.MakeNoZero"], recurses := true, named := ["unicode/utf8.first", "unicode/utf8.acceptRanges", "internal/bytealg.MaxLen"], apart := false, laid := [("unicode/utf8.acceptRanges", laid_unicode_utf8_acceptRanges), ("unicode/utf8.first", laid_unicode_utf8_first)], narrowed := true }
def FnLayerTextUptoSaid : Prop := fnLayerTextUptoRow.holds Tryd.pinned (OpenSpec.upto fnLayerTextSpec)

/-- 'laws.FnMergeAt', WHERE WHAT IT READS IS OF BULK AT MOST 1048576: true; the input reads as it did. -/
def fnMergeAtUptoRow : OpenClaim := { program := "ytmnjlhjpeebfdaadoor", sum := "d666513e07c6386a454cb98f00a19abc765c129d2e0baf31bb6792edc89d616a", func := "loop.example/pargeting/laws.FnMergeAt", spec := "fnMergeAt", inPlace := ["internal/bytealg.CountString", "internal/bytealg.IndexByteString", "internal/bytealg.IndexString", "internal/abi.NoEscape", "internal/bytealg.MakeNoZero"], named := ["unicode/utf8.first", "unicode/utf8.acceptRanges", "internal/bytealg.MaxLen"], apart := false, laid := [("unicode/utf8.acceptRanges", laid_unicode_utf8_acceptRanges), ("unicode/utf8.first", laid_unicode_utf8_first)], narrowed := true }
def FnMergeAtUptoSaid : Prop := fnMergeAtUptoRow.holds Tryd.pinned (OpenSpec.upto fnMergeAtSpec)

/-- 'laws.FnTreeText', WHERE WHAT IT READS IS OF BULK AT MOST 1048576: true; the input reads as it did. -/
def fnTreeTextUptoRow : OpenClaim := { program := "ytmnjlhjpeebfdaadoor", sum := "d666513e07c6386a454cb98f00a19abc765c129d2e0baf31bb6792edc89d616a", func := "loop.example/pargeting/laws.FnTreeText", spec := "fnTreeText", inPlace := ["internal/bytealg.CountString", "internal/bytealg.IndexByteString", "internal/bytealg.IndexString", "internal/abi.NoEscape", "internal/bytealg.MakeNoZero"], named := ["unicode/utf8.first", "unicode/utf8.acceptRanges", "internal/bytealg.MaxLen"], apart := false, laid := [("unicode/utf8.acceptRanges", laid_unicode_utf8_acceptRanges), ("unicode/utf8.first", laid_unicode_utf8_first)], narrowed := true }
def FnTreeTextUptoSaid : Prop := fnTreeTextUptoRow.holds Tryd.pinned (OpenSpec.upto fnTreeTextSpec)

/-- 'laws.FnTextMany', WHERE WHAT IT READS IS OF BULK AT MOST 1048576: true; the input reads as it did. -/
def fnTextManyUptoRow : OpenClaim := { program := "ytmnjlhjpeebfdaadoor", sum := "d666513e07c6386a454cb98f00a19abc765c129d2e0baf31bb6792edc89d616a", func := "loop.example/pargeting/laws.FnTextMany", spec := "fnTextMany", inPlace := ["internal/bytealg.CountString", "internal/bytealg.IndexByteString", "internal/bytealg.IndexString", "internal/abi.NoEscape", "internal/bytealg.MakeNoZero"], recurses := true, named := ["unicode/utf8.first", "unicode/utf8.acceptRanges", "internal/bytealg.MaxLen"], apart := false, laid := [("unicode/utf8.acceptRanges", laid_unicode_utf8_acceptRanges), ("unicode/utf8.first", laid_unicode_utf8_first)], narrowed := true }
def FnTextManyUptoSaid : Prop := fnTextManyUptoRow.holds Tryd.pinned (OpenSpec.upto fnTextManySpec)

/-- 'laws.FnExactMergeClash', WHERE WHAT IT READS IS OF BULK AT MOST 1048576: true; the input reads as it did. -/
def fnExactMergeClashUptoRow : OpenClaim := { program := "ytmnjlhjpeebfdaadoor", sum := "d666513e07c6386a454cb98f00a19abc765c129d2e0baf31bb6792edc89d616a", func := "loop.example/pargeting/laws.FnExactMergeClash", spec := "fnExactMergeClash", inPlace := ["internal/bytealg.CountString", "internal/bytealg.IndexByteString", "internal/bytealg.IndexString", "internal/abi.NoEscape", "internal/bytealg.MakeNoZero"], recurses := true, named := ["unicode/utf8.first", "unicode/utf8.acceptRanges", "internal/bytealg.MaxLen"], apart := false, laid := [("unicode/utf8.acceptRanges", laid_unicode_utf8_acceptRanges), ("unicode/utf8.first", laid_unicode_utf8_first)], narrowed := true }
def FnExactMergeClashUptoSaid : Prop := fnExactMergeClashUptoRow.holds Tryd.pinned (OpenSpec.upto fnExactMergeClashSpec)

/-- 'laws.FnExactMerge', WHERE WHAT IT READS IS OF BULK AT MOST 1048576: true; the input reads as it did. -/
def fnExactMergeUptoRow : OpenClaim := { program := "ytmnjlhjpeebfdaadoor", sum := "d666513e07c6386a454cb98f00a19abc765c129d2e0baf31bb6792edc89d616a", func := "loop.example/pargeting/laws.FnExactMerge", spec := "fnExactMerge", inPlace := ["internal/bytealg.CountString", "internal/bytealg.IndexByteString", "internal/bytealg.IndexString", "internal/abi.NoEscape", "internal/bytealg.MakeNoZero"], recurses := true, named := ["unicode/utf8.first", "unicode/utf8.acceptRanges", "internal/bytealg.MaxLen"], apart := false, laid := [("unicode/utf8.acceptRanges", laid_unicode_utf8_acceptRanges), ("unicode/utf8.first", laid_unicode_utf8_first)], narrowed := true }
def FnExactMergeUptoSaid : Prop := fnExactMergeUptoRow.holds Tryd.pinned (OpenSpec.upto fnExactMergeSpec)

end Rows
end Go.Proofs.YtmnjlhjpeebfdaaDoor
