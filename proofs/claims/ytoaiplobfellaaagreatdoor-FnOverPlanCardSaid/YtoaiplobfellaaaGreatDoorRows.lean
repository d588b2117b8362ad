/-
  NARROWER THAN 'FOR EVERY INPUT', by the rows' own cells (each row's printed sentence says how): FnExactOpBack: laid · FnLogDo: laid · FnOpBack: laid · FnLogClean: laid · FnLogTurned: laid · FnLogApart: laid · FnLogLast: laid · FnTextDo: laid · FnExactLogClean: laid · FnLogBack: laid · FnExactLogDo: laid · FnExactLogBack: laid · FnMergeApart: laid · FnMergeLayer: laid · FnOverPlain: laid · FnLogOver: laid · FnOverPlan: laid · FnExactLogOver: laid.
  DERIVED. THE GIVEN ROWS OF THIS SEAT. 18 by the template 'for every input the law returns true; each argument reads behind the call as it read before'; 0 by the template 'total and deterministic' (their statements: YtoaiplobfellaaaGreatDoorTotals.lean).
  GIVEN WITH THE SEED: the statements are not yours to turn. If you find one false, say at which input.
  Laid BY PROGRAM, IN A SANDBOX (cutbox-rows.mjs): the forced cells as the released guide's own fill.sh prints them over the translation 64b55ac5551fb5bc… (all of the seat's roots in one cut). By AI agents, Wed Nov 11 2026. No macro, syntax, notation, axiom, sorry.
-/
import Derived.Test.YtoaiplobfellaaaGreatDoorChecked
import GoSem.PinnedTables
import GoSem.Claim
import GoSem.ClaimJoined
import GoSem.ClaimMapViews
import Derived.JoinedTies
import Derived.KernelRfl
namespace Go.Proofs.YtoaiplobfellaaaGreatDoor
/- THE CELL 'sum', in the pinned program and in every row, IS THE sha256 OF THE DUMP (.gsa) THAT YtoaiplobfellaaaGreatDoorProg.lean LOADS. Nothing in Lean hashes anything: it is a label: what it is worth is what the hold of that sum in a sandbox is worth. -/
noncomputable def Tryz.pinned : Pinned := { name := "ytoaiplobfellaaagreatdoor", sum := "64b55ac5551fb5bc04cce6a9bc1eedf469bae45175500ec4894fa3ce79b0339b", checked := Tryz.checked }
namespace Rows
def none {H : Type} : Left H := { results := [], args := [] }

/- WHAT THE LISTED PACKAGE-LEVEL VARIABLES READ AS WHEN THE CALL BEGINS. Each datum BY PROGRAM (the guide's laid-datum.mjs) off the statement by which the dump's own 'gosem.cut.vars' lays the variable. In a bare row this is a premise. The card (YtoaiplobfellaaaGreatDoorCards.lean) ties it to the program's text. -/
def laid_unicode_utf8_acceptRanges {H : Type} : DataW H := .agg [.agg [.lit (.int .u8 128), .lit (.int .u8 191)], .agg [.lit (.int .u8 160), .lit (.int .u8 191)], .agg [.lit (.int .u8 128), .lit (.int .u8 159)], .agg [.lit (.int .u8 144), .lit (.int .u8 191)], .agg [.lit (.int .u8 128), .lit (.int .u8 143)], .agg [.lit (.int .u8 0), .lit (.int .u8 0)], .agg [.lit (.int .u8 0), .lit (.int .u8 0)], .agg [.lit (.int .u8 0), .lit (.int .u8 0)], .agg [.lit (.int .u8 0), .lit (.int .u8 0)], .agg [.lit (.int .u8 0), .lit (.int .u8 0)], .agg [.lit (.int .u8 0), .lit (.int .u8 0)], .agg [.lit (.int .u8 0), .lit (.int .u8 0)], .agg [.lit (.int .u8 0), .lit (.int .u8 0)], .agg [.lit (.int .u8 0), .lit (.int .u8 0)], .agg [.lit (.int .u8 0), .lit (.int .u8 0)], .agg [.lit (.int .u8 0), .lit (.int .u8 0)]]
/-- One of Go's own tables, pinned by name: the form's constant. -/
def laid_unicode_utf8_first : DataW Unit := Go.Pinned.utf8First
def laid_loop_example_pargeting_impl_opWords {H : Type} : DataW H := .agg [.lit (.string []), .lit (.string [109, 97, 107, 101]), .lit (.string [112, 117, 116]), .lit (.string [114, 109]), .lit (.string [114, 109, 100, 105, 114]), .lit (.string [109, 111, 118, 101])]

/-- 'laws.FnExactOpBack': WHATEVER THE INPUT: true; the input reads as it did. -/
def fnExactOpBackSpec : ChangeSpec := { name := "fnExactOpBack", fn := fun _ => fun
  | [d1, d2] => { results := [.lit (.bool true)], args := [d1, d2] }
  | _ => none }
def fnExactOpBackRow : OpenClaim := { program := "ytoaiplobfellaaagreatdoor", sum := "64b55ac5551fb5bc04cce6a9bc1eedf469bae45175500ec4894fa3ce79b0339b", func := "loop.example/pargeting/laws.FnExactOpBack", spec := "fnExactOpBack", inPlace := ["internal/bytealg.CountString", "internal/bytealg.IndexByteString", "internal/bytealg.IndexString", "internal/abi.NoEscape", "internal/bytealg.MakeNoZero"], unfollowed := true, recurses := true, named := ["unicode/utf8.first", "unicode/utf8.acceptRanges", "internal/bytealg.MaxLen"], apart := false, laid := [("unicode/utf8.acceptRanges", laid_unicode_utf8_acceptRanges), ("unicode/utf8.first", laid_unicode_utf8_first)] }
def FnExactOpBackSaid : Prop := fnExactOpBackRow.holds Tryz.pinned (OpenSpec.ofChange fnExactOpBackSpec)

/-- ITS FALSE NEIGHBOUR: 'it returns false'. Refute it at one input. -/
def fnExactOpBackWrong : ChangeSpec := { name := "fnExactOpBack", fn := fun _ => fun
  | [d1, d2] => { results := [.lit (.bool false)], args := [d1, d2] }
  | _ => none }
def FnExactOpBackWrongFalsely : Prop := fnExactOpBackRow.holds Tryz.pinned (OpenSpec.ofChange fnExactOpBackWrong)

/-- 'laws.FnLogDo': WHATEVER THE INPUT: true; the input reads as it did. -/
def fnLogDoSpec : ChangeSpec := { name := "fnLogDo", fn := fun _ => fun
  | [d1, d2] => { results := [.lit (.bool true)], args := [d1, d2] }
  | _ => none }
def fnLogDoRow : OpenClaim := { program := "ytoaiplobfellaaagreatdoor", sum := "64b55ac5551fb5bc04cce6a9bc1eedf469bae45175500ec4894fa3ce79b0339b", func := "loop.example/pargeting/laws.FnLogDo", spec := "fnLogDo", inPlace := ["internal/bytealg.CountString", "internal/bytealg.IndexByteString", "internal/bytealg.IndexString", "internal/abi.NoEscape", "internal/bytealg.MakeNoZero"], unfollowed := true, recurses := true, named := ["unicode/utf8.first", "unicode/utf8.acceptRanges", "internal/bytealg.MaxLen"], apart := false, laid := [("unicode/utf8.acceptRanges", laid_unicode_utf8_acceptRanges), ("unicode/utf8.first", laid_unicode_utf8_first)] }
def FnLogDoSaid : Prop := fnLogDoRow.holds Tryz.pinned (OpenSpec.ofChange fnLogDoSpec)

/-- ITS FALSE NEIGHBOUR: 'it returns false'. Refute it at one input. -/
def fnLogDoWrong : ChangeSpec := { name := "fnLogDo", fn := fun _ => fun
  | [d1, d2] => { results := [.lit (.bool false)], args := [d1, d2] }
  | _ => none }
def FnLogDoWrongFalsely : Prop := fnLogDoRow.holds Tryz.pinned (OpenSpec.ofChange fnLogDoWrong)

/-- 'laws.FnOpBack': WHATEVER THE INPUT: true; the input reads as it did. -/
def fnOpBackSpec : ChangeSpec := { name := "fnOpBack", fn := fun _ => fun
  | [d] => { results := [.lit (.bool true)], args := [d] }
  | _ => none }
def fnOpBackRow : OpenClaim := { program := "ytoaiplobfellaaagreatdoor", sum := "64b55ac5551fb5bc04cce6a9bc1eedf469bae45175500ec4894fa3ce79b0339b", func := "loop.example/pargeting/laws.FnOpBack", spec := "fnOpBack", inPlace := ["internal/bytealg.CountString", "internal/bytealg.IndexByteString", "internal/bytealg.IndexString", "internal/abi.NoEscape", "internal/bytealg.MakeNoZero"], unfollowed := true, recurses := true, named := ["unicode/utf8.first", "unicode/utf8.acceptRanges", "internal/bytealg.MaxLen"], apart := false, laid := [("unicode/utf8.acceptRanges", laid_unicode_utf8_acceptRanges), ("unicode/utf8.first", laid_unicode_utf8_first)] }
def FnOpBackSaid : Prop := fnOpBackRow.holds Tryz.pinned (OpenSpec.ofChange fnOpBackSpec)

/-- ITS FALSE NEIGHBOUR: 'it returns false'. Refute it at one input. -/
def fnOpBackWrong : ChangeSpec := { name := "fnOpBack", fn := fun _ => fun
  | [d] => { results := [.lit (.bool false)], args := [d] }
  | _ => none }
def FnOpBackWrongFalsely : Prop := fnOpBackRow.holds Tryz.pinned (OpenSpec.ofChange fnOpBackWrong)

/-- 'laws.FnLogClean': WHATEVER THE INPUT: true; the input reads as it did. -/
def fnLogCleanSpec : ChangeSpec := { name := "fnLogClean", fn := fun _ => fun
  | [d] => { results := [.lit (.bool true)], args := [d] }
  | _ => none }
def fnLogCleanRow : OpenClaim := { program := "ytoaiplobfellaaagreatdoor", sum := "64b55ac5551fb5bc04cce6a9bc1eedf469bae45175500ec4894fa3ce79b0339b", func := "loop.example/pargeting/laws.FnLogClean", spec := "fnLogClean", inPlace := ["internal/bytealg.CountString", "internal/bytealg.IndexByteString", "internal/bytealg.IndexString", "internal/abi.NoEscape", "internal/bytealg.MakeNoZero"], unfollowed := true, recurses := true, named := ["unicode/utf8.first", "unicode/utf8.acceptRanges", "internal/bytealg.MaxLen"], apart := false, laid := [("unicode/utf8.acceptRanges", laid_unicode_utf8_acceptRanges), ("unicode/utf8.first", laid_unicode_utf8_first)] }
def FnLogCleanSaid : Prop := fnLogCleanRow.holds Tryz.pinned (OpenSpec.ofChange fnLogCleanSpec)

/-- ITS FALSE NEIGHBOUR: 'it returns false'. Refute it at one input. -/
def fnLogCleanWrong : ChangeSpec := { name := "fnLogClean", fn := fun _ => fun
  | [d] => { results := [.lit (.bool false)], args := [d] }
  | _ => none }
def FnLogCleanWrongFalsely : Prop := fnLogCleanRow.holds Tryz.pinned (OpenSpec.ofChange fnLogCleanWrong)

/-- 'laws.FnLogTurned': WHATEVER THE INPUT: true; the input reads as it did. -/
def fnLogTurnedSpec : ChangeSpec := { name := "fnLogTurned", fn := fun _ => fun
  | [d] => { results := [.lit (.bool true)], args := [d] }
  | _ => none }
def fnLogTurnedRow : OpenClaim := { program := "ytoaiplobfellaaagreatdoor", sum := "64b55ac5551fb5bc04cce6a9bc1eedf469bae45175500ec4894fa3ce79b0339b", func := "loop.example/pargeting/laws.FnLogTurned", spec := "fnLogTurned", inPlace := ["internal/bytealg.CountString", "internal/bytealg.IndexByteString", "internal/bytealg.IndexString", "internal/abi.NoEscape", "internal/bytealg.MakeNoZero"], unfollowed := true, recurses := true, named := ["unicode/utf8.first", "unicode/utf8.acceptRanges", "internal/bytealg.MaxLen"], apart := false, laid := [("unicode/utf8.acceptRanges", laid_unicode_utf8_acceptRanges), ("unicode/utf8.first", laid_unicode_utf8_first)] }
def FnLogTurnedSaid : Prop := fnLogTurnedRow.holds Tryz.pinned (OpenSpec.ofChange fnLogTurnedSpec)

/-- ITS FALSE NEIGHBOUR: 'it returns false'. Refute it at one input. -/
def fnLogTurnedWrong : ChangeSpec := { name := "fnLogTurned", fn := fun _ => fun
  | [d] => { results := [.lit (.bool false)], args := [d] }
  | _ => none }
def FnLogTurnedWrongFalsely : Prop := fnLogTurnedRow.holds Tryz.pinned (OpenSpec.ofChange fnLogTurnedWrong)

/-- 'laws.FnLogApart': WHATEVER THE INPUT: true; the input reads as it did. -/
def fnLogApartSpec : ChangeSpec := { name := "fnLogApart", fn := fun _ => fun
  | [d1, d2] => { results := [.lit (.bool true)], args := [d1, d2] }
  | _ => none }
def fnLogApartRow : OpenClaim := { program := "ytoaiplobfellaaagreatdoor", sum := "64b55ac5551fb5bc04cce6a9bc1eedf469bae45175500ec4894fa3ce79b0339b", func := "loop.example/pargeting/laws.FnLogApart", spec := "fnLogApart", inPlace := ["internal/bytealg.CountString", "internal/bytealg.IndexByteString", "internal/bytealg.IndexString", "internal/abi.NoEscape", "internal/bytealg.MakeNoZero"], unfollowed := true, recurses := true, named := ["unicode/utf8.first", "unicode/utf8.acceptRanges", "internal/bytealg.MaxLen"], apart := false, laid := [("unicode/utf8.acceptRanges", laid_unicode_utf8_acceptRanges), ("unicode/utf8.first", laid_unicode_utf8_first)] }
def FnLogApartSaid : Prop := fnLogApartRow.holds Tryz.pinned (OpenSpec.ofChange fnLogApartSpec)

/-- ITS FALSE NEIGHBOUR: 'it returns false'. Refute it at one input. -/
def fnLogApartWrong : ChangeSpec := { name := "fnLogApart", fn := fun _ => fun
  | [d1, d2] => { results := [.lit (.bool false)], args := [d1, d2] }
  | _ => none }
def FnLogApartWrongFalsely : Prop := fnLogApartRow.holds Tryz.pinned (OpenSpec.ofChange fnLogApartWrong)

/-- 'laws.FnLogLast': WHATEVER THE INPUT: true; the input reads as it did. -/
def fnLogLastSpec : ChangeSpec := { name := "fnLogLast", fn := fun _ => fun
  | [d] => { results := [.lit (.bool true)], args := [d] }
  | _ => none }
def fnLogLastRow : OpenClaim := { program := "ytoaiplobfellaaagreatdoor", sum := "64b55ac5551fb5bc04cce6a9bc1eedf469bae45175500ec4894fa3ce79b0339b", func := "loop.example/pargeting/laws.FnLogLast", spec := "fnLogLast", inPlace := ["internal/bytealg.CountString", "internal/bytealg.IndexByteString", "internal/bytealg.IndexString", "internal/abi.NoEscape", "internal/bytealg.MakeNoZero"], unfollowed := true, recurses := true, named := ["unicode/utf8.first", "unicode/utf8.acceptRanges", "internal/bytealg.MaxLen"], apart := false, laid := [("unicode/utf8.acceptRanges", laid_unicode_utf8_acceptRanges), ("unicode/utf8.first", laid_unicode_utf8_first)] }
def FnLogLastSaid : Prop := fnLogLastRow.holds Tryz.pinned (OpenSpec.ofChange fnLogLastSpec)

/-- ITS FALSE NEIGHBOUR: 'it returns false'. Refute it at one input. -/
def fnLogLastWrong : ChangeSpec := { name := "fnLogLast", fn := fun _ => fun
  | [d] => { results := [.lit (.bool false)], args := [d] }
  | _ => none }
def FnLogLastWrongFalsely : Prop := fnLogLastRow.holds Tryz.pinned (OpenSpec.ofChange fnLogLastWrong)

/-- 'laws.FnTextDo': WHATEVER THE INPUT: true; the input reads as it did. -/
def fnTextDoSpec : ChangeSpec := { name := "fnTextDo", vars := ["loop.example/pargeting/impl.opWords"], fn := fun _ => fun
  | [d, g1] => { results := [.lit (.bool true)], args := [d], vars := [g1] }
  | _ => none }
def fnTextDoRow : OpenClaim := { program := "ytoaiplobfellaaagreatdoor", sum := "64b55ac5551fb5bc04cce6a9bc1eedf469bae45175500ec4894fa3ce79b0339b", func := "loop.example/pargeting/laws.FnTextDo", spec := "fnTextDo", inPlace := ["internal/bytealg.CountString", "internal/bytealg.IndexByteString", "internal/bytealg.IndexString", "internal/abi.NoEscape", "internal/bytealg.MakeNoZero"], unfollowed := true, recurses := true, named := ["unicode/utf8.first", "unicode/utf8.acceptRanges", "internal/bytealg.MaxLen", "loop.example/pargeting/impl.opWords"], apart := false, laid := [("unicode/utf8.acceptRanges", laid_unicode_utf8_acceptRanges), ("loop.example/pargeting/impl.opWords", laid_loop_example_pargeting_impl_opWords), ("unicode/utf8.first", laid_unicode_utf8_first)] }
def FnTextDoSaid : Prop := fnTextDoRow.holds Tryz.pinned (OpenSpec.ofChange fnTextDoSpec)

/-- ITS FALSE NEIGHBOUR: 'it returns false'. Refute it at one input. -/
def fnTextDoWrong : ChangeSpec := { name := "fnTextDo", vars := ["loop.example/pargeting/impl.opWords"], fn := fun _ => fun
  | [d, g1] => { results := [.lit (.bool false)], args := [d], vars := [g1] }
  | _ => none }
def FnTextDoWrongFalsely : Prop := fnTextDoRow.holds Tryz.pinned (OpenSpec.ofChange fnTextDoWrong)

/-- 'laws.FnExactLogClean': WHATEVER THE INPUT: true; the input reads as it did. -/
def fnExactLogCleanSpec : ChangeSpec := { name := "fnExactLogClean", fn := fun _ => fun
  | [d1, d2] => { results := [.lit (.bool true)], args := [d1, d2] }
  | _ => none }
def fnExactLogCleanRow : OpenClaim := { program := "ytoaiplobfellaaagreatdoor", sum := "64b55ac5551fb5bc04cce6a9bc1eedf469bae45175500ec4894fa3ce79b0339b", func := "loop.example/pargeting/laws.FnExactLogClean", spec := "fnExactLogClean", inPlace := ["internal/bytealg.CountString", "internal/bytealg.IndexByteString", "internal/bytealg.IndexString", "internal/abi.NoEscape", "internal/bytealg.MakeNoZero"], unfollowed := true, recurses := true, named := ["unicode/utf8.first", "unicode/utf8.acceptRanges", "internal/bytealg.MaxLen"], apart := false, laid := [("unicode/utf8.acceptRanges", laid_unicode_utf8_acceptRanges), ("unicode/utf8.first", laid_unicode_utf8_first)] }
def FnExactLogCleanSaid : Prop := fnExactLogCleanRow.holds Tryz.pinned (OpenSpec.ofChange fnExactLogCleanSpec)

/-- ITS FALSE NEIGHBOUR: 'it returns false'. Refute it at one input. -/
def fnExactLogCleanWrong : ChangeSpec := { name := "fnExactLogClean", fn := fun _ => fun
  | [d1, d2] => { results := [.lit (.bool false)], args := [d1, d2] }
  | _ => none }
def FnExactLogCleanWrongFalsely : Prop := fnExactLogCleanRow.holds Tryz.pinned (OpenSpec.ofChange fnExactLogCleanWrong)

/-- 'laws.FnLogBack': WHATEVER THE INPUT: true; the input reads as it did. -/
def fnLogBackSpec : ChangeSpec := { name := "fnLogBack", fn := fun _ => fun
  | [d] => { results := [.lit (.bool true)], args := [d] }
  | _ => none }
def fnLogBackRow : OpenClaim := { program := "ytoaiplobfellaaagreatdoor", sum := "64b55ac5551fb5bc04cce6a9bc1eedf469bae45175500ec4894fa3ce79b0339b", func := "loop.example/pargeting/laws.FnLogBack", spec := "fnLogBack", inPlace := ["internal/bytealg.CountString", "internal/bytealg.IndexByteString", "internal/bytealg.IndexString", "internal/abi.NoEscape", "internal/bytealg.MakeNoZero"], unfollowed := true, recurses := true, named := ["unicode/utf8.first", "unicode/utf8.acceptRanges", "internal/bytealg.MaxLen"], apart := false, laid := [("unicode/utf8.acceptRanges", laid_unicode_utf8_acceptRanges), ("unicode/utf8.first", laid_unicode_utf8_first)] }
def FnLogBackSaid : Prop := fnLogBackRow.holds Tryz.pinned (OpenSpec.ofChange fnLogBackSpec)

/-- ITS FALSE NEIGHBOUR: 'it returns false'. Refute it at one input. -/
def fnLogBackWrong : ChangeSpec := { name := "fnLogBack", fn := fun _ => fun
  | [d] => { results := [.lit (.bool false)], args := [d] }
  | _ => none }
def FnLogBackWrongFalsely : Prop := fnLogBackRow.holds Tryz.pinned (OpenSpec.ofChange fnLogBackWrong)

/-- 'laws.FnExactLogDo': WHATEVER THE INPUT: true; the input reads as it did. -/
def fnExactLogDoSpec : ChangeSpec := { name := "fnExactLogDo", fn := fun _ => fun
  | [d1, d2] => { results := [.lit (.bool true)], args := [d1, d2] }
  | _ => none }
def fnExactLogDoRow : OpenClaim := { program := "ytoaiplobfellaaagreatdoor", sum := "64b55ac5551fb5bc04cce6a9bc1eedf469bae45175500ec4894fa3ce79b0339b", func := "loop.example/pargeting/laws.FnExactLogDo", spec := "fnExactLogDo", inPlace := ["internal/bytealg.CountString", "internal/bytealg.IndexByteString", "internal/bytealg.IndexString", "internal/abi.NoEscape", "internal/bytealg.MakeNoZero"], unfollowed := true, recurses := true, named := ["unicode/utf8.first", "unicode/utf8.acceptRanges", "internal/bytealg.MaxLen"], apart := false, laid := [("unicode/utf8.acceptRanges", laid_unicode_utf8_acceptRanges), ("unicode/utf8.first", laid_unicode_utf8_first)] }
def FnExactLogDoSaid : Prop := fnExactLogDoRow.holds Tryz.pinned (OpenSpec.ofChange fnExactLogDoSpec)

/-- ITS FALSE NEIGHBOUR: 'it returns false'. Refute it at one input. -/
def fnExactLogDoWrong : ChangeSpec := { name := "fnExactLogDo", fn := fun _ => fun
  | [d1, d2] => { results := [.lit (.bool false)], args := [d1, d2] }
  | _ => none }
def FnExactLogDoWrongFalsely : Prop := fnExactLogDoRow.holds Tryz.pinned (OpenSpec.ofChange fnExactLogDoWrong)

/-- 'laws.FnExactLogBack': WHATEVER THE INPUT: true; the input reads as it did. -/
def fnExactLogBackSpec : ChangeSpec := { name := "fnExactLogBack", fn := fun _ => fun
  | [d1, d2] => { results := [.lit (.bool true)], args := [d1, d2] }
  | _ => none }
def fnExactLogBackRow : OpenClaim := { program := "ytoaiplobfellaaagreatdoor", sum := "64b55ac5551fb5bc04cce6a9bc1eedf469bae45175500ec4894fa3ce79b0339b", func := "loop.example/pargeting/laws.FnExactLogBack", spec := "fnExactLogBack", inPlace := ["internal/bytealg.CountString", "internal/bytealg.IndexByteString", "internal/bytealg.IndexString", "internal/abi.NoEscape", "internal/bytealg.MakeNoZero"], unfollowed := true, recurses := true, named := ["unicode/utf8.first", "unicode/utf8.acceptRanges", "internal/bytealg.MaxLen"], apart := false, laid := [("unicode/utf8.acceptRanges", laid_unicode_utf8_acceptRanges), ("unicode/utf8.first", laid_unicode_utf8_first)] }
def FnExactLogBackSaid : Prop := fnExactLogBackRow.holds Tryz.pinned (OpenSpec.ofChange fnExactLogBackSpec)

/-- ITS FALSE NEIGHBOUR: 'it returns false'. Refute it at one input. -/
def fnExactLogBackWrong : ChangeSpec := { name := "fnExactLogBack", fn := fun _ => fun
  | [d1, d2] => { results := [.lit (.bool false)], args := [d1, d2] }
  | _ => none }
def FnExactLogBackWrongFalsely : Prop := fnExactLogBackRow.holds Tryz.pinned (OpenSpec.ofChange fnExactLogBackWrong)

/-- 'laws.FnMergeApart': WHATEVER THE INPUT: true; the input reads as it did. -/
def fnMergeApartSpec : ChangeSpec := { name := "fnMergeApart", fn := fun _ => fun
  | [d1, d2] => { results := [.lit (.bool true)], args := [d1, d2] }
  | _ => none }
def fnMergeApartRow : OpenClaim := { program := "ytoaiplobfellaaagreatdoor", sum := "64b55ac5551fb5bc04cce6a9bc1eedf469bae45175500ec4894fa3ce79b0339b", func := "loop.example/pargeting/laws.FnMergeApart", spec := "fnMergeApart", inPlace := ["internal/bytealg.CountString", "internal/bytealg.IndexByteString", "internal/bytealg.IndexString", "internal/abi.NoEscape", "internal/bytealg.MakeNoZero"], unfollowed := true, recurses := true, named := ["unicode/utf8.first", "unicode/utf8.acceptRanges", "internal/bytealg.MaxLen"], apart := false, laid := [("unicode/utf8.acceptRanges", laid_unicode_utf8_acceptRanges), ("unicode/utf8.first", laid_unicode_utf8_first)] }
def FnMergeApartSaid : Prop := fnMergeApartRow.holds Tryz.pinned (OpenSpec.ofChange fnMergeApartSpec)

/-- ITS FALSE NEIGHBOUR: 'it returns false'. Refute it at one input. -/
def fnMergeApartWrong : ChangeSpec := { name := "fnMergeApart", fn := fun _ => fun
  | [d1, d2] => { results := [.lit (.bool false)], args := [d1, d2] }
  | _ => none }
def FnMergeApartWrongFalsely : Prop := fnMergeApartRow.holds Tryz.pinned (OpenSpec.ofChange fnMergeApartWrong)

/-- 'laws.FnMergeLayer': WHATEVER THE INPUT: true; the input reads as it did. -/
def fnMergeLayerSpec : ChangeSpec := { name := "fnMergeLayer", fn := fun _ => fun
  | [d] => { results := [.lit (.bool true)], args := [d] }
  | _ => none }
def fnMergeLayerRow : OpenClaim := { program := "ytoaiplobfellaaagreatdoor", sum := "64b55ac5551fb5bc04cce6a9bc1eedf469bae45175500ec4894fa3ce79b0339b", func := "loop.example/pargeting/laws.FnMergeLayer", spec := "fnMergeLayer", inPlace := ["internal/bytealg.CountString", "internal/bytealg.IndexByteString", "internal/bytealg.IndexString", "internal/abi.NoEscape", "internal/bytealg.MakeNoZero"], unfollowed := true, recurses := true, named := ["unicode/utf8.first", "unicode/utf8.acceptRanges", "internal/bytealg.MaxLen"], apart := false, laid := [("unicode/utf8.acceptRanges", laid_unicode_utf8_acceptRanges), ("unicode/utf8.first", laid_unicode_utf8_first)] }
def FnMergeLayerSaid : Prop := fnMergeLayerRow.holds Tryz.pinned (OpenSpec.ofChange fnMergeLayerSpec)

/-- ITS FALSE NEIGHBOUR: 'it returns false'. Refute it at one input. -/
def fnMergeLayerWrong : ChangeSpec := { name := "fnMergeLayer", fn := fun _ => fun
  | [d] => { results := [.lit (.bool false)], args := [d] }
  | _ => none }
def FnMergeLayerWrongFalsely : Prop := fnMergeLayerRow.holds Tryz.pinned (OpenSpec.ofChange fnMergeLayerWrong)

/-- 'laws.FnOverPlain': WHATEVER THE INPUT: true; the input reads as it did. -/
def fnOverPlainSpec : ChangeSpec := { name := "fnOverPlain", fn := fun _ => fun
  | [d] => { results := [.lit (.bool true)], args := [d] }
  | _ => none }
def fnOverPlainRow : OpenClaim := { program := "ytoaiplobfellaaagreatdoor", sum := "64b55ac5551fb5bc04cce6a9bc1eedf469bae45175500ec4894fa3ce79b0339b", func := "loop.example/pargeting/laws.FnOverPlain", spec := "fnOverPlain", inPlace := ["internal/bytealg.CountString", "internal/bytealg.IndexByteString", "internal/bytealg.IndexString", "internal/abi.NoEscape", "internal/bytealg.MakeNoZero"], unfollowed := true, recurses := true, named := ["unicode/utf8.first", "unicode/utf8.acceptRanges", "internal/bytealg.MaxLen"], apart := false, laid := [("unicode/utf8.acceptRanges", laid_unicode_utf8_acceptRanges), ("unicode/utf8.first", laid_unicode_utf8_first)] }
def FnOverPlainSaid : Prop := fnOverPlainRow.holds Tryz.pinned (OpenSpec.ofChange fnOverPlainSpec)

/-- ITS FALSE NEIGHBOUR: 'it returns false'. Refute it at one input. -/
def fnOverPlainWrong : ChangeSpec := { name := "fnOverPlain", fn := fun _ => fun
  | [d] => { results := [.lit (.bool false)], args := [d] }
  | _ => none }
def FnOverPlainWrongFalsely : Prop := fnOverPlainRow.holds Tryz.pinned (OpenSpec.ofChange fnOverPlainWrong)

/-- 'laws.FnLogOver': WHATEVER THE INPUT: true; the input reads as it did. -/
def fnLogOverSpec : ChangeSpec := { name := "fnLogOver", fn := fun _ => fun
  | [d] => { results := [.lit (.bool true)], args := [d] }
  | _ => none }
def fnLogOverRow : OpenClaim := { program := "ytoaiplobfellaaagreatdoor", sum := "64b55ac5551fb5bc04cce6a9bc1eedf469bae45175500ec4894fa3ce79b0339b", func := "loop.example/pargeting/laws.FnLogOver", spec := "fnLogOver", inPlace := ["internal/bytealg.CountString", "internal/bytealg.IndexByteString", "internal/bytealg.IndexString", "internal/abi.NoEscape", "internal/bytealg.MakeNoZero"], unfollowed := true, recurses := true, named := ["unicode/utf8.first", "unicode/utf8.acceptRanges", "internal/bytealg.MaxLen"], apart := false, laid := [("unicode/utf8.acceptRanges", laid_unicode_utf8_acceptRanges), ("unicode/utf8.first", laid_unicode_utf8_first)] }
def FnLogOverSaid : Prop := fnLogOverRow.holds Tryz.pinned (OpenSpec.ofChange fnLogOverSpec)

/-- ITS FALSE NEIGHBOUR: 'it returns false'. Refute it at one input. -/
def fnLogOverWrong : ChangeSpec := { name := "fnLogOver", fn := fun _ => fun
  | [d] => { results := [.lit (.bool false)], args := [d] }
  | _ => none }
def FnLogOverWrongFalsely : Prop := fnLogOverRow.holds Tryz.pinned (OpenSpec.ofChange fnLogOverWrong)

/-- 'laws.FnOverPlan': WHATEVER THE INPUT: true; the input reads as it did. -/
def fnOverPlanSpec : ChangeSpec := { name := "fnOverPlan", fn := fun _ => fun
  | [d1, d2] => { results := [.lit (.bool true)], args := [d1, d2] }
  | _ => none }
def fnOverPlanRow : OpenClaim := { program := "ytoaiplobfellaaagreatdoor", sum := "64b55ac5551fb5bc04cce6a9bc1eedf469bae45175500ec4894fa3ce79b0339b", func := "loop.example/pargeting/laws.FnOverPlan", spec := "fnOverPlan", inPlace := ["internal/bytealg.CountString", "internal/bytealg.IndexByteString", "internal/bytealg.IndexString", "internal/abi.NoEscape", "internal/bytealg.MakeNoZero"], unfollowed := true, recurses := true, named := ["unicode/utf8.first", "unicode/utf8.acceptRanges", "internal/bytealg.MaxLen"], apart := false, laid := [("unicode/utf8.acceptRanges", laid_unicode_utf8_acceptRanges), ("unicode/utf8.first", laid_unicode_utf8_first)] }
def FnOverPlanSaid : Prop := fnOverPlanRow.holds Tryz.pinned (OpenSpec.ofChange fnOverPlanSpec)

/-- ITS FALSE NEIGHBOUR: 'it returns false'. Refute it at one input. -/
def fnOverPlanWrong : ChangeSpec := { name := "fnOverPlan", fn := fun _ => fun
  | [d1, d2] => { results := [.lit (.bool false)], args := [d1, d2] }
  | _ => none }
def FnOverPlanWrongFalsely : Prop := fnOverPlanRow.holds Tryz.pinned (OpenSpec.ofChange fnOverPlanWrong)

/-- 'laws.FnExactLogOver': WHATEVER THE INPUT: true; the input reads as it did. -/
def fnExactLogOverSpec : ChangeSpec := { name := "fnExactLogOver", fn := fun _ => fun
  | [d1, d2] => { results := [.lit (.bool true)], args := [d1, d2] }
  | _ => none }
def fnExactLogOverRow : OpenClaim := { program := "ytoaiplobfellaaagreatdoor", sum := "64b55ac5551fb5bc04cce6a9bc1eedf469bae45175500ec4894fa3ce79b0339b", func := "loop.example/pargeting/laws.FnExactLogOver", spec := "fnExactLogOver", inPlace := ["internal/bytealg.CountString", "internal/bytealg.IndexByteString", "internal/bytealg.IndexString", "internal/abi.NoEscape", "internal/bytealg.MakeNoZero"], unfollowed := true, recurses := true, named := ["unicode/utf8.first", "unicode/utf8.acceptRanges", "internal/bytealg.MaxLen"], apart := false, laid := [("unicode/utf8.acceptRanges", laid_unicode_utf8_acceptRanges), ("unicode/utf8.first", laid_unicode_utf8_first)] }
def FnExactLogOverSaid : Prop := fnExactLogOverRow.holds Tryz.pinned (OpenSpec.ofChange fnExactLogOverSpec)

/-- ITS FALSE NEIGHBOUR: 'it returns false'. Refute it at one input. -/
def fnExactLogOverWrong : ChangeSpec := { name := "fnExactLogOver", fn := fun _ => fun
  | [d1, d2] => { results := [.lit (.bool false)], args := [d1, d2] }
  | _ => none }
def FnExactLogOverWrongFalsely : Prop := fnExactLogOverRow.holds Tryz.pinned (OpenSpec.ofChange fnExactLogOverWrong)

/- THE SECOND FORM. 'bulk': how many values and letters a reading holds, each counted each time it is reached (what is shared counts as often as it is met; a slice's spare places count too). A statement '..UptoSaid' is the law's where the arguments, and the package variables that the reading takes, are together of bulk at most 1048576: NARROWER than '..Said'. Prove '..Said' where nothing that the law and all that it calls make is longer than what came in: it says more and counts as full. Else prove '..UptoSaid'. A law counts once. -/
mutual
def uptoBulk {H : Type} : DataW H → Nat
  | .lit (.string bytes) => bytes.length + 1
  | .lit _ => 1
  | .nil => 1
  | .ptr d => uptoBulk d + 1
  | .slice elems spare => uptoBulkAll elems + uptoBulkAll spare + 1
  | .agg parts => uptoBulkAll parts + 1
  | .iface _ d => uptoBulk d + 1
  | .map entries => uptoBulkEntries entries + 1
  | .held _ => 1
def uptoBulkAll {H : Type} : List (DataW H) → Nat
  | [] => 0
  | d :: r => uptoBulk d + uptoBulkAll r
def uptoBulkEntries {H : Type} : List (Lit × DataW H) → Nat
  | [] => 0
  | x :: r => uptoBulkEntry x + uptoBulkEntries r
def uptoBulkEntry {H : Type} : Lit × DataW H → Nat
  | (.string bytes, d) => bytes.length + uptoBulk d + 1
  | (_, d) => uptoBulk d + 1
 end
def uptoSmall : (H : Type) → List (DataW H) → Bool := fun _ ds => decide (uptoBulkAll ds ≤ 1048576)
def OpenSpec.upto (s : _root_.Go.ChangeSpec) : _root_.Go.OpenSpec := { _root_.Go.OpenSpec.ofChange s with cond := some uptoSmall }

/-- 'laws.FnExactOpBack', WHERE WHAT IT READS IS OF BULK AT MOST 1048576: true; the input reads as it did. -/
def fnExactOpBackUptoRow : OpenClaim := { program := "ytoaiplobfellaaagreatdoor", sum := "64b55ac5551fb5bc04cce6a9bc1eedf469bae45175500ec4894fa3ce79b0339b", func := "loop.example/pargeting/laws.FnExactOpBack", spec := "fnExactOpBack", inPlace := ["internal/bytealg.CountString", "internal/bytealg.IndexByteString", "internal/bytealg.IndexString", "internal/abi.NoEscape", "internal/bytealg.MakeNoZero"], unfollowed := true, recurses := true, named := ["unicode/utf8.first", "unicode/utf8.acceptRanges", "internal/bytealg.MaxLen"], apart := false, laid := [("unicode/utf8.acceptRanges", laid_unicode_utf8_acceptRanges), ("unicode/utf8.first", laid_unicode_utf8_first)], narrowed := true }
def FnExactOpBackUptoSaid : Prop := fnExactOpBackUptoRow.holds Tryz.pinned (OpenSpec.upto fnExactOpBackSpec)

/-- 'laws.FnLogDo', WHERE WHAT IT READS IS OF BULK AT MOST 1048576: true; the input reads as it did. -/
def fnLogDoUptoRow : OpenClaim := { program := "ytoaiplobfellaaagreatdoor", sum := "64b55ac5551fb5bc04cce6a9bc1eedf469bae45175500ec4894fa3ce79b0339b", func := "loop.example/pargeting/laws.FnLogDo", spec := "fnLogDo", inPlace := ["internal/bytealg.CountString", "internal/bytealg.IndexByteString", "internal/bytealg.IndexString", "internal/abi.NoEscape", "internal/bytealg.MakeNoZero"], unfollowed := true, recurses := true, named := ["unicode/utf8.first", "unicode/utf8.acceptRanges", "internal/bytealg.MaxLen"], apart := false, laid := [("unicode/utf8.acceptRanges", laid_unicode_utf8_acceptRanges), ("unicode/utf8.first", laid_unicode_utf8_first)], narrowed := true }
def FnLogDoUptoSaid : Prop := fnLogDoUptoRow.holds Tryz.pinned (OpenSpec.upto fnLogDoSpec)

/-- 'laws.FnOpBack', WHERE WHAT IT READS IS OF BULK AT MOST 1048576: true; the input reads as it did. -/
def fnOpBackUptoRow : OpenClaim := { program := "ytoaiplobfellaaagreatdoor", sum := "64b55ac5551fb5bc04cce6a9bc1eedf469bae45175500ec4894fa3ce79b0339b", func := "loop.example/pargeting/laws.FnOpBack", spec := "fnOpBack", inPlace := ["internal/bytealg.CountString", "internal/bytealg.IndexByteString", "internal/bytealg.IndexString", "internal/abi.NoEscape", "internal/bytealg.MakeNoZero"], unfollowed := true, recurses := true, named := ["unicode/utf8.first", "unicode/utf8.acceptRanges", "internal/bytealg.MaxLen"], apart := false, laid := [("unicode/utf8.acceptRanges", laid_unicode_utf8_acceptRanges), ("unicode/utf8.first", laid_unicode_utf8_first)], narrowed := true }
def FnOpBackUptoSaid : Prop := fnOpBackUptoRow.holds Tryz.pinned (OpenSpec.upto fnOpBackSpec)

/-- 'laws.FnLogClean', WHERE WHAT IT READS IS OF BULK AT MOST 1048576: true; the input reads as it did. -/
def fnLogCleanUptoRow : OpenClaim := { program := "ytoaiplobfellaaagreatdoor", sum := "64b55ac5551fb5bc04cce6a9bc1eedf469bae45175500ec4894fa3ce79b0339b", func := "loop.example/pargeting/laws.FnLogClean", spec := "fnLogClean", inPlace := ["internal/bytealg.CountString", "internal/bytealg.IndexByteString", "internal/bytealg.IndexString", "internal/abi.NoEscape", "internal/bytealg.MakeNoZero"], unfollowed := true, recurses := true, named := ["unicode/utf8.first", "unicode/utf8.acceptRanges", "internal/bytealg.MaxLen"], apart := false, laid := [("unicode/utf8.acceptRanges", laid_unicode_utf8_acceptRanges), ("unicode/utf8.first", laid_unicode_utf8_first)], narrowed := true }
def FnLogCleanUptoSaid : Prop := fnLogCleanUptoRow.holds Tryz.pinned (OpenSpec.upto fnLogCleanSpec)

/-- 'laws.FnLogTurned', WHERE WHAT IT READS IS OF BULK AT MOST 1048576: true; the input reads as it did. -/
def fnLogTurnedUptoRow : OpenClaim := { program := "ytoaiplobfellaaagreatdoor", sum := "64b55ac5551fb5bc04cce6a9bc1eedf469bae45175500ec4894fa3ce79b0339b", func := "loop.example/pargeting/laws.FnLogTurned", spec := "fnLogTurned", inPlace := ["internal/bytealg.CountString", "internal/bytealg.IndexByteString", "internal/bytealg.IndexString", "internal/abi.NoEscape", "internal/bytealg.MakeNoZero"], unfollowed := true, recurses := true, named := ["unicode/utf8.first", "unicode/utf8.acceptRanges", "internal/bytealg.MaxLen"], apart := false, laid := [("unicode/utf8.acceptRanges", laid_unicode_utf8_acceptRanges), ("unicode/utf8.first", laid_unicode_utf8_first)], narrowed := true }
def FnLogTurnedUptoSaid : Prop := fnLogTurnedUptoRow.holds Tryz.pinned (OpenSpec.upto fnLogTurnedSpec)

/-- 'laws.FnLogApart', WHERE WHAT IT READS IS OF BULK AT MOST 1048576: true; the input reads as it did. -/
def fnLogApartUptoRow : OpenClaim := { program := "ytoaiplobfellaaagreatdoor", sum := "64b55ac5551fb5bc04cce6a9bc1eedf469bae45175500ec4894fa3ce79b0339b", func := "loop.example/pargeting/laws.FnLogApart", spec := "fnLogApart", inPlace := ["internal/bytealg.CountString", "internal/bytealg.IndexByteString", "internal/bytealg.IndexString", "internal/abi.NoEscape", "internal/bytealg.MakeNoZero"], unfollowed := true, recurses := true, named := ["unicode/utf8.first", "unicode/utf8.acceptRanges", "internal/bytealg.MaxLen"], apart := false, laid := [("unicode/utf8.acceptRanges", laid_unicode_utf8_acceptRanges), ("unicode/utf8.first", laid_unicode_utf8_first)], narrowed := true }
def FnLogApartUptoSaid : Prop := fnLogApartUptoRow.holds Tryz.pinned (OpenSpec.upto fnLogApartSpec)

/-- 'laws.FnLogLast', WHERE WHAT IT READS IS OF BULK AT MOST 1048576: true; the input reads as it did. -/
def fnLogLastUptoRow : OpenClaim := { program := "ytoaiplobfellaaagreatdoor", sum := "64b55ac5551fb5bc04cce6a9bc1eedf469bae45175500ec4894fa3ce79b0339b", func := "loop.example/pargeting/laws.FnLogLast", spec := "fnLogLast", inPlace := ["internal/bytealg.CountString", "internal/bytealg.IndexByteString", "internal/bytealg.IndexString", "internal/abi.NoEscape", "internal/bytealg.MakeNoZero"], unfollowed := true, recurses := true, named := ["unicode/utf8.first", "unicode/utf8.acceptRanges", "internal/bytealg.MaxLen"], apart := false, laid := [("unicode/utf8.acceptRanges", laid_unicode_utf8_acceptRanges), ("unicode/utf8.first", laid_unicode_utf8_first)], narrowed := true }
def FnLogLastUptoSaid : Prop := fnLogLastUptoRow.holds Tryz.pinned (OpenSpec.upto fnLogLastSpec)

/-- 'laws.FnTextDo', WHERE WHAT IT READS IS OF BULK AT MOST 1048576: true; the input reads as it did. -/
def fnTextDoUptoRow : OpenClaim := { program := "ytoaiplobfellaaagreatdoor", sum := "64b55ac5551fb5bc04cce6a9bc1eedf469bae45175500ec4894fa3ce79b0339b", func := "loop.example/pargeting/laws.FnTextDo", spec := "fnTextDo", inPlace := ["internal/bytealg.CountString", "internal/bytealg.IndexByteString", "internal/bytealg.IndexString", "internal/abi.NoEscape", "internal/bytealg.MakeNoZero"], unfollowed := true, recurses := true, named := ["unicode/utf8.first", "unicode/utf8.acceptRanges", "internal/bytealg.MaxLen", "loop.example/pargeting/impl.opWords"], apart := false, laid := [("unicode/utf8.acceptRanges", laid_unicode_utf8_acceptRanges), ("loop.example/pargeting/impl.opWords", laid_loop_example_pargeting_impl_opWords), ("unicode/utf8.first", laid_unicode_utf8_first)], narrowed := true }
def FnTextDoUptoSaid : Prop := fnTextDoUptoRow.holds Tryz.pinned (OpenSpec.upto fnTextDoSpec)

/-- 'laws.FnExactLogClean', WHERE WHAT IT READS IS OF BULK AT MOST 1048576: true; the input reads as it did. -/
def fnExactLogCleanUptoRow : OpenClaim := { program := "ytoaiplobfellaaagreatdoor", sum := "64b55ac5551fb5bc04cce6a9bc1eedf469bae45175500ec4894fa3ce79b0339b", func := "loop.example/pargeting/laws.FnExactLogClean", spec := "fnExactLogClean", inPlace := ["internal/bytealg.CountString", "internal/bytealg.IndexByteString", "internal/bytealg.IndexString", "internal/abi.NoEscape", "internal/bytealg.MakeNoZero"], unfollowed := true, recurses := true, named := ["unicode/utf8.first", "unicode/utf8.acceptRanges", "internal/bytealg.MaxLen"], apart := false, laid := [("unicode/utf8.acceptRanges", laid_unicode_utf8_acceptRanges), ("unicode/utf8.first", laid_unicode_utf8_first)], narrowed := true }
def FnExactLogCleanUptoSaid : Prop := fnExactLogCleanUptoRow.holds Tryz.pinned (OpenSpec.upto fnExactLogCleanSpec)

/-- 'laws.FnLogBack', WHERE WHAT IT READS IS OF BULK AT MOST 1048576: true; the input reads as it did. -/
def fnLogBackUptoRow : OpenClaim := { program := "ytoaiplobfellaaagreatdoor", sum := "64b55ac5551fb5bc04cce6a9bc1eedf469bae45175500ec4894fa3ce79b0339b", func := "loop.example/pargeting/laws.FnLogBack", spec := "fnLogBack", inPlace := ["internal/bytealg.CountString", "internal/bytealg.IndexByteString", "internal/bytealg.IndexString", "internal/abi.NoEscape", "internal/bytealg.MakeNoZero"], unfollowed := true, recurses := true, named := ["unicode/utf8.first", "unicode/utf8.acceptRanges", "internal/bytealg.MaxLen"], apart := false, laid := [("unicode/utf8.acceptRanges", laid_unicode_utf8_acceptRanges), ("unicode/utf8.first", laid_unicode_utf8_first)], narrowed := true }
def FnLogBackUptoSaid : Prop := fnLogBackUptoRow.holds Tryz.pinned (OpenSpec.upto fnLogBackSpec)

/-- 'laws.FnExactLogDo', WHERE WHAT IT READS IS OF BULK AT MOST 1048576: true; the input reads as it did. -/
def fnExactLogDoUptoRow : OpenClaim := { program := "ytoaiplobfellaaagreatdoor", sum := "64b55ac5551fb5bc04cce6a9bc1eedf469bae45175500ec4894fa3ce79b0339b", func := "loop.example/pargeting/laws.FnExactLogDo", spec := "fnExactLogDo", inPlace := ["internal/bytealg.CountString", "internal/bytealg.IndexByteString", "internal/bytealg.IndexString", "internal/abi.NoEscape", "internal/bytealg.MakeNoZero"], unfollowed := true, recurses := true, named := ["unicode/utf8.first", "unicode/utf8.acceptRanges", "internal/bytealg.MaxLen"], apart := false, laid := [("unicode/utf8.acceptRanges", laid_unicode_utf8_acceptRanges), ("unicode/utf8.first", laid_unicode_utf8_first)], narrowed := true }
def FnExactLogDoUptoSaid : Prop := fnExactLogDoUptoRow.holds Tryz.pinned (OpenSpec.upto fnExactLogDoSpec)

/-- 'laws.FnExactLogBack', WHERE WHAT IT READS IS OF BULK AT MOST 1048576: true; the input reads as it did. -/
def fnExactLogBackUptoRow : OpenClaim := { program := "ytoaiplobfellaaagreatdoor", sum := "64b55ac5551fb5bc04cce6a9bc1eedf469bae45175500ec4894fa3ce79b0339b", func := "loop.example/pargeting/laws.FnExactLogBack", spec := "fnExactLogBack", inPlace := ["internal/bytealg.CountString", "internal/bytealg.IndexByteString", "internal/bytealg.IndexString", "internal/abi.NoEscape", "internal/bytealg.MakeNoZero"], unfollowed := true, recurses := true, named := ["unicode/utf8.first", "unicode/utf8.acceptRanges", "internal/bytealg.MaxLen"], apart := false, laid := [("unicode/utf8.acceptRanges", laid_unicode_utf8_acceptRanges), ("unicode/utf8.first", laid_unicode_utf8_first)], narrowed := true }
def FnExactLogBackUptoSaid : Prop := fnExactLogBackUptoRow.holds Tryz.pinned (OpenSpec.upto fnExactLogBackSpec)

/-- 'laws.FnMergeApart', WHERE WHAT IT READS IS OF BULK AT MOST 1048576: true; the input reads as it did. -/
def fnMergeApartUptoRow : OpenClaim := { program := "ytoaiplobfellaaagreatdoor", sum := "64b55ac5551fb5bc04cce6a9bc1eedf469bae45175500ec4894fa3ce79b0339b", func := "loop.example/pargeting/laws.FnMergeApart", spec := "fnMergeApart", inPlace := ["internal/bytealg.CountString", "internal/bytealg.IndexByteString", "internal/bytealg.IndexString", "internal/abi.NoEscape", "internal/bytealg.MakeNoZero"], unfollowed := true, recurses := true, named := ["unicode/utf8.first", "unicode/utf8.acceptRanges", "internal/bytealg.MaxLen"], apart := false, laid := [("unicode/utf8.acceptRanges", laid_unicode_utf8_acceptRanges), ("unicode/utf8.first", laid_unicode_utf8_first)], narrowed := true }
def FnMergeApartUptoSaid : Prop := fnMergeApartUptoRow.holds Tryz.pinned (OpenSpec.upto fnMergeApartSpec)

/-- 'laws.FnMergeLayer', WHERE WHAT IT READS IS OF BULK AT MOST 1048576: true; the input reads as it did. -/
def fnMergeLayerUptoRow : OpenClaim := { program := "ytoaiplobfellaaagreatdoor", sum := "64b55ac5551fb5bc04cce6a9bc1eedf469bae45175500ec4894fa3ce79b0339b", func := "loop.example/pargeting/laws.FnMergeLayer", spec := "fnMergeLayer", inPlace := ["internal/bytealg.CountString", "internal/bytealg.IndexByteString", "internal/bytealg.IndexString", "internal/abi.NoEscape", "internal/bytealg.MakeNoZero"], unfollowed := true, recurses := true, named := ["unicode/utf8.first", "unicode/utf8.acceptRanges", "internal/bytealg.MaxLen"], apart := false, laid := [("unicode/utf8.acceptRanges", laid_unicode_utf8_acceptRanges), ("unicode/utf8.first", laid_unicode_utf8_first)], narrowed := true }
def FnMergeLayerUptoSaid : Prop := fnMergeLayerUptoRow.holds Tryz.pinned (OpenSpec.upto fnMergeLayerSpec)

/-- 'laws.FnOverPlain', WHERE WHAT IT READS IS OF BULK AT MOST 1048576: true; the input reads as it did. -/
def fnOverPlainUptoRow : OpenClaim := { program := "ytoaiplobfellaaagreatdoor", sum := "64b55ac5551fb5bc04cce6a9bc1eedf469bae45175500ec4894fa3ce79b0339b", func := "loop.example/pargeting/laws.FnOverPlain", spec := "fnOverPlain", inPlace := ["internal/bytealg.CountString", "internal/bytealg.IndexByteString", "internal/bytealg.IndexString", "internal/abi.NoEscape", "internal/bytealg.MakeNoZero"], unfollowed := true, recurses := true, named := ["unicode/utf8.first", "unicode/utf8.acceptRanges", "internal/bytealg.MaxLen"], apart := false, laid := [("unicode/utf8.acceptRanges", laid_unicode_utf8_acceptRanges), ("unicode/utf8.first", laid_unicode_utf8_first)], narrowed := true }
def FnOverPlainUptoSaid : Prop := fnOverPlainUptoRow.holds Tryz.pinned (OpenSpec.upto fnOverPlainSpec)

/-- 'laws.FnLogOver', WHERE WHAT IT READS IS OF BULK AT MOST 1048576: true; the input reads as it did. -/
def fnLogOverUptoRow : OpenClaim := { program := "ytoaiplobfellaaagreatdoor", sum := "64b55ac5551fb5bc04cce6a9bc1eedf469bae45175500ec4894fa3ce79b0339b", func := "loop.example/pargeting/laws.FnLogOver", spec := "fnLogOver", inPlace := ["internal/bytealg.CountString", "internal/bytealg.IndexByteString", "internal/bytealg.IndexString", "internal/abi.NoEscape", "internal/bytealg.MakeNoZero"], unfollowed := true, recurses := true, named := ["unicode/utf8.first", "unicode/utf8.acceptRanges", "internal/bytealg.MaxLen"], apart := false, laid := [("unicode/utf8.acceptRanges", laid_unicode_utf8_acceptRanges), ("unicode/utf8.first", laid_unicode_utf8_first)], narrowed := true }
def FnLogOverUptoSaid : Prop := fnLogOverUptoRow.holds Tryz.pinned (OpenSpec.upto fnLogOverSpec)

/-- 'laws.FnOverPlan', WHERE WHAT IT READS IS OF BULK AT MOST 1048576: true; the input reads as it did. -/
def fnOverPlanUptoRow : OpenClaim := { program := "ytoaiplobfellaaagreatdoor", sum := "64b55ac5551fb5bc04cce6a9bc1eedf469bae45175500ec4894fa3ce79b0339b", func := "loop.example/pargeting/laws.FnOverPlan", spec := "fnOverPlan", inPlace := ["internal/bytealg.CountString", "internal/bytealg.IndexByteString", "internal/bytealg.IndexString", "internal/abi.NoEscape", "internal/bytealg.MakeNoZero"], unfollowed := true, recurses := true, named := ["unicode/utf8.first", "unicode/utf8.acceptRanges", "internal/bytealg.MaxLen"], apart := false, laid := [("unicode/utf8.acceptRanges", laid_unicode_utf8_acceptRanges), ("unicode/utf8.first", laid_unicode_utf8_first)], narrowed := true }
def FnOverPlanUptoSaid : Prop := fnOverPlanUptoRow.holds Tryz.pinned (OpenSpec.upto fnOverPlanSpec)

/-- 'laws.FnExactLogOver', WHERE WHAT IT READS IS OF BULK AT MOST 1048576: true; the input reads as it did. -/
def fnExactLogOverUptoRow : OpenClaim := { program := "ytoaiplobfellaaagreatdoor", sum := "64b55ac5551fb5bc04cce6a9bc1eedf469bae45175500ec4894fa3ce79b0339b", func := "loop.example/pargeting/laws.FnExactLogOver", spec := "fnExactLogOver", inPlace := ["internal/bytealg.CountString", "internal/bytealg.IndexByteString", "internal/bytealg.IndexString", "internal/abi.NoEscape", "internal/bytealg.MakeNoZero"], unfollowed := true, recurses := true, named := ["unicode/utf8.first", "unicode/utf8.acceptRanges", "internal/bytealg.MaxLen"], apart := false, laid := [("unicode/utf8.acceptRanges", laid_unicode_utf8_acceptRanges), ("unicode/utf8.first", laid_unicode_utf8_first)], narrowed := true }
def FnExactLogOverUptoSaid : Prop := fnExactLogOverUptoRow.holds Tryz.pinned (OpenSpec.upto fnExactLogOverSpec)

end Rows
end Go.Proofs.YtoaiplobfellaaaGreatDoor
