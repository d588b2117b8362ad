/- Facts of the program as a whole that every row of this seat asks for; each is a theorem of its own, so that the kernel's memory stays small: the words of the head are read off a list of signs, not off a string. -/
import Derived.Test.YtoaiplobfellaaaGreatDoorRK
import Derived.Test.YtoaiplobfellaaaGreatDoorTie
set_option linter.unusedSimpArgs false
set_option linter.unusedVariables false
set_option maxHeartbeats 1000000
set_option maxRecDepth 100000
namespace Go.Proofs.YtoaiplobfellaaaGreatDoor
open Go Go.RowKit
theorem joined_of {P : Program} {f : FuncId} {fn : Func} {s : ChangeSpec} {c : OpenClaim}
    (k1 : c.wf (OpenSpec.ofChange s) = true) (k2 : laidOutB P = true) (k3 : mapsRowed P = true) (k4 : fn.params.all (P.readableRec ·) = true) (k5 : namedTie P c.named s.vars = true)
    (k6 : (c.stops == []) = true) (k7 : (P.stops == []) = true) (k8 : (c.knobs == []) = true) (k9 : (P.stopKnobs == []) = true)
    (k10 : (c.inPlace == P.inPlace f) = true) (k11 : (c.unfollowed == P.unfollowed f) = true) (k12 : (c.recurses == P.recurses f) = true) (k13 : (c.named == P.varsNamed f) = true)
    (k14 : (c.maps == (fn.params.toList ++ s.plain.varTypes P).any (P.mapsRec ·)) = true) (k15 : (c.ifaces == (fn.params.toList ++ s.plain.varTypes P).any (P.ifacesRec ·)) = true) (k16 : (c.mapsOut == P.mapsAmong fn.resultTypes.toList) = true)
    (k17 : (c.loops == (fn.params.toList ++ s.plain.varTypes P).any (P.loopsFrom ·)) = true) (k18 : (c.wideKeys == (fn.params.toList ++ s.plain.varTypes P ++ fn.resultTypes.toList).any (P.wideKeysFrom ·)) = true)
    (k19 : s.vars.all (P.varReadable ·) = true) (k20 : fn.resultTypes.all (fun t => P.readableRec t && decide (t < P.types.size)) = true) (k21 : (c.ifacesOut == fn.resultTypes.toList.any (P.ifacesRec ·)) = true) (k22 : (c.loopsOut == fn.resultTypes.toList.any (P.loopsFrom ·)) = true) (k23 : (c.plainKeys == P.plainKeys) = true)
    (k24 : c.shortTexts.isNone = true) (k25 : P.stopsHeard = true) (k26 : P.mayEnter = true) (k27 : (c.lifted == P.liftsFinal) = true) (k28 : (P.make == some c.make) = true)
    (k29 : (c.kinds == (if c.domain.isEmpty then [] else fn.params.toList.map fun t => match P.underlying t with | some (.int k) => some k | _ => none)) = true) (k30 : (c.pinned == c.pinnedBy) = true)
    (k31 : (c.veiled == (fn.params.toList ++ s.plain.varTypes P ++ fn.resultTypes.toList).any (P.veiledRec ·)) = true) (k32 : c.veiledFits P fn.params.toList (fn.params.toList ++ s.plain.varTypes P ++ fn.resultTypes.toList) = true) : joinedFacts P f fn s c = true := by
  unfold joinedFacts
  simp only [Bool.and_eq_true]
  exact ⟨⟨⟨⟨⟨⟨⟨⟨⟨⟨⟨⟨⟨⟨⟨⟨⟨⟨⟨⟨⟨⟨⟨⟨⟨⟨⟨⟨⟨⟨⟨k1, k2⟩, k3⟩, k4⟩, k5⟩, k6⟩, k7⟩, k8⟩, k9⟩, k10⟩, k11⟩, k12⟩, k13⟩, k14⟩, k15⟩, k16⟩, k17⟩, k18⟩, k19⟩, k20⟩, k21⟩, k22⟩, k23⟩, k24⟩, k25⟩, k26⟩, k27⟩, k28⟩, k29⟩, k30⟩, k31⟩, k32⟩
def io0 : List Char := ['h', 'a', 'r', 'n', 'e', 's', 's', ' ', '4', 'e', 'b', 'b', 'f', '4', '1', '0', '0', '4', '8', '3', '0', '2', '0', 'd', '8', '1', 'e', 'b', 'f', '6', '6', 'f', '1', '0', 'b', '4', 'f', '2', '2', '9', 'b', 'd', '0', '3', '9', 'e', 'd', '8', 'f', '8', '0', '8', '1', 'd', '9', '6', '2', 'd', '7', 'd', '9', 'b', 'd', 'b', 'b', '0', 'd', '6', 'e', 'e', '2', '1', ' ', 'c', 'u', 't', ' ', 'a', 't', ' ', 'l', 'o', 'o', 'p', '.', 'e', 'x', 'a', 'm', 'p', 'l', 'e', '/', 'p', 'a', 'r', 'g', 'e', 't', 'i', 'n', 'g', '/', 'l', 'a', 'w', 's', '.', 'F', 'n', 'E', 'x', 'a', 'c', 't', 'O', 'p', 'B', 'a', 'c', 'k', ' ', 'l', 'o', 'o', 'p', '.', 'e', 'x', 'a', 'm', 'p', 'l', 'e', '/', 'p', 'a', 'r', 'g', 'e', 't', 'i', 'n', 'g', '/', 'l', 'a', 'w', 's', '.', 'F', 'n', 'L', 'o', 'g', 'D', 'o', ' ', 'l', 'o', 'o', 'p', '.', 'e', 'x', 'a', 'm', 'p', 'l', 'e', '/', 'p', 'a', 'r', 'g', 'e', 't', 'i', 'n', 'g', '/', 'l', 'a', 'w', 's', '.', 'F', 'n', 'O', 'p', 'B', 'a', 'c', 'k', ' ', 'l', 'o', 'o', 'p', '.', 'e', 'x', 'a', 'm', 'p', 'l', 'e', '/', 'p', 'a', 'r', 'g', 'e', 't', 'i', 'n', 'g', '/', 'l', 'a', 'w', 's', '.', 'F', 'n', 'L', 'o', 'g', 'C', 'l', 'e', 'a', 'n', ' ', 'l', 'o', 'o', 'p', '.', 'e', 'x', 'a', 'm', 'p', 'l', 'e', '/', 'p', 'a', 'r', 'g', 'e', 't', 'i', 'n', 'g', '/', 'l', 'a', 'w', 's', '.', 'F', 'n', 'L', 'o', 'g', 'T', 'u', 'r', 'n', 'e', 'd', ' ', 'l', 'o', 'o', 'p', '.', 'e', 'x', 'a', 'm', 'p', 'l', 'e', '/', 'p', 'a', 'r', 'g', 'e', 't', 'i', 'n', 'g', '/', 'l', 'a', 'w', 's', '.', 'F', 'n', 'L', 'o', 'g', 'A', 'p', 'a', 'r', 't', ' ', 'l', 'o', 'o', 'p', '.', 'e', 'x', 'a', 'm', 'p', 'l', 'e', '/', 'p', 'a', 'r', 'g', 'e', 't', 'i', 'n', 'g', '/', 'l', 'a', 'w', 's', '.', 'F', 'n', 'L', 'o', 'g', 'L', 'a', 's', 't', ' ', 'l', 'o', 'o', 'p', '.', 'e', 'x', 'a', 'm', 'p', 'l', 'e', '/', 'p', 'a', 'r', 'g', 'e', 't', 'i', 'n', 'g', '/', 'l', 'a', 'w', 's', '.', 'F', 'n', 'T', 'e', 'x', 't', 'D', 'o', ' ', 'l', 'o', 'o', 'p', '.', 'e', 'x', 'a', 'm', 'p', 'l', 'e', '/', 'p', 'a', 'r', 'g', 'e', 't', 'i', 'n', 'g', '/', 'l', 'a', 'w', 's', '.', 'F', 'n', 'E', 'x', 'a', 'c', 't', 'L', 'o', 'g', 'C', 'l', 'e', 'a', 'n', ' ', 'l', 'o', 'o', 'p', '.', 'e', 'x', 'a', 'm', 'p', 'l', 'e', '/', 'p', 'a', 'r', 'g', 'e', 't', 'i', 'n', 'g', '/', 'l', 'a', 'w', 's', '.', 'F', 'n', 'L', 'o', 'g', 'B', 'a', 'c', 'k', ' ', 'l', 'o', 'o', 'p', '.', 'e', 'x', 'a', 'm', 'p', 'l', 'e', '/', 'p', 'a', 'r', 'g', 'e', 't', 'i', 'n', 'g', '/', 'l', 'a', 'w', 's', '.', 'F', 'n', 'E', 'x', 'a', 'c', 't', 'L', 'o', 'g', 'D', 'o', ' ', 'l', 'o', 'o', 'p', '.', 'e', 'x', 'a', 'm', 'p', 'l', 'e', '/', 'p', 'a', 'r', 'g', 'e', 't', 'i', 'n', 'g', '/', 'l', 'a', 'w', 's', '.', 'F', 'n', 'E', 'x', 'a', 'c', 't', 'L', 'o', 'g', 'B', 'a', 'c', 'k', ' ', 'l', 'o', 'o', 'p', '.', 'e', 'x', 'a', 'm', 'p', 'l', 'e', '/', 'p', 'a', 'r', 'g', 'e', 't', 'i', 'n', 'g', '/', 'l', 'a', 'w', 's', '.', 'F', 'n', 'M', 'e', 'r', 'g', 'e', 'A', 'p', 'a', 'r', 't', ' ', 'l', 'o', 'o', 'p', '.', 'e', 'x', 'a', 'm', 'p', 'l', 'e', '/', 'p', 'a', 'r', 'g', 'e', 't', 'i', 'n', 'g', '/', 'l', 'a', 'w', 's', '.', 'F', 'n', 'M', 'e', 'r', 'g', 'e', 'L', 'a', 'y', 'e', 'r', ' ', 'l', 'o', 'o', 'p', '.', 'e', 'x', 'a', 'm', 'p', 'l', 'e', '/', 'p', 'a', 'r', 'g', 'e', 't', 'i', 'n', 'g', '/', 'l', 'a', 'w', 's', '.', 'F', 'n', 'O', 'v', 'e', 'r', 'P', 'l', 'a', 'i', 'n', ' ', 'l', 'o', 'o', 'p', '.', 'e', 'x', 'a', 'm', 'p', 'l', 'e', '/', 'p', 'a', 'r', 'g', 'e', 't', 'i', 'n', 'g', '/', 'l', 'a', 'w', 's', '.', 'F', 'n', 'L', 'o', 'g', 'O', 'v', 'e', 'r', ' ', 'l', 'o', 'o', 'p', '.', 'e', 'x', 'a', 'm', 'p', 'l', 'e', '/', 'p', 'a', 'r', 'g', 'e', 't', 'i', 'n', 'g', '/', 'l', 'a', 'w', 's', '.', 'F', 'n', 'O', 'v', 'e', 'r', 'P', 'l', 'a', 'n', ' ', 'l', 'o', 'o', 'p', '.', 'e', 'x', 'a', 'm', 'p', 'l', 'e', '/', 'p', 'a', 'r', 'g', 'e', 't', 'i', 'n', 'g', '/', 'l', 'a', 'w', 's', '.', 'F', 'n', 'E', 'x', 'a', 'c', 't', 'L', 'o', 'g', 'O', 'v', 'e', 'r']
def ioW : List (List Char) := [['h', 'a', 'r', 'n', 'e', 's', 's'], ['4', 'e', 'b', 'b', 'f', '4', '1', '0', '0', '4', '8', '3', '0', '2', '0', 'd', '8', '1', 'e', 'b', 'f', '6', '6', 'f', '1', '0', 'b', '4', 'f', '2', '2', '9', 'b', 'd', '0', '3', '9', 'e', 'd', '8', 'f', '8', '0', '8', '1', 'd', '9', '6', '2', 'd', '7', 'd', '9', 'b', 'd', 'b', 'b', '0', 'd', '6', 'e', 'e', '2', '1'], ['c', 'u', 't'], ['a', 't'], ['l', 'o', 'o', 'p', '.', 'e', 'x', 'a', 'm', 'p', 'l', 'e', '/', 'p', 'a', 'r', 'g', 'e', 't', 'i', 'n', 'g', '/', 'l', 'a', 'w', 's', '.', 'F', 'n', 'E', 'x', 'a', 'c', 't', 'O', 'p', 'B', 'a', 'c', 'k'], ['l', 'o', 'o', 'p', '.', 'e', 'x', 'a', 'm', 'p', 'l', 'e', '/', 'p', 'a', 'r', 'g', 'e', 't', 'i', 'n', 'g', '/', 'l', 'a', 'w', 's', '.', 'F', 'n', 'L', 'o', 'g', 'D', 'o'], ['l', 'o', 'o', 'p', '.', 'e', 'x', 'a', 'm', 'p', 'l', 'e', '/', 'p', 'a', 'r', 'g', 'e', 't', 'i', 'n', 'g', '/', 'l', 'a', 'w', 's', '.', 'F', 'n', 'O', 'p', 'B', 'a', 'c', 'k'], ['l', 'o', 'o', 'p', '.', 'e', 'x', 'a', 'm', 'p', 'l', 'e', '/', 'p', 'a', 'r', 'g', 'e', 't', 'i', 'n', 'g', '/', 'l', 'a', 'w', 's', '.', 'F', 'n', 'L', 'o', 'g', 'C', 'l', 'e', 'a', 'n'], ['l', 'o', 'o', 'p', '.', 'e', 'x', 'a', 'm', 'p', 'l', 'e', '/', 'p', 'a', 'r', 'g', 'e', 't', 'i', 'n', 'g', '/', 'l', 'a', 'w', 's', '.', 'F', 'n', 'L', 'o', 'g', 'T', 'u', 'r', 'n', 'e', 'd'], ['l', 'o', 'o', 'p', '.', 'e', 'x', 'a', 'm', 'p', 'l', 'e', '/', 'p', 'a', 'r', 'g', 'e', 't', 'i', 'n', 'g', '/', 'l', 'a', 'w', 's', '.', 'F', 'n', 'L', 'o', 'g', 'A', 'p', 'a', 'r', 't'], ['l', 'o', 'o', 'p', '.', 'e', 'x', 'a', 'm', 'p', 'l', 'e', '/', 'p', 'a', 'r', 'g', 'e', 't', 'i', 'n', 'g', '/', 'l', 'a', 'w', 's', '.', 'F', 'n', 'L', 'o', 'g', 'L', 'a', 's', 't'], ['l', 'o', 'o', 'p', '.', 'e', 'x', 'a', 'm', 'p', 'l', 'e', '/', 'p', 'a', 'r', 'g', 'e', 't', 'i', 'n', 'g', '/', 'l', 'a', 'w', 's', '.', 'F', 'n', 'T', 'e', 'x', 't', 'D', 'o'], ['l', 'o', 'o', 'p', '.', 'e', 'x', 'a', 'm', 'p', 'l', 'e', '/', 'p', 'a', 'r', 'g', 'e', 't', 'i', 'n', 'g', '/', 'l', 'a', 'w', 's', '.', 'F', 'n', 'E', 'x', 'a', 'c', 't', 'L', 'o', 'g', 'C', 'l', 'e', 'a', 'n'], ['l', 'o', 'o', 'p', '.', 'e', 'x', 'a', 'm', 'p', 'l', 'e', '/', 'p', 'a', 'r', 'g', 'e', 't', 'i', 'n', 'g', '/', 'l', 'a', 'w', 's', '.', 'F', 'n', 'L', 'o', 'g', 'B', 'a', 'c', 'k'], ['l', 'o', 'o', 'p', '.', 'e', 'x', 'a', 'm', 'p', 'l', 'e', '/', 'p', 'a', 'r', 'g', 'e', 't', 'i', 'n', 'g', '/', 'l', 'a', 'w', 's', '.', 'F', 'n', 'E', 'x', 'a', 'c', 't', 'L', 'o', 'g', 'D', 'o'], ['l', 'o', 'o', 'p', '.', 'e', 'x', 'a', 'm', 'p', 'l', 'e', '/', 'p', 'a', 'r', 'g', 'e', 't', 'i', 'n', 'g', '/', 'l', 'a', 'w', 's', '.', 'F', 'n', 'E', 'x', 'a', 'c', 't', 'L', 'o', 'g', 'B', 'a', 'c', 'k'], ['l', 'o', 'o', 'p', '.', 'e', 'x', 'a', 'm', 'p', 'l', 'e', '/', 'p', 'a', 'r', 'g', 'e', 't', 'i', 'n', 'g', '/', 'l', 'a', 'w', 's', '.', 'F', 'n', 'M', 'e', 'r', 'g', 'e', 'A', 'p', 'a', 'r', 't'], ['l', 'o', 'o', 'p', '.', 'e', 'x', 'a', 'm', 'p', 'l', 'e', '/', 'p', 'a', 'r', 'g', 'e', 't', 'i', 'n', 'g', '/', 'l', 'a', 'w', 's', '.', 'F', 'n', 'M', 'e', 'r', 'g', 'e', 'L', 'a', 'y', 'e', 'r'], ['l', 'o', 'o', 'p', '.', 'e', 'x', 'a', 'm', 'p', 'l', 'e', '/', 'p', 'a', 'r', 'g', 'e', 't', 'i', 'n', 'g', '/', 'l', 'a', 'w', 's', '.', 'F', 'n', 'O', 'v', 'e', 'r', 'P', 'l', 'a', 'i', 'n'], ['l', 'o', 'o', 'p', '.', 'e', 'x', 'a', 'm', 'p', 'l', 'e', '/', 'p', 'a', 'r', 'g', 'e', 't', 'i', 'n', 'g', '/', 'l', 'a', 'w', 's', '.', 'F', 'n', 'L', 'o', 'g', 'O', 'v', 'e', 'r'], ['l', 'o', 'o', 'p', '.', 'e', 'x', 'a', 'm', 'p', 'l', 'e', '/', 'p', 'a', 'r', 'g', 'e', 't', 'i', 'n', 'g', '/', 'l', 'a', 'w', 's', '.', 'F', 'n', 'O', 'v', 'e', 'r', 'P', 'l', 'a', 'n'], ['l', 'o', 'o', 'p', '.', 'e', 'x', 'a', 'm', 'p', 'l', 'e', '/', 'p', 'a', 'r', 'g', 'e', 't', 'i', 'n', 'g', '/', 'l', 'a', 'w', 's', '.', 'F', 'n', 'E', 'x', 'a', 'c', 't', 'L', 'o', 'g', 'O', 'v', 'e', 'r']]
def ioR : List (List Char) := ioW.drop 3
theorem io_text : Tryz.prog.initOrder = String.ofList io0 := by kernel_rfl
theorem io_signs : wordsSigns Tryz.prog.initOrder.toList = ioW := by
  rw [io_text, String.toList_ofList]
  kernel_rfl
theorem io_behind : behindMainWord (wordsSigns Tryz.prog.initOrder.toList) = ['c', 'u', 't'] :: ioR := by
  rw [io_signs]
  kernel_rfl
theorem io_strip : stripLifts liftWords (['c', 'u', 't'] :: ioR) = ([], ['c', 'u', 't'] :: ioR) := by kernel_rfl
theorem later0 : Tryz.prog.laysLater = false := by kernel_rfl
theorem reflect0 : Tryz.prog.bearsReflect = false := by kernel_rfl
theorem door0 : Tryz.prog.doorFits [] = true := by kernel_rfl
theorem may0 : Tryz.prog.mayEnter = true := by
  unfold Program.mayEnter
  rw [io_behind]
  simp only [io_strip, later0, reflect0, door0]
  kernel_rfl
theorem headLifts0 : Tryz.prog.headLifts = [] := by
  unfold Program.headLifts
  rw [io_behind, io_strip]
  kernel_rfl
theorem lifts0 : Tryz.prog.liftsFinal = false := by
  unfold Program.liftsFinal
  rw [io_behind, headLifts0]
  kernel_rfl
theorem make0 : Tryz.prog.make = some .cut := by
  unfold Program.make
  rw [io_behind]
  simp only [headLifts0]
  kernel_rfl
theorem mainIs0 : Tryz.prog.mainIs = some (true, ['4', 'e', 'b', 'b', 'f', '4', '1', '0', '0', '4', '8', '3', '0', '2', '0', 'd', '8', '1', 'e', 'b', 'f', '6', '6', 'f', '1', '0', 'b', '4', 'f', '2', '2', '9', 'b', 'd', '0', '3', '9', 'e', 'd', '8', 'f', '8', '0', '8', '1', 'd', '9', '6', '2', 'd', '7', 'd', '9', 'b', 'd', 'b', 'b', '0', 'd', '6', 'e', 'e', '2', '1']) := by
  unfold Program.mainIs
  rw [io_signs]
  kernel_rfl
theorem rowed0 : mapsRowed Tryz.prog = true := by kernel_rfl
theorem plainKeys0 : Tryz.prog.plainKeys = true := by kernel_rfl
theorem heard0 : Tryz.prog.stopsHeard = true := by kernel_rfl
theorem stops0 : Tryz.prog.stops = [] := by kernel_rfl
theorem knobs0 : Tryz.prog.stopKnobs = [] := by kernel_rfl
theorem looks0 : Tryz.prog.looks [] = false := by kernel_rfl
theorem noneGoes : Tryz.prog.funcs.any Func.goes = false := by kernel_rfl
theorem goes0 (c : OpenClaim) (h : c.start = .entering) : false = c.goesBy Tryz.prog := by
  unfold OpenClaim.goesBy Program.goesAt Program.goesFrom Program.goes
  rw [h, noneGoes]
  have : ∀ f, ((Tryz.prog.closure f).any fun g => (Tryz.prog.funcs[g]?).any Func.goes) = false := fun f => by
    rw [List.any_eq_false]
    intro g _
    cases hg : Tryz.prog.funcs[g]? with
    | none => simp
    | some fn =>
      have hm := Array.mem_of_getElem? hg
      have := Array.any_eq_false'.1 noneGoes fn hm
      simpa using this
  cases Tryz.prog.funcNamed c.func with
  | none => rfl
  | some f => simp [this f]
end Go.Proofs.YtoaiplobfellaaaGreatDoor
