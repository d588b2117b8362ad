/- Facts of the program as a whole that every row of this seat asks for; each is a theorem of its own, so that the kernel's memory stays small: the words of the head are read off a list of signs, not off a string. -/
import Derived.Test.YtoaiplobfellaaaGreatDoorK
import Derived.Test.YtoaiplobfellaaaGreatDoorTie
set_option linter.unusedSimpArgs false
set_option linter.unusedVariables false
set_option maxHeartbeats 1000000
set_option maxRecDepth 100000
namespace Go.Proofs.YtoaiplobfellaaaGreatDoor
open Go Go.RowKit
theorem joined_of {P : Program} {f : FuncId} {fn : Func} {s : ChangeSpec} {c : OpenClaim}
    (k1 : c.wf (OpenSpec.ofChange s) = true) (k2 : laidOutB P = true) (k3 : mapsRowed P = true) (k4 : fn.params.all (P.readableRec ·) = true) (k5 : namedTie P c.named s.vars = true)
    (k6 : (c.stops == []) = true) (k7 : (P.stops == []) = true) (k8 : (c.knobs == []) = true) (k9 : (P.stopKnobs == []) = true)
    (k10 : (c.inPlace == P.inPlace f) = true) (k11 : (c.unfollowed == P.unfollowed f) = true) (k12 : (c.recurses == P.recurses f) = true) (k13 : (c.named == P.varsNamed f) = true)
    (k14 : (c.maps == (fn.params.toList ++ s.plain.varTypes P).any (P.mapsRec ·)) = true) (k15 : (c.ifaces == (fn.params.toList ++ s.plain.varTypes P).any (P.ifacesRec ·)) = true) (k16 : (c.mapsOut == P.mapsAmong fn.resultTypes.toList) = true)
    (k17 : (c.loops == (fn.params.toList ++ s.plain.varTypes P).any (P.loopsFrom ·)) = true) (k18 : (c.wideKeys == (fn.params.toList ++ s.plain.varTypes P ++ fn.resultTypes.toList).any (P.wideKeysFrom ·)) = true)
    (k19 : s.vars.all (P.varReadable ·) = true) (k20 : fn.resultTypes.all (fun t => P.readableRec t && decide (t < P.types.size)) = true) (k21 : (c.ifacesOut == fn.resultTypes.toList.any (P.ifacesRec ·)) = true) (k22 : (c.loopsOut == fn.resultTypes.toList.any (P.loopsFrom ·)) = true) (k23 : (c.plainKeys == P.plainKeys) = true)
    (k24 : c.shortTexts.isNone = true) (k25 : P.stopsHeard = true) (k26 : P.mayEnter = true) (k27 : (c.lifted == P.liftsFinal) = true) (k28 : (P.make == some c.make) = true)
    (k29 : (c.kinds == (if c.domain.isEmpty then [] else fn.params.toList.map fun t => match P.underlying t with | some (.int k) => some k | _ => none)) = true) (k30 : (c.pinned == c.pinnedBy) = true)
    (k31 : (c.veiled == (fn.params.toList ++ s.plain.varTypes P ++ fn.resultTypes.toList).any (P.veiledRec ·)) = true) (k32 : c.veiledFits P fn.params.toList (fn.params.toList ++ s.plain.varTypes P ++ fn.resultTypes.toList) = true) : joinedFacts P f fn s c = true := by
  unfold joinedFacts
  simp only [Bool.and_eq_true]
  exact ⟨⟨⟨⟨⟨⟨⟨⟨⟨⟨⟨⟨⟨⟨⟨⟨⟨⟨⟨⟨⟨⟨⟨⟨⟨⟨⟨⟨⟨⟨⟨k1, k2⟩, k3⟩, k4⟩, k5⟩, k6⟩, k7⟩, k8⟩, k9⟩, k10⟩, k11⟩, k12⟩, k13⟩, k14⟩, k15⟩, k16⟩, k17⟩, k18⟩, k19⟩, k20⟩, k21⟩, k22⟩, k23⟩, k24⟩, k25⟩, k26⟩, k27⟩, k28⟩, k29⟩, k30⟩, k31⟩, k32⟩
def io0 : List Char := (List.map Char.ofNat [104, 97, 114, 110, 101, 115, 115, 32, 52, 101, 98, 98, 102, 52, 49, 48, 48, 52, 56, 51, 48, 50, 48, 100, 56, 49, 101, 98, 102, 54, 54, 102, 49, 48, 98, 52, 102, 50, 50, 57, 98, 100, 48, 51, 57, 101, 100, 56, 102, 56, 48, 56, 49, 100, 57, 54, 50, 100, 55, 100, 57, 98, 100, 98, 98, 48, 100, 54, 101, 101, 50, 49, 32, 99, 117, 116, 32, 97, 116, 32, 108, 111, 111, 112, 46, 101, 120, 97, 109, 112, 108, 101, 47, 112, 97, 114, 103, 101, 116, 105, 110, 103, 47, 108, 97, 119, 115, 46, 70, 110, 69, 120, 97, 99, 116, 79, 112, 66, 97, 99, 107, 32, 108, 111, 111, 112, 46, 101, 120, 97, 109, 112, 108, 101, 47, 112, 97, 114, 103, 101, 116, 105, 110, 103, 47, 108, 97, 119, 115, 46, 70, 110, 76, 111, 103, 68, 111, 32, 108, 111, 111, 112, 46, 101, 120, 97, 109, 112, 108, 101, 47, 112, 97, 114, 103, 101, 116, 105, 110, 103, 47, 108, 97, 119, 115, 46, 70, 110, 79, 112, 66, 97, 99, 107, 32, 108, 111, 111, 112, 46, 101, 120, 97, 109, 112, 108, 101, 47, 112, 97, 114, 103, 101, 116, 105, 110, 103, 47, 108, 97, 119, 115, 46, 70, 110, 76, 111, 103, 67, 108, 101, 97, 110, 32, 108, 111, 111, 112, 46, 101, 120, 97, 109, 112, 108, 101, 47, 112, 97, 114, 103, 101, 116, 105, 110, 103, 47, 108, 97, 119, 115, 46, 70, 110, 76, 111, 103, 84, 117, 114, 110, 101, 100, 32, 108, 111, 111, 112, 46, 101, 120, 97, 109, 112, 108, 101, 47, 112, 97, 114, 103, 101, 116, 105, 110, 103, 47, 108, 97, 119, 115, 46, 70, 110, 76, 111, 103, 65, 112, 97, 114, 116, 32, 108, 111, 111, 112, 46, 101, 120, 97, 109, 112, 108, 101, 47, 112, 97, 114, 103, 101, 116, 105, 110, 103, 47, 108, 97, 119, 115, 46, 70, 110, 76, 111, 103, 76, 97, 115, 116, 32, 108, 111, 111, 112, 46, 101, 120, 97, 109, 112, 108, 101, 47, 112, 97, 114, 103, 101, 116, 105, 110, 103, 47, 108, 97, 119, 115, 46, 70, 110, 84, 101, 120, 116, 68, 111, 32, 108, 111, 111, 112, 46, 101, 120, 97, 109, 112, 108, 101, 47, 112, 97, 114, 103, 101, 116, 105, 110, 103, 47, 108, 97, 119, 115, 46, 70, 110, 69, 120, 97, 99, 116, 76, 111, 103, 67, 108, 101, 97, 110, 32, 108, 111, 111, 112, 46, 101, 120, 97, 109, 112, 108, 101, 47, 112, 97, 114, 103, 101, 116, 105, 110, 103, 47, 108, 97, 119, 115, 46, 70, 110, 76, 111, 103, 66, 97, 99, 107, 32, 108, 111, 111, 112, 46, 101, 120, 97, 109, 112, 108, 101, 47, 112, 97, 114, 103, 101, 116, 105, 110, 103, 47, 108, 97, 119, 115, 46, 70, 110, 69, 120, 97, 99, 116, 76, 111, 103, 68, 111, 32, 108, 111, 111, 112, 46, 101, 120, 97, 109, 112, 108, 101, 47, 112, 97, 114, 103, 101, 116, 105, 110, 103, 47, 108, 97, 119, 115, 46, 70, 110, 69, 120, 97, 99, 116, 76, 111, 103, 66, 97, 99, 107, 32, 108, 111, 111, 112, 46, 101, 120, 97, 109, 112, 108, 101, 47, 112, 97, 114, 103, 101, 116, 105, 110, 103, 47, 108, 97, 119, 115, 46, 70, 110, 77, 101, 114, 103, 101, 65, 112, 97, 114, 116, 32, 108, 111, 111, 112, 46, 101, 120, 97, 109, 112, 108, 101, 47, 112, 97, 114, 103, 101, 116, 105, 110, 103, 47, 108, 97, 119, 115, 46, 70, 110, 77, 101, 114, 103, 101, 76, 97, 121, 101, 114, 32, 108, 111, 111, 112, 46, 101, 120, 97, 109, 112, 108, 101, 47, 112, 97, 114, 103, 101, 116, 105, 110, 103, 47, 108, 97, 119, 115, 46, 70, 110, 79, 118, 101, 114, 80, 108, 97, 105, 110, 32, 108, 111, 111, 112, 46, 101, 120, 97, 109, 112, 108, 101, 47, 112, 97, 114, 103, 101, 116, 105, 110, 103, 47, 108, 97, 119, 115, 46, 70, 110, 76, 111, 103, 79, 118, 101, 114, 32, 108, 111, 111, 112, 46, 101, 120, 97, 109, 112, 108, 101, 47, 112, 97, 114, 103, 101, 116, 105, 110, 103, 47, 108, 97, 119, 115, 46, 70, 110, 79, 118, 101, 114, 80, 108, 97, 110, 32, 108, 111, 111, 112, 46, 101, 120, 97, 109, 112, 108, 101, 47, 112, 97, 114, 103, 101, 116, 105, 110, 103, 47, 108, 97, 119, 115, 46, 70, 110, 69, 120, 97, 99, 116, 76, 111, 103, 79, 118, 101, 114])
def ioW : List (List Char) := [(List.map Char.ofNat [104, 97, 114, 110, 101, 115, 115]), (List.map Char.ofNat [52, 101, 98, 98, 102, 52, 49, 48, 48, 52, 56, 51, 48, 50, 48, 100, 56, 49, 101, 98, 102, 54, 54, 102, 49, 48, 98, 52, 102, 50, 50, 57, 98, 100, 48, 51, 57, 101, 100, 56, 102, 56, 48, 56, 49, 100, 57, 54, 50, 100, 55, 100, 57, 98, 100, 98, 98, 48, 100, 54, 101, 101, 50, 49]), (List.map Char.ofNat [99, 117, 116]), (List.map Char.ofNat [97, 116]), (List.map Char.ofNat [108, 111, 111, 112, 46, 101, 120, 97, 109, 112, 108, 101, 47, 112, 97, 114, 103, 101, 116, 105, 110, 103, 47, 108, 97, 119, 115, 46, 70, 110, 69, 120, 97, 99, 116, 79, 112, 66, 97, 99, 107]), (List.map Char.ofNat [108, 111, 111, 112, 46, 101, 120, 97, 109, 112, 108, 101, 47, 112, 97, 114, 103, 101, 116, 105, 110, 103, 47, 108, 97, 119, 115, 46, 70, 110, 76, 111, 103, 68, 111]), (List.map Char.ofNat [108, 111, 111, 112, 46, 101, 120, 97, 109, 112, 108, 101, 47, 112, 97, 114, 103, 101, 116, 105, 110, 103, 47, 108, 97, 119, 115, 46, 70, 110, 79, 112, 66, 97, 99, 107]), (List.map Char.ofNat [108, 111, 111, 112, 46, 101, 120, 97, 109, 112, 108, 101, 47, 112, 97, 114, 103, 101, 116, 105, 110, 103, 47, 108, 97, 119, 115, 46, 70, 110, 76, 111, 103, 67, 108, 101, 97, 110]), (List.map Char.ofNat [108, 111, 111, 112, 46, 101, 120, 97, 109, 112, 108, 101, 47, 112, 97, 114, 103, 101, 116, 105, 110, 103, 47, 108, 97, 119, 115, 46, 70, 110, 76, 111, 103, 84, 117, 114, 110, 101, 100]), (List.map Char.ofNat [108, 111, 111, 112, 46, 101, 120, 97, 109, 112, 108, 101, 47, 112, 97, 114, 103, 101, 116, 105, 110, 103, 47, 108, 97, 119, 115, 46, 70, 110, 76, 111, 103, 65, 112, 97, 114, 116]), (List.map Char.ofNat [108, 111, 111, 112, 46, 101, 120, 97, 109, 112, 108, 101, 47, 112, 97, 114, 103, 101, 116, 105, 110, 103, 47, 108, 97, 119, 115, 46, 70, 110, 76, 111, 103, 76, 97, 115, 116]), (List.map Char.ofNat [108, 111, 111, 112, 46, 101, 120, 97, 109, 112, 108, 101, 47, 112, 97, 114, 103, 101, 116, 105, 110, 103, 47, 108, 97, 119, 115, 46, 70, 110, 84, 101, 120, 116, 68, 111]), (List.map Char.ofNat [108, 111, 111, 112, 46, 101, 120, 97, 109, 112, 108, 101, 47, 112, 97, 114, 103, 101, 116, 105, 110, 103, 47, 108, 97, 119, 115, 46, 70, 110, 69, 120, 97, 99, 116, 76, 111, 103, 67, 108, 101, 97, 110]), (List.map Char.ofNat [108, 111, 111, 112, 46, 101, 120, 97, 109, 112, 108, 101, 47, 112, 97, 114, 103, 101, 116, 105, 110, 103, 47, 108, 97, 119, 115, 46, 70, 110, 76, 111, 103, 66, 97, 99, 107]), (List.map Char.ofNat [108, 111, 111, 112, 46, 101, 120, 97, 109, 112, 108, 101, 47, 112, 97, 114, 103, 101, 116, 105, 110, 103, 47, 108, 97, 119, 115, 46, 70, 110, 69, 120, 97, 99, 116, 76, 111, 103, 68, 111]), (List.map Char.ofNat [108, 111, 111, 112, 46, 101, 120, 97, 109, 112, 108, 101, 47, 112, 97, 114, 103, 101, 116, 105, 110, 103, 47, 108, 97, 119, 115, 46, 70, 110, 69, 120, 97, 99, 116, 76, 111, 103, 66, 97, 99, 107]), (List.map Char.ofNat [108, 111, 111, 112, 46, 101, 120, 97, 109, 112, 108, 101, 47, 112, 97, 114, 103, 101, 116, 105, 110, 103, 47, 108, 97, 119, 115, 46, 70, 110, 77, 101, 114, 103, 101, 65, 112, 97, 114, 116]), (List.map Char.ofNat [108, 111, 111, 112, 46, 101, 120, 97, 109, 112, 108, 101, 47, 112, 97, 114, 103, 101, 116, 105, 110, 103, 47, 108, 97, 119, 115, 46, 70, 110, 77, 101, 114, 103, 101, 76, 97, 121, 101, 114]), (List.map Char.ofNat [108, 111, 111, 112, 46, 101, 120, 97, 109, 112, 108, 101, 47, 112, 97, 114, 103, 101, 116, 105, 110, 103, 47, 108, 97, 119, 115, 46, 70, 110, 79, 118, 101, 114, 80, 108, 97, 105, 110]), (List.map Char.ofNat [108, 111, 111, 112, 46, 101, 120, 97, 109, 112, 108, 101, 47, 112, 97, 114, 103, 101, 116, 105, 110, 103, 47, 108, 97, 119, 115, 46, 70, 110, 76, 111, 103, 79, 118, 101, 114]), (List.map Char.ofNat [108, 111, 111, 112, 46, 101, 120, 97, 109, 112, 108, 101, 47, 112, 97, 114, 103, 101, 116, 105, 110, 103, 47, 108, 97, 119, 115, 46, 70, 110, 79, 118, 101, 114, 80, 108, 97, 110]), (List.map Char.ofNat [108, 111, 111, 112, 46, 101, 120, 97, 109, 112, 108, 101, 47, 112, 97, 114, 103, 101, 116, 105, 110, 103, 47, 108, 97, 119, 115, 46, 70, 110, 69, 120, 97, 99, 116, 76, 111, 103, 79, 118, 101, 114])]
def ioR : List (List Char) := ioW.drop 3
def cut0 : List Char := List.map Char.ofNat [99, 117, 116]
theorem signs_of {P : Program} {l : List Char} (h : P.initOrder = String.ofList l) : wordsSigns P.initOrder.toList = wordsSigns l := by rw [h, String.toList_ofList]
theorem strip_cut (r : List (List Char)) : stripLifts liftWords (cut0 :: r) = ([], cut0 :: r) := by rfl
theorem may_of {P : Program} {r : List (List Char)} (h : behindMainWord (wordsSigns P.initOrder.toList) = cut0 :: r) (a : P.laysLater = false) (b : P.bearsReflect = false) (d : P.doorFits [] = true) : P.mayEnter = true := by
  unfold Program.mayEnter
  rw [h]
  simp only [strip_cut, a, b, d]
  rfl
theorem head_of {P : Program} {r : List (List Char)} (h : behindMainWord (wordsSigns P.initOrder.toList) = cut0 :: r) : P.headLifts = [] := by
  unfold Program.headLifts
  rw [h, strip_cut]
  rfl
theorem lifts_of {P : Program} {r : List (List Char)} (h : behindMainWord (wordsSigns P.initOrder.toList) = cut0 :: r) : P.liftsFinal = false := by
  unfold Program.liftsFinal
  rw [h, head_of h]
  rfl
theorem make_of {P : Program} {r : List (List Char)} (h : behindMainWord (wordsSigns P.initOrder.toList) = cut0 :: r) : P.make = some .cut := by
  unfold Program.make
  rw [h]
  simp only [head_of h]
  rfl
theorem mainIs_of {P : Program} {a s : List Char} {r : List (List Char)} (h : wordsSigns P.initOrder.toList = a :: s :: r) (k : isSumSigns s = true) (k2 : (a == "harness".toList) = true) : P.mainIs = some (true, s) := by
  unfold Program.mainIs
  rw [h]
  simp only [k, k2]
  rfl
theorem io_text : Tryz.prog.initOrder = String.ofList io0 := by kernel_rfl
theorem io_signs : wordsSigns Tryz.prog.initOrder.toList = ioW := (signs_of io_text).trans (by kernel_rfl)
theorem io_behind : behindMainWord (wordsSigns Tryz.prog.initOrder.toList) = cut0 :: ioR := (congrArg behindMainWord io_signs).trans (by kernel_rfl)
theorem later0 : Tryz.prog.laysLater = false := by kernel_rfl
theorem reflect0 : Tryz.prog.bearsReflect = false := by kernel_rfl
theorem door0 : Tryz.prog.doorFits [] = true := by kernel_rfl
theorem may0 : Tryz.prog.mayEnter = true := may_of io_behind later0 reflect0 door0
theorem headLifts0 : Tryz.prog.headLifts = [] := head_of io_behind
theorem lifts0 : Tryz.prog.liftsFinal = false := lifts_of io_behind
theorem make0 : Tryz.prog.make = some .cut := make_of io_behind
theorem mainIs0 : Tryz.prog.mainIs = some (true, (List.map Char.ofNat [52, 101, 98, 98, 102, 52, 49, 48, 48, 52, 56, 51, 48, 50, 48, 100, 56, 49, 101, 98, 102, 54, 54, 102, 49, 48, 98, 52, 102, 50, 50, 57, 98, 100, 48, 51, 57, 101, 100, 56, 102, 56, 48, 56, 49, 100, 57, 54, 50, 100, 55, 100, 57, 98, 100, 98, 98, 48, 100, 54, 101, 101, 50, 49])) := mainIs_of (r := ioW.drop 2) (a := ioW.headD []) (io_signs.trans (by kernel_rfl)) (by kernel_rfl) (by kernel_rfl)
theorem rowed0 : mapsRowed Tryz.prog = true := by kernel_rfl
theorem plainKeys0 : Tryz.prog.plainKeys = true := by kernel_rfl
theorem heard0 : Tryz.prog.stopsHeard = true := by kernel_rfl
theorem stops0 : Tryz.prog.stops = [] := by kernel_rfl
theorem knobs0 : Tryz.prog.stopKnobs = [] := by kernel_rfl
theorem looks0 : Tryz.prog.looks [] = false := by kernel_rfl
theorem noneGoes : Tryz.prog.funcs.any Func.goes = false := by kernel_rfl
theorem goes0 (c : OpenClaim) (h : c.start = .entering) : false = c.goesBy Tryz.prog := by
  unfold OpenClaim.goesBy Program.goesAt Program.goesFrom Program.goes
  rw [h, noneGoes]
  have : ∀ f, ((Tryz.prog.closure f).any fun g => (Tryz.prog.funcs[g]?).any Func.goes) = false := fun f => by
    rw [List.any_eq_false]
    intro g _
    cases hg : Tryz.prog.funcs[g]? with
    | none => simp
    | some fn =>
      have hm := Array.mem_of_getElem? hg
      have := Array.any_eq_false'.1 noneGoes fn hm
      simpa using this
  cases Tryz.prog.funcNamed c.func with
  | none => rfl
  | some f => simp [this f]
end Go.Proofs.YtoaiplobfellaaaGreatDoor
