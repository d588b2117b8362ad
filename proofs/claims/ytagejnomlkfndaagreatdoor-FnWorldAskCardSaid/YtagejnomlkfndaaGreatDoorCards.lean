/-
  DERIVED. GIVEN WITH THE SEED: THE CARDS: each row of YtagejnomlkfndaaGreatDoorRows.lean that lists a variable, with what it lists TIED to the program's text (the seventh form; the later family's looks); each row that meets fmt, with fmt's text TOLD by the authors' own Lean function (tested against real Go, not proved from fmt's source: count such statements apart). THE CARD IS WHAT COUNTS. Prove the row's statement (the work); the ties are given (YtagejnomlkfndaaGreatDoorTie.lean); close each card by the builder's one call (the guide's Derived/Test/ToyasCard.lean, 'card_holds'). Laid BY PROGRAM, IN A SANDBOX (cutbox-door.mjs). By AI agents, Wed Nov 11 2026. No macro, syntax, notation, axiom, sorry.
-/
import Derived.Test.YtagejnomlkfndaaGreatDoorRows
import GoSem.ClaimSeven
namespace Go.Proofs.YtagejnomlkfndaaGreatDoor
namespace Rows

/-- THE TIED CARD OF 'laws.FnExactLogOver'. -/
def fnExactLogOverCard : Claim7 := { stood := { row := fnExactLogOverRow, standIns := [], harness := (true, "6826eb04f92e265179646e29b72ef6ca63e8797e9f2b4ffe53b476ac1cccfa3b"), looks := false }, kinds := [], alts := [], laidByText := true, laidKinds := [.data, .pinned], laidTests := true, laidLooks := .later }
def FnExactLogOverCardSaid : Prop := Claim7.holds Tryz.pinned (.plain (OpenSpec.ofChange fnExactLogOverSpec)) fnExactLogOverCard

/-- THE TIED CARD OF 'laws.FnWorldAsk'. -/
def fnWorldAskCard : Claim7 := { stood := { row := fnWorldAskRow, standIns := [], harness := (true, "6826eb04f92e265179646e29b72ef6ca63e8797e9f2b4ffe53b476ac1cccfa3b"), looks := false }, kinds := [], alts := [], laidByText := true, laidKinds := [.data, .pinned], laidTests := true, laidLooks := .later }
def FnWorldAskCardSaid : Prop := Claim7.holds Tryz.pinned (.plain (OpenSpec.ofChange fnWorldAskSpec)) fnWorldAskCard

/-- THE TIED CARD OF 'laws.FnExactWorldPlay'. -/
def fnExactWorldPlayCard : Claim7 := { stood := { row := fnExactWorldPlayRow, standIns := [], harness := (true, "6826eb04f92e265179646e29b72ef6ca63e8797e9f2b4ffe53b476ac1cccfa3b"), looks := false }, kinds := [], alts := [], laidByText := true, laidKinds := [.data, .pinned], laidTests := true, laidLooks := .later }
def FnExactWorldPlayCardSaid : Prop := Claim7.holds Tryz.pinned (.plain (OpenSpec.ofChange fnExactWorldPlaySpec)) fnExactWorldPlayCard

/-- THE TIED CARD OF 'laws.FnExactWorldDo'. -/
def fnExactWorldDoCard : Claim7 := { stood := { row := fnExactWorldDoRow, standIns := [], harness := (true, "6826eb04f92e265179646e29b72ef6ca63e8797e9f2b4ffe53b476ac1cccfa3b"), looks := false }, kinds := [], alts := [], laidByText := true, laidKinds := [.data, .pinned], laidTests := true, laidLooks := .later }
def FnExactWorldDoCardSaid : Prop := Claim7.holds Tryz.pinned (.plain (OpenSpec.ofChange fnExactWorldDoSpec)) fnExactWorldDoCard

/-- THE SECOND FORM's CARD OF 'laws.FnExactLogOver'. -/
def fnExactLogOverUptoCard : Claim7 := { stood := { row := fnExactLogOverUptoRow, standIns := [], harness := (true, "6826eb04f92e265179646e29b72ef6ca63e8797e9f2b4ffe53b476ac1cccfa3b"), looks := false }, kinds := [], alts := [], laidByText := true, laidKinds := [.data, .pinned], laidTests := true, laidLooks := .later }
def FnExactLogOverUptoCardSaid : Prop := Claim7.holds Tryz.pinned (.plain (OpenSpec.upto fnExactLogOverSpec)) fnExactLogOverUptoCard

/-- THE SECOND FORM's CARD OF 'laws.FnWorldAsk'. -/
def fnWorldAskUptoCard : Claim7 := { stood := { row := fnWorldAskUptoRow, standIns := [], harness := (true, "6826eb04f92e265179646e29b72ef6ca63e8797e9f2b4ffe53b476ac1cccfa3b"), looks := false }, kinds := [], alts := [], laidByText := true, laidKinds := [.data, .pinned], laidTests := true, laidLooks := .later }
def FnWorldAskUptoCardSaid : Prop := Claim7.holds Tryz.pinned (.plain (OpenSpec.upto fnWorldAskSpec)) fnWorldAskUptoCard

/-- THE SECOND FORM's CARD OF 'laws.FnExactWorldPlay'. -/
def fnExactWorldPlayUptoCard : Claim7 := { stood := { row := fnExactWorldPlayUptoRow, standIns := [], harness := (true, "6826eb04f92e265179646e29b72ef6ca63e8797e9f2b4ffe53b476ac1cccfa3b"), looks := false }, kinds := [], alts := [], laidByText := true, laidKinds := [.data, .pinned], laidTests := true, laidLooks := .later }
def FnExactWorldPlayUptoCardSaid : Prop := Claim7.holds Tryz.pinned (.plain (OpenSpec.upto fnExactWorldPlaySpec)) fnExactWorldPlayUptoCard

/-- THE SECOND FORM's CARD OF 'laws.FnExactWorldDo'. -/
def fnExactWorldDoUptoCard : Claim7 := { stood := { row := fnExactWorldDoUptoRow, standIns := [], harness := (true, "6826eb04f92e265179646e29b72ef6ca63e8797e9f2b4ffe53b476ac1cccfa3b"), looks := false }, kinds := [], alts := [], laidByText := true, laidKinds := [.data, .pinned], laidTests := true, laidLooks := .later }
def FnExactWorldDoUptoCardSaid : Prop := Claim7.holds Tryz.pinned (.plain (OpenSpec.upto fnExactWorldDoSpec)) fnExactWorldDoUptoCard
end Rows
end Go.Proofs.YtagejnomlkfndaaGreatDoor
