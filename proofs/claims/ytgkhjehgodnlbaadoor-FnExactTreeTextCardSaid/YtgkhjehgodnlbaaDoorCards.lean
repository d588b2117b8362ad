/-
  DERIVED. GIVEN WITH THE SEED: THE CARDS: each row of YtgkhjehgodnlbaaDoorRows.lean that lists a variable, with what it lists TIED to the program's text (the seventh form; the later family's looks); each row that meets fmt, with fmt's text TOLD by the authors' own Lean function (tested against real Go, not proved from fmt's source: count such statements apart). THE CARD IS WHAT COUNTS. Prove the row's statement (the work); the ties are given (YtgkhjehgodnlbaaDoorTie.lean); close each card by the builder's one call (the guide's Derived/Test/ToyasCard.lean, 'card_holds'). Laid BY PROGRAM, IN A SANDBOX (cutbox-door.mjs). By AI agents, Wed Nov 11 2026. No macro, syntax, notation, axiom, sorry.
-/
import Derived.Test.YtgkhjehgodnlbaaDoorRows
import GoSem.ClaimSeven
namespace Go.Proofs.YtgkhjehgodnlbaaDoor
namespace Rows

/-- THE TIED CARD OF 'laws.FnExactOpText'. -/
def fnExactOpTextCard : Claim7 := { stood := { row := fnExactOpTextRow, standIns := [], harness := (true, "93fec906a59ab428febf07a7e63d187be5620d1754a53ffb5d41004d2a61a12b"), looks := false }, kinds := [], alts := [], laidByText := true, laidKinds := [.data, .data, .pinned], laidTests := true, laidLooks := .later }
def FnExactOpTextCardSaid : Prop := Claim7.holds Tryd.pinned (.plain (OpenSpec.ofChange fnExactOpTextSpec)) fnExactOpTextCard

/-- THE TIED CARD OF 'laws.FnExactOpRead'. -/
def fnExactOpReadCard : Claim7 := { stood := { row := fnExactOpReadRow, standIns := [], harness := (true, "93fec906a59ab428febf07a7e63d187be5620d1754a53ffb5d41004d2a61a12b"), looks := false }, kinds := [], alts := [], laidByText := true, laidKinds := [.data, .data, .pinned], laidTests := true, laidLooks := .later }
def FnExactOpReadCardSaid : Prop := Claim7.holds Tryd.pinned (.plain (OpenSpec.ofChange fnExactOpReadSpec)) fnExactOpReadCard

/-- THE TIED CARD OF 'laws.FnOpText'. -/
def fnOpTextCard : Claim7 := { stood := { row := fnOpTextRow, standIns := [], harness := (true, "93fec906a59ab428febf07a7e63d187be5620d1754a53ffb5d41004d2a61a12b"), looks := false }, kinds := [], alts := [], laidByText := true, laidKinds := [.data, .data, .pinned], laidTests := true, laidLooks := .later }
def FnOpTextCardSaid : Prop := Claim7.holds Tryd.pinned (.plain (OpenSpec.ofChange fnOpTextSpec)) fnOpTextCard

/-- THE TIED CARD OF 'laws.FnExactTreeText'. -/
def fnExactTreeTextCard : Claim7 := { stood := { row := fnExactTreeTextRow, standIns := [], harness := (true, "93fec906a59ab428febf07a7e63d187be5620d1754a53ffb5d41004d2a61a12b"), looks := false }, kinds := [], alts := [], laidByText := true, laidKinds := [.data, .pinned], laidTests := true, laidLooks := .later }
def FnExactTreeTextCardSaid : Prop := Claim7.holds Tryd.pinned (.plain (OpenSpec.ofChange fnExactTreeTextSpec)) fnExactTreeTextCard

/-- THE TIED CARD OF 'laws.FnExactMergeAt'. -/
def fnExactMergeAtCard : Claim7 := { stood := { row := fnExactMergeAtRow, standIns := [], harness := (true, "93fec906a59ab428febf07a7e63d187be5620d1754a53ffb5d41004d2a61a12b"), looks := false }, kinds := [], alts := [], laidByText := true, laidKinds := [.data, .pinned], laidTests := true, laidLooks := .later }
def FnExactMergeAtCardSaid : Prop := Claim7.holds Tryd.pinned (.plain (OpenSpec.ofChange fnExactMergeAtSpec)) fnExactMergeAtCard

/-- THE TIED CARD OF 'laws.FnExactLayerText'. -/
def fnExactLayerTextCard : Claim7 := { stood := { row := fnExactLayerTextRow, standIns := [], harness := (true, "93fec906a59ab428febf07a7e63d187be5620d1754a53ffb5d41004d2a61a12b"), looks := false }, kinds := [], alts := [], laidByText := true, laidKinds := [.data, .pinned], laidTests := true, laidLooks := .later }
def FnExactLayerTextCardSaid : Prop := Claim7.holds Tryd.pinned (.plain (OpenSpec.ofChange fnExactLayerTextSpec)) fnExactLayerTextCard

/-- THE TIED CARD OF 'laws.FnExactTreeRead'. -/
def fnExactTreeReadCard : Claim7 := { stood := { row := fnExactTreeReadRow, standIns := [], harness := (true, "93fec906a59ab428febf07a7e63d187be5620d1754a53ffb5d41004d2a61a12b"), looks := false }, kinds := [], alts := [], laidByText := true, laidKinds := [.data, .pinned], laidTests := true, laidLooks := .later }
def FnExactTreeReadCardSaid : Prop := Claim7.holds Tryd.pinned (.plain (OpenSpec.ofChange fnExactTreeReadSpec)) fnExactTreeReadCard

/-- THE TIED CARD OF 'laws.FnExactLayerRead'. -/
def fnExactLayerReadCard : Claim7 := { stood := { row := fnExactLayerReadRow, standIns := [], harness := (true, "93fec906a59ab428febf07a7e63d187be5620d1754a53ffb5d41004d2a61a12b"), looks := false }, kinds := [], alts := [], laidByText := true, laidKinds := [.data, .pinned], laidTests := true, laidLooks := .later }
def FnExactLayerReadCardSaid : Prop := Claim7.holds Tryd.pinned (.plain (OpenSpec.ofChange fnExactLayerReadSpec)) fnExactLayerReadCard

/-- THE SECOND FORM's CARD OF 'laws.FnExactOpText'. -/
def fnExactOpTextUptoCard : Claim7 := { stood := { row := fnExactOpTextUptoRow, standIns := [], harness := (true, "93fec906a59ab428febf07a7e63d187be5620d1754a53ffb5d41004d2a61a12b"), looks := false }, kinds := [], alts := [], laidByText := true, laidKinds := [.data, .data, .pinned], laidTests := true, laidLooks := .later }
def FnExactOpTextUptoCardSaid : Prop := Claim7.holds Tryd.pinned (.plain (OpenSpec.upto fnExactOpTextSpec)) fnExactOpTextUptoCard

/-- THE SECOND FORM's CARD OF 'laws.FnExactOpRead'. -/
def fnExactOpReadUptoCard : Claim7 := { stood := { row := fnExactOpReadUptoRow, standIns := [], harness := (true, "93fec906a59ab428febf07a7e63d187be5620d1754a53ffb5d41004d2a61a12b"), looks := false }, kinds := [], alts := [], laidByText := true, laidKinds := [.data, .data, .pinned], laidTests := true, laidLooks := .later }
def FnExactOpReadUptoCardSaid : Prop := Claim7.holds Tryd.pinned (.plain (OpenSpec.upto fnExactOpReadSpec)) fnExactOpReadUptoCard

/-- THE SECOND FORM's CARD OF 'laws.FnOpText'. -/
def fnOpTextUptoCard : Claim7 := { stood := { row := fnOpTextUptoRow, standIns := [], harness := (true, "93fec906a59ab428febf07a7e63d187be5620d1754a53ffb5d41004d2a61a12b"), looks := false }, kinds := [], alts := [], laidByText := true, laidKinds := [.data, .data, .pinned], laidTests := true, laidLooks := .later }
def FnOpTextUptoCardSaid : Prop := Claim7.holds Tryd.pinned (.plain (OpenSpec.upto fnOpTextSpec)) fnOpTextUptoCard

/-- THE SECOND FORM's CARD OF 'laws.FnExactTreeText'. -/
def fnExactTreeTextUptoCard : Claim7 := { stood := { row := fnExactTreeTextUptoRow, standIns := [], harness := (true, "93fec906a59ab428febf07a7e63d187be5620d1754a53ffb5d41004d2a61a12b"), looks := false }, kinds := [], alts := [], laidByText := true, laidKinds := [.data, .pinned], laidTests := true, laidLooks := .later }
def FnExactTreeTextUptoCardSaid : Prop := Claim7.holds Tryd.pinned (.plain (OpenSpec.upto fnExactTreeTextSpec)) fnExactTreeTextUptoCard

/-- THE SECOND FORM's CARD OF 'laws.FnExactMergeAt'. -/
def fnExactMergeAtUptoCard : Claim7 := { stood := { row := fnExactMergeAtUptoRow, standIns := [], harness := (true, "93fec906a59ab428febf07a7e63d187be5620d1754a53ffb5d41004d2a61a12b"), looks := false }, kinds := [], alts := [], laidByText := true, laidKinds := [.data, .pinned], laidTests := true, laidLooks := .later }
def FnExactMergeAtUptoCardSaid : Prop := Claim7.holds Tryd.pinned (.plain (OpenSpec.upto fnExactMergeAtSpec)) fnExactMergeAtUptoCard

/-- THE SECOND FORM's CARD OF 'laws.FnExactLayerText'. -/
def fnExactLayerTextUptoCard : Claim7 := { stood := { row := fnExactLayerTextUptoRow, standIns := [], harness := (true, "93fec906a59ab428febf07a7e63d187be5620d1754a53ffb5d41004d2a61a12b"), looks := false }, kinds := [], alts := [], laidByText := true, laidKinds := [.data, .pinned], laidTests := true, laidLooks := .later }
def FnExactLayerTextUptoCardSaid : Prop := Claim7.holds Tryd.pinned (.plain (OpenSpec.upto fnExactLayerTextSpec)) fnExactLayerTextUptoCard

/-- THE SECOND FORM's CARD OF 'laws.FnExactTreeRead'. -/
def fnExactTreeReadUptoCard : Claim7 := { stood := { row := fnExactTreeReadUptoRow, standIns := [], harness := (true, "93fec906a59ab428febf07a7e63d187be5620d1754a53ffb5d41004d2a61a12b"), looks := false }, kinds := [], alts := [], laidByText := true, laidKinds := [.data, .pinned], laidTests := true, laidLooks := .later }
def FnExactTreeReadUptoCardSaid : Prop := Claim7.holds Tryd.pinned (.plain (OpenSpec.upto fnExactTreeReadSpec)) fnExactTreeReadUptoCard

/-- THE SECOND FORM's CARD OF 'laws.FnExactLayerRead'. -/
def fnExactLayerReadUptoCard : Claim7 := { stood := { row := fnExactLayerReadUptoRow, standIns := [], harness := (true, "93fec906a59ab428febf07a7e63d187be5620d1754a53ffb5d41004d2a61a12b"), looks := false }, kinds := [], alts := [], laidByText := true, laidKinds := [.data, .pinned], laidTests := true, laidLooks := .later }
def FnExactLayerReadUptoCardSaid : Prop := Claim7.holds Tryd.pinned (.plain (OpenSpec.upto fnExactLayerReadSpec)) fnExactLayerReadUptoCard
end Rows
end Go.Proofs.YtgkhjehgodnlbaaDoor
