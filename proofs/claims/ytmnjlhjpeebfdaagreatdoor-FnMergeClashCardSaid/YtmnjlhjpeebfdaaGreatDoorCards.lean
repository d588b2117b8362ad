/-
  DERIVED. GIVEN WITH THE SEED: THE CARDS: each row of YtmnjlhjpeebfdaaGreatDoorRows.lean that lists a variable, with what it lists TIED to the program's text (the seventh form; the later family's looks); each row that meets fmt, with fmt's text TOLD by the authors' own Lean function (tested against real Go, not proved from fmt's source: count such statements apart). THE CARD IS WHAT COUNTS. Prove the row's statement (the work); the ties are given (YtmnjlhjpeebfdaaGreatDoorTie.lean); close each card by the builder's one call (the guide's Derived/Test/ToyasCard.lean, 'card_holds'). Laid BY PROGRAM, IN A SANDBOX (cutbox-door.mjs). By AI agents, Wed Nov 11 2026. No macro, syntax, notation, axiom, sorry.
-/
import Derived.Test.YtmnjlhjpeebfdaaGreatDoorRows
import GoSem.ClaimSeven
namespace Go.Proofs.YtmnjlhjpeebfdaaGreatDoor
namespace Rows

/-- THE TIED CARD OF 'laws.FnTextCut'. -/
def fnTextCutCard : Claim7 := { stood := { row := fnTextCutRow, standIns := [], harness := (true, "9c14d177e08c8cac15b925c7e3b321221f20abb23938db3a508b7dee7031cff7"), looks := false }, kinds := [], alts := [], laidByText := true, laidKinds := [.data, .pinned], laidTests := true, laidLooks := .later }
def FnTextCutCardSaid : Prop := Claim7.holds Tryz.pinned (.plain (OpenSpec.ofChange fnTextCutSpec)) fnTextCutCard

/-- THE TIED CARD OF 'laws.FnMergeFew'. -/
def fnMergeFewCard : Claim7 := { stood := { row := fnMergeFewRow, standIns := [], harness := (true, "9c14d177e08c8cac15b925c7e3b321221f20abb23938db3a508b7dee7031cff7"), looks := false }, kinds := [], alts := [], laidByText := true, laidKinds := [.data, .pinned], laidTests := true, laidLooks := .later }
def FnMergeFewCardSaid : Prop := Claim7.holds Tryz.pinned (.plain (OpenSpec.ofChange fnMergeFewSpec)) fnMergeFewCard

/-- THE TIED CARD OF 'laws.FnMergeMore'. -/
def fnMergeMoreCard : Claim7 := { stood := { row := fnMergeMoreRow, standIns := [], harness := (true, "9c14d177e08c8cac15b925c7e3b321221f20abb23938db3a508b7dee7031cff7"), looks := false }, kinds := [], alts := [], laidByText := true, laidKinds := [.data, .pinned], laidTests := true, laidLooks := .later }
def FnMergeMoreCardSaid : Prop := Claim7.holds Tryz.pinned (.plain (OpenSpec.ofChange fnMergeMoreSpec)) fnMergeMoreCard

/-- THE TIED CARD OF 'laws.FnMergeSame'. -/
def fnMergeSameCard : Claim7 := { stood := { row := fnMergeSameRow, standIns := [], harness := (true, "9c14d177e08c8cac15b925c7e3b321221f20abb23938db3a508b7dee7031cff7"), looks := false }, kinds := [], alts := [], laidByText := true, laidKinds := [.data, .pinned], laidTests := true, laidLooks := .later }
def FnMergeSameCardSaid : Prop := Claim7.holds Tryz.pinned (.plain (OpenSpec.ofChange fnMergeSameSpec)) fnMergeSameCard

/-- THE TIED CARD OF 'laws.FnMergeTurn'. -/
def fnMergeTurnCard : Claim7 := { stood := { row := fnMergeTurnRow, standIns := [], harness := (true, "9c14d177e08c8cac15b925c7e3b321221f20abb23938db3a508b7dee7031cff7"), looks := false }, kinds := [], alts := [], laidByText := true, laidKinds := [.data, .pinned], laidTests := true, laidLooks := .later }
def FnMergeTurnCardSaid : Prop := Claim7.holds Tryz.pinned (.plain (OpenSpec.ofChange fnMergeTurnSpec)) fnMergeTurnCard

/-- THE TIED CARD OF 'laws.FnMergeTurned'. -/
def fnMergeTurnedCard : Claim7 := { stood := { row := fnMergeTurnedRow, standIns := [], harness := (true, "9c14d177e08c8cac15b925c7e3b321221f20abb23938db3a508b7dee7031cff7"), looks := false }, kinds := [], alts := [], laidByText := true, laidKinds := [.data, .pinned], laidTests := true, laidLooks := .later }
def FnMergeTurnedCardSaid : Prop := Claim7.holds Tryz.pinned (.plain (OpenSpec.ofChange fnMergeTurnedSpec)) fnMergeTurnedCard

/-- THE TIED CARD OF 'laws.FnMergeUndo'. -/
def fnMergeUndoCard : Claim7 := { stood := { row := fnMergeUndoRow, standIns := [], harness := (true, "9c14d177e08c8cac15b925c7e3b321221f20abb23938db3a508b7dee7031cff7"), looks := false }, kinds := [], alts := [], laidByText := true, laidKinds := [.data, .pinned], laidTests := true, laidLooks := .later }
def FnMergeUndoCardSaid : Prop := Claim7.holds Tryz.pinned (.plain (OpenSpec.ofChange fnMergeUndoSpec)) fnMergeUndoCard

/-- THE TIED CARD OF 'laws.FnMergeClash'. -/
def fnMergeClashCard : Claim7 := { stood := { row := fnMergeClashRow, standIns := [], harness := (true, "9c14d177e08c8cac15b925c7e3b321221f20abb23938db3a508b7dee7031cff7"), looks := false }, kinds := [], alts := [], laidByText := true, laidKinds := [.data, .pinned], laidTests := true, laidLooks := .later }
def FnMergeClashCardSaid : Prop := Claim7.holds Tryz.pinned (.plain (OpenSpec.ofChange fnMergeClashSpec)) fnMergeClashCard

/-- THE SECOND FORM's CARD OF 'laws.FnTextCut'. -/
def fnTextCutUptoCard : Claim7 := { stood := { row := fnTextCutUptoRow, standIns := [], harness := (true, "9c14d177e08c8cac15b925c7e3b321221f20abb23938db3a508b7dee7031cff7"), looks := false }, kinds := [], alts := [], laidByText := true, laidKinds := [.data, .pinned], laidTests := true, laidLooks := .later }
def FnTextCutUptoCardSaid : Prop := Claim7.holds Tryz.pinned (.plain (OpenSpec.upto fnTextCutSpec)) fnTextCutUptoCard

/-- THE SECOND FORM's CARD OF 'laws.FnMergeFew'. -/
def fnMergeFewUptoCard : Claim7 := { stood := { row := fnMergeFewUptoRow, standIns := [], harness := (true, "9c14d177e08c8cac15b925c7e3b321221f20abb23938db3a508b7dee7031cff7"), looks := false }, kinds := [], alts := [], laidByText := true, laidKinds := [.data, .pinned], laidTests := true, laidLooks := .later }
def FnMergeFewUptoCardSaid : Prop := Claim7.holds Tryz.pinned (.plain (OpenSpec.upto fnMergeFewSpec)) fnMergeFewUptoCard

/-- THE SECOND FORM's CARD OF 'laws.FnMergeMore'. -/
def fnMergeMoreUptoCard : Claim7 := { stood := { row := fnMergeMoreUptoRow, standIns := [], harness := (true, "9c14d177e08c8cac15b925c7e3b321221f20abb23938db3a508b7dee7031cff7"), looks := false }, kinds := [], alts := [], laidByText := true, laidKinds := [.data, .pinned], laidTests := true, laidLooks := .later }
def FnMergeMoreUptoCardSaid : Prop := Claim7.holds Tryz.pinned (.plain (OpenSpec.upto fnMergeMoreSpec)) fnMergeMoreUptoCard

/-- THE SECOND FORM's CARD OF 'laws.FnMergeSame'. -/
def fnMergeSameUptoCard : Claim7 := { stood := { row := fnMergeSameUptoRow, standIns := [], harness := (true, "9c14d177e08c8cac15b925c7e3b321221f20abb23938db3a508b7dee7031cff7"), looks := false }, kinds := [], alts := [], laidByText := true, laidKinds := [.data, .pinned], laidTests := true, laidLooks := .later }
def FnMergeSameUptoCardSaid : Prop := Claim7.holds Tryz.pinned (.plain (OpenSpec.upto fnMergeSameSpec)) fnMergeSameUptoCard

/-- THE SECOND FORM's CARD OF 'laws.FnMergeTurn'. -/
def fnMergeTurnUptoCard : Claim7 := { stood := { row := fnMergeTurnUptoRow, standIns := [], harness := (true, "9c14d177e08c8cac15b925c7e3b321221f20abb23938db3a508b7dee7031cff7"), looks := false }, kinds := [], alts := [], laidByText := true, laidKinds := [.data, .pinned], laidTests := true, laidLooks := .later }
def FnMergeTurnUptoCardSaid : Prop := Claim7.holds Tryz.pinned (.plain (OpenSpec.upto fnMergeTurnSpec)) fnMergeTurnUptoCard

/-- THE SECOND FORM's CARD OF 'laws.FnMergeTurned'. -/
def fnMergeTurnedUptoCard : Claim7 := { stood := { row := fnMergeTurnedUptoRow, standIns := [], harness := (true, "9c14d177e08c8cac15b925c7e3b321221f20abb23938db3a508b7dee7031cff7"), looks := false }, kinds := [], alts := [], laidByText := true, laidKinds := [.data, .pinned], laidTests := true, laidLooks := .later }
def FnMergeTurnedUptoCardSaid : Prop := Claim7.holds Tryz.pinned (.plain (OpenSpec.upto fnMergeTurnedSpec)) fnMergeTurnedUptoCard

/-- THE SECOND FORM's CARD OF 'laws.FnMergeUndo'. -/
def fnMergeUndoUptoCard : Claim7 := { stood := { row := fnMergeUndoUptoRow, standIns := [], harness := (true, "9c14d177e08c8cac15b925c7e3b321221f20abb23938db3a508b7dee7031cff7"), looks := false }, kinds := [], alts := [], laidByText := true, laidKinds := [.data, .pinned], laidTests := true, laidLooks := .later }
def FnMergeUndoUptoCardSaid : Prop := Claim7.holds Tryz.pinned (.plain (OpenSpec.upto fnMergeUndoSpec)) fnMergeUndoUptoCard

/-- THE SECOND FORM's CARD OF 'laws.FnMergeClash'. -/
def fnMergeClashUptoCard : Claim7 := { stood := { row := fnMergeClashUptoRow, standIns := [], harness := (true, "9c14d177e08c8cac15b925c7e3b321221f20abb23938db3a508b7dee7031cff7"), looks := false }, kinds := [], alts := [], laidByText := true, laidKinds := [.data, .pinned], laidTests := true, laidLooks := .later }
def FnMergeClashUptoCardSaid : Prop := Claim7.holds Tryz.pinned (.plain (OpenSpec.upto fnMergeClashSpec)) fnMergeClashUptoCard
end Rows
end Go.Proofs.YtmnjlhjpeebfdaaGreatDoor
