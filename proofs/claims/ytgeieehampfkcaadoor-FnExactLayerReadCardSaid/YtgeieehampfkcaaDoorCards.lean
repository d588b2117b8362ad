/-
  DERIVED. GIVEN WITH THE SEED: THE CARDS: each row of YtgeieehampfkcaaDoorRows.lean that lists a variable, with what it lists TIED to the program's text (the seventh form; the later family's looks); each row that meets fmt, with fmt's text TOLD by the authors' own Lean function (tested against real Go, not proved from fmt's source: count such statements apart). THE CARD IS WHAT COUNTS. Prove the row's statement (the work); the ties are given (YtgeieehampfkcaaDoorTie.lean); close each card by the builder's one call (the guide's Derived/Test/ToyasCard.lean, 'card_holds'). Laid BY PROGRAM, IN A SANDBOX (cutbox-door.mjs). By AI agents, Wed Nov 11 2026. No macro, syntax, notation, axiom, sorry.
-/
import Derived.Test.YtgeieehampfkcaaDoorRows
import GoSem.ClaimSeven
namespace Go.Proofs.YtgeieehampfkcaaDoor
namespace Rows

/-- THE TIED CARD OF 'laws.FnExactOpText'. -/
def fnExactOpTextCard : Claim7 := { stood := { row := fnExactOpTextRow, standIns := [], harness := (true, "376cd5d2cd64af1521db4eb68d794db43e2ddbd2ee5da913b77599f4eb483206"), looks := false }, kinds := [], alts := [], laidByText := true, laidKinds := [.data, .data, .pinned], laidTests := true, laidLooks := .later }
def FnExactOpTextCardSaid : Prop := Claim7.holds Tryd.pinned (.plain (OpenSpec.ofChange fnExactOpTextSpec)) fnExactOpTextCard

/-- THE TIED CARD OF 'laws.FnExactOpRead'. -/
def fnExactOpReadCard : Claim7 := { stood := { row := fnExactOpReadRow, standIns := [], harness := (true, "376cd5d2cd64af1521db4eb68d794db43e2ddbd2ee5da913b77599f4eb483206"), looks := false }, kinds := [], alts := [], laidByText := true, laidKinds := [.data, .data, .pinned], laidTests := true, laidLooks := .later }
def FnExactOpReadCardSaid : Prop := Claim7.holds Tryd.pinned (.plain (OpenSpec.ofChange fnExactOpReadSpec)) fnExactOpReadCard

/-- THE TIED CARD OF 'laws.FnOpText'. -/
def fnOpTextCard : Claim7 := { stood := { row := fnOpTextRow, standIns := [], harness := (true, "376cd5d2cd64af1521db4eb68d794db43e2ddbd2ee5da913b77599f4eb483206"), looks := false }, kinds := [], alts := [], laidByText := true, laidKinds := [.data, .data, .pinned], laidTests := true, laidLooks := .later }
def FnOpTextCardSaid : Prop := Claim7.holds Tryd.pinned (.plain (OpenSpec.ofChange fnOpTextSpec)) fnOpTextCard

/-- THE TIED CARD OF 'laws.FnExactMergeAt'. -/
def fnExactMergeAtCard : Claim7 := { stood := { row := fnExactMergeAtRow, standIns := [], harness := (true, "376cd5d2cd64af1521db4eb68d794db43e2ddbd2ee5da913b77599f4eb483206"), looks := false }, kinds := [], alts := [], laidByText := true, laidKinds := [.data, .pinned], laidTests := true, laidLooks := .later }
def FnExactMergeAtCardSaid : Prop := Claim7.holds Tryd.pinned (.plain (OpenSpec.ofChange fnExactMergeAtSpec)) fnExactMergeAtCard

/-- THE TIED CARD OF 'laws.FnExactLayerText'. -/
def fnExactLayerTextCard : Claim7 := { stood := { row := fnExactLayerTextRow, standIns := [], harness := (true, "376cd5d2cd64af1521db4eb68d794db43e2ddbd2ee5da913b77599f4eb483206"), looks := false }, kinds := [], alts := [], laidByText := true, laidKinds := [.data, .pinned], laidTests := true, laidLooks := .later }
def FnExactLayerTextCardSaid : Prop := Claim7.holds Tryd.pinned (.plain (OpenSpec.ofChange fnExactLayerTextSpec)) fnExactLayerTextCard

/-- THE TIED CARD OF 'laws.FnExactTreeRead'. -/
def fnExactTreeReadCard : Claim7 := { stood := { row := fnExactTreeReadRow, standIns := [], harness := (true, "376cd5d2cd64af1521db4eb68d794db43e2ddbd2ee5da913b77599f4eb483206"), looks := false }, kinds := [], alts := [], laidByText := true, laidKinds := [.data, .pinned], laidTests := true, laidLooks := .later }
def FnExactTreeReadCardSaid : Prop := Claim7.holds Tryd.pinned (.plain (OpenSpec.ofChange fnExactTreeReadSpec)) fnExactTreeReadCard

/-- THE TIED CARD OF 'laws.FnExactLayerRead'. -/
def fnExactLayerReadCard : Claim7 := { stood := { row := fnExactLayerReadRow, standIns := [], harness := (true, "376cd5d2cd64af1521db4eb68d794db43e2ddbd2ee5da913b77599f4eb483206"), looks := false }, kinds := [], alts := [], laidByText := true, laidKinds := [.data, .pinned], laidTests := true, laidLooks := .later }
def FnExactLayerReadCardSaid : Prop := Claim7.holds Tryd.pinned (.plain (OpenSpec.ofChange fnExactLayerReadSpec)) fnExactLayerReadCard

/-- THE TIED CARD OF 'laws.FnTextSame'. -/
def fnTextSameCard : Claim7 := { stood := { row := fnTextSameRow, standIns := [], harness := (true, "376cd5d2cd64af1521db4eb68d794db43e2ddbd2ee5da913b77599f4eb483206"), looks := false }, kinds := [], alts := [], laidByText := true, laidKinds := [.data, .data, .pinned], laidTests := true, laidLooks := .later }
def FnTextSameCardSaid : Prop := Claim7.holds Tryd.pinned (.plain (OpenSpec.ofChange fnTextSameSpec)) fnTextSameCard

/-- THE TIED CARD OF 'laws.FnLayerText'. -/
def fnLayerTextCard : Claim7 := { stood := { row := fnLayerTextRow, standIns := [], harness := (true, "376cd5d2cd64af1521db4eb68d794db43e2ddbd2ee5da913b77599f4eb483206"), looks := false }, kinds := [], alts := [], laidByText := true, laidKinds := [.data, .pinned], laidTests := true, laidLooks := .later }
def FnLayerTextCardSaid : Prop := Claim7.holds Tryd.pinned (.plain (OpenSpec.ofChange fnLayerTextSpec)) fnLayerTextCard

/-- THE TIED CARD OF 'laws.FnMergeAt'. -/
def fnMergeAtCard : Claim7 := { stood := { row := fnMergeAtRow, standIns := [], harness := (true, "376cd5d2cd64af1521db4eb68d794db43e2ddbd2ee5da913b77599f4eb483206"), looks := false }, kinds := [], alts := [], laidByText := true, laidKinds := [.data, .pinned], laidTests := true, laidLooks := .later }
def FnMergeAtCardSaid : Prop := Claim7.holds Tryd.pinned (.plain (OpenSpec.ofChange fnMergeAtSpec)) fnMergeAtCard

/-- THE TIED CARD OF 'laws.FnTreeText'. -/
def fnTreeTextCard : Claim7 := { stood := { row := fnTreeTextRow, standIns := [], harness := (true, "376cd5d2cd64af1521db4eb68d794db43e2ddbd2ee5da913b77599f4eb483206"), looks := false }, kinds := [], alts := [], laidByText := true, laidKinds := [.data, .pinned], laidTests := true, laidLooks := .later }
def FnTreeTextCardSaid : Prop := Claim7.holds Tryd.pinned (.plain (OpenSpec.ofChange fnTreeTextSpec)) fnTreeTextCard

/-- THE TIED CARD OF 'laws.FnTextMany'. -/
def fnTextManyCard : Claim7 := { stood := { row := fnTextManyRow, standIns := [], harness := (true, "376cd5d2cd64af1521db4eb68d794db43e2ddbd2ee5da913b77599f4eb483206"), looks := false }, kinds := [], alts := [], laidByText := true, laidKinds := [.data, .pinned], laidTests := true, laidLooks := .later }
def FnTextManyCardSaid : Prop := Claim7.holds Tryd.pinned (.plain (OpenSpec.ofChange fnTextManySpec)) fnTextManyCard

/-- THE SECOND FORM's CARD OF 'laws.FnExactOpText'. -/
def fnExactOpTextUptoCard : Claim7 := { stood := { row := fnExactOpTextUptoRow, standIns := [], harness := (true, "376cd5d2cd64af1521db4eb68d794db43e2ddbd2ee5da913b77599f4eb483206"), looks := false }, kinds := [], alts := [], laidByText := true, laidKinds := [.data, .data, .pinned], laidTests := true, laidLooks := .later }
def FnExactOpTextUptoCardSaid : Prop := Claim7.holds Tryd.pinned (.plain (OpenSpec.upto fnExactOpTextSpec)) fnExactOpTextUptoCard

/-- THE SECOND FORM's CARD OF 'laws.FnExactOpRead'. -/
def fnExactOpReadUptoCard : Claim7 := { stood := { row := fnExactOpReadUptoRow, standIns := [], harness := (true, "376cd5d2cd64af1521db4eb68d794db43e2ddbd2ee5da913b77599f4eb483206"), looks := false }, kinds := [], alts := [], laidByText := true, laidKinds := [.data, .data, .pinned], laidTests := true, laidLooks := .later }
def FnExactOpReadUptoCardSaid : Prop := Claim7.holds Tryd.pinned (.plain (OpenSpec.upto fnExactOpReadSpec)) fnExactOpReadUptoCard

/-- THE SECOND FORM's CARD OF 'laws.FnOpText'. -/
def fnOpTextUptoCard : Claim7 := { stood := { row := fnOpTextUptoRow, standIns := [], harness := (true, "376cd5d2cd64af1521db4eb68d794db43e2ddbd2ee5da913b77599f4eb483206"), looks := false }, kinds := [], alts := [], laidByText := true, laidKinds := [.data, .data, .pinned], laidTests := true, laidLooks := .later }
def FnOpTextUptoCardSaid : Prop := Claim7.holds Tryd.pinned (.plain (OpenSpec.upto fnOpTextSpec)) fnOpTextUptoCard

/-- THE SECOND FORM's CARD OF 'laws.FnExactMergeAt'. -/
def fnExactMergeAtUptoCard : Claim7 := { stood := { row := fnExactMergeAtUptoRow, standIns := [], harness := (true, "376cd5d2cd64af1521db4eb68d794db43e2ddbd2ee5da913b77599f4eb483206"), looks := false }, kinds := [], alts := [], laidByText := true, laidKinds := [.data, .pinned], laidTests := true, laidLooks := .later }
def FnExactMergeAtUptoCardSaid : Prop := Claim7.holds Tryd.pinned (.plain (OpenSpec.upto fnExactMergeAtSpec)) fnExactMergeAtUptoCard

/-- THE SECOND FORM's CARD OF 'laws.FnExactLayerText'. -/
def fnExactLayerTextUptoCard : Claim7 := { stood := { row := fnExactLayerTextUptoRow, standIns := [], harness := (true, "376cd5d2cd64af1521db4eb68d794db43e2ddbd2ee5da913b77599f4eb483206"), looks := false }, kinds := [], alts := [], laidByText := true, laidKinds := [.data, .pinned], laidTests := true, laidLooks := .later }
def FnExactLayerTextUptoCardSaid : Prop := Claim7.holds Tryd.pinned (.plain (OpenSpec.upto fnExactLayerTextSpec)) fnExactLayerTextUptoCard

/-- THE SECOND FORM's CARD OF 'laws.FnExactTreeRead'. -/
def fnExactTreeReadUptoCard : Claim7 := { stood := { row := fnExactTreeReadUptoRow, standIns := [], harness := (true, "376cd5d2cd64af1521db4eb68d794db43e2ddbd2ee5da913b77599f4eb483206"), looks := false }, kinds := [], alts := [], laidByText := true, laidKinds := [.data, .pinned], laidTests := true, laidLooks := .later }
def FnExactTreeReadUptoCardSaid : Prop := Claim7.holds Tryd.pinned (.plain (OpenSpec.upto fnExactTreeReadSpec)) fnExactTreeReadUptoCard

/-- THE SECOND FORM's CARD OF 'laws.FnExactLayerRead'. -/
def fnExactLayerReadUptoCard : Claim7 := { stood := { row := fnExactLayerReadUptoRow, standIns := [], harness := (true, "376cd5d2cd64af1521db4eb68d794db43e2ddbd2ee5da913b77599f4eb483206"), looks := false }, kinds := [], alts := [], laidByText := true, laidKinds := [.data, .pinned], laidTests := true, laidLooks := .later }
def FnExactLayerReadUptoCardSaid : Prop := Claim7.holds Tryd.pinned (.plain (OpenSpec.upto fnExactLayerReadSpec)) fnExactLayerReadUptoCard

/-- THE SECOND FORM's CARD OF 'laws.FnTextSame'. -/
def fnTextSameUptoCard : Claim7 := { stood := { row := fnTextSameUptoRow, standIns := [], harness := (true, "376cd5d2cd64af1521db4eb68d794db43e2ddbd2ee5da913b77599f4eb483206"), looks := false }, kinds := [], alts := [], laidByText := true, laidKinds := [.data, .data, .pinned], laidTests := true, laidLooks := .later }
def FnTextSameUptoCardSaid : Prop := Claim7.holds Tryd.pinned (.plain (OpenSpec.upto fnTextSameSpec)) fnTextSameUptoCard

/-- THE SECOND FORM's CARD OF 'laws.FnLayerText'. -/
def fnLayerTextUptoCard : Claim7 := { stood := { row := fnLayerTextUptoRow, standIns := [], harness := (true, "376cd5d2cd64af1521db4eb68d794db43e2ddbd2ee5da913b77599f4eb483206"), looks := false }, kinds := [], alts := [], laidByText := true, laidKinds := [.data, .pinned], laidTests := true, laidLooks := .later }
def FnLayerTextUptoCardSaid : Prop := Claim7.holds Tryd.pinned (.plain (OpenSpec.upto fnLayerTextSpec)) fnLayerTextUptoCard

/-- THE SECOND FORM's CARD OF 'laws.FnMergeAt'. -/
def fnMergeAtUptoCard : Claim7 := { stood := { row := fnMergeAtUptoRow, standIns := [], harness := (true, "376cd5d2cd64af1521db4eb68d794db43e2ddbd2ee5da913b77599f4eb483206"), looks := false }, kinds := [], alts := [], laidByText := true, laidKinds := [.data, .pinned], laidTests := true, laidLooks := .later }
def FnMergeAtUptoCardSaid : Prop := Claim7.holds Tryd.pinned (.plain (OpenSpec.upto fnMergeAtSpec)) fnMergeAtUptoCard

/-- THE SECOND FORM's CARD OF 'laws.FnTreeText'. -/
def fnTreeTextUptoCard : Claim7 := { stood := { row := fnTreeTextUptoRow, standIns := [], harness := (true, "376cd5d2cd64af1521db4eb68d794db43e2ddbd2ee5da913b77599f4eb483206"), looks := false }, kinds := [], alts := [], laidByText := true, laidKinds := [.data, .pinned], laidTests := true, laidLooks := .later }
def FnTreeTextUptoCardSaid : Prop := Claim7.holds Tryd.pinned (.plain (OpenSpec.upto fnTreeTextSpec)) fnTreeTextUptoCard

/-- THE SECOND FORM's CARD OF 'laws.FnTextMany'. -/
def fnTextManyUptoCard : Claim7 := { stood := { row := fnTextManyUptoRow, standIns := [], harness := (true, "376cd5d2cd64af1521db4eb68d794db43e2ddbd2ee5da913b77599f4eb483206"), looks := false }, kinds := [], alts := [], laidByText := true, laidKinds := [.data, .pinned], laidTests := true, laidLooks := .later }
def FnTextManyUptoCardSaid : Prop := Claim7.holds Tryd.pinned (.plain (OpenSpec.upto fnTextManySpec)) fnTextManyUptoCard
end Rows
end Go.Proofs.YtgeieehampfkcaaDoor
