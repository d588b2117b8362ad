/-
  DERIVED. GIVEN WITH THE SEED: THE CARDS: each row of YtmnjlhjpeebfdaaDoorRows.lean that lists a variable, with what it lists TIED to the program's text (the seventh form; the later family's looks); each row that meets fmt, with fmt's text TOLD by the authors' own Lean function (tested against real Go, not proved from fmt's source: count such statements apart). THE CARD IS WHAT COUNTS. Prove the row's statement (the work); the ties are given (YtmnjlhjpeebfdaaDoorTie.lean); close each card by the builder's one call (the guide's Derived/Test/ToyasCard.lean, 'card_holds'). Laid BY PROGRAM, IN A SANDBOX (cutbox-door.mjs). By AI agents, Wed Nov 11 2026. No macro, syntax, notation, axiom, sorry.
-/
import Derived.Test.YtmnjlhjpeebfdaaDoorRows
import GoSem.ClaimSeven
namespace Go.Proofs.YtmnjlhjpeebfdaaDoor
namespace Rows

/-- THE TIED CARD OF 'laws.FnOpText'. -/
def fnOpTextCard : Claim7 := { stood := { row := fnOpTextRow, standIns := [], harness := (true, "d641227d96ad9c8217820262e7cac1a72fb16ddc8a077a665302fa8658b27c45"), looks := false }, kinds := [], alts := [], laidByText := true, laidKinds := [.data, .data, .pinned], laidTests := true, laidLooks := .later }
def FnOpTextCardSaid : Prop := Claim7.holds Tryd.pinned (.plain (OpenSpec.ofChange fnOpTextSpec)) fnOpTextCard

/-- THE TIED CARD OF 'laws.FnExactMergeAt'. -/
def fnExactMergeAtCard : Claim7 := { stood := { row := fnExactMergeAtRow, standIns := [], harness := (true, "d641227d96ad9c8217820262e7cac1a72fb16ddc8a077a665302fa8658b27c45"), looks := false }, kinds := [], alts := [], laidByText := true, laidKinds := [.data, .pinned], laidTests := true, laidLooks := .later }
def FnExactMergeAtCardSaid : Prop := Claim7.holds Tryd.pinned (.plain (OpenSpec.ofChange fnExactMergeAtSpec)) fnExactMergeAtCard

/-- THE TIED CARD OF 'laws.FnTextSame'. -/
def fnTextSameCard : Claim7 := { stood := { row := fnTextSameRow, standIns := [], harness := (true, "d641227d96ad9c8217820262e7cac1a72fb16ddc8a077a665302fa8658b27c45"), looks := false }, kinds := [], alts := [], laidByText := true, laidKinds := [.data, .data, .pinned], laidTests := true, laidLooks := .later }
def FnTextSameCardSaid : Prop := Claim7.holds Tryd.pinned (.plain (OpenSpec.ofChange fnTextSameSpec)) fnTextSameCard

/-- THE TIED CARD OF 'laws.FnLayerText'. -/
def fnLayerTextCard : Claim7 := { stood := { row := fnLayerTextRow, standIns := [], harness := (true, "d641227d96ad9c8217820262e7cac1a72fb16ddc8a077a665302fa8658b27c45"), looks := false }, kinds := [], alts := [], laidByText := true, laidKinds := [.data, .pinned], laidTests := true, laidLooks := .later }
def FnLayerTextCardSaid : Prop := Claim7.holds Tryd.pinned (.plain (OpenSpec.ofChange fnLayerTextSpec)) fnLayerTextCard

/-- THE TIED CARD OF 'laws.FnMergeAt'. -/
def fnMergeAtCard : Claim7 := { stood := { row := fnMergeAtRow, standIns := [], harness := (true, "d641227d96ad9c8217820262e7cac1a72fb16ddc8a077a665302fa8658b27c45"), looks := false }, kinds := [], alts := [], laidByText := true, laidKinds := [.data, .pinned], laidTests := true, laidLooks := .later }
def FnMergeAtCardSaid : Prop := Claim7.holds Tryd.pinned (.plain (OpenSpec.ofChange fnMergeAtSpec)) fnMergeAtCard

/-- THE TIED CARD OF 'laws.FnTreeText'. -/
def fnTreeTextCard : Claim7 := { stood := { row := fnTreeTextRow, standIns := [], harness := (true, "d641227d96ad9c8217820262e7cac1a72fb16ddc8a077a665302fa8658b27c45"), looks := false }, kinds := [], alts := [], laidByText := true, laidKinds := [.data, .pinned], laidTests := true, laidLooks := .later }
def FnTreeTextCardSaid : Prop := Claim7.holds Tryd.pinned (.plain (OpenSpec.ofChange fnTreeTextSpec)) fnTreeTextCard

/-- THE TIED CARD OF 'laws.FnTextMany'. -/
def fnTextManyCard : Claim7 := { stood := { row := fnTextManyRow, standIns := [], harness := (true, "d641227d96ad9c8217820262e7cac1a72fb16ddc8a077a665302fa8658b27c45"), looks := false }, kinds := [], alts := [], laidByText := true, laidKinds := [.data, .pinned], laidTests := true, laidLooks := .later }
def FnTextManyCardSaid : Prop := Claim7.holds Tryd.pinned (.plain (OpenSpec.ofChange fnTextManySpec)) fnTextManyCard

/-- THE TIED CARD OF 'laws.FnExactMergeClash'. -/
def fnExactMergeClashCard : Claim7 := { stood := { row := fnExactMergeClashRow, standIns := [], harness := (true, "d641227d96ad9c8217820262e7cac1a72fb16ddc8a077a665302fa8658b27c45"), looks := false }, kinds := [], alts := [], laidByText := true, laidKinds := [.data, .pinned], laidTests := true, laidLooks := .later }
def FnExactMergeClashCardSaid : Prop := Claim7.holds Tryd.pinned (.plain (OpenSpec.ofChange fnExactMergeClashSpec)) fnExactMergeClashCard

/-- THE TIED CARD OF 'laws.FnExactMerge'. -/
def fnExactMergeCard : Claim7 := { stood := { row := fnExactMergeRow, standIns := [], harness := (true, "d641227d96ad9c8217820262e7cac1a72fb16ddc8a077a665302fa8658b27c45"), looks := false }, kinds := [], alts := [], laidByText := true, laidKinds := [.data, .pinned], laidTests := true, laidLooks := .later }
def FnExactMergeCardSaid : Prop := Claim7.holds Tryd.pinned (.plain (OpenSpec.ofChange fnExactMergeSpec)) fnExactMergeCard

/-- THE SECOND FORM's CARD OF 'laws.FnOpText'. -/
def fnOpTextUptoCard : Claim7 := { stood := { row := fnOpTextUptoRow, standIns := [], harness := (true, "d641227d96ad9c8217820262e7cac1a72fb16ddc8a077a665302fa8658b27c45"), looks := false }, kinds := [], alts := [], laidByText := true, laidKinds := [.data, .data, .pinned], laidTests := true, laidLooks := .later }
def FnOpTextUptoCardSaid : Prop := Claim7.holds Tryd.pinned (.plain (OpenSpec.upto fnOpTextSpec)) fnOpTextUptoCard

/-- THE SECOND FORM's CARD OF 'laws.FnExactMergeAt'. -/
def fnExactMergeAtUptoCard : Claim7 := { stood := { row := fnExactMergeAtUptoRow, standIns := [], harness := (true, "d641227d96ad9c8217820262e7cac1a72fb16ddc8a077a665302fa8658b27c45"), looks := false }, kinds := [], alts := [], laidByText := true, laidKinds := [.data, .pinned], laidTests := true, laidLooks := .later }
def FnExactMergeAtUptoCardSaid : Prop := Claim7.holds Tryd.pinned (.plain (OpenSpec.upto fnExactMergeAtSpec)) fnExactMergeAtUptoCard

/-- THE SECOND FORM's CARD OF 'laws.FnTextSame'. -/
def fnTextSameUptoCard : Claim7 := { stood := { row := fnTextSameUptoRow, standIns := [], harness := (true, "d641227d96ad9c8217820262e7cac1a72fb16ddc8a077a665302fa8658b27c45"), looks := false }, kinds := [], alts := [], laidByText := true, laidKinds := [.data, .data, .pinned], laidTests := true, laidLooks := .later }
def FnTextSameUptoCardSaid : Prop := Claim7.holds Tryd.pinned (.plain (OpenSpec.upto fnTextSameSpec)) fnTextSameUptoCard

/-- THE SECOND FORM's CARD OF 'laws.FnLayerText'. -/
def fnLayerTextUptoCard : Claim7 := { stood := { row := fnLayerTextUptoRow, standIns := [], harness := (true, "d641227d96ad9c8217820262e7cac1a72fb16ddc8a077a665302fa8658b27c45"), looks := false }, kinds := [], alts := [], laidByText := true, laidKinds := [.data, .pinned], laidTests := true, laidLooks := .later }
def FnLayerTextUptoCardSaid : Prop := Claim7.holds Tryd.pinned (.plain (OpenSpec.upto fnLayerTextSpec)) fnLayerTextUptoCard

/-- THE SECOND FORM's CARD OF 'laws.FnMergeAt'. -/
def fnMergeAtUptoCard : Claim7 := { stood := { row := fnMergeAtUptoRow, standIns := [], harness := (true, "d641227d96ad9c8217820262e7cac1a72fb16ddc8a077a665302fa8658b27c45"), looks := false }, kinds := [], alts := [], laidByText := true, laidKinds := [.data, .pinned], laidTests := true, laidLooks := .later }
def FnMergeAtUptoCardSaid : Prop := Claim7.holds Tryd.pinned (.plain (OpenSpec.upto fnMergeAtSpec)) fnMergeAtUptoCard

/-- THE SECOND FORM's CARD OF 'laws.FnTreeText'. -/
def fnTreeTextUptoCard : Claim7 := { stood := { row := fnTreeTextUptoRow, standIns := [], harness := (true, "d641227d96ad9c8217820262e7cac1a72fb16ddc8a077a665302fa8658b27c45"), looks := false }, kinds := [], alts := [], laidByText := true, laidKinds := [.data, .pinned], laidTests := true, laidLooks := .later }
def FnTreeTextUptoCardSaid : Prop := Claim7.holds Tryd.pinned (.plain (OpenSpec.upto fnTreeTextSpec)) fnTreeTextUptoCard

/-- THE SECOND FORM's CARD OF 'laws.FnTextMany'. -/
def fnTextManyUptoCard : Claim7 := { stood := { row := fnTextManyUptoRow, standIns := [], harness := (true, "d641227d96ad9c8217820262e7cac1a72fb16ddc8a077a665302fa8658b27c45"), looks := false }, kinds := [], alts := [], laidByText := true, laidKinds := [.data, .pinned], laidTests := true, laidLooks := .later }
def FnTextManyUptoCardSaid : Prop := Claim7.holds Tryd.pinned (.plain (OpenSpec.upto fnTextManySpec)) fnTextManyUptoCard

/-- THE SECOND FORM's CARD OF 'laws.FnExactMergeClash'. -/
def fnExactMergeClashUptoCard : Claim7 := { stood := { row := fnExactMergeClashUptoRow, standIns := [], harness := (true, "d641227d96ad9c8217820262e7cac1a72fb16ddc8a077a665302fa8658b27c45"), looks := false }, kinds := [], alts := [], laidByText := true, laidKinds := [.data, .pinned], laidTests := true, laidLooks := .later }
def FnExactMergeClashUptoCardSaid : Prop := Claim7.holds Tryd.pinned (.plain (OpenSpec.upto fnExactMergeClashSpec)) fnExactMergeClashUptoCard

/-- THE SECOND FORM's CARD OF 'laws.FnExactMerge'. -/
def fnExactMergeUptoCard : Claim7 := { stood := { row := fnExactMergeUptoRow, standIns := [], harness := (true, "d641227d96ad9c8217820262e7cac1a72fb16ddc8a077a665302fa8658b27c45"), looks := false }, kinds := [], alts := [], laidByText := true, laidKinds := [.data, .pinned], laidTests := true, laidLooks := .later }
def FnExactMergeUptoCardSaid : Prop := Claim7.holds Tryd.pinned (.plain (OpenSpec.upto fnExactMergeSpec)) fnExactMergeUptoCard
end Rows
end Go.Proofs.YtmnjlhjpeebfdaaDoor
