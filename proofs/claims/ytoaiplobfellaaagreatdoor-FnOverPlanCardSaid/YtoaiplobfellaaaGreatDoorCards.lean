/-
  DERIVED. GIVEN WITH THE SEED: THE CARDS: each row of YtoaiplobfellaaaGreatDoorRows.lean that lists a variable, with what it lists TIED to the program's text (the seventh form; the later family's looks); each row that meets fmt, with fmt's text TOLD by the authors' own Lean function (tested against real Go, not proved from fmt's source: count such statements apart). THE CARD IS WHAT COUNTS. Prove the row's statement (the work); the ties are given (YtoaiplobfellaaaGreatDoorTie.lean); close each card by the builder's one call (the guide's Derived/Test/ToyasCard.lean, 'card_holds'). Laid BY PROGRAM, IN A SANDBOX (cutbox-door.mjs). By AI agents, Wed Nov 11 2026. No macro, syntax, notation, axiom, sorry.
-/
import Derived.Test.YtoaiplobfellaaaGreatDoorRows
import GoSem.ClaimSeven
namespace Go.Proofs.YtoaiplobfellaaaGreatDoor
namespace Rows

/-- THE TIED CARD OF 'laws.FnExactOpBack'. -/
def fnExactOpBackCard : Claim7 := { stood := { row := fnExactOpBackRow, standIns := [], harness := (true, "4ebbf4100483020d81ebf66f10b4f229bd039ed8f8081d962d7d9bdbb0d6ee21"), looks := false }, kinds := [], alts := [], laidByText := true, laidKinds := [.data, .pinned], laidTests := true, laidLooks := .later }
def FnExactOpBackCardSaid : Prop := Claim7.holds Tryz.pinned (.plain (OpenSpec.ofChange fnExactOpBackSpec)) fnExactOpBackCard

/-- THE TIED CARD OF 'laws.FnLogDo'. -/
def fnLogDoCard : Claim7 := { stood := { row := fnLogDoRow, standIns := [], harness := (true, "4ebbf4100483020d81ebf66f10b4f229bd039ed8f8081d962d7d9bdbb0d6ee21"), looks := false }, kinds := [], alts := [], laidByText := true, laidKinds := [.data, .pinned], laidTests := true, laidLooks := .later }
def FnLogDoCardSaid : Prop := Claim7.holds Tryz.pinned (.plain (OpenSpec.ofChange fnLogDoSpec)) fnLogDoCard

/-- THE TIED CARD OF 'laws.FnOpBack'. -/
def fnOpBackCard : Claim7 := { stood := { row := fnOpBackRow, standIns := [], harness := (true, "4ebbf4100483020d81ebf66f10b4f229bd039ed8f8081d962d7d9bdbb0d6ee21"), looks := false }, kinds := [], alts := [], laidByText := true, laidKinds := [.data, .pinned], laidTests := true, laidLooks := .later }
def FnOpBackCardSaid : Prop := Claim7.holds Tryz.pinned (.plain (OpenSpec.ofChange fnOpBackSpec)) fnOpBackCard

/-- THE TIED CARD OF 'laws.FnLogClean'. -/
def fnLogCleanCard : Claim7 := { stood := { row := fnLogCleanRow, standIns := [], harness := (true, "4ebbf4100483020d81ebf66f10b4f229bd039ed8f8081d962d7d9bdbb0d6ee21"), looks := false }, kinds := [], alts := [], laidByText := true, laidKinds := [.data, .pinned], laidTests := true, laidLooks := .later }
def FnLogCleanCardSaid : Prop := Claim7.holds Tryz.pinned (.plain (OpenSpec.ofChange fnLogCleanSpec)) fnLogCleanCard

/-- THE TIED CARD OF 'laws.FnLogTurned'. -/
def fnLogTurnedCard : Claim7 := { stood := { row := fnLogTurnedRow, standIns := [], harness := (true, "4ebbf4100483020d81ebf66f10b4f229bd039ed8f8081d962d7d9bdbb0d6ee21"), looks := false }, kinds := [], alts := [], laidByText := true, laidKinds := [.data, .pinned], laidTests := true, laidLooks := .later }
def FnLogTurnedCardSaid : Prop := Claim7.holds Tryz.pinned (.plain (OpenSpec.ofChange fnLogTurnedSpec)) fnLogTurnedCard

/-- THE TIED CARD OF 'laws.FnLogApart'. -/
def fnLogApartCard : Claim7 := { stood := { row := fnLogApartRow, standIns := [], harness := (true, "4ebbf4100483020d81ebf66f10b4f229bd039ed8f8081d962d7d9bdbb0d6ee21"), looks := false }, kinds := [], alts := [], laidByText := true, laidKinds := [.data, .pinned], laidTests := true, laidLooks := .later }
def FnLogApartCardSaid : Prop := Claim7.holds Tryz.pinned (.plain (OpenSpec.ofChange fnLogApartSpec)) fnLogApartCard

/-- THE TIED CARD OF 'laws.FnLogLast'. -/
def fnLogLastCard : Claim7 := { stood := { row := fnLogLastRow, standIns := [], harness := (true, "4ebbf4100483020d81ebf66f10b4f229bd039ed8f8081d962d7d9bdbb0d6ee21"), looks := false }, kinds := [], alts := [], laidByText := true, laidKinds := [.data, .pinned], laidTests := true, laidLooks := .later }
def FnLogLastCardSaid : Prop := Claim7.holds Tryz.pinned (.plain (OpenSpec.ofChange fnLogLastSpec)) fnLogLastCard

/-- THE TIED CARD OF 'laws.FnTextDo'. -/
def fnTextDoCard : Claim7 := { stood := { row := fnTextDoRow, standIns := [], harness := (true, "4ebbf4100483020d81ebf66f10b4f229bd039ed8f8081d962d7d9bdbb0d6ee21"), looks := false }, kinds := [], alts := [], laidByText := true, laidKinds := [.data, .data, .pinned], laidTests := true, laidLooks := .later }
def FnTextDoCardSaid : Prop := Claim7.holds Tryz.pinned (.plain (OpenSpec.ofChange fnTextDoSpec)) fnTextDoCard

/-- THE TIED CARD OF 'laws.FnExactLogClean'. -/
def fnExactLogCleanCard : Claim7 := { stood := { row := fnExactLogCleanRow, standIns := [], harness := (true, "4ebbf4100483020d81ebf66f10b4f229bd039ed8f8081d962d7d9bdbb0d6ee21"), looks := false }, kinds := [], alts := [], laidByText := true, laidKinds := [.data, .pinned], laidTests := true, laidLooks := .later }
def FnExactLogCleanCardSaid : Prop := Claim7.holds Tryz.pinned (.plain (OpenSpec.ofChange fnExactLogCleanSpec)) fnExactLogCleanCard

/-- THE TIED CARD OF 'laws.FnLogBack'. -/
def fnLogBackCard : Claim7 := { stood := { row := fnLogBackRow, standIns := [], harness := (true, "4ebbf4100483020d81ebf66f10b4f229bd039ed8f8081d962d7d9bdbb0d6ee21"), looks := false }, kinds := [], alts := [], laidByText := true, laidKinds := [.data, .pinned], laidTests := true, laidLooks := .later }
def FnLogBackCardSaid : Prop := Claim7.holds Tryz.pinned (.plain (OpenSpec.ofChange fnLogBackSpec)) fnLogBackCard

/-- THE TIED CARD OF 'laws.FnExactLogDo'. -/
def fnExactLogDoCard : Claim7 := { stood := { row := fnExactLogDoRow, standIns := [], harness := (true, "4ebbf4100483020d81ebf66f10b4f229bd039ed8f8081d962d7d9bdbb0d6ee21"), looks := false }, kinds := [], alts := [], laidByText := true, laidKinds := [.data, .pinned], laidTests := true, laidLooks := .later }
def FnExactLogDoCardSaid : Prop := Claim7.holds Tryz.pinned (.plain (OpenSpec.ofChange fnExactLogDoSpec)) fnExactLogDoCard

/-- THE TIED CARD OF 'laws.FnExactLogBack'. -/
def fnExactLogBackCard : Claim7 := { stood := { row := fnExactLogBackRow, standIns := [], harness := (true, "4ebbf4100483020d81ebf66f10b4f229bd039ed8f8081d962d7d9bdbb0d6ee21"), looks := false }, kinds := [], alts := [], laidByText := true, laidKinds := [.data, .pinned], laidTests := true, laidLooks := .later }
def FnExactLogBackCardSaid : Prop := Claim7.holds Tryz.pinned (.plain (OpenSpec.ofChange fnExactLogBackSpec)) fnExactLogBackCard

/-- THE TIED CARD OF 'laws.FnMergeApart'. -/
def fnMergeApartCard : Claim7 := { stood := { row := fnMergeApartRow, standIns := [], harness := (true, "4ebbf4100483020d81ebf66f10b4f229bd039ed8f8081d962d7d9bdbb0d6ee21"), looks := false }, kinds := [], alts := [], laidByText := true, laidKinds := [.data, .pinned], laidTests := true, laidLooks := .later }
def FnMergeApartCardSaid : Prop := Claim7.holds Tryz.pinned (.plain (OpenSpec.ofChange fnMergeApartSpec)) fnMergeApartCard

/-- THE TIED CARD OF 'laws.FnMergeLayer'. -/
def fnMergeLayerCard : Claim7 := { stood := { row := fnMergeLayerRow, standIns := [], harness := (true, "4ebbf4100483020d81ebf66f10b4f229bd039ed8f8081d962d7d9bdbb0d6ee21"), looks := false }, kinds := [], alts := [], laidByText := true, laidKinds := [.data, .pinned], laidTests := true, laidLooks := .later }
def FnMergeLayerCardSaid : Prop := Claim7.holds Tryz.pinned (.plain (OpenSpec.ofChange fnMergeLayerSpec)) fnMergeLayerCard

/-- THE TIED CARD OF 'laws.FnOverPlain'. -/
def fnOverPlainCard : Claim7 := { stood := { row := fnOverPlainRow, standIns := [], harness := (true, "4ebbf4100483020d81ebf66f10b4f229bd039ed8f8081d962d7d9bdbb0d6ee21"), looks := false }, kinds := [], alts := [], laidByText := true, laidKinds := [.data, .pinned], laidTests := true, laidLooks := .later }
def FnOverPlainCardSaid : Prop := Claim7.holds Tryz.pinned (.plain (OpenSpec.ofChange fnOverPlainSpec)) fnOverPlainCard

/-- THE TIED CARD OF 'laws.FnLogOver'. -/
def fnLogOverCard : Claim7 := { stood := { row := fnLogOverRow, standIns := [], harness := (true, "4ebbf4100483020d81ebf66f10b4f229bd039ed8f8081d962d7d9bdbb0d6ee21"), looks := false }, kinds := [], alts := [], laidByText := true, laidKinds := [.data, .pinned], laidTests := true, laidLooks := .later }
def FnLogOverCardSaid : Prop := Claim7.holds Tryz.pinned (.plain (OpenSpec.ofChange fnLogOverSpec)) fnLogOverCard

/-- THE TIED CARD OF 'laws.FnOverPlan'. -/
def fnOverPlanCard : Claim7 := { stood := { row := fnOverPlanRow, standIns := [], harness := (true, "4ebbf4100483020d81ebf66f10b4f229bd039ed8f8081d962d7d9bdbb0d6ee21"), looks := false }, kinds := [], alts := [], laidByText := true, laidKinds := [.data, .pinned], laidTests := true, laidLooks := .later }
def FnOverPlanCardSaid : Prop := Claim7.holds Tryz.pinned (.plain (OpenSpec.ofChange fnOverPlanSpec)) fnOverPlanCard

/-- THE TIED CARD OF 'laws.FnExactLogOver'. -/
def fnExactLogOverCard : Claim7 := { stood := { row := fnExactLogOverRow, standIns := [], harness := (true, "4ebbf4100483020d81ebf66f10b4f229bd039ed8f8081d962d7d9bdbb0d6ee21"), looks := false }, kinds := [], alts := [], laidByText := true, laidKinds := [.data, .pinned], laidTests := true, laidLooks := .later }
def FnExactLogOverCardSaid : Prop := Claim7.holds Tryz.pinned (.plain (OpenSpec.ofChange fnExactLogOverSpec)) fnExactLogOverCard

/-- THE SECOND FORM's CARD OF 'laws.FnExactOpBack'. -/
def fnExactOpBackUptoCard : Claim7 := { stood := { row := fnExactOpBackUptoRow, standIns := [], harness := (true, "4ebbf4100483020d81ebf66f10b4f229bd039ed8f8081d962d7d9bdbb0d6ee21"), looks := false }, kinds := [], alts := [], laidByText := true, laidKinds := [.data, .pinned], laidTests := true, laidLooks := .later }
def FnExactOpBackUptoCardSaid : Prop := Claim7.holds Tryz.pinned (.plain (OpenSpec.upto fnExactOpBackSpec)) fnExactOpBackUptoCard

/-- THE SECOND FORM's CARD OF 'laws.FnLogDo'. -/
def fnLogDoUptoCard : Claim7 := { stood := { row := fnLogDoUptoRow, standIns := [], harness := (true, "4ebbf4100483020d81ebf66f10b4f229bd039ed8f8081d962d7d9bdbb0d6ee21"), looks := false }, kinds := [], alts := [], laidByText := true, laidKinds := [.data, .pinned], laidTests := true, laidLooks := .later }
def FnLogDoUptoCardSaid : Prop := Claim7.holds Tryz.pinned (.plain (OpenSpec.upto fnLogDoSpec)) fnLogDoUptoCard

/-- THE SECOND FORM's CARD OF 'laws.FnOpBack'. -/
def fnOpBackUptoCard : Claim7 := { stood := { row := fnOpBackUptoRow, standIns := [], harness := (true, "4ebbf4100483020d81ebf66f10b4f229bd039ed8f8081d962d7d9bdbb0d6ee21"), looks := false }, kinds := [], alts := [], laidByText := true, laidKinds := [.data, .pinned], laidTests := true, laidLooks := .later }
def FnOpBackUptoCardSaid : Prop := Claim7.holds Tryz.pinned (.plain (OpenSpec.upto fnOpBackSpec)) fnOpBackUptoCard

/-- THE SECOND FORM's CARD OF 'laws.FnLogClean'. -/
def fnLogCleanUptoCard : Claim7 := { stood := { row := fnLogCleanUptoRow, standIns := [], harness := (true, "4ebbf4100483020d81ebf66f10b4f229bd039ed8f8081d962d7d9bdbb0d6ee21"), looks := false }, kinds := [], alts := [], laidByText := true, laidKinds := [.data, .pinned], laidTests := true, laidLooks := .later }
def FnLogCleanUptoCardSaid : Prop := Claim7.holds Tryz.pinned (.plain (OpenSpec.upto fnLogCleanSpec)) fnLogCleanUptoCard

/-- THE SECOND FORM's CARD OF 'laws.FnLogTurned'. -/
def fnLogTurnedUptoCard : Claim7 := { stood := { row := fnLogTurnedUptoRow, standIns := [], harness := (true, "4ebbf4100483020d81ebf66f10b4f229bd039ed8f8081d962d7d9bdbb0d6ee21"), looks := false }, kinds := [], alts := [], laidByText := true, laidKinds := [.data, .pinned], laidTests := true, laidLooks := .later }
def FnLogTurnedUptoCardSaid : Prop := Claim7.holds Tryz.pinned (.plain (OpenSpec.upto fnLogTurnedSpec)) fnLogTurnedUptoCard

/-- THE SECOND FORM's CARD OF 'laws.FnLogApart'. -/
def fnLogApartUptoCard : Claim7 := { stood := { row := fnLogApartUptoRow, standIns := [], harness := (true, "4ebbf4100483020d81ebf66f10b4f229bd039ed8f8081d962d7d9bdbb0d6ee21"), looks := false }, kinds := [], alts := [], laidByText := true, laidKinds := [.data, .pinned], laidTests := true, laidLooks := .later }
def FnLogApartUptoCardSaid : Prop := Claim7.holds Tryz.pinned (.plain (OpenSpec.upto fnLogApartSpec)) fnLogApartUptoCard

/-- THE SECOND FORM's CARD OF 'laws.FnLogLast'. -/
def fnLogLastUptoCard : Claim7 := { stood := { row := fnLogLastUptoRow, standIns := [], harness := (true, "4ebbf4100483020d81ebf66f10b4f229bd039ed8f8081d962d7d9bdbb0d6ee21"), looks := false }, kinds := [], alts := [], laidByText := true, laidKinds := [.data, .pinned], laidTests := true, laidLooks := .later }
def FnLogLastUptoCardSaid : Prop := Claim7.holds Tryz.pinned (.plain (OpenSpec.upto fnLogLastSpec)) fnLogLastUptoCard

/-- THE SECOND FORM's CARD OF 'laws.FnTextDo'. -/
def fnTextDoUptoCard : Claim7 := { stood := { row := fnTextDoUptoRow, standIns := [], harness := (true, "4ebbf4100483020d81ebf66f10b4f229bd039ed8f8081d962d7d9bdbb0d6ee21"), looks := false }, kinds := [], alts := [], laidByText := true, laidKinds := [.data, .data, .pinned], laidTests := true, laidLooks := .later }
def FnTextDoUptoCardSaid : Prop := Claim7.holds Tryz.pinned (.plain (OpenSpec.upto fnTextDoSpec)) fnTextDoUptoCard

/-- THE SECOND FORM's CARD OF 'laws.FnExactLogClean'. -/
def fnExactLogCleanUptoCard : Claim7 := { stood := { row := fnExactLogCleanUptoRow, standIns := [], harness := (true, "4ebbf4100483020d81ebf66f10b4f229bd039ed8f8081d962d7d9bdbb0d6ee21"), looks := false }, kinds := [], alts := [], laidByText := true, laidKinds := [.data, .pinned], laidTests := true, laidLooks := .later }
def FnExactLogCleanUptoCardSaid : Prop := Claim7.holds Tryz.pinned (.plain (OpenSpec.upto fnExactLogCleanSpec)) fnExactLogCleanUptoCard

/-- THE SECOND FORM's CARD OF 'laws.FnLogBack'. -/
def fnLogBackUptoCard : Claim7 := { stood := { row := fnLogBackUptoRow, standIns := [], harness := (true, "4ebbf4100483020d81ebf66f10b4f229bd039ed8f8081d962d7d9bdbb0d6ee21"), looks := false }, kinds := [], alts := [], laidByText := true, laidKinds := [.data, .pinned], laidTests := true, laidLooks := .later }
def FnLogBackUptoCardSaid : Prop := Claim7.holds Tryz.pinned (.plain (OpenSpec.upto fnLogBackSpec)) fnLogBackUptoCard

/-- THE SECOND FORM's CARD OF 'laws.FnExactLogDo'. -/
def fnExactLogDoUptoCard : Claim7 := { stood := { row := fnExactLogDoUptoRow, standIns := [], harness := (true, "4ebbf4100483020d81ebf66f10b4f229bd039ed8f8081d962d7d9bdbb0d6ee21"), looks := false }, kinds := [], alts := [], laidByText := true, laidKinds := [.data, .pinned], laidTests := true, laidLooks := .later }
def FnExactLogDoUptoCardSaid : Prop := Claim7.holds Tryz.pinned (.plain (OpenSpec.upto fnExactLogDoSpec)) fnExactLogDoUptoCard

/-- THE SECOND FORM's CARD OF 'laws.FnExactLogBack'. -/
def fnExactLogBackUptoCard : Claim7 := { stood := { row := fnExactLogBackUptoRow, standIns := [], harness := (true, "4ebbf4100483020d81ebf66f10b4f229bd039ed8f8081d962d7d9bdbb0d6ee21"), looks := false }, kinds := [], alts := [], laidByText := true, laidKinds := [.data, .pinned], laidTests := true, laidLooks := .later }
def FnExactLogBackUptoCardSaid : Prop := Claim7.holds Tryz.pinned (.plain (OpenSpec.upto fnExactLogBackSpec)) fnExactLogBackUptoCard

/-- THE SECOND FORM's CARD OF 'laws.FnMergeApart'. -/
def fnMergeApartUptoCard : Claim7 := { stood := { row := fnMergeApartUptoRow, standIns := [], harness := (true, "4ebbf4100483020d81ebf66f10b4f229bd039ed8f8081d962d7d9bdbb0d6ee21"), looks := false }, kinds := [], alts := [], laidByText := true, laidKinds := [.data, .pinned], laidTests := true, laidLooks := .later }
def FnMergeApartUptoCardSaid : Prop := Claim7.holds Tryz.pinned (.plain (OpenSpec.upto fnMergeApartSpec)) fnMergeApartUptoCard

/-- THE SECOND FORM's CARD OF 'laws.FnMergeLayer'. -/
def fnMergeLayerUptoCard : Claim7 := { stood := { row := fnMergeLayerUptoRow, standIns := [], harness := (true, "4ebbf4100483020d81ebf66f10b4f229bd039ed8f8081d962d7d9bdbb0d6ee21"), looks := false }, kinds := [], alts := [], laidByText := true, laidKinds := [.data, .pinned], laidTests := true, laidLooks := .later }
def FnMergeLayerUptoCardSaid : Prop := Claim7.holds Tryz.pinned (.plain (OpenSpec.upto fnMergeLayerSpec)) fnMergeLayerUptoCard

/-- THE SECOND FORM's CARD OF 'laws.FnOverPlain'. -/
def fnOverPlainUptoCard : Claim7 := { stood := { row := fnOverPlainUptoRow, standIns := [], harness := (true, "4ebbf4100483020d81ebf66f10b4f229bd039ed8f8081d962d7d9bdbb0d6ee21"), looks := false }, kinds := [], alts := [], laidByText := true, laidKinds := [.data, .pinned], laidTests := true, laidLooks := .later }
def FnOverPlainUptoCardSaid : Prop := Claim7.holds Tryz.pinned (.plain (OpenSpec.upto fnOverPlainSpec)) fnOverPlainUptoCard

/-- THE SECOND FORM's CARD OF 'laws.FnLogOver'. -/
def fnLogOverUptoCard : Claim7 := { stood := { row := fnLogOverUptoRow, standIns := [], harness := (true, "4ebbf4100483020d81ebf66f10b4f229bd039ed8f8081d962d7d9bdbb0d6ee21"), looks := false }, kinds := [], alts := [], laidByText := true, laidKinds := [.data, .pinned], laidTests := true, laidLooks := .later }
def FnLogOverUptoCardSaid : Prop := Claim7.holds Tryz.pinned (.plain (OpenSpec.upto fnLogOverSpec)) fnLogOverUptoCard

/-- THE SECOND FORM's CARD OF 'laws.FnOverPlan'. -/
def fnOverPlanUptoCard : Claim7 := { stood := { row := fnOverPlanUptoRow, standIns := [], harness := (true, "4ebbf4100483020d81ebf66f10b4f229bd039ed8f8081d962d7d9bdbb0d6ee21"), looks := false }, kinds := [], alts := [], laidByText := true, laidKinds := [.data, .pinned], laidTests := true, laidLooks := .later }
def FnOverPlanUptoCardSaid : Prop := Claim7.holds Tryz.pinned (.plain (OpenSpec.upto fnOverPlanSpec)) fnOverPlanUptoCard

/-- THE SECOND FORM's CARD OF 'laws.FnExactLogOver'. -/
def fnExactLogOverUptoCard : Claim7 := { stood := { row := fnExactLogOverUptoRow, standIns := [], harness := (true, "4ebbf4100483020d81ebf66f10b4f229bd039ed8f8081d962d7d9bdbb0d6ee21"), looks := false }, kinds := [], alts := [], laidByText := true, laidKinds := [.data, .pinned], laidTests := true, laidLooks := .later }
def FnExactLogOverUptoCardSaid : Prop := Claim7.holds Tryz.pinned (.plain (OpenSpec.upto fnExactLogOverSpec)) fnExactLogOverUptoCard
end Rows
end Go.Proofs.YtoaiplobfellaaaGreatDoor
