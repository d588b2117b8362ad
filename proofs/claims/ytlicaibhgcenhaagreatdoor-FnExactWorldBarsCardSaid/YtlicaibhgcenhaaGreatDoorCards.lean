/-
  DERIVED. GIVEN WITH THE SEED: THE CARDS: each row of YtlicaibhgcenhaaGreatDoorRows.lean that lists a variable, with what it lists TIED to the program's text (the seventh form; the later family's looks); each row that meets fmt, with fmt's text TOLD by the authors' own Lean function (tested against real Go, not proved from fmt's source: count such statements apart). THE CARD IS WHAT COUNTS. Prove the row's statement (the work); the ties are given (YtlicaibhgcenhaaGreatDoorTie.lean); close each card by the builder's one call (the guide's Derived/Test/ToyasCard.lean, 'card_holds'). Laid BY PROGRAM, IN A SANDBOX (cutbox-door.mjs). By AI agents, Wed Nov 11 2026. No macro, syntax, notation, axiom, sorry.
-/
import Derived.Test.YtlicaibhgcenhaaGreatDoorRows
import GoSem.ClaimSeven
namespace Go.Proofs.YtlicaibhgcenhaaGreatDoor
namespace Rows

/-- THE TIED CARD OF 'laws.FnExactDeskRun'. -/
def fnExactDeskRunCard : Claim7 := { stood := { row := fnExactDeskRunRow, standIns := [], harness := (true, "2d5a8630e2a8336e405de3cbf07c9275f65be05ccb08c0cc7341cd59bf929ad1"), looks := false }, kinds := [], alts := [], laidByText := true, laidKinds := [.data, .data, .data, .data, .data, .pinned], laidTests := true, laidLooks := .later }
def FnExactDeskRunCardSaid : Prop := Claim7.holds Tryz.pinned (.plain (OpenSpec.ofChange fnExactDeskRunSpec)) fnExactDeskRunCard

/-- THE TIED CARD OF 'laws.FnDesk'. -/
def fnDeskCard : Claim7 := { stood := { row := fnDeskRow, standIns := [], harness := (true, "2d5a8630e2a8336e405de3cbf07c9275f65be05ccb08c0cc7341cd59bf929ad1"), looks := false }, kinds := [], alts := [], laidByText := true, laidKinds := [.data, .data, .data, .data, .data, .pinned], laidTests := true, laidLooks := .later }
def FnDeskCardSaid : Prop := Claim7.holds Tryz.pinned (.plain (OpenSpec.ofChange fnDeskSpec)) fnDeskCard

/-- THE TIED CARD OF 'laws.FnDeskFresh'. -/
def fnDeskFreshCard : Claim7 := { stood := { row := fnDeskFreshRow, standIns := [], harness := (true, "2d5a8630e2a8336e405de3cbf07c9275f65be05ccb08c0cc7341cd59bf929ad1"), looks := false }, kinds := [], alts := [], laidByText := true, laidKinds := [.data, .data, .data, .data, .data, .pinned], laidTests := true, laidLooks := .later }
def FnDeskFreshCardSaid : Prop := Claim7.holds Tryz.pinned (.plain (OpenSpec.ofChange fnDeskFreshSpec)) fnDeskFreshCard

/-- THE TIED CARD OF 'laws.FnExactWorldBars'. -/
def fnExactWorldBarsCard : Claim7 := { stood := { row := fnExactWorldBarsRow, standIns := [], harness := (true, "2d5a8630e2a8336e405de3cbf07c9275f65be05ccb08c0cc7341cd59bf929ad1"), looks := false }, kinds := [], alts := [], laidByText := true, laidKinds := [.data, .pinned], laidTests := true, laidLooks := .later }
def FnExactWorldBarsCardSaid : Prop := Claim7.holds Tryz.pinned (.plain (OpenSpec.ofChange fnExactWorldBarsSpec)) fnExactWorldBarsCard

/-- THE SECOND FORM's CARD OF 'laws.FnExactDeskRun'. -/
def fnExactDeskRunUptoCard : Claim7 := { stood := { row := fnExactDeskRunUptoRow, standIns := [], harness := (true, "2d5a8630e2a8336e405de3cbf07c9275f65be05ccb08c0cc7341cd59bf929ad1"), looks := false }, kinds := [], alts := [], laidByText := true, laidKinds := [.data, .data, .data, .data, .data, .pinned], laidTests := true, laidLooks := .later }
def FnExactDeskRunUptoCardSaid : Prop := Claim7.holds Tryz.pinned (.plain (OpenSpec.upto fnExactDeskRunSpec)) fnExactDeskRunUptoCard

/-- THE SECOND FORM's CARD OF 'laws.FnDesk'. -/
def fnDeskUptoCard : Claim7 := { stood := { row := fnDeskUptoRow, standIns := [], harness := (true, "2d5a8630e2a8336e405de3cbf07c9275f65be05ccb08c0cc7341cd59bf929ad1"), looks := false }, kinds := [], alts := [], laidByText := true, laidKinds := [.data, .data, .data, .data, .data, .pinned], laidTests := true, laidLooks := .later }
def FnDeskUptoCardSaid : Prop := Claim7.holds Tryz.pinned (.plain (OpenSpec.upto fnDeskSpec)) fnDeskUptoCard

/-- THE SECOND FORM's CARD OF 'laws.FnDeskFresh'. -/
def fnDeskFreshUptoCard : Claim7 := { stood := { row := fnDeskFreshUptoRow, standIns := [], harness := (true, "2d5a8630e2a8336e405de3cbf07c9275f65be05ccb08c0cc7341cd59bf929ad1"), looks := false }, kinds := [], alts := [], laidByText := true, laidKinds := [.data, .data, .data, .data, .data, .pinned], laidTests := true, laidLooks := .later }
def FnDeskFreshUptoCardSaid : Prop := Claim7.holds Tryz.pinned (.plain (OpenSpec.upto fnDeskFreshSpec)) fnDeskFreshUptoCard

/-- THE SECOND FORM's CARD OF 'laws.FnExactWorldBars'. -/
def fnExactWorldBarsUptoCard : Claim7 := { stood := { row := fnExactWorldBarsUptoRow, standIns := [], harness := (true, "2d5a8630e2a8336e405de3cbf07c9275f65be05ccb08c0cc7341cd59bf929ad1"), looks := false }, kinds := [], alts := [], laidByText := true, laidKinds := [.data, .pinned], laidTests := true, laidLooks := .later }
def FnExactWorldBarsUptoCardSaid : Prop := Claim7.holds Tryz.pinned (.plain (OpenSpec.upto fnExactWorldBarsSpec)) fnExactWorldBarsUptoCard
end Rows
end Go.Proofs.YtlicaibhgcenhaaGreatDoor
