/- Contracts: the texts of what is done. -/
import Derived.Test.YtplhgbcpeohpgaaLf
import Derived.Test.YtplhgbcpeohpgaaX2
set_option linter.unusedSimpArgs false
set_option linter.unusedVariables false
set_option maxHeartbeats 1000000
set_option maxRecDepth 10000
namespace Go.Proofs.Ytplhgbcpeohpgaa
open Go Go.RowKit Go.Ab Go.Par
variable {m : Int}
theorem opOk_max {o : Opn} (h : opOk o = true) : (opText o).length ≤ 40 := by
  have h1 := opOk_len h
  have h2 := opOk_kind h
  have h3 : (opWord o.kind).length ≤ 5 := by
    have : o.kind = 1 ∨ o.kind = 2 ∨ o.kind = 3 ∨ o.kind = 4 ∨ o.kind = 5 := by omega
    rcases this with h | h | h | h | h <;> rw [h] <;> decide
  rw [opText, if_pos h]
  simp only [List.length_append]
  split <;> split <;> simp <;> omega
def opD : Option Opn → D
  | some o => .tup [.agg o.c, .b true]
  | none => .tup [.agg op0.c, .b false]
end Go.Proofs.Ytplhgbcpeohpgaa
