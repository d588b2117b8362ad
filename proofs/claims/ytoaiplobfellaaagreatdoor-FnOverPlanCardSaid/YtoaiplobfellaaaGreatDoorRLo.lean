/- Contracts: the texts of what is done. -/
import Derived.Test.YtoaiplobfellaaaGreatDoorRLf
import Derived.Test.YtoaiplobfellaaaGreatDoorRX2
set_option linter.unusedSimpArgs false
set_option linter.unusedVariables false
set_option maxHeartbeats 1000000
set_option maxRecDepth 10000
namespace Go.Proofs.YtoaiplobfellaaaGreatDoor
open Go Go.RowKit Go.Ab Go.Par
variable {m : Int}
def opD : Option Opn → D
  | some o => .tup [.agg o.c, .b true]
  | none => .tup [.agg op0.c, .b false]
end Go.Proofs.YtoaiplobfellaaaGreatDoor
