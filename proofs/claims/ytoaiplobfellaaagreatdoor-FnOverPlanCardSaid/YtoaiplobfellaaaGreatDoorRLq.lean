/- Contracts: texts of trees and layers, read. -/
import Derived.Test.YtoaiplobfellaaaGreatDoorRLo
import Derived.Test.YtoaiplobfellaaaGreatDoorRLi
import Derived.Test.YtoaiplobfellaaaGreatDoorRX3
set_option linter.unusedSimpArgs false
set_option linter.unusedVariables false
set_option maxHeartbeats 1000000
set_option maxRecDepth 10000
namespace Go.Proofs.YtoaiplobfellaaaGreatDoor
open Go Go.RowKit Go.Ab Go.Par
variable {m : Int}
abbrev strs (w : List Bs) : List (List D) := w.map fun l => [.s l]
abbrev rowsW (W : List (List Bs)) : List (List D) := W.map fun w => [.sl (strs w)]
end Go.Proofs.YtoaiplobfellaaaGreatDoor
