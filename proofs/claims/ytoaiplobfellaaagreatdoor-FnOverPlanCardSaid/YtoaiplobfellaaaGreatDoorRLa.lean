/- The contracts of the functions of entries' and marks' texts. -/
import Derived.Test.YtoaiplobfellaaaGreatDoorRK
import Derived.Test.YtoaiplobfellaaaGreatDoorRX2
import Derived.Test.YtoaiplobfellaaaGreatDoorRX3
set_option linter.unusedSimpArgs false
set_option linter.unusedVariables false
set_option maxHeartbeats 1000000
set_option maxRecDepth 10000
namespace Go.Proofs.YtoaiplobfellaaaGreatDoor
open Go Go.RowKit Go.Ab Go.Par
variable {m : Int}
end Go.Proofs.YtoaiplobfellaaaGreatDoor
