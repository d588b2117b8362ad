/- Texts of this claim, set close: lemmas and contracts. -/
import Derived.Test.YtagejnomlkfndaaGreatDoorYY9
import Derived.Test.YtagejnomlkfndaaGreatDoorYY11
import Derived.Test.YtagejnomlkfndaaGreatDoorYY6
set_option linter.unusedSimpArgs false
set_option linter.unusedVariables false
set_option maxHeartbeats 1000000
set_option maxRecDepth 10000
namespace Go.Proofs.YtagejnomlkfndaaGreatDoor
open Go Go.RowKit Go.Ab Go.Par
variable {m:Int}
abbrev strs (w:List Bs):List (List D):=w.map fun l=>[.s l]
end Go.Proofs.YtagejnomlkfndaaGreatDoor
