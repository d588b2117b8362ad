/- Texts of this claim, set close: lemmas and contracts. -/
import Derived.Test.YtagejnomlkfndaaGreatDoorYY11
import Derived.Test.YtagejnomlkfndaaGreatDoorYY26
set_option linter.unusedSimpArgs false
set_option linter.unusedVariables false
set_option maxHeartbeats 1000000
set_option maxRecDepth 10000
namespace Go.Proofs.YtagejnomlkfndaaGreatDoor
open Go Go.RowKit Go.Ab Go.Par
variable {m:Int}
theorem jc.big {o:Opn} (h:jc 100 o):jc 1073741823 o:=⟨by have:=h.1; omega,by have:=h.2.1; omega,by have:=h.2.2; omega⟩
end Go.Proofs.YtagejnomlkfndaaGreatDoor
