/- Contracts: layers. -/
import Derived.Test.YtplhgbcpeohpgaaLf
import Derived.Test.YtplhgbcpeohpgaaX3
import Derived.Test.YtplhgbcpeohpgaaX2
set_option linter.unusedSimpArgs false
set_option linter.unusedVariables false
set_option maxHeartbeats 1000000
set_option maxRecDepth 10000
namespace Go.Proofs.Ytplhgbcpeohpgaa
open Go Go.RowKit Go.Ab Go.Par
variable {m : Int}
end Go.Proofs.Ytplhgbcpeohpgaa
