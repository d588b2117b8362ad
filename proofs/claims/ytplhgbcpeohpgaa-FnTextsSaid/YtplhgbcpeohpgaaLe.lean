/- Contracts: the program's trees and their texts; the laws' own helpers for lists of entries. -/
import Derived.Test.YtplhgbcpeohpgaaLd
set_option linter.unusedSimpArgs false
set_option linter.unusedVariables false
set_option maxHeartbeats 1000000
set_option maxRecDepth 10000
namespace Go.Proofs.Ytplhgbcpeohpgaa
open Go Go.RowKit Go.Ab Go.Par
variable {m : Int}
end Go.Proofs.Ytplhgbcpeohpgaa
