/- Contracts of library functions, out of the shelf's. -/
import Derived.Test.YtplhgbcpeohpgaaLb
set_option linter.unusedSimpArgs false
set_option linter.unusedVariables false
set_option maxHeartbeats 1000000
set_option maxRecDepth 10000
namespace Go.Proofs.Ytplhgbcpeohpgaa
open Go Go.RowKit Go.Ab Go.Par
variable {m : Int}
theorem ba_of (b : ByteArray) : (⟨b.data.toList.toArray⟩ : ByteArray) = b := by
  cases b; simp
end Go.Proofs.Ytplhgbcpeohpgaa
