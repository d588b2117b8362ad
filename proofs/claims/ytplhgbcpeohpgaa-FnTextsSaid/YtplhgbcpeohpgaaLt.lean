/- Contracts: the texts and operations that the laws draw. -/
import Derived.Test.YtplhgbcpeohpgaaLo
import Derived.Test.YtplhgbcpeohpgaaLp
import Derived.Test.YtplhgbcpeohpgaaPn
set_option linter.unusedSimpArgs false
set_option linter.unusedVariables false
set_option maxHeartbeats 1000000
set_option maxRecDepth 10000
namespace Go.Proofs.Ytplhgbcpeohpgaa
open Go Go.RowKit Go.Ab Go.Par
variable {m : Int}
def l1Odd : List Bs := [[47], [], [97], [47, 65], [47, 97, 47], [47, 47, 97], [47, 97, 98, 99, 100], [47, 97, 47, 98, 47, 99, 47, 100], [47, 97, 98, 99, 47, 97, 98, 99, 47, 97, 98, 99], [47, 97, 32, 98], [47, 97, 49]]
theorem l1Odd_len : ∀ x ∈ l1Odd, x.length ≤ 100 := by decide
theorem drew (l : Bs) (p n : Int) (hn : 0 < n) : ∃ j : Nat, pickV m l p n = (j : Int) ∧ (j : Int) < n := by
  have h := pickV_bd (m := m) l p n
  exact ⟨_, pick_nn l p n, by have := pick_nn (m := m) l p n; omega⟩
end Go.Proofs.Ytplhgbcpeohpgaa
