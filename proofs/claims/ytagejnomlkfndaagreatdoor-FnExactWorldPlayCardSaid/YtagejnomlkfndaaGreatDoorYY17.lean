/- Texts of this claim, set close: lemmas and contracts. -/
import Derived.Test.YtagejnomlkfndaaGreatDoorYY12
set_option linter.unusedSimpArgs false
set_option linter.unusedVariables false
namespace Go.Par
open Go.Ab
section
variable {a b:List Mrk} (ha:aX a=true) (hb:aX b=true)
include ha hb
end
end Go.Par
