/- Texts that are cut behind a line; texts of operations that are read: in plain Lean. -/
import Derived.Test.YtoaiplobfellaaaGreatDoorRX3
set_option linter.unusedSimpArgs false
set_option linter.unusedVariables false
namespace Go.Par
open Go.Ab
def nls (s : Bs) : Nat := (s.filter fun b => decide (b = 10)).length
end Go.Par
