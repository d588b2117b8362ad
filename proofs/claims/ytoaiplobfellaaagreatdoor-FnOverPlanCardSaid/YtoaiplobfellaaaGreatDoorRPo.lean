/- Paths that are sorted, each kept once: in plain Lean. -/
import Derived.Test.YtoaiplobfellaaaGreatDoorRPk
import Derived.Lib.SlicesCompact
set_option linter.unusedSimpArgs false
set_option linter.unusedVariables false
namespace Go.Par
open Go.Ab
abbrev sortU (l : List Bs) : List Bs := l.mergeSort fun x y => decide (x ≤ y)
abbrev uniq (l : List Bs) : List Bs := Lib.compact (sortU l)
theorem turned_len (a b : List Ent) : (turnedL a b).length ≤ 32 := by
  unfold turnedL
  split
  · rename_i h
    rw [Bool.and_eq_true] at h
    refine Nat.le_trans (List.length_filter_le _ _) ?_
    rw [List.length_map]
    have h1 := putAll_len b a
    have := treeOk_len h.1
    have := treeOk_len h.2
    omega
  · simp
theorem filter_step {l : List Bs} {i : Nat} {x : Bs} (p : Bs → Bool) (h : l[i]? = some x) : ((l.take (i + 1)).filter p).length = ((l.take i).filter p).length + if p x then 1 else 0 := by
  rw [List.take_add_one, h, List.filter_append, List.length_append]
  congr 1
  cases hp : p x <;> simp [hp]
end Go.Par
