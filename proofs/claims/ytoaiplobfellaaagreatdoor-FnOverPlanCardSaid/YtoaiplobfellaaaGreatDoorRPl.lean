/- What merges keep to: in plain Lean. -/
import Derived.Test.YtoaiplobfellaaaGreatDoorRPk
set_option linter.unusedSimpArgs false
set_option linter.unusedVariables false
namespace Go.Par
open Go.Ab
theorem nodup_sub : ∀ {w v : List Bs}, w.Nodup → (∀ p ∈ w, p ∈ v) → w.length ≤ v.length
  | [], v, _, _ => Nat.zero_le _
  | a :: w, v, hn, h => by
    obtain ⟨h1, h2⟩ := List.nodup_cons.1 hn
    have ha := h a (by simp)
    have ih := nodup_sub (w := w) (v := v.erase a) h2 fun p hp => by
      have hne : p ≠ a := by rintro rfl; exact h1 hp
      exact (List.mem_erase_of_ne hne).2 (h p (by simp [hp]))
    have hl := List.length_erase_of_mem ha
    have hpos : 0 < v.length := List.length_pos_of_mem ha
    simp only [List.length_cons]
    omega
end Go.Par
