/- Contracts: paths and trees, as the program has them. -/
import Derived.Test.YtplhgbcpeohpgaaLc
set_option linter.unusedSimpArgs false
set_option linter.unusedVariables false
set_option maxHeartbeats 1000000
set_option maxRecDepth 10000
namespace Go.Proofs.Ytplhgbcpeohpgaa
open Go Go.RowKit Go.Ab Go.Par
variable {m : Int}
def entD : Option Ent → D
  | some e => .tup [.agg e.c, .b true]
  | none => .tup [.agg [.s [], .b false, .s []], .b false]
theorem entAt_at {t : List Ent} {p : Bs} {i : Nat} {e : Ent} (h : t[i]? = some e) (hp : e.path = p) (hb : ∀ k e, k < i → t[k]? = some e → e.path ≠ p) : entAt t p = some e := by
  rcases entIx_or t p with ⟨j, hx, hj, he⟩ | ⟨hx, he⟩
  · rw [entIx_at h hp hb] at hx
    have : i = j := by omega
    subst this
    rw [List.getElem?_eq_getElem hj] at h
    rw [he, h]
  · rw [entIx_at h hp hb] at hx
    omega
theorem entAt_miss {t : List Ent} {p : Bs} (hb : ∀ (k : Nat) e, t[k]? = some e → e.path ≠ p) : entAt t p = none := by
  rcases entIx_or t p with ⟨j, hx, hj, he⟩ | ⟨hx, he⟩
  · rw [entIx_none hb] at hx
    omega
  · exact he
end Go.Proofs.Ytplhgbcpeohpgaa
