/- Contracts: the texts of what is done. -/
import Derived.Test.YtmnjlhjpeebfdaaGreatDoorLf
import Derived.Test.YtmnjlhjpeebfdaaGreatDoorX2
set_option linter.unusedSimpArgs false
set_option linter.unusedVariables false
set_option maxHeartbeats 1000000
set_option maxRecDepth 10000
namespace Go.Proofs.YtmnjlhjpeebfdaaGreatDoor
open Go Go.RowKit Go.Ab Go.Par
variable {m : Int}
theorem opOk_max {o : Opn} (h : opOk o = true) : (opText o).length ≤ 40 := by
  have h1 := opOk_len h
  have h2 := opOk_kind h
  have h3 : (opWord o.kind).length ≤ 5 := by
    have : o.kind = 1 ∨ o.kind = 2 ∨ o.kind = 3 ∨ o.kind = 4 ∨ o.kind = 5 := by omega
    rcases this with h | h | h | h | h <;> rw [h] <;> decide
  rw [opText, if_pos h]
  simp only [List.length_append]
  split <;> split <;> simp <;> omega
def opD : Option Opn → D
  | some o => .tup [.agg o.c, .b true]
  | none => .tup [.agg op0.c, .b false]
theorem iWordAt_con (w : List Bs) (i : Nat) (hl : w.length ≤ 1073741824) (hi : i ≤ 1073741824) : Con (E m) 42 0 [.sl (w.map fun l => [.s l]), .k .i64 i] [] (.s (wordAt w i)) [] := by
  by_cases h : i < w.length
  · have hx : wordAt w i = w[i] := by unfold wordAt; rw [List.getD_eq_getElem?_getD, List.getElem?_eq_getElem h]; rfl
    rw [hx]
    refine con_of_cd tyOk mix Tryz.func42 rfl rfl rfl (Nat.le_of_ble_eq_true rfl) ?_
    repeat' first | refine Ra ⟨?_⟩ | ((first | (refine bd (fun h => ?_) (fun h => ?_) <;> (try simp only [List.length_map] at h)) | refine bsplit.mk (fun h => ?_) (fun h => ?_)) <;> conv => whnf) | refine Rb ⟨?_⟩ | fail
    exact Rf
  · have hx : wordAt w i = [] := by unfold wordAt; rw [List.getD_eq_getElem?_getD, List.getElem?_eq_none (by omega)]; rfl
    rw [hx]
    refine con_of_cd tyOk mix Tryz.func42 rfl rfl rfl (Nat.le_of_ble_eq_true rfl) ?_
    repeat' first | refine Ra ⟨?_⟩ | ((first | (refine bd (fun h => ?_) (fun h => ?_) <;> (try simp only [List.length_map] at h)) | refine bsplit.mk (fun h => ?_) (fun h => ?_)) <;> conv => whnf) | refine Rb ⟨?_⟩ | fail
    exact Rf
end Go.Proofs.YtmnjlhjpeebfdaaGreatDoor
