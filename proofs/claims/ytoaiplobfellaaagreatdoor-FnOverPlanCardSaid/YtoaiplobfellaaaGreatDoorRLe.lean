/- Contracts: the program's trees and their texts; the laws' own helpers for lists of entries. -/
import Derived.Test.YtoaiplobfellaaaGreatDoorRLd
set_option linter.unusedSimpArgs false
set_option linter.unusedVariables false
set_option maxHeartbeats 1000000
set_option maxRecDepth 10000
namespace Go.Proofs.YtoaiplobfellaaaGreatDoor
open Go Go.RowKit Go.Ab Go.Par
variable {m : Int}
theorem iTreeOk_con (t : List Ent) (hb : ∀ e ∈ t, e.path.length ≤ 1073741824 ∧ e.data.length ≤ 1073741824) : Con (E m) 35 0 [.sl (t.map Ent.c)] [] (.b (treeOk t)) [] := by
  refine con_of_cd tyOk mix Tryz.func35 rfl rfl rfl (Nat.le_of_ble_eq_true rfl) ?_
  repeat' first | refine Rw ⟨?_⟩ | (refine bsplit.mk (fun h => ?_) (fun h => ?_) <;> (try simp only [decide_eq_true_eq, decide_eq_false_iff_not, Bool.not_eq_true', Bool.not_eq_false', Bool.not_true, Bool.not_false, Bool.true_eq_false, Bool.false_eq_true, List.length_map] at h) <;> conv => whnf) | refine Rs ⟨?_⟩ | fail
  · have hf : treeOk t = false := by
      have : ¬ t.length ≤ 16 := by omega
      simp [treeOk, this]
    rw [hf]
    exact Rf
  refine Cd.loop (fun n tm S nx => ∃ i : Nat, i ≤ t.length ∧ n = t.length - i ∧ tm = [(0, .sl (t.map Ent.c)), (8, .sl (t.map Ent.c)), (9, .k .i64 (t.map Ent.c).length), (10, .k .i64 i)] ∧ S = [] ∧ nx = 0 ∧ ∀ k, k < i → okI t k = true) ⟨t.length, ?_⟩ ?_
  · refine la [0, 8, 9, 10] ?_
    conv => whnf
    refine ⟨rfl, rfl, 0, Nat.zero_le _, rfl, rfl, rfl, rfl, fun k h => absurd h (Nat.not_lt_zero _)⟩
  · rintro n tm S nx ⟨i, hi, hn, rfl, rfl, rfl, ha⟩
    by_cases hlt : i < t.length
    · have hq := hb t[i] (List.getElem_mem hlt)
      have h1 := iPathOk_con (m := m) t[i].path hq.1
      have h2 := iData_con (m := m) t[i].data hq.2
      have h3 := iUpCode_con (m := m) t t[i].path (by omega) hq.1
      repeat' first | refine Rw ⟨?_⟩ | (refine bsplit.mk (fun h => ?_) (fun h => ?_) <;> (try simp only [decide_eq_true_eq, decide_eq_false_iff_not, Bool.not_eq_true', Bool.not_eq_false', Bool.not_true, Bool.not_false, Bool.true_eq_false, Bool.false_eq_true, List.length_map] at h) <;> conv => whnf) | (refine Rc [] 0 rfl rfl (h1) ?_; conv => whnf) | (refine Rc [] 0 rfl rfl (h2) ?_; conv => whnf) | (refine Rc [] 0 rfl rfl (h3) ?_; conv => whnf) | (refine ⟨i - 1, _, by omega, map_get (by omega), rfl, ?_⟩; conv => whnf) | refine Rs ⟨?_⟩ | fail
      all_goals first
        | (have hf : okI t i = false := by
             clear h1 h2 h3 hb ha hn
             rw [okI_at hlt]
             simp_all [entOk, lt]
           have hg := treeOkI_false hlt hf
           rw [hg]
           refine CallEnd.here (fa ?_)
           conv => whnf
           exact ⟨rfl, rfl, rfl, rfl⟩)
        | (have hf : okI t i = true := by
             clear h1 h2 h3 hb ha hn
             rw [okI_at hlt]
             simp_all [entOk, lt]
           refine .here ⟨n - 1, by omega, ?_⟩
           refine la [0, 8, 9, 10] ?_
           conv => whnf
           refine ⟨rfl, rfl, i + 1, by omega, by omega, rfl, rfl, rfl, fun k hk => ?_⟩
           by_cases hki : k = i
           · rw [hki]; exact hf
           · exact ha k (by omega))
        | (have hf : okI t i = false := by
             have hbl : lt (t[i - 1]'(by omega)).path t[i].path = false := ‹Op.bytesLess (t[i - 1]'(by omega)).path t[i].path = false›
             rw [okI_at hlt, if_pos (by omega : 0 < i), hbl]
             simp
           have hg := treeOkI_false hlt hf
           rw [hg]
           refine CallEnd.here (fa ?_)
           conv => whnf
           exact ⟨rfl, rfl, rfl, rfl⟩)
        | exact absurd hlt (by omega)
    · repeat' first | refine Rw ⟨?_⟩ | (refine bsplit.mk (fun h => ?_) (fun h => ?_) <;> (try simp only [decide_eq_true_eq, decide_eq_false_iff_not, Bool.not_eq_true', Bool.not_eq_false', Bool.not_true, Bool.not_false, Bool.true_eq_false, Bool.false_eq_true, List.length_map] at h) <;> conv => whnf) | refine Rs ⟨?_⟩ | fail
      · exact absurd hlt (by omega)
      · have hf : treeOk t = true := treeOkI_true (by omega) fun k hk => ha k (by omega)
        rw [hf]
        exact Rf
end Go.Proofs.YtoaiplobfellaaaGreatDoor
