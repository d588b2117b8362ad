/- Contracts: what is done, and its texts. -/
import Derived.Test.YtplhgbcpeohpgaaLe
import Derived.Test.YtplhgbcpeohpgaaX3
set_option linter.unusedSimpArgs false
set_option linter.unusedVariables false
set_option maxHeartbeats 1000000
set_option maxRecDepth 10000
namespace Go.Proofs.Ytplhgbcpeohpgaa
open Go Go.RowKit Go.Ab Go.Par
variable {m : Int}
theorem sOpOk_con (o : Opn) (h1 : o.path.length ≤ 1073741824) (h2 : o.to.length ≤ 1073741824) (h3 : o.data.length ≤ 1073741824) : Con (E m) 26 0 [.agg o.c] [] (.b (opOk o)) [] := by
  have c1 := sPathOk_con (m := m) o.path h1
  have c2 := sPathOk_con (m := m) o.to h2
  have c3 := sData_con (m := m) o.data h3
  refine con_of_cd tyOk mix Try.func26 rfl rfl rfl (Nat.le_of_ble_eq_true rfl) ?_
  repeat' first | refine Rw ⟨?_⟩ | (refine bsplit.mk (fun h => ?_) (fun h => ?_) <;> (try simp only [decide_eq_true_eq, decide_eq_false_iff_not, Bool.not_eq_true', Bool.not_eq_false', Bool.not_true, Bool.not_false, Bool.true_eq_false, Bool.false_eq_true, List.length_map] at h) <;> conv => whnf) | (refine Rc [] 0 rfl rfl (c1) ?_; conv => whnf) | (refine Rc [] 0 rfl rfl (c2) ?_; conv => whnf) | (refine Rc [] 0 rfl rfl (c3) ?_; conv => whnf) | refine Rs ⟨?_⟩ | fail
  all_goals
    first | refine CallEnd.here (fa ?_) | refine fa ?_
    conv => whnf
    first | exact ⟨rfl, rfl, rfl, rfl⟩ | refine ⟨rfl, rfl, congrArg some (congrArg D.s ?_), rfl⟩ | refine ⟨rfl, rfl, congrArg some (congrArg D.b ?_), rfl⟩ | refine ⟨rfl, rfl, congrArg some (congrArg (D.k _) ?_), rfl⟩ | refine ⟨rfl, rfl, congrArg some (congrArg D.agg ?_), rfl⟩ | refine ⟨rfl, rfl, rfl, ?_⟩
    all_goals first | rfl | (simp_all [opOk_eq]; done) | (simp [opOk_eq] <;> (repeat' split) <;> omega) | (simp only [opOk_eq]; repeat' split) <;> first | omega | (simp_all; done) | (simp_all; omega) | (rw [Bool.eq_iff_iff]; simp [*, opOk_eq] <;> omega)
end Go.Proofs.Ytplhgbcpeohpgaa
