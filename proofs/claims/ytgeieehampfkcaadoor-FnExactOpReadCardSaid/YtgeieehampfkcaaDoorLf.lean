/- Contracts: what is done, and its texts. -/
import Derived.Test.YtgeieehampfkcaaDoorLe
import Derived.Test.YtgeieehampfkcaaDoorPe
set_option linter.unusedSimpArgs false
set_option linter.unusedVariables false
set_option maxHeartbeats 1000000
set_option maxRecDepth 10000
namespace Go.Proofs.YtgeieehampfkcaaDoor
open Go Go.RowKit Go.Ab Go.Par
variable {m : Int}
theorem iOpOk_con (o : Opn) (h1 : o.path.length ≤ 1073741824) (h2 : o.to.length ≤ 1073741824) (h3 : o.data.length ≤ 1073741824) : Con (E m) 23 0 [.agg o.c] [] (.b (opOk o)) [] := by
  have c1 := iPathOk_con (m := m) o.path h1
  have c2 := iPathOk_con (m := m) o.to h2
  have c3 := iData_con (m := m) o.data h3
  refine con_of_cd tyOk mix Tryd.func23 rfl rfl rfl (Nat.le_of_ble_eq_true rfl) ?_
  repeat' first
    | (refine Ops.none rfl ?_; conv => whnf)
    | (refine Cd.seq ?_)
    | (refine Ops.nil ?_; conv => whnf)
    | (refine Cd.region ?_)
    | (refine Ops.guard rfl rfl rfl ?_)
    | (refine Ops.off rfl rfl rfl ?_)
    | (refine Cd.cond rfl ?_)
    | (refine Cd.block ?_)
    | (refine Cd.exit ?_; conv => whnf)
    | (refine Cd.ret ?_; conv => whnf)
    | (refine Cd.skip ?_; conv => whnf)
    | (refine Cd.drawn ?_)
    | (refine And.intro (a := drawB _ _ = true) (by kernel_rfl) ?_; conv => whnf)
    | refine CallEnd.out ?_
    | (refine bsplit.mk (fun h => ?_) (fun h => ?_) <;> (try simp only [decide_eq_true_eq, decide_eq_false_iff_not, Bool.not_eq_true', Bool.not_eq_false', Bool.not_true, Bool.not_false, Bool.true_eq_false, Bool.false_eq_true, List.length_map] at h) <;> conv => whnf)
    | (refine ⟨[], _, _, _, _, 0, ⟨rfl, rfl, rfl, c1, rfl, rfl⟩, .inr ?_⟩; conv => whnf)
    | (refine ⟨[], _, _, _, _, 0, ⟨rfl, rfl, rfl, c2, rfl, rfl⟩, .inr ?_⟩; conv => whnf)
    | (refine ⟨[], _, _, _, _, 0, ⟨rfl, rfl, rfl, c3, rfl, rfl⟩, .inr ?_⟩; conv => whnf)
    | (refine ⟨_, Go.IntWalk.i64_in _ (by (try simp only [List.length_map]); omega), ?_⟩; conv => whnf)
    | (refine ⟨_, _, rfl, List.getElem?_eq_getElem (by omega), ?_⟩; conv => whnf)
    | (refine ⟨0, _, rfl, rfl, ?_⟩; conv => whnf)
    | (refine ⟨_, _, rfl, map_get (by omega), rfl, ?_⟩; conv => whnf)
    | (refine ⟨_, map_get (by omega), ?_⟩; conv => whnf)
    | (refine ⟨map_len fun _ => rfl, ?_⟩; conv => whnf)
    | (refine ⟨Nat.le_of_ble_eq_true rfl, Nat.le_of_ble_eq_true rfl, one_len rfl, ?_⟩; conv => whnf)
    | (refine ⟨Nat.le_of_ble_eq_true rfl, Nat.le_of_ble_eq_true rfl, ?_⟩; conv => whnf)
    | (refine ⟨(by refine Decidable.byContradiction fun hbnd => ?_; (try unfold room at hbnd); (try simp only [bytesOf, List.length_map, List.length_append, List.length_cons, List.length_nil, List.length_take, List.length_drop, List.length_replicate] at hbnd); omega), ?_⟩; conv => whnf)
    | (refine ⟨(Nat.le_of_ble_eq_true rfl : _ ≤ wide), ?_⟩; conv => whnf)
    | (refine ⟨(rfl : isByte _ = true), ?_⟩; conv => whnf)
    | (refine ⟨(rfl : memB _ _ = false), ?_⟩; conv => whnf)
    | (refine ⟨_, (rfl : (_ : Int) = ((_ : Nat) : Int)), ?_⟩; conv => whnf)
  all_goals
    first | refine CallEnd.here (fa ?_) | refine fa ?_
    conv => whnf
    first
      | exact ⟨rfl, rfl, rfl, rfl⟩
      | refine ⟨rfl, rfl, congrArg some (congrArg D.s ?_), rfl⟩
      | refine ⟨rfl, rfl, congrArg some (congrArg D.b ?_), rfl⟩
      | refine ⟨rfl, rfl, congrArg some (congrArg (D.k _) ?_), rfl⟩
      | refine ⟨rfl, rfl, congrArg some (congrArg D.agg ?_), rfl⟩
      | refine ⟨rfl, rfl, rfl, ?_⟩
    all_goals first
      | rfl
      | (simp_all [opOk]; done)
      | (simp [opOk] <;> (repeat' split) <;> omega)
      | (simp only [opOk]; repeat' split) <;> first | omega | (simp_all; done) | (simp_all; omega)
      | (rw [Bool.eq_iff_iff]; simp [*, opOk] <;> omega)
theorem sOpOk_con (o : Opn) (h1 : o.path.length ≤ 1073741824) (h2 : o.to.length ≤ 1073741824) (h3 : o.data.length ≤ 1073741824) : Con (E m) 58 0 [.agg o.c] [] (.b (opOk o)) [] := by
  have c1 := sPathOk_con (m := m) o.path h1
  have c2 := sPathOk_con (m := m) o.to h2
  have c3 := sData_con (m := m) o.data h3
  refine con_of_cd tyOk mix Tryd.func58 rfl rfl rfl (Nat.le_of_ble_eq_true rfl) ?_
  repeat' first
    | (refine Ops.none rfl ?_; conv => whnf)
    | (refine Cd.seq ?_)
    | (refine Ops.nil ?_; conv => whnf)
    | (refine Cd.region ?_)
    | (refine Ops.guard rfl rfl rfl ?_)
    | (refine Ops.off rfl rfl rfl ?_)
    | (refine Cd.cond rfl ?_)
    | (refine Cd.block ?_)
    | (refine Cd.exit ?_; conv => whnf)
    | (refine Cd.ret ?_; conv => whnf)
    | (refine Cd.skip ?_; conv => whnf)
    | (refine Cd.drawn ?_)
    | (refine And.intro (a := drawB _ _ = true) (by kernel_rfl) ?_; conv => whnf)
    | refine CallEnd.out ?_
    | (refine bsplit.mk (fun h => ?_) (fun h => ?_) <;> (try simp only [decide_eq_true_eq, decide_eq_false_iff_not, Bool.not_eq_true', Bool.not_eq_false', Bool.not_true, Bool.not_false, Bool.true_eq_false, Bool.false_eq_true, List.length_map] at h) <;> conv => whnf)
    | (refine ⟨[], _, _, _, _, 0, ⟨rfl, rfl, rfl, c1, rfl, rfl⟩, .inr ?_⟩; conv => whnf)
    | (refine ⟨[], _, _, _, _, 0, ⟨rfl, rfl, rfl, c2, rfl, rfl⟩, .inr ?_⟩; conv => whnf)
    | (refine ⟨[], _, _, _, _, 0, ⟨rfl, rfl, rfl, c3, rfl, rfl⟩, .inr ?_⟩; conv => whnf)
    | (refine ⟨_, Go.IntWalk.i64_in _ (by (try simp only [List.length_map]); omega), ?_⟩; conv => whnf)
    | (refine ⟨_, _, rfl, List.getElem?_eq_getElem (by omega), ?_⟩; conv => whnf)
    | (refine ⟨0, _, rfl, rfl, ?_⟩; conv => whnf)
    | (refine ⟨_, _, rfl, map_get (by omega), rfl, ?_⟩; conv => whnf)
    | (refine ⟨_, map_get (by omega), ?_⟩; conv => whnf)
    | (refine ⟨map_len fun _ => rfl, ?_⟩; conv => whnf)
    | (refine ⟨Nat.le_of_ble_eq_true rfl, Nat.le_of_ble_eq_true rfl, one_len rfl, ?_⟩; conv => whnf)
    | (refine ⟨Nat.le_of_ble_eq_true rfl, Nat.le_of_ble_eq_true rfl, ?_⟩; conv => whnf)
    | (refine ⟨(by refine Decidable.byContradiction fun hbnd => ?_; (try unfold room at hbnd); (try simp only [bytesOf, List.length_map, List.length_append, List.length_cons, List.length_nil, List.length_take, List.length_drop, List.length_replicate] at hbnd); omega), ?_⟩; conv => whnf)
    | (refine ⟨(Nat.le_of_ble_eq_true rfl : _ ≤ wide), ?_⟩; conv => whnf)
    | (refine ⟨(rfl : isByte _ = true), ?_⟩; conv => whnf)
    | (refine ⟨(rfl : memB _ _ = false), ?_⟩; conv => whnf)
    | (refine ⟨_, (rfl : (_ : Int) = ((_ : Nat) : Int)), ?_⟩; conv => whnf)
  all_goals
    first | refine CallEnd.here (fa ?_) | refine fa ?_
    conv => whnf
    first
      | exact ⟨rfl, rfl, rfl, rfl⟩
      | refine ⟨rfl, rfl, congrArg some (congrArg D.s ?_), rfl⟩
      | refine ⟨rfl, rfl, congrArg some (congrArg D.b ?_), rfl⟩
      | refine ⟨rfl, rfl, congrArg some (congrArg (D.k _) ?_), rfl⟩
      | refine ⟨rfl, rfl, congrArg some (congrArg D.agg ?_), rfl⟩
      | refine ⟨rfl, rfl, rfl, ?_⟩
    all_goals first
      | rfl
      | (simp_all [opOk_eq]; done)
      | (simp [opOk_eq] <;> (repeat' split) <;> omega)
      | (simp only [opOk_eq]; repeat' split) <;> first | omega | (simp_all; done) | (simp_all; omega)
      | (rw [Bool.eq_iff_iff]; simp [*, opOk_eq] <;> omega)
end Go.Proofs.YtgeieehampfkcaaDoor
