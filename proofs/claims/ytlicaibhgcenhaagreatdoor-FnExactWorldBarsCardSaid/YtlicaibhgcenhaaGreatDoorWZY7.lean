/- Texts of this claim, set close: lemmas and contracts. -/
import Derived.Test.YtlicaibhgcenhaaGreatDoorWZY5
import Derived.Test.YtlicaibhgcenhaaGreatDoorWZY3
import Derived.Test.YtlicaibhgcenhaaGreatDoorWZY6
set_option linter.unusedSimpArgs false
set_option linter.unusedVariables false
set_option maxHeartbeats 1000000
set_option maxRecDepth 10000
namespace Go.Proofs.YtlicaibhgcenhaaGreatDoor
open Go Go.RowKit Go.Ab Go.Par
variable {m : Int}
theorem toEnt_con (e : Ent) : Con (E m) 167 0 [.agg e.c] [] (.agg e.c) [] := by
 refine con_of_cd tyOk mix Tryz.func167 rfl rfl rfl (Nat.le_of_ble_eq_true rfl) ?_
 repeat' first | refine Rw ⟨?_⟩ | (refine bsplit.mk (fun h => ?_) (fun h => ?_) <;> (try simp only [decide_eq_true_eq, decide_eq_false_iff_not, Bool.not_eq_true', Bool.not_eq_false', Bool.not_true, Bool.not_false, Bool.true_eq_false, Bool.false_eq_true, List.length_map] at h) <;> conv => whnf) | refine Rs ⟨?_⟩ | fail
 refine Rg ⟨?_⟩
 first | rfl | (simp_all [Ent.c]; done) | (simp [Ent.c] <;> (repeat' split) <;> omega) | (simp only [Ent.c]; repeat' split) <;> first | omega | (simp_all; done) | (simp_all; omega) | (rw [Bool.eq_iff_iff]; simp [*, Ent.c] <;> omega)
theorem szEnt_con (e : Ent) (n : Int) (hn : 0 ≤ n ∧ n ≤ 1048576) (hp : e.path.length ≤ 9223372036854775807) (hd : e.data.length ≤ 9223372036854775807) :
   Con (E m) 158 0 [.agg e.c, .k .i64 n] [] (.k .i64 (less2 n e.path.length e.data.length)) [] := by
 refine con_of_cd tyOk mix Tryz.func158 rfl rfl rfl (Nat.le_of_ble_eq_true rfl) ?_
 repeat' first | refine Rw ⟨?_⟩ | (refine bsplit.mk (fun h => ?_) (fun h => ?_) <;> (try simp only [decide_eq_true_eq, decide_eq_false_iff_not, Bool.not_eq_true', Bool.not_eq_false', Bool.not_true, Bool.not_false, Bool.true_eq_false, Bool.false_eq_true, List.length_map] at h) <;> conv => whnf) | refine Rs ⟨?_⟩ | fail
 all_goals
  refine Rg ⟨?_⟩
  first | rfl | (simp_all [less2]; done) | (simp [less2] <;> (repeat' split) <;> omega) | (simp only [less2]; repeat' split) <;> first | omega | (simp_all; done) | (simp_all; omega) | (rw [Bool.eq_iff_iff]; simp [*, less2] <;> omega)
theorem toMark_con (e : Mrk) : Con (E m) 168 0 [.agg e.c] [] (.agg e.c) [] := by
 refine con_of_cd tyOk mix Tryz.func168 rfl rfl rfl (Nat.le_of_ble_eq_true rfl) ?_
 repeat' first | refine Rw ⟨?_⟩ | (refine bsplit.mk (fun h => ?_) (fun h => ?_) <;> (try simp only [decide_eq_true_eq, decide_eq_false_iff_not, Bool.not_eq_true', Bool.not_eq_false', Bool.not_true, Bool.not_false, Bool.true_eq_false, Bool.false_eq_true, List.length_map] at h) <;> conv => whnf) | refine Rs ⟨?_⟩ | fail
 refine Rg ⟨?_⟩
 first | rfl | (simp_all [Mrk.c]; done) | (simp [Mrk.c] <;> (repeat' split) <;> omega) | (simp only [Mrk.c]; repeat' split) <;> first | omega | (simp_all; done) | (simp_all; omega) | (rw [Bool.eq_iff_iff]; simp [*, Mrk.c] <;> omega)
theorem szMark_con (e : Mrk) (n : Int) (hn : 0 ≤ n ∧ n ≤ 1048576) (hp : e.path.length ≤ 9223372036854775807) (hd : e.data.length ≤ 9223372036854775807) :
   Con (E m) 159 0 [.agg e.c, .k .i64 n] [] (.k .i64 (less2 n e.path.length e.data.length)) [] := by
 refine con_of_cd tyOk mix Tryz.func159 rfl rfl rfl (Nat.le_of_ble_eq_true rfl) ?_
 repeat' first | refine Rw ⟨?_⟩ | (refine bsplit.mk (fun h => ?_) (fun h => ?_) <;> (try simp only [decide_eq_true_eq, decide_eq_false_iff_not, Bool.not_eq_true', Bool.not_eq_false', Bool.not_true, Bool.not_false, Bool.true_eq_false, Bool.false_eq_true, List.length_map] at h) <;> conv => whnf) | refine Rs ⟨?_⟩ | fail
 all_goals
  refine Rg ⟨?_⟩
  first | rfl | (simp_all [less2]; done) | (simp [less2] <;> (repeat' split) <;> omega) | (simp only [less2]; repeat' split) <;> first | omega | (simp_all; done) | (simp_all; omega) | (rw [Bool.eq_iff_iff]; simp [*, less2] <;> omega)
end Go.Proofs.YtlicaibhgcenhaaGreatDoor
