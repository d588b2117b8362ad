/- The contracts of the functions of entries' and marks' texts. -/
import Derived.Test.YtoaiplobfellaaaGreatDoorK
import Derived.Test.YtoaiplobfellaaaGreatDoorX2
import Derived.Test.YtoaiplobfellaaaGreatDoorX3
set_option linter.unusedSimpArgs false
set_option linter.unusedVariables false
set_option maxHeartbeats 1000000
set_option maxRecDepth 10000
namespace Go.Proofs.YtoaiplobfellaaaGreatDoor
open Go Go.RowKit Go.Ab Go.Par
variable {m : Int}
theorem lEnt_shp {d : D} (h : ShpV Tryz.prog 106 d) : ∃ e : Ent, d = .agg e.c ∧ e.path.length ≤ 9223372036854775807 ∧ e.data.length ≤ 9223372036854775807 := by
  obtain ⟨ds, rfl, h1⟩ := h.struct Tryz.underlying106
  have h2 : ShpF Tryz.prog [9, 4, 9] ds := h1
  obtain ⟨a, _, rfl, ha, b, _, rfl, hb, c, _, rfl, hc, rfl⟩ := h2
  obtain ⟨p, rfl, hp⟩ := ha.str_inv Tryz.underlying9
  obtain ⟨x, rfl⟩ := hb.bool_inv Tryz.underlying4
  obtain ⟨q, rfl, hq⟩ := hc.str_inv Tryz.underlying9
  exact ⟨⟨p, x, q⟩, rfl, hp, hq⟩
theorem lMark_shp {d : D} (h : ShpV Tryz.prog 199 d) : ∃ e : Mrk, d = .agg e.c ∧ e.path.length ≤ 9223372036854775807 ∧ e.data.length ≤ 9223372036854775807 := by
  obtain ⟨ds, rfl, h1⟩ := h.struct Tryz.underlying199
  have h2 : ShpF Tryz.prog [9, 3, 9] ds := h1
  obtain ⟨a, _, rfl, ha, b, _, rfl, hb, c, _, rfl, hc, rfl⟩ := h2
  obtain ⟨p, rfl, hp⟩ := ha.str_inv Tryz.underlying9
  obtain ⟨x, rfl, _⟩ := hb.int_inv Tryz.underlying3
  obtain ⟨q, rfl, hq⟩ := hc.str_inv Tryz.underlying9
  exact ⟨⟨p, x, q⟩, rfl, hp, hq⟩
theorem toEnt_con (e : Ent) : Con (E m) 90 0 [.agg e.c] [] (.agg e.c) [] := by
  refine con_of_cd tyOk mix Tryz.func90 rfl rfl rfl (Nat.le_of_ble_eq_true rfl) ?_
  repeat' first | refine Rw ⟨?_⟩ | (refine bsplit.mk (fun h => ?_) (fun h => ?_) <;> (try simp only [decide_eq_true_eq, decide_eq_false_iff_not, Bool.not_eq_true', Bool.not_eq_false', Bool.not_true, Bool.not_false, Bool.true_eq_false, Bool.false_eq_true, List.length_map] at h) <;> conv => whnf) | refine Rs ⟨?_⟩ | fail
  first | refine CallEnd.here (fa ?_) | refine fa ?_
  conv => whnf
  first | exact ⟨rfl, rfl, rfl, rfl⟩ | refine ⟨rfl, rfl, congrArg some (congrArg D.s ?_), rfl⟩ | refine ⟨rfl, rfl, congrArg some (congrArg D.b ?_), rfl⟩ | refine ⟨rfl, rfl, congrArg some (congrArg (D.k _) ?_), rfl⟩ | refine ⟨rfl, rfl, congrArg some (congrArg D.agg ?_), rfl⟩ | refine ⟨rfl, rfl, rfl, ?_⟩
  all_goals first | rfl | (simp_all [Ent.c]; done) | (simp [Ent.c] <;> (repeat' split) <;> omega) | (simp only [Ent.c]; repeat' split) <;> first | omega | (simp_all; done) | (simp_all; omega) | (rw [Bool.eq_iff_iff]; simp [*, Ent.c] <;> omega)
theorem szEnt_con (e : Ent) (n : Int) (hn : 0 ≤ n ∧ n ≤ 1048576) (hp : e.path.length ≤ 9223372036854775807) (hd : e.data.length ≤ 9223372036854775807) :
    Con (E m) 88 0 [.agg e.c, .k .i64 n] [] (.k .i64 (less2 n e.path.length e.data.length)) [] := by
  refine con_of_cd tyOk mix Tryz.func88 rfl rfl rfl (Nat.le_of_ble_eq_true rfl) ?_
  repeat' first | refine Rw ⟨?_⟩ | (refine bsplit.mk (fun h => ?_) (fun h => ?_) <;> (try simp only [decide_eq_true_eq, decide_eq_false_iff_not, Bool.not_eq_true', Bool.not_eq_false', Bool.not_true, Bool.not_false, Bool.true_eq_false, Bool.false_eq_true, List.length_map] at h) <;> conv => whnf) | refine Rs ⟨?_⟩ | fail
  all_goals
    first | refine CallEnd.here (fa ?_) | refine fa ?_
    conv => whnf
    first | exact ⟨rfl, rfl, rfl, rfl⟩ | refine ⟨rfl, rfl, congrArg some (congrArg D.s ?_), rfl⟩ | refine ⟨rfl, rfl, congrArg some (congrArg D.b ?_), rfl⟩ | refine ⟨rfl, rfl, congrArg some (congrArg (D.k _) ?_), rfl⟩ | refine ⟨rfl, rfl, congrArg some (congrArg D.agg ?_), rfl⟩ | refine ⟨rfl, rfl, rfl, ?_⟩
    all_goals first | rfl | (simp_all [less2]; done) | (simp [less2] <;> (repeat' split) <;> omega) | (simp only [less2]; repeat' split) <;> first | omega | (simp_all; done) | (simp_all; omega) | (rw [Bool.eq_iff_iff]; simp [*, less2] <;> omega)
theorem toMark_con (e : Mrk) : Con (E m) 209 0 [.agg e.c] [] (.agg e.c) [] := by
  refine con_of_cd tyOk mix Tryz.func209 rfl rfl rfl (Nat.le_of_ble_eq_true rfl) ?_
  repeat' first | refine Rw ⟨?_⟩ | (refine bsplit.mk (fun h => ?_) (fun h => ?_) <;> (try simp only [decide_eq_true_eq, decide_eq_false_iff_not, Bool.not_eq_true', Bool.not_eq_false', Bool.not_true, Bool.not_false, Bool.true_eq_false, Bool.false_eq_true, List.length_map] at h) <;> conv => whnf) | refine Rs ⟨?_⟩ | fail
  first | refine CallEnd.here (fa ?_) | refine fa ?_
  conv => whnf
  first | exact ⟨rfl, rfl, rfl, rfl⟩ | refine ⟨rfl, rfl, congrArg some (congrArg D.s ?_), rfl⟩ | refine ⟨rfl, rfl, congrArg some (congrArg D.b ?_), rfl⟩ | refine ⟨rfl, rfl, congrArg some (congrArg (D.k _) ?_), rfl⟩ | refine ⟨rfl, rfl, congrArg some (congrArg D.agg ?_), rfl⟩ | refine ⟨rfl, rfl, rfl, ?_⟩
  all_goals first | rfl | (simp_all [Mrk.c]; done) | (simp [Mrk.c] <;> (repeat' split) <;> omega) | (simp only [Mrk.c]; repeat' split) <;> first | omega | (simp_all; done) | (simp_all; omega) | (rw [Bool.eq_iff_iff]; simp [*, Mrk.c] <;> omega)
theorem szMark_con (e : Mrk) (n : Int) (hn : 0 ≤ n ∧ n ≤ 1048576) (hp : e.path.length ≤ 9223372036854775807) (hd : e.data.length ≤ 9223372036854775807) :
    Con (E m) 208 0 [.agg e.c, .k .i64 n] [] (.k .i64 (less2 n e.path.length e.data.length)) [] := by
  refine con_of_cd tyOk mix Tryz.func208 rfl rfl rfl (Nat.le_of_ble_eq_true rfl) ?_
  repeat' first | refine Rw ⟨?_⟩ | (refine bsplit.mk (fun h => ?_) (fun h => ?_) <;> (try simp only [decide_eq_true_eq, decide_eq_false_iff_not, Bool.not_eq_true', Bool.not_eq_false', Bool.not_true, Bool.not_false, Bool.true_eq_false, Bool.false_eq_true, List.length_map] at h) <;> conv => whnf) | refine Rs ⟨?_⟩ | fail
  all_goals
    first | refine CallEnd.here (fa ?_) | refine fa ?_
    conv => whnf
    first | exact ⟨rfl, rfl, rfl, rfl⟩ | refine ⟨rfl, rfl, congrArg some (congrArg D.s ?_), rfl⟩ | refine ⟨rfl, rfl, congrArg some (congrArg D.b ?_), rfl⟩ | refine ⟨rfl, rfl, congrArg some (congrArg (D.k _) ?_), rfl⟩ | refine ⟨rfl, rfl, congrArg some (congrArg D.agg ?_), rfl⟩ | refine ⟨rfl, rfl, rfl, ?_⟩
    all_goals first | rfl | (simp_all [less2]; done) | (simp [less2] <;> (repeat' split) <;> omega) | (simp only [less2]; repeat' split) <;> first | omega | (simp_all; done) | (simp_all; omega) | (rw [Bool.eq_iff_iff]; simp [*, less2] <;> omega)
theorem sEntText_con (e : Ent) (hp : e.path.length ≤ 2147483648) (hd : e.data.length ≤ 2147483648) : Con (E m) 114 0 [.agg e.c] [] (.s (entText e)) [] := by
  refine con_of_cd tyOk mix Tryz.func114 rfl rfl rfl (Nat.le_of_ble_eq_true rfl) ?_
  repeat' first | refine Rw ⟨?_⟩ | (refine bsplit.mk (fun h => ?_) (fun h => ?_) <;> (try simp only [decide_eq_true_eq, decide_eq_false_iff_not, Bool.not_eq_true', Bool.not_eq_false', Bool.not_true, Bool.not_false, Bool.true_eq_false, Bool.false_eq_true, List.length_map] at h) <;> conv => whnf) | refine Rs ⟨?_⟩ | fail
  all_goals
    first | refine CallEnd.here (fa ?_) | refine fa ?_
    conv => whnf
    first | exact ⟨rfl, rfl, rfl, rfl⟩ | refine ⟨rfl, rfl, congrArg some (congrArg D.s ?_), rfl⟩ | refine ⟨rfl, rfl, congrArg some (congrArg D.b ?_), rfl⟩ | refine ⟨rfl, rfl, congrArg some (congrArg (D.k _) ?_), rfl⟩ | refine ⟨rfl, rfl, congrArg some (congrArg D.agg ?_), rfl⟩ | refine ⟨rfl, rfl, rfl, ?_⟩
    all_goals first | rfl | (simp_all [entText]; done) | (simp [entText] <;> (repeat' split) <;> omega) | (simp only [entText]; repeat' split) <;> first | omega | (simp_all; done) | (simp_all; omega) | (rw [Bool.eq_iff_iff]; simp [*, entText] <;> omega)
theorem iEntText_con (e : Ent) (hp : e.path.length ≤ 2147483648) (hd : e.data.length ≤ 2147483648) : Con (E m) 112 0 [.agg e.c] [] (.s (entText e)) [] := by
  refine con_of_cd tyOk mix Tryz.func112 rfl rfl rfl (Nat.le_of_ble_eq_true rfl) ?_
  repeat' first | refine Rw ⟨?_⟩ | (refine bsplit.mk (fun h => ?_) (fun h => ?_) <;> (try simp only [decide_eq_true_eq, decide_eq_false_iff_not, Bool.not_eq_true', Bool.not_eq_false', Bool.not_true, Bool.not_false, Bool.true_eq_false, Bool.false_eq_true, List.length_map] at h) <;> conv => whnf) | refine Rs ⟨?_⟩ | fail
  all_goals
    first | refine CallEnd.here (fa ?_) | refine fa ?_
    conv => whnf
    first | exact ⟨rfl, rfl, rfl, rfl⟩ | refine ⟨rfl, rfl, congrArg some (congrArg D.s ?_), rfl⟩ | refine ⟨rfl, rfl, congrArg some (congrArg D.b ?_), rfl⟩ | refine ⟨rfl, rfl, congrArg some (congrArg (D.k _) ?_), rfl⟩ | refine ⟨rfl, rfl, congrArg some (congrArg D.agg ?_), rfl⟩ | refine ⟨rfl, rfl, rfl, ?_⟩
    all_goals first | rfl | (simp_all [entText]; done) | (simp [entText] <;> (repeat' split) <;> omega) | (simp only [entText]; repeat' split) <;> first | omega | (simp_all; done) | (simp_all; omega) | (rw [Bool.eq_iff_iff]; simp [*, entText] <;> omega)
end Go.Proofs.YtoaiplobfellaaaGreatDoor
