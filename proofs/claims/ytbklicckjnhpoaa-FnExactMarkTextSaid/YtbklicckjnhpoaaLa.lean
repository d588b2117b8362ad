/- The contracts of the functions of entries' and marks' texts. -/
import Derived.Test.YtbklicckjnhpoaaK
import Derived.Test.YtbklicckjnhpoaaPa
set_option maxRecDepth 10000
namespace Go.Proofs.Ytbklicckjnhpoaa
open Go Go.RowKit Go.Ab Go.Par
theorem lEnt_shp {d : D} (h : ShpV E.P 23 d) : ∃ e : Ent, d = .agg e.c ∧ e.path.length ≤ 9223372036854775807 ∧ e.data.length ≤ 9223372036854775807 := by
  obtain ⟨ds, rfl, h1⟩ := h.struct Try.underlying23
  have h2 : ShpF Try.prog [9, 4, 9] ds := h1
  obtain ⟨a, _, rfl, ha, b, _, rfl, hb, c, _, rfl, hc, rfl⟩ := h2
  obtain ⟨p, rfl, hp⟩ := ha.str_inv Try.underlying9
  obtain ⟨x, rfl⟩ := hb.bool_inv Try.underlying4
  obtain ⟨q, rfl, hq⟩ := hc.str_inv Try.underlying9
  exact ⟨⟨p, x, q⟩, rfl, hp, hq⟩
theorem lMark_shp {d : D} (h : ShpV E.P 30 d) : ∃ e : Mrk, d = .agg e.c ∧ e.path.length ≤ 9223372036854775807 ∧ e.data.length ≤ 9223372036854775807 := by
  obtain ⟨ds, rfl, h1⟩ := h.struct Try.underlying30
  have h2 : ShpF Try.prog [9, 3, 9] ds := h1
  obtain ⟨a, _, rfl, ha, b, _, rfl, hb, c, _, rfl, hc, rfl⟩ := h2
  obtain ⟨p, rfl, hp⟩ := ha.str_inv Try.underlying9
  obtain ⟨x, rfl, _⟩ := hb.int_inv Try.underlying3
  obtain ⟨q, rfl, hq⟩ := hc.str_inv Try.underlying9
  exact ⟨⟨p, x, q⟩, rfl, hp, hq⟩
theorem toEnt_con (e : Ent) : Con E 7 0 [.agg e.c] [] (.agg e.c) [] := by
  refine con_of_awp tyOk mix Try.func7 rfl rfl rfl (Nat.le_of_ble_eq_true rfl) ?_
  conv => whnf
  refine ⟨[], [], ?_⟩
  conv => whnf
  first
    | exact ⟨rfl, rfl, rfl, rfl⟩
    | refine ⟨rfl, rfl, congrArg some (congrArg D.s ?_), rfl⟩
    | refine ⟨rfl, rfl, congrArg some (congrArg D.b ?_), rfl⟩
    | refine ⟨rfl, rfl, congrArg some (congrArg (D.k _) ?_), rfl⟩
    | refine ⟨rfl, rfl, congrArg some (congrArg D.agg ?_), rfl⟩
  all_goals first
    | rfl
    | (simp_all [Ent.c]; done)
    | (simp [Ent.c]; (repeat' split) <;> omega)
theorem szEnt_con (e : Ent) (n : Int) (hn : 0 ≤ n ∧ n ≤ 1048576) (hp : e.path.length ≤ 9223372036854775807) (hd : e.data.length ≤ 9223372036854775807) :
    Con E 5 0 [.agg e.c, .k .i64 n] [] (.k .i64 (less2 n e.path.length e.data.length)) [] := by
  refine con_of_awp tyOk mix Try.func5 rfl rfl rfl (Nat.le_of_ble_eq_true rfl) ?_
  conv => whnf
  repeat' first
    | (refine ⟨by simp only [List.length_append, List.length_cons, List.length_nil]; omega, ?_⟩; conv => whnf)
    | (refine ⟨_, Go.IntWalk.i64_in _ (by omega), ?_⟩; conv => whnf)
    | (refine bsplit.mk (fun h => ?_) (fun h => ?_) <;> (try simp only [decide_eq_true_eq, decide_eq_false_iff_not, Bool.not_eq_true', Bool.not_eq_false'] at h) <;> conv => whnf)
  all_goals
    refine ⟨[], [], ?_⟩
    conv => whnf
    first
      | exact ⟨rfl, rfl, rfl, rfl⟩
      | refine ⟨rfl, rfl, congrArg some (congrArg D.s ?_), rfl⟩
      | refine ⟨rfl, rfl, congrArg some (congrArg D.b ?_), rfl⟩
      | refine ⟨rfl, rfl, congrArg some (congrArg (D.k _) ?_), rfl⟩
      | refine ⟨rfl, rfl, congrArg some (congrArg D.agg ?_), rfl⟩
    all_goals first
      | rfl
      | (simp_all [less2]; done)
      | (simp [less2]; (repeat' split) <;> omega)
theorem toMark_con (e : Mrk) : Con E 11 0 [.agg e.c] [] (.agg e.c) [] := by
  refine con_of_awp tyOk mix Try.func11 rfl rfl rfl (Nat.le_of_ble_eq_true rfl) ?_
  conv => whnf
  refine ⟨[], [], ?_⟩
  conv => whnf
  first
    | exact ⟨rfl, rfl, rfl, rfl⟩
    | refine ⟨rfl, rfl, congrArg some (congrArg D.s ?_), rfl⟩
    | refine ⟨rfl, rfl, congrArg some (congrArg D.b ?_), rfl⟩
    | refine ⟨rfl, rfl, congrArg some (congrArg (D.k _) ?_), rfl⟩
    | refine ⟨rfl, rfl, congrArg some (congrArg D.agg ?_), rfl⟩
  all_goals first
    | rfl
    | (simp_all [Mrk.c]; done)
    | (simp [Mrk.c]; (repeat' split) <;> omega)
theorem szMark_con (e : Mrk) (n : Int) (hn : 0 ≤ n ∧ n ≤ 1048576) (hp : e.path.length ≤ 9223372036854775807) (hd : e.data.length ≤ 9223372036854775807) :
    Con E 9 0 [.agg e.c, .k .i64 n] [] (.k .i64 (less2 n e.path.length e.data.length)) [] := by
  refine con_of_awp tyOk mix Try.func9 rfl rfl rfl (Nat.le_of_ble_eq_true rfl) ?_
  conv => whnf
  repeat' first
    | (refine ⟨by simp only [List.length_append, List.length_cons, List.length_nil]; omega, ?_⟩; conv => whnf)
    | (refine ⟨_, Go.IntWalk.i64_in _ (by omega), ?_⟩; conv => whnf)
    | (refine bsplit.mk (fun h => ?_) (fun h => ?_) <;> (try simp only [decide_eq_true_eq, decide_eq_false_iff_not, Bool.not_eq_true', Bool.not_eq_false'] at h) <;> conv => whnf)
  all_goals
    refine ⟨[], [], ?_⟩
    conv => whnf
    first
      | exact ⟨rfl, rfl, rfl, rfl⟩
      | refine ⟨rfl, rfl, congrArg some (congrArg D.s ?_), rfl⟩
      | refine ⟨rfl, rfl, congrArg some (congrArg D.b ?_), rfl⟩
      | refine ⟨rfl, rfl, congrArg some (congrArg (D.k _) ?_), rfl⟩
      | refine ⟨rfl, rfl, congrArg some (congrArg D.agg ?_), rfl⟩
    all_goals first
      | rfl
      | (simp_all [less2]; done)
      | (simp [less2]; (repeat' split) <;> omega)
theorem sEntText_con (e : Ent) (hp : e.path.length ≤ 2147483648) (hd : e.data.length ≤ 2147483648) : Con E 6 0 [.agg e.c] [] (.s (entText e)) [] := by
  refine con_of_awp tyOk mix Try.func6 rfl rfl rfl (Nat.le_of_ble_eq_true rfl) ?_
  conv => whnf
  repeat' first
    | (refine ⟨by simp only [List.length_append, List.length_cons, List.length_nil]; omega, ?_⟩; conv => whnf)
    | (refine ⟨_, Go.IntWalk.i64_in _ (by omega), ?_⟩; conv => whnf)
    | (refine bsplit.mk (fun h => ?_) (fun h => ?_) <;> (try simp only [decide_eq_true_eq, decide_eq_false_iff_not, Bool.not_eq_true', Bool.not_eq_false'] at h) <;> conv => whnf)
  all_goals
    refine ⟨[], [], ?_⟩
    conv => whnf
    first
      | exact ⟨rfl, rfl, rfl, rfl⟩
      | refine ⟨rfl, rfl, congrArg some (congrArg D.s ?_), rfl⟩
      | refine ⟨rfl, rfl, congrArg some (congrArg D.b ?_), rfl⟩
      | refine ⟨rfl, rfl, congrArg some (congrArg (D.k _) ?_), rfl⟩
      | refine ⟨rfl, rfl, congrArg some (congrArg D.agg ?_), rfl⟩
    all_goals first
      | rfl
      | (simp_all [entText]; done)
      | (simp [entText]; (repeat' split) <;> omega)
theorem iEntText_con (e : Ent) (hp : e.path.length ≤ 2147483648) (hd : e.data.length ≤ 2147483648) : Con E 8 0 [.agg e.c] [] (.s (entText e)) [] := by
  refine con_of_awp tyOk mix Try.func8 rfl rfl rfl (Nat.le_of_ble_eq_true rfl) ?_
  conv => whnf
  repeat' first
    | (refine ⟨by simp only [List.length_append, List.length_cons, List.length_nil]; omega, ?_⟩; conv => whnf)
    | (refine ⟨_, Go.IntWalk.i64_in _ (by omega), ?_⟩; conv => whnf)
    | (refine bsplit.mk (fun h => ?_) (fun h => ?_) <;> (try simp only [decide_eq_true_eq, decide_eq_false_iff_not, Bool.not_eq_true', Bool.not_eq_false'] at h) <;> conv => whnf)
  all_goals
    refine ⟨[], [], ?_⟩
    conv => whnf
    first
      | exact ⟨rfl, rfl, rfl, rfl⟩
      | refine ⟨rfl, rfl, congrArg some (congrArg D.s ?_), rfl⟩
      | refine ⟨rfl, rfl, congrArg some (congrArg D.b ?_), rfl⟩
      | refine ⟨rfl, rfl, congrArg some (congrArg (D.k _) ?_), rfl⟩
      | refine ⟨rfl, rfl, congrArg some (congrArg D.agg ?_), rfl⟩
    all_goals first
      | rfl
      | (simp_all [entText]; done)
      | (simp [entText]; (repeat' split) <;> omega)
theorem sMarkText_con (e : Mrk) (hp : e.path.length ≤ 2147483648) (hd : e.data.length ≤ 2147483648) : Con E 10 0 [.agg e.c] [] (.s (markText e)) [] := by
  refine con_of_awp tyOk mix Try.func10 rfl rfl rfl (Nat.le_of_ble_eq_true rfl) ?_
  conv => whnf
  repeat' first
    | (refine ⟨[], _, _, _, _, 0, ⟨rfl, rfl, rfl, sEntText_con ⟨e.path, false, e.data⟩ hp hd, rfl, rfl⟩, .inr ?_⟩; conv => whnf)
    | (refine ⟨by simp only [List.length_append, List.length_cons, List.length_nil]; omega, ?_⟩; conv => whnf)
    | (refine ⟨_, Go.IntWalk.i64_in _ (by omega), ?_⟩; conv => whnf)
    | (refine bsplit.mk (fun h => ?_) (fun h => ?_) <;> (try simp only [decide_eq_true_eq, decide_eq_false_iff_not, Bool.not_eq_true', Bool.not_eq_false'] at h) <;> conv => whnf)
  all_goals
    refine ⟨[], [], ?_⟩
    conv => whnf
    first
      | exact ⟨rfl, rfl, rfl, rfl⟩
      | refine ⟨rfl, rfl, congrArg some (congrArg D.s ?_), rfl⟩
      | refine ⟨rfl, rfl, congrArg some (congrArg D.b ?_), rfl⟩
      | refine ⟨rfl, rfl, congrArg some (congrArg (D.k _) ?_), rfl⟩
      | refine ⟨rfl, rfl, congrArg some (congrArg D.agg ?_), rfl⟩
    all_goals first
      | rfl
      | (simp_all [markText]; done)
      | (simp [markText]; (repeat' split) <;> omega)
theorem iMarkText_con (e : Mrk) (hp : e.path.length ≤ 2147483648) (hd : e.data.length ≤ 2147483648) : Con E 12 0 [.agg e.c] [] (.s (markText e)) [] := by
  refine con_of_awp tyOk mix Try.func12 rfl rfl rfl (Nat.le_of_ble_eq_true rfl) ?_
  conv => whnf
  repeat' first
    | (refine ⟨[], _, _, _, _, 0, ⟨rfl, rfl, rfl, iEntText_con ⟨e.path, false, e.data⟩ hp hd, rfl, rfl⟩, .inr ?_⟩; conv => whnf)
    | (refine ⟨by simp only [List.length_append, List.length_cons, List.length_nil]; omega, ?_⟩; conv => whnf)
    | (refine ⟨_, Go.IntWalk.i64_in _ (by omega), ?_⟩; conv => whnf)
    | (refine bsplit.mk (fun h => ?_) (fun h => ?_) <;> (try simp only [decide_eq_true_eq, decide_eq_false_iff_not, Bool.not_eq_true', Bool.not_eq_false'] at h) <;> conv => whnf)
  all_goals
    refine ⟨[], [], ?_⟩
    conv => whnf
    first
      | exact ⟨rfl, rfl, rfl, rfl⟩
      | refine ⟨rfl, rfl, congrArg some (congrArg D.s ?_), rfl⟩
      | refine ⟨rfl, rfl, congrArg some (congrArg D.b ?_), rfl⟩
      | refine ⟨rfl, rfl, congrArg some (congrArg (D.k _) ?_), rfl⟩
      | refine ⟨rfl, rfl, congrArg some (congrArg D.agg ?_), rfl⟩
    all_goals first
      | rfl
      | (simp_all [markText]; done)
      | (simp [markText]; (repeat' split) <;> omega)
end Go.Proofs.Ytbklicckjnhpoaa
