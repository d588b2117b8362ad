/- Contracts: the program's trees and their texts; the laws' own helpers for lists of entries. -/
import Derived.Test.YtoaiplobfellaaaGreatDoorLd
set_option linter.unusedSimpArgs false
set_option linter.unusedVariables false
set_option maxHeartbeats 1000000
set_option maxRecDepth 10000
namespace Go.Proofs.YtoaiplobfellaaaGreatDoor
open Go Go.RowKit Go.Ab Go.Par
variable {m : Int}
theorem iTreeOk_con (t : List Ent) (hb : ∀ e ∈ t, e.path.length ≤ 1073741824 ∧ e.data.length ≤ 1073741824) : Con (E m) 35 0 [.sl (t.map Ent.c)] [] (.b (treeOk t)) [] := by
  refine con_of_cd tyOk mix Tryz.func35 rfl rfl rfl (Nat.le_of_ble_eq_true rfl) ?_
  repeat' first | refine Rw ⟨?_⟩ | (refine bsplit.mk (fun h => ?_) (fun h => ?_) <;> (try simp only [decide_eq_true_eq, decide_eq_false_iff_not, Bool.not_eq_true', Bool.not_eq_false', Bool.not_true, Bool.not_false, Bool.true_eq_false, Bool.false_eq_true, List.length_map] at h) <;> conv => whnf) | refine Rs ⟨?_⟩ | fail
  · have hf : treeOk t = false := by
      have : ¬ t.length ≤ 16 := by omega
      simp [treeOk, this]
    rw [hf]
    exact Rf
  refine Cd.loop (fun n tm S nx => ∃ i : Nat, i ≤ t.length ∧ n = t.length - i ∧ tm = [(0, .sl (t.map Ent.c)), (8, .sl (t.map Ent.c)), (9, .k .i64 (t.map Ent.c).length), (10, .k .i64 i)] ∧ S = [] ∧ nx = 0 ∧ ∀ k, k < i → okI t k = true) ⟨t.length, ?_⟩ ?_
  · refine la [0, 8, 9, 10] ?_
    conv => whnf
    refine ⟨rfl, rfl, 0, Nat.zero_le _, rfl, rfl, rfl, rfl, fun k h => absurd h (Nat.not_lt_zero _)⟩
  · rintro n tm S nx ⟨i, hi, hn, rfl, rfl, rfl, ha⟩
    by_cases hlt : i < t.length
    · have hq := hb t[i] (List.getElem_mem hlt)
      have h1 := iPathOk_con (m := m) t[i].path hq.1
      have h2 := iData_con (m := m) t[i].data hq.2
      have h3 := iUpCode_con (m := m) t t[i].path (by omega) hq.1
      repeat' first | refine Rw ⟨?_⟩ | (refine bsplit.mk (fun h => ?_) (fun h => ?_) <;> (try simp only [decide_eq_true_eq, decide_eq_false_iff_not, Bool.not_eq_true', Bool.not_eq_false', Bool.not_true, Bool.not_false, Bool.true_eq_false, Bool.false_eq_true, List.length_map] at h) <;> conv => whnf) | (refine Rc [] 0 rfl rfl (h1) ?_; conv => whnf) | (refine Rc [] 0 rfl rfl (h2) ?_; conv => whnf) | (refine Rc [] 0 rfl rfl (h3) ?_; conv => whnf) | (refine ⟨i - 1, _, by omega, map_get (by omega), rfl, ?_⟩; conv => whnf) | refine Rs ⟨?_⟩ | fail
      all_goals first
        | (have hf : okI t i = false := by
             clear h1 h2 h3 hb ha hn
             rw [okI_at hlt]
             simp_all [entOk, lt]
           have hg := treeOkI_false hlt hf
           rw [hg]
           refine CallEnd.here (fa ?_)
           conv => whnf
           exact ⟨rfl, rfl, rfl, rfl⟩)
        | (have hf : okI t i = true := by
             clear h1 h2 h3 hb ha hn
             rw [okI_at hlt]
             simp_all [entOk, lt]
           refine .here ⟨n - 1, by omega, ?_⟩
           refine la [0, 8, 9, 10] ?_
           conv => whnf
           refine ⟨rfl, rfl, i + 1, by omega, by omega, rfl, rfl, rfl, fun k hk => ?_⟩
           by_cases hki : k = i
           · rw [hki]; exact hf
           · exact ha k (by omega))
        | (have hf : okI t i = false := by
             have hbl : lt (t[i - 1]'(by omega)).path t[i].path = false := ‹Op.bytesLess (t[i - 1]'(by omega)).path t[i].path = false›
             rw [okI_at hlt, if_pos (by omega : 0 < i), hbl]
             simp
           have hg := treeOkI_false hlt hf
           rw [hg]
           refine CallEnd.here (fa ?_)
           conv => whnf
           exact ⟨rfl, rfl, rfl, rfl⟩)
        | exact absurd hlt (by omega)
    · repeat' first | refine Rw ⟨?_⟩ | (refine bsplit.mk (fun h => ?_) (fun h => ?_) <;> (try simp only [decide_eq_true_eq, decide_eq_false_iff_not, Bool.not_eq_true', Bool.not_eq_false', Bool.not_true, Bool.not_false, Bool.true_eq_false, Bool.false_eq_true, List.length_map] at h) <;> conv => whnf) | refine Rs ⟨?_⟩ | fail
      · exact absurd hlt (by omega)
      · have hf : treeOk t = true := treeOkI_true (by omega) fun k hk => ha k (by omega)
        rw [hf]
        exact Rf
theorem iTreeText_con (t : List Ent) (hb : ∀ e ∈ t, e.path.length ≤ 1073741824 ∧ e.data.length ≤ 1073741824) : Con (E m) 48 0 [.sl (t.map Ent.c)] [] (.s (treeText t)) [] := by
  have h1 := iTreeOk_con (m := m) t hb
  cases hok : treeOk t with
  | false =>
    rw [hok] at h1
    have hx : treeText t = [] := by simp [treeText, hok]
    rw [hx]
    refine con_of_cd tyOk mix Tryz.func48 rfl rfl rfl (Nat.le_of_ble_eq_true rfl) ?_
    repeat' first | refine Rw ⟨?_⟩ | (refine bsplit.mk (fun h => ?_) (fun h => ?_) <;> (try simp only [decide_eq_true_eq, decide_eq_false_iff_not, Bool.not_eq_true', Bool.not_eq_false', Bool.not_true, Bool.not_false, Bool.true_eq_false, Bool.false_eq_true, List.length_map] at h) <;> conv => whnf) | (refine Rc [] 0 rfl rfl (h1) ?_; conv => whnf) | refine Rs ⟨?_⟩ | fail
    exact Rf
  | true =>
    rw [hok] at h1
    have hlen := treeOk_len hok
    have hent := treeOk_ent hok
    have hx : treeText t = (t.map fun e => entText e ++ [10]).flatten := by simp [treeText, hok]
    rw [hx]
    refine con_of_cd tyOk mix Tryz.func48 rfl rfl rfl (Nat.le_of_ble_eq_true rfl) ?_
    repeat' first | refine Rw ⟨?_⟩ | (refine bsplit.mk (fun h => ?_) (fun h => ?_) <;> (try simp only [decide_eq_true_eq, decide_eq_false_iff_not, Bool.not_eq_true', Bool.not_eq_false', Bool.not_true, Bool.not_false, Bool.true_eq_false, Bool.false_eq_true, List.length_map] at h) <;> conv => whnf) | (refine Rc [] 0 rfl rfl (h1) ?_; conv => whnf) | refine Rs ⟨?_⟩ | fail
    refine Cd.loop (fun n tm S nx => ∃ (i : Nat) (acc : Bs), acc = ((t.take i).map fun e => entText e ++ [10]).flatten ∧ i ≤ t.length ∧ n = t.length - i ∧ tm = [(3, .own 0), (9, .sl (t.map Ent.c)), (10, .k .i64 (t.map Ent.c).length), (11, .k .i64 i)] ∧ S = [(0, .own 5 (bytesOf acc))] ∧ nx = 1) ⟨t.length, ?_⟩ ?_
    · refine la [3, 9, 10, 11] ?_
      conv => whnf
      refine ⟨rfl, rfl, 0, [], rfl, Nat.zero_le _, rfl, rfl, rfl, rfl⟩
    · rintro n tm S nx ⟨i, acc, hac, hi, hn, rfl, rfl, rfl⟩
      have hfl := texts_len hent i
      rw [← hac] at hfl
      by_cases hlt : i < t.length
      · have hq := entOk_len (hent t[i] (List.getElem_mem hlt))
        have hql := entText_len t[i]
        repeat' first | refine Rw ⟨?_⟩ | (refine bsplit.mk (fun h => ?_) (fun h => ?_) <;> (try simp only [decide_eq_true_eq, decide_eq_false_iff_not, Bool.not_eq_true', Bool.not_eq_false', Bool.not_true, Bool.not_false, Bool.true_eq_false, Bool.false_eq_true, List.length_map] at h) <;> conv => whnf) | (refine Rc [] 0 rfl rfl (iEntText_con t[i] (by omega) (by omega)) ?_; conv => whnf) | refine Rs ⟨?_⟩ | fail
        · refine .here ⟨n - 1, by omega, ?_⟩
          refine la [3, 9, 10, 11] ?_
          conv => whnf
          refine ⟨rfl, rfl, i + 1, acc ++ entText t[i] ++ [10], ?_, by omega, by omega, rfl, ?_, rfl⟩
          · rw [List.take_add_one, List.getElem?_eq_getElem hlt, hac]
            simp only [Option.toList_some, List.map_append, List.map_cons, List.map_nil, List.flatten_append, List.flatten_cons, List.flatten_nil, List.append_nil, ← List.append_assoc]
          · rw [bytesOf_app, bytesOf_app]
            rfl
        all_goals exact absurd hlt (by omega)
      · have hi2 : i = t.length := by omega
        subst hi2
        rw [List.take_length] at hac
        repeat' first | refine Rw ⟨?_⟩ | (refine bsplit.mk (fun h => ?_) (fun h => ?_) <;> (try simp only [decide_eq_true_eq, decide_eq_false_iff_not, Bool.not_eq_true', Bool.not_eq_false', Bool.not_true, Bool.not_false, Bool.true_eq_false, Bool.false_eq_true, List.length_map] at h) <;> conv => whnf) | (refine ⟨acc, rfl, (by unfold room; omega), ?_⟩; conv => whnf) | refine Rs ⟨?_⟩ | fail
        · exact absurd hlt (by omega)
        · rw [← hac]
          exact Rf
theorem szEntS_con (es : List Ent) (n : Int) (hn : 0 ≤ n ∧ n ≤ 1048576) (hl : es.length ≤ 9223372036854775807) (hb : ∀ e ∈ es, e.path.length ≤ 9223372036854775807 ∧ e.data.length ≤ 9223372036854775807) :
    Con (E m) 21 0 [.sl (es.map Ent.c), .k .i64 n] [] (.k .i64 (szEnts es n)) [] := by
  refine con_of_cd tyOk mix Tryz.func21 rfl rfl rfl (Nat.le_of_ble_eq_true rfl) ?_
  repeat' first | refine Rw ⟨?_⟩ | (refine bsplit.mk (fun h => ?_) (fun h => ?_) <;> (try simp only [decide_eq_true_eq, decide_eq_false_iff_not, Bool.not_eq_true', Bool.not_eq_false', Bool.not_true, Bool.not_false, Bool.true_eq_false, Bool.false_eq_true, List.length_map] at h) <;> conv => whnf) | refine Rs ⟨?_⟩ | fail
  · have hf : szEnts es n = -1 := if_pos ‹_›
    rw [hf]
    exact Rf
  · have hf : szEnts es n = szAll es (n - es.length) := if_neg ‹_›
    rw [hf]
    refine Cd.loop (fun q tm S nx => ∃ (i : Nat) (l : Int), i ≤ es.length ∧ q = es.length - i ∧ tm = [(0, .sl (es.map Ent.c)), (1, .k .i64 l), (5, .k .i64 i)] ∧ S = [] ∧ nx = 0 ∧ 0 ≤ l ∧ l ≤ 1048576 ∧ szAll es (n - es.length) = szAll (es.drop i) l) ⟨es.length, ?_⟩ ?_
    · refine la [0, 1, 5] ?_
      conv => whnf
      refine ⟨rfl, rfl, 0, n - es.length, Nat.zero_le _, rfl, by simp only [List.length_map]; rfl, rfl, rfl, by omega, by omega, rfl⟩
    · rintro q tm S nx ⟨i, l, hi, hq, rfl, rfl, rfl, h0, h1, ha⟩
      by_cases hlt : i < es.length
      · have hbe := hb es[i] (List.getElem_mem hlt)
        rw [List.drop_eq_getElem_cons hlt, szAll] at ha
        have hle := less2_le l es[i].path.length es[i].data.length h0
        repeat' first | refine Rw ⟨?_⟩ | (refine bsplit.mk (fun h => ?_) (fun h => ?_) <;> (try simp only [decide_eq_true_eq, decide_eq_false_iff_not, Bool.not_eq_true', Bool.not_eq_false', Bool.not_true, Bool.not_false, Bool.true_eq_false, Bool.false_eq_true, List.length_map] at h) <;> conv => whnf) | (refine Rc [] 0 rfl rfl (szEnt_con es[i] l ⟨h0, h1⟩ hbe.1 hbe.2) ?_; conv => whnf) | refine Rs ⟨?_⟩ | fail
        · rw [if_pos ‹_›] at ha
          rw [ha]
          exact Rf
        · rw [if_neg ‹_›] at ha
          refine .here ⟨q - 1, by omega, ?_⟩
          refine la [0, 1, 5] ?_
          conv => whnf
          refine ⟨rfl, rfl, i + 1, less2 l es[i].path.length es[i].data.length, by omega, by omega, rfl, rfl, rfl, by omega, by omega, ha⟩
        all_goals exact absurd hlt (by omega)
      · rw [List.drop_of_length_le (by omega)] at ha
        repeat' first | refine Rw ⟨?_⟩ | (refine bsplit.mk (fun h => ?_) (fun h => ?_) <;> (try simp only [decide_eq_true_eq, decide_eq_false_iff_not, Bool.not_eq_true', Bool.not_eq_false', Bool.not_true, Bool.not_false, Bool.true_eq_false, Bool.false_eq_true, List.length_map] at h) <;> conv => whnf) | refine Rs ⟨?_⟩ | fail
        · exact absurd hlt (by omega)
        · rw [ha]
          exact Rf
theorem toEntS_con (es : List Ent) (hl : es.length ≤ 1048576) : Con (E m) 24 0 [.sl (es.map Ent.c)] [] (.own 0) [(0, .own 76 (es.map Ent.c))] := by
  refine con_of_cd tyOk mix Tryz.func24 rfl rfl rfl (Nat.le_of_ble_eq_true rfl) ?_
  repeat' first | refine Rw ⟨?_⟩ | (refine bsplit.mk (fun h => ?_) (fun h => ?_) <;> (try simp only [decide_eq_true_eq, decide_eq_false_iff_not, Bool.not_eq_true', Bool.not_eq_false', Bool.not_true, Bool.not_false, Bool.true_eq_false, Bool.false_eq_true, List.length_map] at h) <;> conv => whnf) | (refine ⟨es.length, by simp only [List.length_map], by simp only [List.length_map], (by unfold room; omega), Nat.le_of_ble_eq_true rfl, ?_⟩; conv => whnf) | refine Rs ⟨?_⟩ | fail
  refine Cd.loop (fun q tm S nx => ∃ (i : Nat) (xs : List (List D)), i ≤ es.length ∧ q = es.length - i ∧ tm = [(0, .sl (es.map Ent.c)), (3, .own 0), (4, .k .i64 i)] ∧ S = [(0, .own 76 xs)] ∧ nx = 1 ∧ xs = (es.take i).map Ent.c ++ List.replicate (es.length - i) [.s [], .b false, .s []]) ⟨es.length, ?_⟩ ?_
  · refine la [0, 3, 4] ?_
    conv => whnf
    refine ⟨rfl, rfl, 0, _, Nat.zero_le _, rfl, rfl, rfl, rfl, rfl⟩
  · rintro q tm S nx ⟨i, xs, hi, hq, rfl, rfl, rfl, hxs⟩
    have hxl : xs.length = es.length := by rw [hxs]; simp; omega
    by_cases hlt : i < es.length
    · have hg : xs[i]? = some [.s [], .b false, .s []] := by rw [hxs]; exact fill_get hlt
      repeat' first | refine Rw ⟨?_⟩ | (refine bsplit.mk (fun h => ?_) (fun h => ?_) <;> (try simp only [decide_eq_true_eq, decide_eq_false_iff_not, Bool.not_eq_true', Bool.not_eq_false', Bool.not_true, Bool.not_false, Bool.true_eq_false, Bool.false_eq_true, List.length_map] at h) <;> conv => whnf) | (refine Rc [] 0 rfl rfl (toEnt_con es[i]) ?_; conv => whnf) | (refine ⟨_, hg, Nat.le_of_ble_eq_true rfl, ?_⟩; conv => whnf) | refine Rs ⟨?_⟩ | fail
      · refine .here ⟨q - 1, by omega, ?_⟩
        refine la [0, 3, 4] ?_
        conv => whnf
        refine ⟨rfl, rfl, i + 1, _, by omega, by omega, rfl, rfl, rfl, (by rw [hxs]; exact fill_set hlt)⟩
      all_goals exact absurd hlt (by omega)
    · have hx : xs = es.map Ent.c := by
        rw [hxs, List.take_of_length_le (by omega)]
        have : es.length - i = 0 := by omega
        simp [this]
      subst hx
      repeat' first | refine Rw ⟨?_⟩ | (refine bsplit.mk (fun h => ?_) (fun h => ?_) <;> (try simp only [decide_eq_true_eq, decide_eq_false_iff_not, Bool.not_eq_true', Bool.not_eq_false', Bool.not_true, Bool.not_false, Bool.true_eq_false, Bool.false_eq_true, List.length_map] at h) <;> conv => whnf) | refine Rs ⟨?_⟩ | fail
      · exact absurd hlt (by omega)
      · exact Rf
theorem eqEnt_con (a b : Ent) : Con (E m) 91 0 [.agg a.c, .agg b.c] [] (.b (eqE a b)) [] := by
  refine con_of_cd tyOk mix Tryz.func91 rfl rfl rfl (Nat.le_of_ble_eq_true rfl) ?_
  repeat' first | refine Rw ⟨?_⟩ | (refine bsplit.mk (fun h => ?_) (fun h => ?_) <;> (try simp only [decide_eq_true_eq, decide_eq_false_iff_not, Bool.not_eq_true', Bool.not_eq_false', Bool.not_true, Bool.not_false, Bool.true_eq_false, Bool.false_eq_true, List.length_map] at h) <;> conv => whnf) | refine Rs ⟨?_⟩ | fail
  all_goals
    first | refine CallEnd.here (fa ?_) | refine fa ?_
    conv => whnf
    first | exact ⟨rfl, rfl, rfl, rfl⟩ | refine ⟨rfl, rfl, congrArg some (congrArg D.s ?_), rfl⟩ | refine ⟨rfl, rfl, congrArg some (congrArg D.b ?_), rfl⟩ | refine ⟨rfl, rfl, congrArg some (congrArg (D.k _) ?_), rfl⟩ | refine ⟨rfl, rfl, congrArg some (congrArg D.agg ?_), rfl⟩ | refine ⟨rfl, rfl, rfl, ?_⟩
    all_goals first | rfl | (simp_all [eqE]; done) | (simp [eqE] <;> (repeat' split) <;> omega) | (simp only [eqE]; repeat' split) <;> first | omega | (simp_all; done) | (simp_all; omega) | (rw [Bool.eq_iff_iff]; simp [*, eqE] <;> omega)
theorem eqEntS_con (t : List Ent) (hl : t.length ≤ 1048576) : Con (E m) 28 0 [.sl (t.map Ent.c), .sl (t.map Ent.c)] [] (.b true) [] := by
  refine con_of_cd tyOk mix Tryz.func28 rfl rfl rfl (Nat.le_of_ble_eq_true rfl) ?_
  repeat' first | refine Rw ⟨?_⟩ | (refine bsplit.mk (fun h => ?_) (fun h => ?_) <;> (try simp only [decide_eq_true_eq, decide_eq_false_iff_not, Bool.not_eq_true', Bool.not_eq_false', Bool.not_true, Bool.not_false, Bool.true_eq_false, Bool.false_eq_true, List.length_map] at h) <;> conv => whnf) | refine Rs ⟨?_⟩ | fail
  · exact absurd trivial ‹¬True›
  refine Cd.loop (fun q tm S nx => ∃ (i : Nat), i ≤ t.length ∧ q = t.length - i ∧ tm = [(0, .sl (t.map Ent.c)), (1, .sl (t.map Ent.c)), (5, .k .i64 i)] ∧ S = [] ∧ nx = 0) ⟨t.length, ?_⟩ ?_
  · refine la [0, 1, 5] ?_
    conv => whnf
    refine ⟨rfl, rfl, 0, Nat.zero_le _, rfl, rfl, rfl, rfl⟩
  · rintro q tm S nx ⟨i, hi, hq, rfl, rfl, rfl⟩
    by_cases hlt : i < t.length
    · have he := eqEnt_con (m := m) t[i] t[i]
      rw [eqE_self] at he
      repeat' first | refine Rw ⟨?_⟩ | (refine bsplit.mk (fun h => ?_) (fun h => ?_) <;> (try simp only [decide_eq_true_eq, decide_eq_false_iff_not, Bool.not_eq_true', Bool.not_eq_false', Bool.not_true, Bool.not_false, Bool.true_eq_false, Bool.false_eq_true, List.length_map] at h) <;> conv => whnf) | (refine Rc [] 0 rfl rfl (he) ?_; conv => whnf) | refine Rs ⟨?_⟩ | fail
      · refine .here ⟨q - 1, by omega, ?_⟩
        refine la [0, 1, 5] ?_
        conv => whnf
        refine ⟨rfl, rfl, i + 1, by omega, by omega, rfl, rfl, rfl⟩
      all_goals exact absurd hlt (by omega)
    · repeat' first | refine Rw ⟨?_⟩ | (refine bsplit.mk (fun h => ?_) (fun h => ?_) <;> (try simp only [decide_eq_true_eq, decide_eq_false_iff_not, Bool.not_eq_true', Bool.not_eq_false', Bool.not_true, Bool.not_false, Bool.true_eq_false, Bool.false_eq_true, List.length_map] at h) <;> conv => whnf) | refine Rs ⟨?_⟩ | fail
      · exact absurd hlt (by omega)
      · exact Rf
theorem lEnt_cells {cs : List D} (h : Shp Tryz.prog 106 cs) : ∃ e : Ent, cs = e.c ∧ e.path.length ≤ 9223372036854775807 ∧ e.data.length ≤ 9223372036854775807 := by
  have h1 := h.struct_inv Tryz.underlying106
  have h2 : ShpF Tryz.prog [9, 4, 9] cs := h1
  obtain ⟨a, _, rfl, ha, b, _, rfl, hb, c, _, rfl, hc, rfl⟩ := h2
  obtain ⟨p, rfl, hp⟩ := ha.str_inv Tryz.underlying9
  obtain ⟨x, rfl⟩ := hb.bool_inv Tryz.underlying4
  obtain ⟨q, rfl, hq⟩ := hc.str_inv Tryz.underlying9
  exact ⟨⟨p, x, q⟩, rfl, hp, hq⟩
theorem lEnts_cells : ∀ (xs : List (List D)), (∀ cs ∈ xs, Shp Tryz.prog 106 cs) → ∃ es : List Ent, xs = es.map Ent.c ∧ ∀ e ∈ es, e.path.length ≤ 9223372036854775807 ∧ e.data.length ≤ 9223372036854775807
  | [], _ => ⟨[], rfl, by simp⟩
  | cs :: xs, h => by
    obtain ⟨e, rfl, h1, h2⟩ := lEnt_cells (h cs (by simp))
    obtain ⟨es, rfl, h3⟩ := lEnts_cells xs fun c hc => h c (by simp [hc])
    refine ⟨e :: es, rfl, fun x hx => ?_⟩
    rcases List.mem_cons.1 hx with rfl | hx
    · exact ⟨h1, h2⟩
    · exact h3 x hx
theorem lEnts_shp {d : D} (h : ShpV Tryz.prog 22 d) : ∃ es : List Ent, d = .sl (es.map Ent.c) ∧ es.length ≤ 9223372036854775807 ∧ ∀ e ∈ es, e.path.length ≤ 9223372036854775807 ∧ e.data.length ≤ 9223372036854775807 := by
  have h1 := h.one (fun fs => by rw [Tryz.underlying22]; simp)
  obtain ⟨xs, hx, hl, hc⟩ := h1.slice_inv Tryz.underlying22
  obtain ⟨es, rfl, he⟩ := lEnts_cells xs hc
  cases hx
  rw [List.length_map] at hl
  exact ⟨es, rfl, hl, he⟩
end Go.Proofs.YtoaiplobfellaaaGreatDoor
