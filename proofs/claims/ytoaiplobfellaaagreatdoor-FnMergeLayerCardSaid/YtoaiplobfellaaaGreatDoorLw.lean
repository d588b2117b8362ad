/- Contracts: lists that are compared; merges. -/
import Derived.Test.YtoaiplobfellaaaGreatDoorLs
import Derived.Test.YtoaiplobfellaaaGreatDoorLm
import Derived.Test.YtoaiplobfellaaaGreatDoorX2
import Derived.Test.YtoaiplobfellaaaGreatDoorPl
import Derived.Test.YtoaiplobfellaaaGreatDoorPo
import Derived.Test.YtoaiplobfellaaaGreatDoorLq
set_option linter.unusedSimpArgs false
set_option linter.unusedVariables false
set_option maxHeartbeats 1000000
set_option maxRecDepth 10000
namespace Go.Proofs.YtoaiplobfellaaaGreatDoor
open Go Go.RowKit Go.Ab Go.Par
variable {m : Int}
abbrev ee (x y : Ent) : Bool := decide (x.path = y.path) && ((x.dir == y.dir) && (decide (x.data = y.data) && true))
theorem ee_eq (x : Ent) : ee x x = true := by simp [ee]
theorem ee_ne {x y : Ent} (h : x ≠ y) : ee x y = false := by
  rw [← Bool.not_eq_true]
  intro hf
  apply h
  obtain ⟨p, d, q⟩ := x
  obtain ⟨p', d', q'⟩ := y
  simp [ee] at hf
  simp [hf]
abbrev em (x y : Mrk) : Bool := decide (x.path = y.path) && (decide (x.kind = y.kind) && (decide (x.data = y.data) && true))
theorem em_eq (x : Mrk) : em x x = true := by simp [em]
theorem em_ne {x y : Mrk} (h : x ≠ y) : em x y = false := by
  rw [← Bool.not_eq_true]
  intro hf
  apply h
  obtain ⟨p, d, q⟩ := x
  obtain ⟨p', d', q'⟩ := y
  simp [em] at hf
  simp [hf]
theorem ne_at {α : Type} {t u : List α} {i : Nat} {x y : α} (h1 : t[i]? = some x) (h2 : u[i]? = some y) (h : x ≠ y) : t ≠ u := by
  rintro rfl
  rw [h1] at h2
  exact h (Option.some.inj h2)
theorem take_step {α : Type} {t u : List α} {i : Nat} {x : α} (h1 : t[i]? = some x) (h2 : u[i]? = some x) (h : t.take i = u.take i) : t.take (i + 1) = u.take (i + 1) := by
  rw [List.take_add_one, List.take_add_one, h1, h2, h]
theorem take_all {α : Type} {t u : List α} {i : Nat} (hl : t.length = u.length) (hi : t.length ≤ i) (h : t.take i = u.take i) : t = u := by
  rw [List.take_of_length_le hi, List.take_of_length_le (by omega)] at h
  exact h
theorem entsEq_con (t u : List Ent) (ht : t.length ≤ 1048576) (hu : u.length ≤ 1048576) : Con (E m) 95 0 [.sl (t.map Ent.c), .sl (u.map Ent.c)] [] (.b (decide (t = u))) [] := by
  have e1 : (t.map Ent.c).length = t.length := List.length_map ..
  have e2 : (u.map Ent.c).length = u.length := List.length_map ..
  by_cases hl : t.length = u.length
  · refine con_of_cd tyOk mix Tryz.func95 rfl rfl rfl (Nat.le_of_ble_eq_true rfl) ?_
    repeat' first | refine Ra ⟨?_⟩ | ((first | (refine bd (fun h => ?_) (fun h => ?_) <;> (try simp only [List.length_map] at h)) | refine bsplit.mk (fun h => ?_) (fun h => ?_)) <;> conv => whnf) | refine Rb ⟨?_⟩ | fail
    refine Cd.loop2 (fun mq tm S nx => ∃ (i : Nat), mq = (t.length - i) ∧ tm = [(0, .sl (t.map Ent.c)), (1, .sl (u.map Ent.c)), (12, .k .i64 ((t.map Ent.c).length : Int)), (13, .k .i64 i)] ∧ S = [] ∧ nx = 0 ∧ (i ≤ t.length) ∧ (t.take i = u.take i)) ?_ ?_
    · refine la [0, 1, 12, 13] ?_
      conv => whnf
      refine ⟨rfl, rfl, _, 0, rfl, rfl, rfl, rfl, by omega, rfl⟩
    · rintro mq tm S nx ⟨i, hn, rfl, rfl, rfl, hi, ha⟩
      by_cases hlt : i < t.length
      · have g1 : t[i]? = some t[i] := List.getElem?_eq_getElem hlt
        have g2 : u[i]? = some (u[i]'(by omega)) := List.getElem?_eq_getElem (by omega)
        generalize t[i] = x at g1
        generalize u[i]'(by omega) = y at g2
        by_cases hxy : x = y
        · subst hxy
          have e3 := ee_eq x
          repeat' first | refine Ra ⟨?_⟩ | ((first | (refine bd (fun h => ?_) (fun h => ?_) <;> (try simp only [List.length_map] at h)) | refine bsplit.mk (fun h => ?_) (fun h => ?_)) <;> conv => whnf) | refine Rb ⟨?_⟩ | fail
          refine .here ⟨mq - 1, by omega, ?_⟩
          refine la [0, 1, 12, 13] ?_
          conv => whnf
          refine ⟨rfl, rfl, i + 1, (by omega), rfl, rfl, rfl, by omega, take_step g1 g2 ha⟩
        · have e3 := ee_ne hxy
          have e4 : decide (t = u) = false := decide_eq_false (ne_at g1 g2 hxy)
          rw [e4]
          repeat' first | refine Ra ⟨?_⟩ | ((first | (refine bd (fun h => ?_) (fun h => ?_) <;> (try simp only [List.length_map] at h)) | refine bsplit.mk (fun h => ?_) (fun h => ?_)) <;> conv => whnf) | refine Rb ⟨?_⟩ | fail
          exact Rf
      · have e4 : decide (t = u) = true := decide_eq_true (take_all hl (by omega) ha)
        rw [e4]
        repeat' first | refine Ra ⟨?_⟩ | ((first | (refine bd (fun h => ?_) (fun h => ?_) <;> (try simp only [List.length_map] at h)) | refine bsplit.mk (fun h => ?_) (fun h => ?_)) <;> conv => whnf) | refine Rb ⟨?_⟩ | fail
        exact Rf
  · have e4 : decide (t = u) = false := decide_eq_false (fun h => hl (by rw [h]))
    rw [e4]
    refine con_of_cd tyOk mix Tryz.func95 rfl rfl rfl (Nat.le_of_ble_eq_true rfl) ?_
    repeat' first | refine Ra ⟨?_⟩ | ((first | (refine bd (fun h => ?_) (fun h => ?_) <;> (try simp only [List.length_map] at h)) | refine bsplit.mk (fun h => ?_) (fun h => ?_)) <;> conv => whnf) | refine Rb ⟨?_⟩ | fail
    exact Rf
theorem treeSame_con (t u : List Ent) (ht : t.length ≤ 1048576) (hu : u.length ≤ 1048576) : Con (E m) 32 0 [.sl (t.map Ent.c), .sl (u.map Ent.c)] [] (.b (decide (t = u))) [] := by
  have c1 := entsEq_con (m := m) t u ht hu
  refine con_of_cd tyOk mix Tryz.func32 rfl rfl rfl (Nat.le_of_ble_eq_true rfl) ?_
  repeat' first | refine Ra ⟨?_⟩ | ((first | refine Rc [] 0 rfl rfl (c1) ?_ | (refine bd (fun h => ?_) (fun h => ?_) <;> (try simp only [List.length_map] at h)) | refine bsplit.mk (fun h => ?_) (fun h => ?_)) <;> conv => whnf) | refine Rb ⟨?_⟩ | fail
  exact Rf
theorem marksEq_con (t u : List Mrk) (ht : t.length ≤ 1048576) (hu : u.length ≤ 1048576) : Con (E m) 141 0 [.sl (t.map Mrk.c), .sl (u.map Mrk.c)] [] (.b (decide (t = u))) [] := by
  have e1 : (t.map Mrk.c).length = t.length := List.length_map ..
  have e2 : (u.map Mrk.c).length = u.length := List.length_map ..
  by_cases hl : t.length = u.length
  · refine con_of_cd tyOk mix Tryz.func141 rfl rfl rfl (Nat.le_of_ble_eq_true rfl) ?_
    repeat' first | refine Ra ⟨?_⟩ | ((first | (refine bd (fun h => ?_) (fun h => ?_) <;> (try simp only [List.length_map] at h)) | refine bsplit.mk (fun h => ?_) (fun h => ?_)) <;> conv => whnf) | refine Rb ⟨?_⟩ | fail
    refine Cd.loop2 (fun mq tm S nx => ∃ (i : Nat), mq = (t.length - i) ∧ tm = [(0, .sl (t.map Mrk.c)), (1, .sl (u.map Mrk.c)), (12, .k .i64 ((t.map Mrk.c).length : Int)), (13, .k .i64 i)] ∧ S = [] ∧ nx = 0 ∧ (i ≤ t.length) ∧ (t.take i = u.take i)) ?_ ?_
    · refine la [0, 1, 12, 13] ?_
      conv => whnf
      refine ⟨rfl, rfl, _, 0, rfl, rfl, rfl, rfl, by omega, rfl⟩
    · rintro mq tm S nx ⟨i, hn, rfl, rfl, rfl, hi, ha⟩
      by_cases hlt : i < t.length
      · have g1 : t[i]? = some t[i] := List.getElem?_eq_getElem hlt
        have g2 : u[i]? = some (u[i]'(by omega)) := List.getElem?_eq_getElem (by omega)
        generalize t[i] = x at g1
        generalize u[i]'(by omega) = y at g2
        by_cases hxy : x = y
        · subst hxy
          have e3 := em_eq x
          repeat' first | refine Ra ⟨?_⟩ | ((first | (refine bd (fun h => ?_) (fun h => ?_) <;> (try simp only [List.length_map] at h)) | refine bsplit.mk (fun h => ?_) (fun h => ?_)) <;> conv => whnf) | refine Rb ⟨?_⟩ | fail
          refine .here ⟨mq - 1, by omega, ?_⟩
          refine la [0, 1, 12, 13] ?_
          conv => whnf
          refine ⟨rfl, rfl, i + 1, (by omega), rfl, rfl, rfl, by omega, take_step g1 g2 ha⟩
        · have e3 := em_ne hxy
          have e4 : decide (t = u) = false := decide_eq_false (ne_at g1 g2 hxy)
          rw [e4]
          repeat' first | refine Ra ⟨?_⟩ | ((first | (refine bd (fun h => ?_) (fun h => ?_) <;> (try simp only [List.length_map] at h)) | refine bsplit.mk (fun h => ?_) (fun h => ?_)) <;> conv => whnf) | refine Rb ⟨?_⟩ | fail
          exact Rf
      · have e4 : decide (t = u) = true := decide_eq_true (take_all hl (by omega) ha)
        rw [e4]
        repeat' first | refine Ra ⟨?_⟩ | ((first | (refine bd (fun h => ?_) (fun h => ?_) <;> (try simp only [List.length_map] at h)) | refine bsplit.mk (fun h => ?_) (fun h => ?_)) <;> conv => whnf) | refine Rb ⟨?_⟩ | fail
        exact Rf
  · have e4 : decide (t = u) = false := decide_eq_false (fun h => hl (by rw [h]))
    rw [e4]
    refine con_of_cd tyOk mix Tryz.func141 rfl rfl rfl (Nat.le_of_ble_eq_true rfl) ?_
    repeat' first | refine Ra ⟨?_⟩ | ((first | (refine bd (fun h => ?_) (fun h => ?_) <;> (try simp only [List.length_map] at h)) | refine bsplit.mk (fun h => ?_) (fun h => ?_)) <;> conv => whnf) | refine Rb ⟨?_⟩ | fail
    exact Rf
theorem layerSame_con (t u : List Mrk) (ht : t.length ≤ 1048576) (hu : u.length ≤ 1048576) : Con (E m) 75 0 [.sl (t.map Mrk.c), .sl (u.map Mrk.c)] [] (.b (decide (t = u))) [] := by
  have c1 := marksEq_con (m := m) t u ht hu
  refine con_of_cd tyOk mix Tryz.func75 rfl rfl rfl (Nat.le_of_ble_eq_true rfl) ?_
  repeat' first | refine Ra ⟨?_⟩ | ((first | refine Rc [] 0 rfl rfl (c1) ?_ | (refine bd (fun h => ?_) (fun h => ?_) <;> (try simp only [List.length_map] at h)) | refine bsplit.mk (fun h => ?_) (fun h => ?_)) <;> conv => whnf) | refine Rb ⟨?_⟩ | fail
  exact Rf
theorem sort_con (ls : List Bs) (h : ls.length ≤ 1000000) : Con (E m) 191 1 [.own 0] [(0, .own 9 (strs ls))] (.tup []) [(0, .own 9 (strs (sortU ls)))] :=
  con_sort (by kernel_rfl) ⟨_, Tryz.func191, rfl, rfl⟩ (sortU_len ls) (fun _ w => Tryz.slices_Sort_string_none none 0 w) (fun g cap w hH hg => Tryz.slices_Sort_string g 0 cap ls w hH hg (by omega))
theorem compact_con (ls : List Bs) (h : ls.length ≤ 1000000) : Con (E m) 192 1 [.own 0] [(0, .own 9 (strs ls))] (.own 1) [(1, .own 9 (strs (Lib.compact ls)))] :=
  con_compact (by kernel_rfl) ⟨_, Tryz.func192, rfl, rfl⟩ (compact_len ls) (fun _ w => Tryz.slices_Compact_string_empty none 0 w) (fun g cap w hH hc hm => Tryz.slices_Compact_string g 0 cap ls w hH (by omega) hc)
abbrev pss (ts : List (List Ent)) : List Bs := ts.flatMap pathsE
theorem strs_snoc (A : List Bs) (x : Bs) : strs A ++ [[.s x]] = strs (A ++ [x]) := by simp [strs]
theorem pss_step {ts : List (List Ent)} {i : Nat} {y : List Ent} (h : ts[i]? = some y) : pss (ts.take (i + 1)) = pss (ts.take i) ++ pathsE y := by
  rw [List.take_add_one, h]
  simp [pss]
theorem pathsE_step {t : List Ent} {j : Nat} {x : Ent} (h : t[j]? = some x) : pathsE (t.take (j + 1)) = pathsE (t.take j) ++ [x.path] := by
  rw [List.take_add_one, h]
  simp
theorem iAllPaths_con (ts : List (List Ent)) (hl : ts.length ≤ 10) (hb : ∀ t ∈ ts, t.length ≤ 1000) : Con (E m) 123 0 [.sl (ts.map fun t => [.sl (t.map Ent.c)])] [] (.own 0) [(0, .own 9 (strs (uniq (pss ts))))] := by
  have e1 : (ts.map fun t => [D.sl (t.map Ent.c)]).length = ts.length := List.length_map ..
  refine con_of_cd tyOk mix Tryz.func123 rfl rfl rfl (Nat.le_of_ble_eq_true rfl) ?_
  repeat' first | refine Ra ⟨?_⟩ | ((first | (refine bd (fun h => ?_) (fun h => ?_) <;> (try simp only [List.length_map] at h)) | refine bsplit.mk (fun h => ?_) (fun h => ?_)) <;> conv => whnf) | refine Rb ⟨?_⟩ | fail
  refine Cd.loop2 (fun mq tm S nx => ∃ (i : Nat) (A : List Bs), mq = (ts.length - i) ∧ tm = [(3, .own 0), (8, .sl (ts.map fun t => [.sl (t.map Ent.c)])), (9, .k .i64 ((ts.map fun t => [D.sl (t.map Ent.c)]).length : Int)), (10, .k .i64 i)] ∧ S = [(0, .own 9 (strs A))] ∧ nx = 1 ∧ (i ≤ ts.length) ∧ (A = pss (ts.take i)) ∧ (A.length ≤ 1000 * i)) ?_ ?_
  · refine la [3, 8, 9, 10] ?_
    conv => whnf
    refine ⟨rfl, rfl, _, 0, [], rfl, rfl, rfl, rfl, by omega, by simp, by simp⟩
  · rintro mq tm S nx ⟨i, A, hn, rfl, rfl, rfl, hi, hA, hAl⟩
    have e2 : (strs A).length = A.length := List.length_map ..
    by_cases hlt : i < ts.length
    · have g1 : ts[i]? = some ts[i] := List.getElem?_eq_getElem hlt
      have g2 := hb _ (List.getElem_mem hlt)
      generalize ts[i] = y at g1 g2
      obtain ⟨mo, hmo⟩ : ∃ mo, mo = mq := ⟨_, rfl⟩
      subst hmo
      have hno := hn
      have e3 : (y.map Ent.c).length = y.length := List.length_map ..
      repeat' first | refine Ra ⟨?_⟩ | ((first | (refine bd (fun h => ?_) (fun h => ?_) <;> (try simp only [List.length_map] at h)) | refine bsplit.mk (fun h => ?_) (fun h => ?_)) <;> conv => whnf) | refine Rb ⟨?_⟩ | fail
      refine Cd.loop2 (fun mq tm S nx => ∃ (j : Nat) (B : List Bs), mq = (y.length - j) ∧ tm = [(3, .own 0), (8, .sl (ts.map fun t => [.sl (t.map Ent.c)])), (9, .k .i64 ((ts.map fun t => [D.sl (t.map Ent.c)]).length : Int)), (10, .k .i64 i), (14, .sl (y.map Ent.c)), (15, .k .i64 ((y.map Ent.c).length : Int)), (16, .k .i64 j)] ∧ S = [(0, .own 9 (strs B))] ∧ nx = 1 ∧ (j ≤ y.length) ∧ (B = A ++ pathsE (y.take j)) ∧ (B.length = A.length + j)) ?_ ?_
      · refine la [3, 8, 9, 10, 14, 15, 16] ?_
        conv => whnf
        refine ⟨rfl, rfl, _, 0, A, rfl, rfl, rfl, rfl, by omega, by simp, by simp⟩
      · rintro mq tm S nx ⟨j, B, hn, rfl, rfl, rfl, hj, hB, hBl⟩
        have e4 : (strs B).length = B.length := List.length_map ..
        by_cases hjl : j < y.length
        · have g3 : y[j]? = some y[j] := List.getElem?_eq_getElem hjl
          generalize y[j] = x at g3
          repeat' first | refine Ra ⟨?_⟩ | ((first | (refine bd (fun h => ?_) (fun h => ?_) <;> (try simp only [List.length_map] at h)) | refine bsplit.mk (fun h => ?_) (fun h => ?_)) <;> conv => whnf) | refine Rb ⟨?_⟩ | fail
          refine .here ⟨mq - 1, by omega, ?_⟩
          refine la [3, 8, 9, 10, 14, 15, 16] ?_
          conv => whnf
          refine ⟨rfl, rfl, j + 1, B ++ [x.path], (by omega), rfl, ?_, rfl, by omega, (by rw [hB, pathsE_step g3, List.append_assoc]), (by simp; omega)⟩
          rw [← strs_snoc]
          rfl
        · repeat' first | refine Ra ⟨?_⟩ | ((first | (refine bd (fun h => ?_) (fun h => ?_) <;> (try simp only [List.length_map] at h)) | refine bsplit.mk (fun h => ?_) (fun h => ?_)) <;> conv => whnf) | refine Rb ⟨?_⟩ | fail
          refine .here ⟨mo - 1, by omega, ?_⟩
          refine la [3, 8, 9, 10] ?_
          conv => whnf
          refine ⟨rfl, rfl, i + 1, B, (by omega), rfl, rfl, rfl, by omega, (by rw [hB, hA, pss_step g1, (List.take_of_length_le (by omega) : y.take j = y)]), by omega⟩
    · have hA' : A = pss ts := by rw [hA, List.take_of_length_le (by omega)]
      have c1 := sort_con (m := m) A (by omega)
      have c2 := compact_con (m := m) (sortU A) (by rw [sortU_len]; omega)
      rw [← hA']
      repeat' first | refine Ra ⟨?_⟩ | ((first | refine Rc [0] 0 rfl rfl (c1) ?_ | refine Rc [0] 1 rfl rfl (c2) ?_ | (refine bd (fun h => ?_) (fun h => ?_) <;> (try simp only [List.length_map] at h)) | refine bsplit.mk (fun h => ?_) (fun h => ?_)) <;> conv => whnf) | refine Rb ⟨?_⟩ | fail
      exact Rf
theorem pss3 (t a b : List Ent) : pss [t, a, b] = pathsE t ++ pathsE a ++ pathsE b := by simp [pss]
theorem allP_len {t a b : List Ent} (ht : treeOk t = true) (ha : treeOk a = true) (hb : treeOk b = true) : (allP t a b).length ≤ 48 := by
  rw [← uniq_allP (treeOk_srt ht)]
  have h1 := uniq_len (pathsE t ++ pathsE a ++ pathsE b)
  have := treeOk_len ht
  have := treeOk_len ha
  have := treeOk_len hb
  simp only [List.length_append, List.length_map] at h1
  omega
theorem bE {t : List Ent} (h : treeOk t = true) : ∀ e ∈ t, e.path.length ≤ 1073741824 ∧ e.data.length ≤ 1073741824 := fun e he => by
  have := entOk_len (treeOk_ent h e he); omega
theorem mD_none : mD none = .tup [.agg [.s [], .b false, .s []], .b false, .b false] := rfl
theorem mD_some (o : Option Ent) : mD (some o) = .tup [.agg [.s (o.getD ent0).path, .b (o.getD ent0).dir, .s (o.getD ent0).data], .b o.isSome, .b true] := rfl
/-- of three trees of which one is not right the first such -/
theorem right_cases (t a b : List Ent) : right3 t a b = true ∨ (right3 t a b = false ∧ (treeOk t = false ∨ (treeOk t = true ∧ treeOk a = false) ∨ (treeOk t = true ∧ treeOk a = true ∧ treeOk b = false))) := by
  unfold right3
  cases treeOk t <;> cases treeOk a <;> cases treeOk b <;> simp
theorem clash_step {t a b : List Ent} {i : Nat} {p : Bs} (h : (allP t a b)[i]? = some p) : ((allP t a b).take (i + 1)).filter (fun p => (mAt t a b p).isNone) = ((allP t a b).take i).filter (fun p => (mAt t a b p).isNone) ++ if (mAt t a b p).isNone then [p] else [] := by
  rw [List.take_add_one, h, List.filter_append]
  simp [List.filter_cons]
theorem get_bnd {t : List Ent} (h : treeOk t = true) {p : Bs} {e : Ent} (hg : entGet t p = some e) : e.path.length ≤ 1073741824 ∧ e.data.length ≤ 1073741824 := by
  unfold entGet at hg
  split at hg
  · cases hg
    simp [rootE]
  · exact bE h e (entAt_some hg).1
theorem mAt_bnd {t a b : List Ent} (h : right3 t a b = true) {p : Bs} {e : Ent} (hg : mAt t a b p = some (some e)) : e.path.length ≤ 1073741824 ∧ e.data.length ≤ 1073741824 := by
  obtain ⟨h1, h2, h3⟩ := right3_iff.1 h
  unfold mAt at hg
  split at hg
  · exact get_bnd h3 (Option.some.inj hg)
  · split at hg
    · exact get_bnd h2 (Option.some.inj hg)
    · cases hg
theorem merge_none {t a b : List Ent} {p : Bs} (hp : p ∈ allP t a b) (h : mAt t a b p = none) : mergeL t a b = none := by
  unfold mergeL
  rw [if_neg]
  rintro ⟨_, h2, _⟩
  rw [List.all_eq_true] at h2
  have := h2 p hp
  rw [h] at this
  cases this
theorem merge_end {t a b : List Ent} (hr : right3 t a b = true) (h : ∀ p ∈ allP t a b, (mAt t a b p).isSome = true) : mergeL t a b = if treeOk ((allP t a b).filterMap (mGet t a b)) = true then some ((allP t a b).filterMap (mGet t a b)) else none := by
  have h2 : (allP t a b).all (fun p => (mAt t a b p).isSome) = true := List.all_eq_true.2 h
  unfold mergeL mOut
  by_cases h3 : treeOk ((allP t a b).filterMap (mGet t a b)) = true
  · rw [if_pos ⟨hr, h2, h3⟩, if_pos h3]
  · rw [if_neg h3, if_neg fun h => h3 h.2.2]
theorem merge_wrong {t a b : List Ent} (hr : right3 t a b = false) : mergeL t a b = none := by
  unfold mergeL
  rw [if_neg]
  rintro ⟨h, _⟩
  rw [hr] at h
  cases h
theorem out_step {t a b : List Ent} {P : List Bs} {i : Nat} {p : Bs} (h : P[i]? = some p) : (P.take (i + 1)).filterMap (mGet t a b) = (P.take i).filterMap (mGet t a b) ++ (match mAt t a b p with | some (some e) => [e] | _ => []) := by
  rw [List.take_add_one, h, List.filterMap_append]
  congr 1
  simp only [Option.toList_some]
  unfold mGet
  cases hx : mAt t a b p with
  | none => simp [hx]
  | some o => cases o <;> simp [hx]
theorem some_step {t a b : List Ent} {P : List Bs} {i : Nat} {p : Bs} (h : P[i]? = some p) (hp : (mAt t a b p).isSome = true) (hall : ∀ p ∈ P.take i, (mAt t a b p).isSome = true) : ∀ p ∈ P.take (i + 1), (mAt t a b p).isSome = true := by
  rw [List.take_add_one, h]
  intro q hq
  rcases List.mem_append.1 hq with hq | hq
  · exact hall q hq
  · simp at hq
    rw [hq]
    exact hp
theorem bnd_snoc {A : List Ent} {e : Ent} (h : ∀ e ∈ A, e.path.length ≤ 1073741824 ∧ e.data.length ≤ 1073741824) (he : e.path.length ≤ 1073741824 ∧ e.data.length ≤ 1073741824) : ∀ x ∈ A ++ [e], x.path.length ≤ 1073741824 ∧ x.data.length ≤ 1073741824 := fun x hx => by
  rcases List.mem_append.1 hx with hx | hx
  · exact h x hx
  · rw [List.mem_singleton.1 hx]; exact he
theorem ents_snoc (A : List Ent) (e : Ent) : A.map Ent.c ++ [[.s e.path, .b e.dir, .s e.data]] = (A ++ [e]).map Ent.c := by rw [List.map_append]; rfl
theorem iMerge_con (t a b : List Ent) (ht : ∀ e ∈ t, e.path.length ≤ 1073741824 ∧ e.data.length ≤ 1073741824) (ha : ∀ e ∈ a, e.path.length ≤ 1073741824 ∧ e.data.length ≤ 1073741824) (hb : ∀ e ∈ b, e.path.length ≤ 1073741824 ∧ e.data.length ≤ 1073741824) :
    Con (E m) 66 0 [.sl (t.map Ent.c), .sl (a.map Ent.c), .sl (b.map Ent.c)] [] (.tup [.own 0, .b (mergeL t a b).isSome]) [(0, .own 76 (((mergeL t a b).getD []).map Ent.c))] := by
  have c1 := iTreeOk_con (m := m) t ht
  have c2 := iTreeOk_con (m := m) a ha
  have c3 := iTreeOk_con (m := m) b hb
  rcases right_cases t a b with hr | ⟨hr, hc⟩
  · obtain ⟨h1, h2, h3⟩ := right3_iff.1 hr
    rw [h1] at c1
    rw [h2] at c2
    rw [h3] at c3
    have l1 := treeOk_len h1
    have l2 := treeOk_len h2
    have l3 := treeOk_len h3
    have c4 := iAllPaths_con (m := m) [t, a, b] (by simp) (fun x hx => by simp at hx; rcases hx with rfl | rfl | rfl <;> omega)
    rw [pss3, uniq_allP (treeOk_srt h1)] at c4
    have hpl := allP_len h1 h2 h3
    have hmn := fun p (hp : p ∈ allP t a b) h => merge_none hp h
    have hme := merge_end hr
    have hmb := fun p e => mAt_bnd (t := t) (a := a) (b := b) hr (p := p) (e := e)
    have c5 := fun p => iMAt_con (m := m) t a b p ht ha hb
    have hmm : ∀ p, mergeAt t a b p = mAt t a b p := fun p => by rw [mergeAt, if_pos hr]
    generalize mergeL t a b = R at hmn hme
    generalize allP t a b = P at c4 hpl hmn hme
    have e1 : (strs P).length = P.length := List.length_map ..
    refine con_of_cd tyOk mix Tryz.func66 rfl rfl rfl (Nat.le_of_ble_eq_true rfl) ?_
    repeat' first | refine Ra ⟨?_⟩ | ((first | refine Rc [] 0 rfl rfl (c1) ?_ | refine Rc [] 0 rfl rfl (c2) ?_ | refine Rc [] 0 rfl rfl (c3) ?_ | refine Rc [] 1 rfl rfl (c4) ?_ | (refine bd (fun h => ?_) (fun h => ?_) <;> (try simp only [List.length_map] at h)) | refine bsplit.mk (fun h => ?_) (fun h => ?_)) <;> conv => whnf) | refine Rb ⟨?_⟩ | fail
    refine Cd.loop2 (fun mq tm S nx => ∃ (i : Nat) (A : List Ent), mq = (P.length - i) ∧ tm = [(0, .sl (t.map Ent.c)), (1, .sl (a.map Ent.c)), (2, .sl (b.map Ent.c)), (8, .own 0), (31, .sl (strs P)), (32, .k .i64 ((strs P).length : Int)), (33, .k .i64 i)] ∧ S = [(0, .own 76 (A.map Ent.c))] ∧ nx = 1 ∧ (i ≤ P.length) ∧ (A = (P.take i).filterMap (mGet t a b)) ∧ (A.length ≤ i) ∧ (∀ p ∈ P.take i, (mAt t a b p).isSome = true) ∧ (∀ e ∈ A, e.path.length ≤ 1073741824 ∧ e.data.length ≤ 1073741824)) ?_ ?_
    · refine li [31] [0, 1, 2, 8, 31, 32, 33] ?_
      conv => whnf
      refine ⟨rfl, rfl, _, 0, [], rfl, rfl, rfl, rfl, by omega, by simp, by simp, by simp, by simp⟩
    · rintro mq tm S nx ⟨i, A, hn, rfl, rfl, rfl, hi, hA, hAl, hall, hAb⟩
      have e2 : (A.map Ent.c).length = A.length := List.length_map ..
      by_cases hlt : i < P.length
      · have g1 : P[i]? = some P[i] := List.getElem?_eq_getElem hlt
        generalize P[i] = p at g1
        have g2 := out_step (t := t) (a := a) (b := b) g1
        have g3 := some_step (t := t) (a := a) (b := b) g1
        have c6 := c5 p
        rw [hmm] at c6
        cases hx : mAt t a b p with
        | none =>
          rw [hx] at c6
          rw [mD_none] at c6
          have hR := hmn p (List.mem_of_getElem? g1) hx
          subst hR
          repeat' first | refine Ra ⟨?_⟩ | ((first | refine Rc [] 0 rfl rfl (c6) ?_ | (refine bd (fun h => ?_) (fun h => ?_) <;> (try simp only [List.length_map] at h)) | refine bsplit.mk (fun h => ?_) (fun h => ?_)) <;> conv => whnf) | refine Rb ⟨?_⟩ | fail
          exact Rf
        | some o =>
          rw [hx] at c6 g2 g3
          cases o with
          | none =>
            rw [mD_some] at c6
            repeat' first | refine Ra ⟨?_⟩ | ((first | refine Rc [] 0 rfl rfl (c6) ?_ | (refine bd (fun h => ?_) (fun h => ?_) <;> (try simp only [List.length_map] at h)) | refine bsplit.mk (fun h => ?_) (fun h => ?_)) <;> conv => whnf) | refine Rb ⟨?_⟩ | fail
            refine .here ⟨mq - 1, by omega, ?_⟩
            refine la [0, 1, 2, 8, 31, 32, 33] ?_
            conv => whnf
            refine ⟨rfl, rfl, i + 1, A, (by omega), rfl, rfl, rfl, by omega, (by rw [hA, g2]; simp), by omega, g3 rfl hall, hAb⟩
          | some e =>
            rw [mD_some] at c6
            repeat' first | refine Ra ⟨?_⟩ | ((first | refine Rc [] 0 rfl rfl (c6) ?_ | (refine bd (fun h => ?_) (fun h => ?_) <;> (try simp only [List.length_map] at h)) | refine bsplit.mk (fun h => ?_) (fun h => ?_)) <;> conv => whnf) | refine Rb ⟨?_⟩ | fail
            refine .here ⟨mq - 1, by omega, ?_⟩
            refine la [0, 1, 2, 8, 31, 32, 33] ?_
            conv => whnf
            refine ⟨rfl, rfl, i + 1, A ++ [e], (by omega), rfl, ?_, rfl, by omega, (by rw [hA, g2]), (by simp; omega), g3 rfl hall, bnd_snoc hAb (hmb p e hx)⟩
            rw [← ents_snoc]
            rfl
      · rw [List.take_of_length_le (by omega)] at hA hall
        have c7 := iTreeOk_con (m := m) A hAb
        have hR := hme hall
        rw [← hA] at hR
        subst hR
        cases hok : treeOk A with
        | true =>
          rw [hok] at c7
          repeat' first | refine Ra ⟨?_⟩ | ((first | refine ⟨[], _, _, _, _, 0, ⟨rfl, rfl, rfl, c7, rfl, rfl⟩, .inl ⟨by simp [NoImmD, NoImmG, NoImmA], by simp [NoImmS, NoImmB, NoImmA, Ent.c, Mrk.c, Opn.c], ?_⟩⟩ | (refine bd (fun h => ?_) (fun h => ?_) <;> (try simp only [List.length_map] at h)) | refine bsplit.mk (fun h => ?_) (fun h => ?_)) <;> conv => whnf) | refine Rb ⟨?_⟩ | fail
          exact Rf
        | false =>
          rw [hok] at c7
          repeat' first | refine Ra ⟨?_⟩ | ((first | refine ⟨[], _, _, _, _, 0, ⟨rfl, rfl, rfl, c7, rfl, rfl⟩, .inl ⟨by simp [NoImmD, NoImmG, NoImmA], by simp [NoImmS, NoImmB, NoImmA, Ent.c, Mrk.c, Opn.c], ?_⟩⟩ | (refine bd (fun h => ?_) (fun h => ?_) <;> (try simp only [List.length_map] at h)) | refine bsplit.mk (fun h => ?_) (fun h => ?_)) <;> conv => whnf) | refine Rb ⟨?_⟩ | fail
          exact Rf
  · have hcl := merge_wrong hr
    rw [hcl]
    rcases hc with h1 | ⟨h1, h2⟩ | ⟨h1, h2, h3⟩
    · rw [h1] at c1
      refine con_of_cd tyOk mix Tryz.func66 rfl rfl rfl (Nat.le_of_ble_eq_true rfl) ?_
      repeat' first | refine Ra ⟨?_⟩ | ((first | refine Rc [] 0 rfl rfl (c1) ?_ | (refine bd (fun h => ?_) (fun h => ?_) <;> (try simp only [List.length_map] at h)) | refine bsplit.mk (fun h => ?_) (fun h => ?_)) <;> conv => whnf) | refine Rb ⟨?_⟩ | fail
      exact Rf
    · rw [h1] at c1
      rw [h2] at c2
      refine con_of_cd tyOk mix Tryz.func66 rfl rfl rfl (Nat.le_of_ble_eq_true rfl) ?_
      repeat' first | refine Ra ⟨?_⟩ | ((first | refine Rc [] 0 rfl rfl (c1) ?_ | refine Rc [] 0 rfl rfl (c2) ?_ | (refine bd (fun h => ?_) (fun h => ?_) <;> (try simp only [List.length_map] at h)) | refine bsplit.mk (fun h => ?_) (fun h => ?_)) <;> conv => whnf) | refine Rb ⟨?_⟩ | fail
      exact Rf
    · rw [h1] at c1
      rw [h2] at c2
      rw [h3] at c3
      refine con_of_cd tyOk mix Tryz.func66 rfl rfl rfl (Nat.le_of_ble_eq_true rfl) ?_
      repeat' first | refine Ra ⟨?_⟩ | ((first | refine Rc [] 0 rfl rfl (c1) ?_ | refine Rc [] 0 rfl rfl (c2) ?_ | refine Rc [] 0 rfl rfl (c3) ?_ | (refine bd (fun h => ?_) (fun h => ?_) <;> (try simp only [List.length_map] at h)) | refine bsplit.mk (fun h => ?_) (fun h => ?_)) <;> conv => whnf) | refine Rb ⟨?_⟩ | fail
      exact Rf
theorem putAll_step {t es : List Ent} {i : Nat} {x : Ent} (h : es[i]? = some x) : putAll t (es.take (i + 1)) = putE (putAll t (es.take i)) x := by
  rw [List.take_add_one, h]
  simp [putAll, List.foldl_append]
theorem path_snoc (A : List Ent) (x : Ent) : pathsE (A ++ [x]) = pathsE A ++ [x.path] := by simp
theorem sPaths_con (t a b : List Ent) (ht : t.length ≤ 1000) (ha : a.length ≤ 1000) (hb : b.length ≤ 1000) : Con (E m) 127 0 [.sl (t.map Ent.c), .sl (a.map Ent.c), .sl (b.map Ent.c)] [] (.own 0) [(0, .own 9 (strs (allP t a b)))] := by
  have e1 : (a.map Ent.c).length = a.length := List.length_map ..
  have e2 : (b.map Ent.c).length = b.length := List.length_map ..
  refine con_of_cd tyOk mix Tryz.func127 rfl rfl rfl (Nat.le_of_ble_eq_true rfl) ?_
  repeat' first | refine Ra ⟨?_⟩ | ((first | (refine bd (fun h => ?_) (fun h => ?_) <;> (try simp only [List.length_map] at h)) | refine bsplit.mk (fun h => ?_) (fun h => ?_)) <;> conv => whnf) | refine Rb ⟨?_⟩ | fail
  refine Cd.loop2 (fun mq tm S nx => ∃ (i : Nat) (X : List Ent), mq = (a.length - i) ∧ tm = [(1, .sl (a.map Ent.c)), (2, .sl (b.map Ent.c)), (7, .sl (X.map Ent.c)), (8, .k .i64 i)] ∧ S = [] ∧ nx = 0 ∧ (i ≤ a.length) ∧ (X = putAll t (a.take i)) ∧ (X.length ≤ 1000 + i)) ?_ ?_
  · refine li [7] [1, 2, 7, 8] ?_
    conv => whnf
    refine ⟨rfl, rfl, _, 0, t, rfl, rfl, rfl, rfl, by omega, by simp [putAll], by omega⟩
  · rintro mq tm S nx ⟨i, X, hn, rfl, rfl, rfl, hi, hX, hXl⟩
    by_cases hlt : i < a.length
    · have g1 : a[i]? = some a[i] := List.getElem?_eq_getElem hlt
      generalize a[i] = x at g1
      have c1 := sPut_con (m := m) X x (by omega)
      have hl := (putE_len X x).2
      repeat' first | refine Ra ⟨?_⟩ | ((first | refine Rc [] 1 rfl rfl (c1) ?_ | (refine bd (fun h => ?_) (fun h => ?_) <;> (try simp only [List.length_map] at h)) | refine bsplit.mk (fun h => ?_) (fun h => ?_)) <;> conv => whnf) | refine Rb ⟨?_⟩ | fail
      refine .here ⟨mq - 1, by omega, ?_⟩
      refine li [7] [1, 2, 7, 8] ?_
      conv => whnf
      refine ⟨rfl, rfl, i + 1, putE X x, (by omega), rfl, rfl, rfl, by omega, (by rw [hX, putAll_step g1]), by omega⟩
    · rw [List.take_of_length_le (by omega)] at hX
      repeat' first | refine Ra ⟨?_⟩ | ((first | (refine bd (fun h => ?_) (fun h => ?_) <;> (try simp only [List.length_map] at h)) | refine bsplit.mk (fun h => ?_) (fun h => ?_)) <;> conv => whnf) | refine Rb ⟨?_⟩ | fail
      refine Cd.loop2 (fun mq tm S nx => ∃ (j : Nat) (Y : List Ent), mq = (b.length - j) ∧ tm = [(2, .sl (b.map Ent.c)), (7, .sl (Y.map Ent.c)), (9, .k .i64 j)] ∧ S = [] ∧ nx = 0 ∧ (j ≤ b.length) ∧ (Y = putAll X (b.take j)) ∧ (Y.length ≤ X.length + j)) ?_ ?_
      · refine li [7] [2, 7, 9] ?_
        conv => whnf
        refine ⟨rfl, rfl, _, 0, X, rfl, rfl, rfl, rfl, by omega, by simp [putAll], by omega⟩
      · rintro mq tm S nx ⟨j, Y, hn, rfl, rfl, rfl, hj, hY, hYl⟩
        by_cases hlt2 : j < b.length
        · have g2 : b[j]? = some b[j] := List.getElem?_eq_getElem hlt2
          generalize b[j] = x at g2
          have c1 := sPut_con (m := m) Y x (by omega)
          have hl := (putE_len Y x).2
          repeat' first | refine Ra ⟨?_⟩ | ((first | refine Rc [] 1 rfl rfl (c1) ?_ | (refine bd (fun h => ?_) (fun h => ?_) <;> (try simp only [List.length_map] at h)) | refine bsplit.mk (fun h => ?_) (fun h => ?_)) <;> conv => whnf) | refine Rb ⟨?_⟩ | fail
          refine .here ⟨mq - 1, by omega, ?_⟩
          refine li [7] [2, 7, 9] ?_
          conv => whnf
          refine ⟨rfl, rfl, j + 1, putE Y x, (by omega), rfl, rfl, rfl, by omega, (by rw [hY, putAll_step g2]), by omega⟩
        · rw [List.take_of_length_le (by omega)] at hY
          have hP : allP t a b = pathsE Y := by rw [allP, hY, hX]
          rw [hP]
          have e3 : (Y.map Ent.c).length = Y.length := List.length_map ..
          repeat' first | refine Ra ⟨?_⟩ | ((first | (refine bd (fun h => ?_) (fun h => ?_) <;> (try simp only [List.length_map] at h)) | refine bsplit.mk (fun h => ?_) (fun h => ?_)) <;> conv => whnf) | refine Rb ⟨?_⟩ | fail
          refine Cd.loop2 (fun mq tm S nx => ∃ (k : Nat) (A : List Bs), mq = (Y.length - k) ∧ tm = [(7, .sl (Y.map Ent.c)), (10, .own 0), (11, .k .i64 k)] ∧ S = [(0, .own 9 (strs A))] ∧ nx = 1 ∧ (k ≤ Y.length) ∧ (A = pathsE (Y.take k)) ∧ (A.length = k)) ?_ ?_
          · refine la [7, 10, 11] ?_
            conv => whnf
            refine ⟨rfl, rfl, _, 0, [], rfl, rfl, rfl, rfl, by omega, by simp, by simp⟩
          · rintro mq tm S nx ⟨k, A, hn, rfl, rfl, rfl, hk, hA, hAl⟩
            have e4 : (strs A).length = A.length := List.length_map ..
            by_cases hlt3 : k < Y.length
            · have g3 : Y[k]? = some Y[k] := List.getElem?_eq_getElem hlt3
              generalize Y[k] = x at g3
              repeat' first | refine Ra ⟨?_⟩ | ((first | (refine bd (fun h => ?_) (fun h => ?_) <;> (try simp only [List.length_map] at h)) | refine bsplit.mk (fun h => ?_) (fun h => ?_)) <;> conv => whnf) | refine Rb ⟨?_⟩ | fail
              refine .here ⟨mq - 1, by omega, ?_⟩
              refine la [7, 10, 11] ?_
              conv => whnf
              refine ⟨rfl, rfl, k + 1, A ++ [x.path], (by omega), rfl, ?_, rfl, by omega, (by rw [hA, pathsE_step g3]), (by simp; omega)⟩
              rw [← strs_snoc]
              rfl
            · rw [List.take_of_length_le (by omega)] at hA
              rw [← hA]
              repeat' first | refine Ra ⟨?_⟩ | ((first | (refine bd (fun h => ?_) (fun h => ?_) <;> (try simp only [List.length_map] at h)) | refine bsplit.mk (fun h => ?_) (fun h => ?_)) <;> conv => whnf) | refine Rb ⟨?_⟩ | fail
              exact Rf
theorem clash_len (t a b : List Ent) : (clashL t a b).length ≤ 48 := by
  unfold clashL
  split
  · rename_i hr
    obtain ⟨h1, h2, h3⟩ := right3_iff.1 hr
    exact Nat.le_trans (List.length_filter_le _ _) (allP_len h1 h2 h3)
  · simp
theorem merge_len (t a b : List Ent) : ((mergeL t a b).getD []).length ≤ 16 := by
  cases h : mergeL t a b with
  | none => simp
  | some x => exact treeOk_len (mergeL_iff.1 h).2.1
theorem sMerge_con (t a b : List Ent) (ht : ∀ e ∈ t, e.path.length ≤ 1073741824 ∧ e.data.length ≤ 1073741824) (ha : ∀ e ∈ a, e.path.length ≤ 1073741824 ∧ e.data.length ≤ 1073741824) (hb : ∀ e ∈ b, e.path.length ≤ 1073741824 ∧ e.data.length ≤ 1073741824) :
    Con (E m) 68 0 [.sl (t.map Ent.c), .sl (a.map Ent.c), .sl (b.map Ent.c)] [] (.tup [.own 0, .b (mergeL t a b).isSome]) [(0, .own 76 (((mergeL t a b).getD []).map Ent.c))] := by
  have c1 := sRight_con (m := m) t a b ht ha hb
  cases hr : right3 t a b with
  | false =>
    rw [hr] at c1
    have hcl := merge_wrong hr
    rw [hcl]
    refine con_of_cd tyOk mix Tryz.func68 rfl rfl rfl (Nat.le_of_ble_eq_true rfl) ?_
    repeat' first | refine Ra ⟨?_⟩ | ((first | refine Rc [] 0 rfl rfl (c1) ?_ | (refine bd (fun h => ?_) (fun h => ?_) <;> (try simp only [List.length_map] at h)) | refine bsplit.mk (fun h => ?_) (fun h => ?_)) <;> conv => whnf) | refine Rb ⟨?_⟩ | fail
    exact Rf
  | true =>
    rw [hr] at c1
    obtain ⟨h1, h2, h3⟩ := right3_iff.1 hr
    have ln1 := treeOk_len h1
    have ln2 := treeOk_len h2
    have ln3 := treeOk_len h3
    have c4 := sPaths_con (m := m) t a b (by omega) (by omega) (by omega)
    have hpl := allP_len h1 h2 h3
    have hmn := fun p (hp : p ∈ allP t a b) h => merge_none hp h
    have hme := merge_end hr
    have hmb := fun p e => mAt_bnd (t := t) (a := a) (b := b) hr (p := p) (e := e)
    have c5 := fun p => sMAt_con (m := m) t a b p (by omega) (by omega) (by omega)
    generalize mergeL t a b = R at hmn hme
    generalize allP t a b = P at c4 hpl hmn hme
    have e1 : (strs P).length = P.length := List.length_map ..
    refine con_of_cd tyOk mix Tryz.func68 rfl rfl rfl (Nat.le_of_ble_eq_true rfl) ?_
    repeat' first | refine Ra ⟨?_⟩ | ((first | refine Rc [] 0 rfl rfl (c1) ?_ | refine Rc [] 1 rfl rfl (c4) ?_ | (refine bd (fun h => ?_) (fun h => ?_) <;> (try simp only [List.length_map] at h)) | refine bsplit.mk (fun h => ?_) (fun h => ?_)) <;> conv => whnf) | refine Rb ⟨?_⟩ | fail
    refine Cd.loop2 (fun mq tm S nx => ∃ (i : Nat) (A : List Ent), mq = (P.length - i) ∧ tm = [(0, .sl (t.map Ent.c)), (1, .sl (a.map Ent.c)), (2, .sl (b.map Ent.c)), (8, .own 0), (9, .sl (strs P)), (10, .k .i64 i)] ∧ S = [(0, .own 76 (A.map Ent.c))] ∧ nx = 1 ∧ (i ≤ P.length) ∧ (A = (P.take i).filterMap (mGet t a b)) ∧ (A.length ≤ i) ∧ (∀ p ∈ P.take i, (mAt t a b p).isSome = true) ∧ (∀ e ∈ A, e.path.length ≤ 1073741824 ∧ e.data.length ≤ 1073741824)) ?_ ?_
    · refine li [9] [0, 1, 2, 8, 9, 10] ?_
      conv => whnf
      refine ⟨rfl, rfl, _, 0, [], rfl, rfl, rfl, rfl, by omega, by simp, by simp, by simp, by simp⟩
    · rintro mq tm S nx ⟨i, A, hn, rfl, rfl, rfl, hi, hA, hAl, hall, hAb⟩
      have e2 : (A.map Ent.c).length = A.length := List.length_map ..
      by_cases hlt : i < P.length
      · have g1 : P[i]? = some P[i] := List.getElem?_eq_getElem hlt
        generalize P[i] = p at g1
        have g2 := out_step (t := t) (a := a) (b := b) g1
        have g3 := some_step (t := t) (a := a) (b := b) g1
        have c6 := c5 p
        cases hx : mAt t a b p with
        | none =>
          rw [hx] at c6
          rw [mD_none] at c6
          have hR := hmn p (List.mem_of_getElem? g1) hx
          subst hR
          repeat' first | refine Ra ⟨?_⟩ | ((first | refine Rc [] 0 rfl rfl (c6) ?_ | (refine bd (fun h => ?_) (fun h => ?_) <;> (try simp only [List.length_map] at h)) | refine bsplit.mk (fun h => ?_) (fun h => ?_)) <;> conv => whnf) | refine Rb ⟨?_⟩ | fail
          exact Rf
        | some o =>
          rw [hx] at c6 g2 g3
          cases o with
          | none =>
            rw [mD_some] at c6
            repeat' first | refine Ra ⟨?_⟩ | ((first | refine Rc [] 0 rfl rfl (c6) ?_ | (refine bd (fun h => ?_) (fun h => ?_) <;> (try simp only [List.length_map] at h)) | refine bsplit.mk (fun h => ?_) (fun h => ?_)) <;> conv => whnf) | refine Rb ⟨?_⟩ | fail
            refine .here ⟨mq - 1, by omega, ?_⟩
            refine la [0, 1, 2, 8, 9, 10] ?_
            conv => whnf
            refine ⟨rfl, rfl, i + 1, A, (by omega), rfl, rfl, rfl, by omega, (by rw [hA, g2]; simp), by omega, g3 rfl hall, hAb⟩
          | some e =>
            rw [mD_some] at c6
            repeat' first | refine Ra ⟨?_⟩ | ((first | refine Rc [] 0 rfl rfl (c6) ?_ | (refine bd (fun h => ?_) (fun h => ?_) <;> (try simp only [List.length_map] at h)) | refine bsplit.mk (fun h => ?_) (fun h => ?_)) <;> conv => whnf) | refine Rb ⟨?_⟩ | fail
            refine .here ⟨mq - 1, by omega, ?_⟩
            refine la [0, 1, 2, 8, 9, 10] ?_
            conv => whnf
            refine ⟨rfl, rfl, i + 1, A ++ [e], (by omega), rfl, ?_, rfl, by omega, (by rw [hA, g2]), (by simp; omega), g3 rfl hall, bnd_snoc hAb (hmb p e hx)⟩
            rw [← ents_snoc]
            rfl
      · rw [List.take_of_length_le (by omega)] at hA hall
        have c7 := sTreeOk_con (m := m) A hAb
        have hR := hme hall
        rw [← hA] at hR
        subst hR
        cases hok : treeOk A with
        | true =>
          rw [hok] at c7
          repeat' first | refine Ra ⟨?_⟩ | ((first | refine ⟨[], _, _, _, _, 0, ⟨rfl, rfl, rfl, c7, rfl, rfl⟩, .inl ⟨by simp [NoImmD, NoImmG, NoImmA], by simp [NoImmS, NoImmB, NoImmA, Ent.c, Mrk.c, Opn.c], ?_⟩⟩ | (refine bd (fun h => ?_) (fun h => ?_) <;> (try simp only [List.length_map] at h)) | refine bsplit.mk (fun h => ?_) (fun h => ?_)) <;> conv => whnf) | refine Rb ⟨?_⟩ | fail
          exact Rf
        | false =>
          rw [hok] at c7
          repeat' first | refine Ra ⟨?_⟩ | ((first | refine ⟨[], _, _, _, _, 0, ⟨rfl, rfl, rfl, c7, rfl, rfl⟩, .inl ⟨by simp [NoImmD, NoImmG, NoImmA], by simp [NoImmS, NoImmB, NoImmA, Ent.c, Mrk.c, Opn.c], ?_⟩⟩ | (refine bd (fun h => ?_) (fun h => ?_) <;> (try simp only [List.length_map] at h)) | refine bsplit.mk (fun h => ?_) (fun h => ?_)) <;> conv => whnf) | refine Rb ⟨?_⟩ | fail
          exact Rf
theorem turnW_nil (r : List Ent) : turnW r [] = pathsE r := by
  cases r <;> simp [turnW]
theorem turnW_a {x : Ent} {r u : List Ent} (h : u = [] ∨ ∃ y s, u = y :: s ∧ lt x.path y.path = true) : turnW (x :: r) u = x.path :: turnW r u := by
  rcases h with rfl | ⟨y, s, rfl, h⟩
  · rw [turnW_nil, turnW_nil]; rfl
  · rw [turnW, if_pos h]
theorem turnW_b {y : Ent} {t s : List Ent} (h : t = [] ∨ ∃ x r, t = x :: r ∧ lt x.path y.path = false ∧ lt y.path x.path = true) : turnW t (y :: s) = y.path :: turnW t s := by
  rcases h with rfl | ⟨x, r, rfl, h1, h2⟩
  · simp [turnW]
  · rw [turnW, if_neg (by rw [h1]; simp), if_pos h2]
theorem turnW_c {x y : Ent} {r s : List Ent} (h1 : lt x.path y.path = false) (h2 : lt y.path x.path = false) : turnW (x :: r) (y :: s) = if x = y then turnW r s else x.path :: turnW r s := by
  rw [turnW, if_neg (by rw [h1]; simp), if_neg (by rw [h2]; simp)]
theorem iTurned_con (t u : List Ent) (ht : ∀ e ∈ t, e.path.length ≤ 1073741824 ∧ e.data.length ≤ 1073741824) (hu : ∀ e ∈ u, e.path.length ≤ 1073741824 ∧ e.data.length ≤ 1073741824) : Con (E m) 41 0 [.sl (t.map Ent.c), .sl (u.map Ent.c)] [] (.own 0) [(0, .own 9 (strs (turnedL t u)))] := by
  have c1 := iTreeOk_con (m := m) t ht
  have c2 := iTreeOk_con (m := m) u hu
  cases h1 : treeOk t with
  | false =>
    rw [h1] at c1
    have hx : turnedL t u = [] := by rw [turnedL, h1]; rfl
    rw [hx]
    refine con_of_cd tyOk mix Tryz.func41 rfl rfl rfl (Nat.le_of_ble_eq_true rfl) ?_
    repeat' first | refine Ra ⟨?_⟩ | ((first | refine Rc [] 0 rfl rfl (c1) ?_ | (refine bd (fun h => ?_) (fun h => ?_) <;> (try simp only [List.length_map] at h)) | refine bsplit.mk (fun h => ?_) (fun h => ?_)) <;> conv => whnf) | refine Rb ⟨?_⟩ | fail
    exact Rf
  | true =>
    rw [h1] at c1
    cases h2 : treeOk u with
    | false =>
      rw [h2] at c2
      have hx : turnedL t u = [] := by rw [turnedL, h1, h2]; rfl
      rw [hx]
      refine con_of_cd tyOk mix Tryz.func41 rfl rfl rfl (Nat.le_of_ble_eq_true rfl) ?_
      repeat' first | refine Ra ⟨?_⟩ | ((first | refine Rc [] 0 rfl rfl (c1) ?_ | refine Rc [] 0 rfl rfl (c2) ?_ | (refine bd (fun h => ?_) (fun h => ?_) <;> (try simp only [List.length_map] at h)) | refine bsplit.mk (fun h => ?_) (fun h => ?_)) <;> conv => whnf) | refine Rb ⟨?_⟩ | fail
      exact Rf
    | true =>
      rw [h2] at c2
      have l1 := treeOk_len h1
      have l2 := treeOk_len h2
      rw [← turnW_eq h1 h2]
      have e1 : (t.map Ent.c).length = t.length := List.length_map ..
      have e2 : (u.map Ent.c).length = u.length := List.length_map ..
      refine con_of_cd tyOk mix Tryz.func41 rfl rfl rfl (Nat.le_of_ble_eq_true rfl) ?_
      repeat' first | refine Ra ⟨?_⟩ | ((first | refine Rc [] 0 rfl rfl (c1) ?_ | refine Rc [] 0 rfl rfl (c2) ?_ | (refine bd (fun h => ?_) (fun h => ?_) <;> (try simp only [List.length_map] at h)) | refine bsplit.mk (fun h => ?_) (fun h => ?_)) <;> conv => whnf) | refine Rb ⟨?_⟩ | fail
      refine Cd.loop2 (fun mq tm S nx => ∃ (i : Nat) (j : Nat) (A : List Bs), mq = (t.length + u.length - i - j) ∧ tm = [(0, .sl (t.map Ent.c)), (1, .sl (u.map Ent.c)), (5, .own 0), (6, .k .i64 i), (7, .k .i64 j)] ∧ S = [(0, .own 9 (strs A))] ∧ nx = 1 ∧ (i ≤ t.length) ∧ (j ≤ u.length) ∧ (turnW t u = A ++ turnW (t.drop i) (u.drop j)) ∧ (A.length ≤ i + j)) ?_ ?_
      · refine la [0, 1, 5, 6, 7] ?_
        conv => whnf
        refine ⟨rfl, rfl, _, 0, 0, [], rfl, rfl, rfl, rfl, by omega, by omega, by simp, by simp⟩
      · rintro mq tm S nx ⟨i, j, A, hn, rfl, rfl, rfl, hi, hj, hA, hAl⟩
        have e3 : (strs A).length = A.length := List.length_map ..
        rcases drop_or t i hi with ⟨k1, k2⟩ | ⟨x, r, g1, k1, k2, k3⟩
        · rcases drop_or u j hj with ⟨k4, k5⟩ | ⟨y, s, g2, k4, k5, k6⟩
          · rw [k2, k5] at hA
            have hA' : A = turnW t u := by rw [hA]; simp [turnW]
            rw [← hA']
            repeat' first | refine Ra ⟨?_⟩ | ((first | (refine bd (fun h => ?_) (fun h => ?_) <;> (try simp only [List.length_map] at h)) | refine bsplit.mk (fun h => ?_) (fun h => ?_)) <;> conv => whnf) | refine Rb ⟨?_⟩ | fail
            exact Rf
          · rw [k2, k4, turnW_b (.inl rfl), ← k5, ← k2] at hA
            repeat' first | refine Ra ⟨?_⟩ | ((first | (refine bd (fun h => ?_) (fun h => ?_) <;> (try simp only [List.length_map] at h)) | refine bsplit.mk (fun h => ?_) (fun h => ?_)) <;> conv => whnf) | refine Rb ⟨?_⟩ | fail
            refine .here ⟨mq - 1, by omega, ?_⟩
            refine la [0, 1, 5, 6, 7] ?_
            conv => whnf
            refine ⟨rfl, rfl, i, j + 1, A ++ [y.path], (by omega), rfl, ?_, rfl, by omega, by omega, (by rw [hA]; simp), (by simp; omega)⟩
            rw [← strs_snoc]
            rfl
        · rcases drop_or u j hj with ⟨k4, k5⟩ | ⟨y, s, g2, k4, k5, k6⟩
          · rw [k1, k5, turnW_a (.inl rfl), ← k2, ← k5] at hA
            repeat' first | refine Ra ⟨?_⟩ | ((first | (refine bd (fun h => ?_) (fun h => ?_) <;> (try simp only [List.length_map] at h)) | refine bsplit.mk (fun h => ?_) (fun h => ?_)) <;> conv => whnf) | refine Rb ⟨?_⟩ | fail
            refine .here ⟨mq - 1, by omega, ?_⟩
            refine la [0, 1, 5, 6, 7] ?_
            conv => whnf
            refine ⟨rfl, rfl, i + 1, j, A ++ [x.path], (by omega), rfl, ?_, rfl, by omega, by omega, (by rw [hA]; simp), (by simp; omega)⟩
            rw [← strs_snoc]
            rfl
          · cases q1 : lt x.path y.path with
            | true =>
              rw [k1, k4, turnW_a (.inr ⟨y, s, rfl, q1⟩), ← k2, ← k4] at hA
              repeat' first | refine Ra ⟨?_⟩ | ((first | (refine bd (fun h => ?_) (fun h => ?_) <;> (try simp only [List.length_map] at h)) | refine bsplit.mk (fun h => ?_) (fun h => ?_)) <;> conv => whnf) | refine Rb ⟨?_⟩ | fail
              refine .here ⟨mq - 1, by omega, ?_⟩
              refine la [0, 1, 5, 6, 7] ?_
              conv => whnf
              refine ⟨rfl, rfl, i + 1, j, A ++ [x.path], (by omega), rfl, ?_, rfl, by omega, by omega, (by rw [hA]; simp), (by simp; omega)⟩
              rw [← strs_snoc]
              rfl
            | false =>
              cases q2 : lt y.path x.path with
              | true =>
                rw [k1, k4, turnW_b (.inr ⟨x, r, rfl, q1, q2⟩), ← k1, ← k5] at hA
                repeat' first | refine Ra ⟨?_⟩ | ((first | (refine bd (fun h => ?_) (fun h => ?_) <;> (try simp only [List.length_map] at h)) | refine bsplit.mk (fun h => ?_) (fun h => ?_)) <;> conv => whnf) | refine Rb ⟨?_⟩ | fail
                refine .here ⟨mq - 1, by omega, ?_⟩
                refine la [0, 1, 5, 6, 7] ?_
                conv => whnf
                refine ⟨rfl, rfl, i, j + 1, A ++ [y.path], (by omega), rfl, ?_, rfl, by omega, by omega, (by rw [hA]; simp), (by simp; omega)⟩
                rw [← strs_snoc]
                rfl
              | false =>
                rw [k1, k4, turnW_c q1 q2] at hA
                by_cases hxy : x = y
                · have q3 := ee_eq x
                  subst hxy
                  rw [if_pos rfl, ← k2, ← k5] at hA
                  repeat' first | refine Ra ⟨?_⟩ | ((first | (refine bd (fun h => ?_) (fun h => ?_) <;> (try simp only [List.length_map] at h)) | refine bsplit.mk (fun h => ?_) (fun h => ?_)) <;> conv => whnf) | refine Rb ⟨?_⟩ | fail
                  refine .here ⟨mq - 2, by omega, ?_⟩
                  refine la [0, 1, 5, 6, 7] ?_
                  conv => whnf
                  refine ⟨rfl, rfl, i + 1, j + 1, A, (by omega), rfl, rfl, rfl, by omega, by omega, hA, by omega⟩
                · have q3 := ee_ne hxy
                  rw [if_neg hxy, ← k2, ← k5] at hA
                  repeat' first | refine Ra ⟨?_⟩ | ((first | (refine bd (fun h => ?_) (fun h => ?_) <;> (try simp only [List.length_map] at h)) | refine bsplit.mk (fun h => ?_) (fun h => ?_)) <;> conv => whnf) | refine Rb ⟨?_⟩ | fail
                  refine .here ⟨mq - 2, by omega, ?_⟩
                  refine la [0, 1, 5, 6, 7] ?_
                  conv => whnf
                  refine ⟨rfl, rfl, i + 1, j + 1, A ++ [x.path], (by omega), rfl, ?_, rfl, by omega, by omega, (by rw [hA]; simp), (by simp; omega)⟩
                  rw [← strs_snoc]
                  rfl
end Go.Proofs.YtoaiplobfellaaaGreatDoor
