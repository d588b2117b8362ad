/- Paths that are sorted, each kept once: in plain Lean. -/
import Derived.Test.YtoaiplobfellaaaGreatDoorPk
import Derived.Lib.SlicesCompact
set_option linter.unusedSimpArgs false
set_option linter.unusedVariables false
namespace Go.Par
open Go.Ab

theorem less_eq : ∀ (x y : Bs), Op.bytesLess x y = decide (x < y)
  | [], [] => by simp [Op.bytesLess]
  | _ :: _, [] => by simp [Op.bytesLess]
  | [], _ :: _ => by simp [Op.bytesLess]
  | a :: x, b :: y => by
    rw [Op.bytesLess, less_eq x y]
    simp only [List.cons_lt_cons_iff]
    by_cases h1 : a < b <;> by_cases h2 : a = b <;> by_cases h3 : x < y <;> simp [h1, h2, h3]
theorem le_less (x y : Bs) : decide (x ≤ y) = !lt y x := by
  have h : lt y x = decide (y < x) := less_eq y x
  rw [h, Bool.eq_iff_iff]
  simp only [decide_eq_true_eq, Bool.not_eq_true', decide_eq_false_iff_not]
  exact List.not_lt.symm
abbrev sortU (l : List Bs) : List Bs := l.mergeSort fun x y => decide (x ≤ y)
abbrev uniq (l : List Bs) : List Bs := Lib.compact (sortU l)
theorem sortU_pw (l : List Bs) : (sortU l).Pairwise fun x y => lt y x = false := by
  have h := List.pairwise_mergeSort (le := fun (x y : Bs) => decide (x ≤ y)) (fun a b c h1 h2 => by
    rw [le_less, Bool.not_eq_true'] at h1 h2 ⊢
    rcases lt_total a b with h | rfl | h
    · cases h3 : lt c a with
      | false => rfl
      | true => rw [lt_trans c a b h3 h] at h2; cases h2
    · exact h2
    · rw [h] at h1; cases h1) (fun a b => by
    rw [le_less, le_less]
    cases h : lt b a with
    | false => rfl
    | true => rw [lt_asymm _ _ h]; rfl) l
  exact h.imp fun {a b} hab => by rw [le_less, Bool.not_eq_true'] at hab; exact hab
theorem sortU_mem {l : List Bs} {p : Bs} : p ∈ sortU l ↔ p ∈ l := (List.mergeSort_perm l _).mem_iff
theorem sortU_len (l : List Bs) : (sortU l).length = l.length := (List.mergeSort_perm l _).length_eq
theorem compact_inv (d : Array Bs) (hd : ∀ i j, i < j → j < d.size → lt d[j]! d[i]! = false) : ∀ m, m ≤ d.size → sorted (Lib.compactUpTo d m) ∧ ∀ p, p ∈ Lib.compactUpTo d m ↔ ∃ j, j < m ∧ d[j]! = p
  | 0, _ => by
    refine ⟨List.Pairwise.nil, fun p => ?_⟩
    simp [Lib.compactUpTo]
  | m + 1, h => by
    obtain ⟨ih1, ih2⟩ := compact_inv d hd m (by omega)
    rw [Lib.compactUpTo_succ]
    cases hk : Lib.keeps d m with
    | false =>
      simp only [Lib.keeps, decide_eq_false_iff_not, not_or, Decidable.not_not] at hk
      simp only [Bool.false_eq_true, if_false, List.append_nil]
      refine ⟨ih1, fun p => (ih2 p).trans ⟨?_, ?_⟩⟩
      · rintro ⟨j, hj, e⟩
        exact ⟨j, by omega, e⟩
      · rintro ⟨j, hj, e⟩
        by_cases hjm : j = m
        · subst hjm
          exact ⟨j - 1, by omega, by rw [← hk.2]; exact e⟩
        · exact ⟨j, by omega, e⟩
    | true =>
      simp only [Lib.keeps, decide_eq_true_eq] at hk
      simp only [if_true]
      constructor
      · refine List.pairwise_append.2 ⟨ih1, List.pairwise_singleton _ _, fun a ha b hb => ?_⟩
        rw [List.mem_singleton] at hb
        subst hb
        obtain ⟨j, hj, rfl⟩ := (ih2 a).1 ha
        have hne := hk.resolve_left (by omega)
        have h1 : lt d[m - 1]! d[m]! = true := by
          rcases lt_total d[m - 1]! d[m]! with h | h | h
          · exact h
          · exact absurd h.symm hne
          · rw [hd (m - 1) m (by omega) (by omega)] at h; cases h
        by_cases hjm : j = m - 1
        · subst hjm; exact h1
        · rcases lt_total d[j]! d[m - 1]! with h | h | h
          · exact lt_trans _ _ _ h h1
          · rw [h]; exact h1
          · rw [hd j (m - 1) (by omega) (by omega)] at h; cases h
      · intro p
        rw [List.mem_append, List.mem_singleton, ih2]
        constructor
        · rintro (⟨j, hj, e⟩ | rfl)
          · exact ⟨j, by omega, e⟩
          · exact ⟨m, by omega, rfl⟩
        · rintro ⟨j, hj, e⟩
          by_cases hjm : j = m
          · subst hjm; exact .inr e.symm
          · exact .inl ⟨j, by omega, e⟩
theorem uniq_inv (l : List Bs) : sorted (uniq l) ∧ ∀ p, p ∈ uniq l ↔ p ∈ l := by
  have hd : ∀ i j, i < j → j < (sortU l).toArray.size → lt (sortU l).toArray[j]! (sortU l).toArray[i]! = false := by
    intro i j hij hj
    have hj' : j < (sortU l).length := by simpa using hj
    have h := List.pairwise_iff_getElem.1 (sortU_pw l) i j (by omega) hj' hij
    have e1 : (sortU l).toArray[j]! = (sortU l)[j] := by rw [getElem!_pos _ j hj]; rfl
    have e2 : (sortU l).toArray[i]! = (sortU l)[i]'(by omega) := by rw [getElem!_pos _ i (by simpa using (by omega : i < (sortU l).length))]; rfl
    rw [e1, e2]
    exact h
  obtain ⟨h1, h2⟩ := compact_inv (sortU l).toArray hd (sortU l).length (by simp)
  refine ⟨h1, fun p => (h2 p).trans ?_⟩
  rw [← sortU_mem (l := l)]
  constructor
  · rintro ⟨j, hj, e⟩
    have e1 : (sortU l).toArray[j]! = (sortU l)[j] := by rw [getElem!_pos _ j (by simpa using hj)]; rfl
    rw [← e, e1]
    exact List.getElem_mem _
  · intro hp
    obtain ⟨j, hj, e⟩ := List.mem_iff_getElem.1 hp
    refine ⟨j, hj, ?_⟩
    have e1 : (sortU l).toArray[j]! = (sortU l)[j] := by rw [getElem!_pos _ j (by simpa using hj)]; rfl
    rw [e1, e]
theorem compact_len (l : List Bs) : (Lib.compact l).length ≤ l.length := by
  unfold Lib.compact Lib.compactUpTo
  rw [List.length_map]
  have h := List.length_filter_le (Lib.keeps l.toArray) (List.range l.length)
  rw [List.length_range] at h
  exact h
theorem uniq_len (l : List Bs) : (uniq l).length ≤ l.length := by
  unfold uniq Lib.compact Lib.compactUpTo
  rw [List.length_map]
  have h := List.length_filter_le (Lib.keeps (sortU l).toArray) (List.range (sortU l).length)
  rw [List.length_range, sortU_len] at h
  rw [sortU_len]
  exact h
theorem turned_len (a b : List Ent) : (turnedL a b).length ≤ 32 := by
  unfold turnedL
  split
  · rename_i h
    rw [Bool.and_eq_true] at h
    refine Nat.le_trans (List.length_filter_le _ _) ?_
    rw [List.length_map]
    have h1 := putAll_len b a
    have := treeOk_len h.1
    have := treeOk_len h.2
    omega
  · simp
theorem filter_step {l : List Bs} {i : Nat} {x : Bs} (p : Bs → Bool) (h : l[i]? = some x) : ((l.take (i + 1)).filter p).length = ((l.take i).filter p).length + if p x then 1 else 0 := by
  rw [List.take_add_one, h, List.filter_append, List.length_append]
  congr 1
  cases hp : p x <;> simp [hp]
theorem uniq_allP {base a b : List Ent} (h : sorted (pathsE base)) : uniq (pathsE base ++ pathsE a ++ pathsE b) = allP base a b := by
  obtain ⟨h1, h2⟩ := uniq_inv (pathsE base ++ pathsE a ++ pathsE b)
  refine sorted_ext h1 (allP_sorted h) fun p => (h2 p).trans ?_
  rw [allP_mem, List.mem_append, List.mem_append]
  constructor
  · rintro ((h | h) | h)
    · exact .inr (.inr h)
    · exact .inr (.inl h)
    · exact .inl h
  · rintro (h | h | h)
    · exact .inr h
    · exact .inl (.inr h)
    · exact .inl (.inl h)
end Go.Par
