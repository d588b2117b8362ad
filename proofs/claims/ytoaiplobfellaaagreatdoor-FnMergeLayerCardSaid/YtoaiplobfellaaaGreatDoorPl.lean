/- What merges keep to: in plain Lean. -/
import Derived.Test.YtoaiplobfellaaaGreatDoorPk
set_option linter.unusedSimpArgs false
set_option linter.unusedVariables false
namespace Go.Par
open Go.Ab

theorem opt_ext {α : Type} {a b : Option α} (h : ∀ x, a = some x ↔ b = some x) : a = b := by
  cases a with
  | none =>
    cases b with
    | none => rfl
    | some y => exact (h y).2 rfl
  | some x => exact ((h x).1 rfl).symm
theorem mAt_comm (base a b : List Ent) (p : Bs) : mAt base a b p = mAt base b a p := by
  unfold mAt
  by_cases h1 : entGet a p = entGet base p
  · by_cases h2 : entGet b p = entGet base p
    · simp [h1, h2]
    · simp [h1, h2]
  · by_cases h2 : entGet b p = entGet base p
    · simp [h1, h2]
    · by_cases h3 : entGet a p = entGet b p
      · simp [h1, h2, h3]
      · simp [h1, h2, h3, Ne.symm h3]
theorem right3_comm (base a b : List Ent) : right3 base a b = right3 base b a := by
  unfold right3
  cases treeOk base <;> cases treeOk a <;> cases treeOk b <;> rfl
theorem mergeL_comm (base a b : List Ent) : mergeL base a b = mergeL base b a := by
  refine opt_ext fun x => ?_
  rw [mergeL_iff, mergeL_iff, right3_comm]
  simp only [mAt_comm base a b]
theorem clashL_comm (base a b : List Ent) : clashL base a b = clashL base b a := by
  cases h : right3 base a b with
  | false =>
    have h2 : right3 base b a = false := by rw [right3_comm, h]
    simp [clashL, h, h2]
  | true =>
    have h2 : right3 base b a = true := by rw [right3_comm, h]
    refine sorted_ext clash_sorted clash_sorted fun p => ?_
    rw [clash_mem h, clash_mem h2, mAt_comm]
theorem merge_tree {base a b x : List Ent} (h : mergeL base a b = some x) : treeOk base = true ∧ treeOk a = true ∧ treeOk b = true ∧ treeOk x = true := by
  rw [mergeL_iff, right3_iff] at h
  exact ⟨h.1.1, h.1.2.1, h.1.2.2, h.2.1⟩
theorem merge_at {base a b x : List Ent} (h : mergeL base a b = some x) {p : Bs} (hp : p ≠ [47]) :
    (entAt a p = entAt base p ∧ entAt x p = entAt b p) ∨ (entAt a p ≠ entAt base p ∧ (entAt b p = entAt base p ∨ entAt a p = entAt b p) ∧ entAt x p = entAt a p) := by
  have := (mergeL_iff.1 h).2.2 p hp
  rw [mAt_ne hp] at this
  split at this
  · rename_i h1
    exact .inl ⟨h1, (Option.some.inj this).symm⟩
  · rename_i h1
    split at this
    · rename_i h2
      exact .inr ⟨h1, h2, (Option.some.inj this).symm⟩
    · cases this
theorem merge_of {base a b x : List Ent} (h1 : treeOk base = true) (h2 : treeOk a = true) (h3 : treeOk b = true) (h4 : treeOk x = true)
    (h : ∀ p, p ≠ [47] → (entAt a p = entAt base p ∧ entAt x p = entAt b p) ∨ (entAt a p ≠ entAt base p ∧ (entAt b p = entAt base p ∨ entAt a p = entAt b p) ∧ entAt x p = entAt a p)) : mergeL base a b = some x := by
  rw [mergeL_iff, right3_iff]
  refine ⟨⟨h1, h2, h3⟩, h4, fun p hp => ?_⟩
  rw [mAt_ne hp]
  rcases h p hp with ⟨g1, g2⟩ | ⟨g1, g2, g3⟩
  · rw [if_pos g1, g2]
  · rw [if_neg g1, if_pos g2, g3]
theorem merge_more1 {t a b x : List Ent} (h : mergeL t a b = some x) : mergeL t a x = some x := by
  obtain ⟨h1, h2, h3, h4⟩ := merge_tree h
  refine merge_of h1 h2 h4 h4 fun p hp => ?_
  rcases merge_at h hp with ⟨g1, g2⟩ | ⟨g1, g2, g3⟩
  · exact .inl ⟨g1, rfl⟩
  · exact .inr ⟨g1, .inr g3.symm, g3⟩
theorem merge_more2 {t a b x : List Ent} (h : mergeL t a b = some x) : mergeL t x b = some x := by
  rw [mergeL_comm] at h ⊢
  exact merge_more1 h
theorem merge_more3 {a x : List Ent} (h1 : treeOk a = true) (h2 : treeOk x = true) : mergeL a a x = some x :=
  merge_of h1 h1 h2 h2 fun p hp => .inl ⟨rfl, rfl⟩
theorem merge_same1 {t a : List Ent} (h1 : treeOk t = true) (h2 : treeOk a = true) : mergeL t a t = some a := by
  rw [mergeL_comm]
  exact merge_more3 h1 h2
theorem merge_same2 {t a : List Ent} (h1 : treeOk t = true) (h2 : treeOk a = true) : mergeL t a a = some a := by
  refine merge_of h1 h2 h2 h2 fun p hp => ?_
  by_cases h : entAt a p = entAt t p
  · exact .inl ⟨h, rfl⟩
  · exact .inr ⟨h, .inr rfl, rfl⟩
theorem at_root {t u : List Ent} (h1 : treeOk t = true) (h2 : treeOk u = true) (h : ∀ p, p ≠ [47] → entAt t p = entAt u p) : t = u := by
  refine ent_ext (treeOk_srt h1) (treeOk_srt h2) fun p => ?_
  by_cases hp : p = [47]
  · subst hp
    rw [treeOk_root h1, treeOk_root h2]
  · exact h p hp
theorem merge_undo {t a b x z : List Ent} (h : mergeL t a b = some x) (hd : ∀ p ∈ turnedL t a, p ∉ turnedL t b) (hz : mergeL a x t = some z) : z = b := by
  obtain ⟨h1, h2, h3, h4⟩ := merge_tree h
  obtain ⟨_, _, _, h5⟩ := merge_tree hz
  refine at_root h5 h3 fun p hp => ?_
  have hd := hd p
  rw [turned_mem h1 h2, turned_mem h1 h3] at hd
  have hd : entAt t p = entAt a p ∨ entAt t p = entAt b p := by
    by_cases k : entAt t p = entAt a p
    · exact .inl k
    · exact .inr (Decidable.not_not.1 (hd k))
  rcases merge_at h hp with ⟨g1, g2⟩ | ⟨g1, g2, g3⟩
  · rcases merge_at hz hp with ⟨k1, k2⟩ | ⟨k1, k2, k3⟩
    · rw [k2, ← g1, ← k1, g2]
    · rw [k3, g2]
  · rcases hd with hd | hd
    · exact absurd hd.symm g1
    · rcases merge_at hz hp with ⟨k1, k2⟩ | ⟨k1, k2, k3⟩
      · rw [k2, hd]
      · exact absurd g3 k1
theorem merge_few {t a b x : List Ent} (h : mergeL t a b = some x) : ∀ e ∈ x, entAt a e.path = some e ∨ entAt b e.path = some e := by
  intro e he
  obtain ⟨h1, h2, h3, h4⟩ := merge_tree h
  have hs := entAt_self (treeOk_srt h4) he
  have hp : e.path ≠ [47] := pathOk_ne (treeOk_path h4 (List.mem_map.2 ⟨e, he, rfl⟩))
  rcases merge_at h hp with ⟨g1, g2⟩ | ⟨g1, g2, g3⟩
  · right; rw [← g2, hs]
  · left; rw [← g3, hs]
theorem nodup_sub : ∀ {w v : List Bs}, w.Nodup → (∀ p ∈ w, p ∈ v) → w.length ≤ v.length
  | [], v, _, _ => Nat.zero_le _
  | a :: w, v, hn, h => by
    obtain ⟨h1, h2⟩ := List.nodup_cons.1 hn
    have ha := h a (by simp)
    have ih := nodup_sub (w := w) (v := v.erase a) h2 fun p hp => by
      have hne : p ≠ a := by rintro rfl; exact h1 hp
      exact (List.mem_erase_of_ne hne).2 (h p (by simp [hp]))
    have hl := List.length_erase_of_mem ha
    have hpos : 0 < v.length := List.length_pos_of_mem ha
    simp only [List.length_cons]
    omega
theorem merge_few_len {t a b x : List Ent} (h : mergeL t a b = some x) : x.length ≤ a.length + b.length := by
  have h4 := (merge_tree h).2.2.2
  have := nodup_sub (w := pathsE x) (v := pathsE a ++ pathsE b) (sorted_nodup (treeOk_srt h4)) fun p hp => by
    obtain ⟨e, he, rfl⟩ := List.mem_map.1 hp
    rw [List.mem_append]
    rcases merge_few h e he with g | g
    · left
      have := entAt_some g
      exact List.mem_map.2 ⟨e, this.1, rfl⟩
    · right
      have := entAt_some g
      exact List.mem_map.2 ⟨e, this.1, rfl⟩
  simpa using this
theorem merge_turned {t a b x : List Ent} (h : mergeL t a b = some x) (p : Bs) : p ∈ turnedL t x ↔ p ∈ turnedL t a ∨ p ∈ turnedL t b := by
  obtain ⟨h1, h2, h3, h4⟩ := merge_tree h
  rw [turned_mem h1 h4, turned_mem h1 h2, turned_mem h1 h3]
  by_cases hp : p = [47]
  · subst hp
    rw [treeOk_root h1, treeOk_root h2, treeOk_root h3, treeOk_root h4]
    simp
  · rcases merge_at h hp with ⟨g1, g2⟩ | ⟨g1, g2, g3⟩
    · rw [g1, g2]; simp
    · rw [g3]
      have : entAt t p ≠ entAt a p := Ne.symm g1
      simp [this]
theorem len_split {α : Type} (p : α → Bool) : ∀ l : List α, l.length = (l.filter p).length + (l.filter fun x => !p x).length
  | [] => rfl
  | a :: l => by
    have := len_split p l
    cases h : p a <;> simp [h] <;> omega
theorem union_len {l p q : List Bs} (hl : sorted l) (hp : sorted p) (hq : sorted q) (h : ∀ x, x ∈ l ↔ x ∈ p ∨ x ∈ q) : (l.length : Int) = p.length + q.length - (q.filter fun x => decide (x ∈ p)).length := by
  have e1 : l.filter (fun x => decide (x ∈ p)) = p := sorted_ext (sorted_filter hl _) hp fun x => by
    simp only [List.mem_filter, decide_eq_true_eq]
    constructor
    · exact fun h => h.2
    · exact fun hx => ⟨(h x).2 (.inl hx), hx⟩
  have e2 : (l.filter fun x => !decide (x ∈ p)) = q.filter fun x => !decide (x ∈ p) := sorted_ext (sorted_filter hl _) (sorted_filter hq _) fun x => by
    simp only [List.mem_filter, Bool.not_eq_true', decide_eq_false_iff_not]
    constructor
    · rintro ⟨h1, h2⟩
      exact ⟨((h x).1 h1).resolve_left h2, h2⟩
    · rintro ⟨h1, h2⟩
      exact ⟨(h x).2 (.inr h1), h2⟩
  have h1 := len_split (fun x => decide (x ∈ p)) l
  have h2 := len_split (fun x => decide (x ∈ p)) q
  rw [e1, e2] at h1
  omega
theorem clash_turned {t a b : List Ent} (h : right3 t a b = true) : (turnedL a b).filter (fun d => decide (d ∈ turnedL t a) && decide (d ∈ turnedL t b)) = clashL t a b := by
  obtain ⟨h1, h2, h3⟩ := right3_iff.1 h
  refine sorted_ext (sorted_filter turned_sorted _) clash_sorted fun p => ?_
  rw [List.mem_filter, clash_mem h, turned_mem h2 h3]
  simp only [Bool.and_eq_true, decide_eq_true_eq, turned_mem h1 h2, turned_mem h1 h3]
  constructor
  · rintro ⟨g1, g2, g3⟩
    have hp : p ≠ [47] := by
      rintro rfl
      exact g1 (by rw [treeOk_root h2, treeOk_root h3])
    refine ⟨hp, ?_⟩
    rw [mAt_ne hp, if_neg (Ne.symm g2), if_neg]
    rintro (k | k)
    · exact g3 k.symm
    · exact g1 k
  · rintro ⟨hp, g⟩
    rw [mAt_ne hp] at g
    split at g
    · cases g
    · rename_i k1
      split at g
      · cases g
      · rename_i k2
        rw [not_or] at k2
        exact ⟨k2.2, Ne.symm k1, Ne.symm k2.1⟩
theorem clash_merge {t a b : List Ent} (h : clashL t a b ≠ []) : mergeL t a b = none := by
  cases hm : mergeL t a b with
  | none => rfl
  | some x =>
    exfalso
    have hr := (mergeL_iff.1 hm).1
    apply h
    rw [List.eq_nil_iff_forall_not_mem]
    intro p hp
    rw [clash_mem hr] at hp
    rw [(mergeL_iff.1 hm).2.2 p hp.1] at hp
    cases hp.2
theorem clash_none {t a b : List Ent} (h : right3 t a b = true) : (clashL t a b = [] ↔ (allP t a b).all (fun p => (mAt t a b p).isSome) = true) := by
  rw [clashL, if_pos h, List.filter_eq_nil_iff, List.all_eq_true]
  constructor
  · intro g p hp
    have := g p hp
    cases hx : mAt t a b p <;> simp_all
  · intro g p hp
    have := g p hp
    cases hx : mAt t a b p <;> simp_all
end Go.Par
