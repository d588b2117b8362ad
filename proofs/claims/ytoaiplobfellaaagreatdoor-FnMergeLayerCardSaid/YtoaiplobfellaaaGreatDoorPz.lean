/- What is done in separate directories, merged; a merge and its layers: in plain Lean. -/
import Derived.Test.YtoaiplobfellaaaGreatDoorPu
import Derived.Test.YtoaiplobfellaaaGreatDoorPw
set_option linter.unusedSimpArgs false
set_option linter.unusedVariables false
namespace Go.Par
open Go.Ab

theorem firstP_ok : ∀ (n : Nat) {s : Bs}, s.length ≤ n → pathOk s = true → pathOk (firstP s) = true ∧ pathUp (firstP s) = [47]
  | 0, s, hn, hs => by have := (pathOk_pos hs).1; omega
  | n + 1, s, hn, hs => by
    rw [firstP_up hs]
    by_cases h : pathUp s = [47]
    · rw [if_pos h]; exact ⟨hs, h⟩
    · rw [if_neg h]
      have := pathUp_short hs h
      exact firstP_ok n (by omega) ((pathUp_less hs).resolve_left h).1
theorem firstP_ne {s : Bs} (hs : pathOk s = true) : firstP s ≠ [] := by
  intro h
  have := (firstP_ok s.length (Nat.le_refl _) hs).1
  rw [h, path_empty] at this
  cases this
theorem firstP_bad {s : Bs} (hs : pathOk s = false) : firstP s = [] := by rw [firstP, hs]; rfl
def wpTopV (a b : Opn) : Bool :=
  !((decide (firstP a.path ≠ []) && (decide (firstP a.path = firstP b.path) || decide (firstP a.path = firstP b.to))) || (decide (firstP a.to ≠ []) && (decide (firstP a.to = firstP b.path) || decide (firstP a.to = firstP b.to)))) && decide (firstP a.path ≠ []) && decide (firstP b.path ≠ [])
theorem wpTop_apart {a b : Opn} (h : wpTopV a b = true) : ∀ q, pathOk q = true → inT a q → ¬ inT b q := by
  intro q hq ha hb
  have hne := firstP_ne hq
  unfold wpTopV at h
  simp only [Bool.and_eq_true, Bool.not_eq_true', Bool.or_eq_false_iff, Bool.and_eq_false_iff, decide_eq_false_iff_not, decide_eq_true_eq, ne_eq, Decidable.not_not] at h
  obtain ⟨⟨⟨h1, h2⟩, _⟩, _⟩ := h
  rcases ha with ha | ⟨_, ha⟩
  · have h3 := h1.resolve_left (by rw [← ha]; exact hne)
    rcases hb with hb | ⟨_, hb⟩
    · exact h3.1 (by rw [← ha, hb])
    · exact h3.2 (by rw [← ha, hb])
  · have h3 := h2.resolve_left (by rw [← ha]; exact hne)
    rcases hb with hb | ⟨_, hb⟩
    · exact h3.1 (by rw [← ha, hb])
    · exact h3.2 (by rw [← ha, hb])
/-- WHAT IS DONE APART GOES TOGETHER AS ONE BEHIND THE OTHER -/
theorem merge_apart {t : List Ent} {a b : Opn} (ht : treeOk t = true) (ha : (treeDo t a).2 = 0) (hb : (treeDo t b).2 = 0) (he : (treeDo (treeDo t a).1 b).2 = 0) (hab : ∀ q, pathOk q = true → inT a q → ¬ inT b q) :
    mergeL t (treeDo t a).1 (treeDo t b).1 = some (treeDo (treeDo t a).1 b).1 := by
  obtain ⟨_, oa, ca, h1, at1⟩ := treeDo_at (code_zero ha)
  obtain ⟨_, ob, cb, h2, at2⟩ := treeDo_at (code_zero hb)
  obtain ⟨_, _, _, h3, at3⟩ := treeDo_at (code_zero he)
  have al : alike t (treeDo t a).1 b := fun q hq hi => by rw [at1, atDo_out oa hq fun h => hab q hq h hi]
  refine merge_of ht h1 h2 h3 fun p hp => ?_
  cases hq : pathOk p with
  | false =>
    left
    rw [at_bad h1 hq, at_bad ht hq, at_bad h3 hq, at_bad h2 hq]
    exact ⟨rfl, rfl⟩
  | true =>
    by_cases ia : inT a p
    · have ib := hab p hq ia
      have e2 : entAt (treeDo t b).1 p = entAt t p := by rw [at2, atDo_out ob hq ib]
      have e3 : entAt (treeDo (treeDo t a).1 b).1 p = entAt (treeDo t a).1 p := by rw [at3, atDo_out ob hq ib]
      by_cases hx : entAt (treeDo t a).1 p = entAt t p
      · left
        exact ⟨hx, by rw [e3, hx, e2]⟩
      · right
        exact ⟨hx, .inl e2, e3⟩
    · left
      have e1 : entAt (treeDo t a).1 p = entAt t p := by rw [at1, atDo_out oa hq ia]
      refine ⟨e1, ?_⟩
      by_cases ib : inT b p
      · rw [at3, at2]
        exact (atDo_alike ob ht h1 al hq ib).symm
      · rw [at3, atDo_out ob hq ib, e1, at2, atDo_out ob hq ib]
/-- where a merge differs from a side by more than a directory it has what the other side has -/
theorem merge_other {t a b x : List Ent} (h : mergeL t a b = some x) {q : Bs} {m : Mrk} (hm : markAt (diffL a x) q = some m) (hk : m.kind ≠ 2) : entGet x q = entGet b q := by
  obtain ⟨h1, h2, h3, h4⟩ := merge_tree h
  obtain ⟨k1, _, k3⟩ := diff_cases h2 h4 hm
  have hne : entAt a q ≠ entAt x q := by
    rcases k3 with ⟨e, _, _, rfl⟩ | ⟨e, _, _, _, hn⟩ | ⟨_, _, _, hn⟩
    · exact absurd rfl hk
    · exact hn
    · exact hn
  have hr := pathOk_ne k1
  rw [entGet_ne hr, entGet_ne hr]
  rcases merge_at h hr with ⟨_, g2⟩ | ⟨_, _, g3⟩
  · exact g2
  · exact absurd g3.symm hne
theorem names_up {s : Bs} (hs : pathOk s = true) : 1 < (names s).length ↔ pathUp s ≠ [47] := by
  obtain ⟨w, a, h1, hw, ha, hl, rfl⟩ := path_split hs
  rw [h1, pathUp_split hw ha hl]
  by_cases hn : w = []
  · rw [if_pos hn, hn]; simp
  · rw [if_neg hn]
    have h2 := List.length_pos_iff.2 hn
    have h3 := pathOk_of hw (by omega) (by omega)
    simp only [List.length_append, List.length_cons, List.length_nil]
    constructor
    · intro _; exact pathOk_ne h3
    · intro _; omega
end Go.Par
