/- What the program does to trees, as it does it: in plain Lean. -/
import Derived.Test.YtoaiplobfellaaaGreatDoorRPs
set_option linter.unusedSimpArgs false
set_option linter.unusedVariables false
namespace Go.Par
open Go.Ab
theorem entAt_iff {t : List Ent} (hn : (pathsE t).Nodup) {q : Bs} {e : Ent} : entAt t q = some e ↔ e ∈ t ∧ e.path = q := by
  constructor
  · exact entAt_some
  · rintro ⟨h1, h2⟩
    induction t with
    | nil => cases h1
    | cons x t ih =>
      have hn2 := List.nodup_cons.1 hn
      rw [entAt_cons]
      rcases List.mem_cons.1 h1 with h1 | h1
      · rw [← h1, if_pos h2]
      · rw [if_neg]
        · exact ih hn2.2 h1
        · intro h3
          exact hn2.1 (by show x.path ∈ _; rw [h3, ← h2]; exact List.mem_map.2 ⟨e, h1, rfl⟩)
theorem sort_one {S L U : List Ent} (hp : S.Perm L) (hs : S.Pairwise fun a b => lt b.path a.path = false) (hn : (pathsE L).Nodup) (hu : sorted (pathsE U)) (hat : ∀ q, entAt L q = entAt U q) : S = U := by
  have hn2 : (pathsE S).Nodup := (hp.map _).nodup_iff.2 hn
  have hss : sorted (pathsE S) := by
    unfold sorted pathsE
    rw [List.pairwise_map]
    have h1 := List.pairwise_map.1 (List.nodup_iff_pairwise_ne.1 hn2)
    refine (h1.and hs).imp ?_
    rintro a b ⟨h2, h3⟩
    rcases lt_total a.path b.path with h | h | h
    · exact h
    · exact absurd h h2
    · rw [h] at h3; cases h3
  refine ent_ext hss hu fun q => ?_
  rw [← hat]
  cases h : entAt L q with
  | none =>
    refine entAt_none.2 fun hm => entAt_none.1 h ?_
    exact (hp.map _).mem_iff.1 hm
  | some e =>
    obtain ⟨h1, h2⟩ := (entAt_iff hn).1 h
    exact (entAt_iff hn2).2 ⟨hp.mem_iff.2 h1, h2⟩
/-- what is laid together ahead of the sort -/
def toldL (t : List Ent) (o : Opn) : List Ent :=
  (if o.kind = 5 then t.map (moveE o.path o.to) else offT t o.path) ++ (if o.kind = 1 ∨ o.kind = 2 then [⟨o.path, decide (o.kind = 1), o.data⟩] else [])
theorem toldL_doT {t : List Ent} {o : Opn} (ht : treeOk t = true) (ho : opOk o = true) (hc : opCode t o = 0) : (pathsE (toldL t o)).Nodup ∧ ∀ q, entAt (toldL t o) q = entAt (doT t o) q := by
  have hp := opOk_path ho
  have hoff : (pathsE (offT t o.path)).Nodup := sorted_nodup (offT_sorted (treeOk_srt ht) _)
  have hno : o.path ∉ pathsE (offT t o.path) := by
    rw [← entAt_none, offT_at, if_pos rfl]
  have hsnoc : ∀ e : Ent, e.path = o.path → (pathsE (offT t o.path ++ [e])).Nodup ∧ ∀ q, entAt (offT t o.path ++ [e]) q = if o.path = q then some e else entAt t q := by
    intro e he
    constructor
    · rw [pathsE, List.map_append, List.nodup_append]
      refine ⟨hoff, by simp, ?_⟩
      intro a ha b hb hab
      simp at hb
      rw [hab, hb, he] at ha
      exact hno ha
    · intro q
      have happ : ∀ l : List Ent, entAt (l ++ [e]) q = (entAt l q).or (entAt [e] q) := by
        intro l
        simp [entAt, List.find?_append]
      rw [happ, offT_at]
      by_cases hq : o.path = q
      · rw [if_pos hq, if_pos hq]
        simp [entAt, he, hq]
      · rw [if_neg hq, if_neg hq]
        have : entAt [e] q = none := by
          rw [entAt_cons, if_neg (by rw [he]; exact hq)]
          rfl
        rw [this]
        simp
  simp only [doT_at ht ho hc]
  unfold toldL atDo
  have hdat := opOk_data ho
  by_cases h1 : o.kind = 1
  · have h5 : ¬ o.kind = 5 := by omega
    rw [if_neg h5, if_pos (.inl h1)]
    simp only [if_pos h1]
    have hd : o.data = [] := hdat.2.1 (by omega)
    have h := hsnoc ⟨o.path, decide (o.kind = 1), o.data⟩ rfl
    refine ⟨h.1, fun q => ?_⟩
    rw [h.2, hd, h1]
    simp
  · by_cases h2 : o.kind = 2
    · have h5 : ¬ o.kind = 5 := by omega
      rw [if_neg h5, if_pos (.inr h2)]
      simp only [if_neg h1, if_pos h2]
      have h := hsnoc ⟨o.path, decide (o.kind = 1), o.data⟩ rfl
      refine ⟨h.1, fun q => ?_⟩
      rw [h.2]
      simp [h1]
    · rw [if_neg (show ¬ (o.kind = 1 ∨ o.kind = 2) by omega), List.append_nil]
      simp only [if_neg h1, if_neg h2]
      by_cases h5 : o.kind = 5
      · simp only [if_pos h5]
        unfold opCode at hc
        rw [if_neg h1, if_neg h2, if_pos h5] at hc
        obtain ⟨hq, _⟩ := opOk_to ho h5
        obtain ⟨g1, g2, g3, g4, g5⟩ := (moveCode_zero ht hp hq).1 hc
        exact move_at ht hp hq (free_to ht hq g3) g5
      · simp only [if_neg h5]
        exact ⟨hoff, fun q => offT_at t o.path q⟩
theorem told_one {t S : List Ent} {o : Opn} (ht : treeOk t = true) (ho : opOk o = true) (hc : opCode t o = 0) (hp : S.Perm (toldL t o)) (hs : S.Pairwise fun a b => lt b.path a.path = false) : S = doT t o :=
  sort_one hp hs (toldL_doT ht ho hc).1 (doT_srt ht o) (toldL_doT ht ho hc).2
theorem toldL_len {t : List Ent} {o : Opn} (ht : treeOk t = true) : (toldL t o).length ≤ 17 := by
  have hl := treeOk_len ht
  unfold toldL
  rw [List.length_append]
  have h1 : (if o.kind = 5 then t.map (moveE o.path o.to) else offT t o.path).length ≤ 16 := by
    split
    · simp; exact hl
    · have := List.length_filter_le (fun e : Ent => decide (e.path ≠ o.path)) t
      unfold offT
      omega
  have h2 : (if o.kind = 1 ∨ o.kind = 2 then [(⟨o.path, decide (o.kind = 1), o.data⟩ : Ent)] else []).length ≤ 1 := by
    split <;> simp
  omega
theorem newCode_i {t : List Ent} {p : Bs} (hp : pathOk p = true) : newCode t p = if upCode t p ≠ 0 then upCode t p else if (entAt t p).isSome then 4 else if 16 ≤ t.length then 8 else 0 := by
  unfold newCode
  rw [entGet_ne (pathOk_ne hp)]
theorem putCode_i {t : List Ent} {p : Bs} (hp : pathOk p = true) : putCode t p = if upCode t p ≠ 0 then upCode t p else if (entAt t p).isSome ∧ ((entAt t p).getD ent0).dir = true then 5 else if (entAt t p).isNone ∧ 16 ≤ t.length then 8 else 0 := by
  unfold putCode
  rw [newCode_i hp, entGet_ne (pathOk_ne hp)]
  by_cases h1 : upCode t p = 0
  · simp only [h1, ne_eq, not_true_eq_false, if_false]
    cases h2 : entAt t p with
    | none =>
      simp only [Option.isSome_none, Bool.false_eq_true, if_false, false_and, Option.isNone_none, true_and]
      by_cases h3 : 16 ≤ t.length
      · simp [h3]
      · simp [h3]
    | some e =>
      cases hd : e.dir <;> simp [isDirO, hd]
  · have h4 : upCode t p ≠ 4 := by
      unfold upCode
      repeat' split
      all_goals decide
    simp [h1, h4]
theorem rmCode_i {t : List Ent} {o : Opn} (ht : treeOk t = true) (hp : pathOk o.path = true) (hk : o.kind = 3) : offCode t o = if (entAt t o.path).isNone then 2 else if ((entAt t o.path).getD ent0).dir = true then 5 else 0 := by
  unfold offCode
  rw [entGet_ne (pathOk_ne hp)]
  cases h : entAt t o.path with
  | none => rfl
  | some e =>
    simp only [Option.isNone_some, Bool.false_eq_true, if_false, Option.getD_some, hk, true_and]
    by_cases hd : e.dir = true
    · simp [hd]
    · have hd' : e.dir = false := by simpa using hd
      have hkid : kids t o.path = [] := kids_empty ht ht hp (fun d hd2 => by rw [h] at hd2; cases hd2; exact hd') (fun _ _ => rfl)
      simp [hkid, hd']
theorem kids_any {t : List Ent} {p : Bs} (ht : treeOk t = true) (hp : pathOk p = true) : decide (0 < (kids t p).length) = t.any (fun e => under e.path p) := by
  rw [Bool.eq_iff_iff, decide_eq_true_eq, List.any_eq_true]
  constructor
  · intro h
    have hne : kids t p ≠ [] := by intro h2; rw [h2] at h; simp at h
    rw [ne_eq, kids_none] at hne
    simp only [ne_eq, Classical.not_forall, Decidable.not_not] at hne
    obtain ⟨e, he, h2⟩ := hne
    exact ⟨e, he, up_under (tree_mem ht he).2.1 hp (.inl h2)⟩
  · rintro ⟨e, he, hu⟩
    obtain ⟨k, h1, h2⟩ := kid_in ht hp e.path.length (Nat.le_refl _) (entAt_self (treeOk_srt ht) he) hu
    apply Nat.pos_of_ne_zero
    intro h3
    exact kids_none.1 (List.length_eq_zero_iff.1 h3) k h1 h2
theorem rmdirCode_i {t : List Ent} {o : Opn} (ht : treeOk t = true) (hp : pathOk o.path = true) (hk : o.kind = 4) : offCode t o = if (entAt t o.path).isNone then 2 else if ((entAt t o.path).getD ent0).dir = false then 3 else if t.any (fun e => under e.path o.path) = true then 6 else 0 := by
  unfold offCode
  rw [entGet_ne (pathOk_ne hp)]
  cases h : entAt t o.path with
  | none => rfl
  | some e =>
    have h3 : ¬ (o.kind = 3 ∧ e.dir = true) := by omega
    simp only [if_neg h3, hk, true_and, Option.isNone_some, Bool.false_eq_true, if_false, Option.getD_some]
    have := kids_any ht hp
    by_cases hd : e.dir = true
    · rw [← this]
      simp [hd]
    · have hd' : e.dir = false := by simpa using hd
      simp [hd']
theorem moveCode_i {t : List Ent} {o : Opn} (hp : pathOk o.path = true) (hq : pathOk o.to = true) : moveCode t o = if (entAt t o.path).isNone then 2 else if upCode t o.to ≠ 0 then upCode t o.to else if (entAt t o.to).isSome then 4 else if under o.to o.path = true then 7 else if t.all (fun e => (pathMove e.path o.path o.to).isSome) = true then 0 else 8 := by
  unfold moveCode
  rw [entGet_ne (pathOk_ne hp), entGet_ne (pathOk_ne hq)]
end Go.Par
