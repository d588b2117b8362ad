/- Layers joined: in plain Lean. -/
import Derived.Test.YtoaiplobfellaaaGreatDoorRPv
set_option linter.unusedSimpArgs false
set_option linter.unusedVariables false
namespace Go.Par
open Go.Ab
theorem bare_at {l : List Mrk} (hn : (pathsM l).Nodup) {p : Bs} : bare l p = true ↔ ∃ q m, markAt l q = some m ∧ m.kind = 4 ∧ under p q = true := by
  unfold bare
  rw [List.any_eq_true]
  constructor
  · rintro ⟨m, hm, h⟩
    simp only [Bool.and_eq_true, decide_eq_true_eq] at h
    exact ⟨m.path, m, (markAt_iff hn).2 ⟨hm, rfl⟩, h.1, h.2⟩
  · rintro ⟨q, m, h1, h2, h3⟩
    obtain ⟨h4, rfl⟩ := markAt_some h1
    exact ⟨m, h4, by simp [h2, h3]⟩
theorem mark_filter (f : Bs → Bool) (q : Bs) : ∀ t : List Mrk, markAt (t.filter fun e => f e.path) q = if f q = true then markAt t q else none
  | [] => by simp [markAt]
  | e :: t => by
    have ih := mark_filter f q t
    rw [List.filter_cons]
    by_cases hq : e.path = q
    · subst hq
      by_cases hf : f e.path = true
      · rw [if_pos hf, if_pos hf, markAt_cons, markAt_cons, if_pos rfl, if_pos rfl]
      · rw [if_neg hf, if_neg hf, ih, if_neg hf]
    · by_cases hf : f e.path = true
      · rw [if_pos hf, markAt_cons, if_neg hq, ih, markAt_cons, if_neg hq]
      · rw [if_neg hf, ih, markAt_cons, if_neg hq]
theorem mark_map {f : Mrk → Mrk} (h : ∀ m, (f m).path = m.path) (q : Bs) : ∀ t : List Mrk, markAt (t.map f) q = (markAt t q).map f
  | [] => rfl
  | m :: t => by
    have ih := mark_map h q t
    rw [List.map_cons, markAt_cons, markAt_cons, ih, h]
    by_cases hq : m.path = q
    · rw [if_pos hq, if_pos hq]; rfl
    · rw [if_neg hq, if_neg hq]
theorem mark_bind {f : Mrk → Option Mrk} (h : ∀ m e, f m = some e → e.path = m.path) (q : Bs) : ∀ {t : List Mrk}, (pathsM t).Nodup → markAt (t.filterMap f) q = (markAt t q).bind f
  | [], _ => rfl
  | m :: t, hn => by
    have hn2 := List.nodup_cons.1 hn
    have ih := mark_bind h q (t := t) hn2.2
    rw [List.filterMap_cons, markAt_cons]
    by_cases hq : m.path = q
    · rw [if_pos hq, Option.bind_some]
      cases hm : f m with
      | none =>
        simp only
        rw [ih, markAt_none.2 (by rw [← hq]; exact hn2.1)]
        rfl
      | some e =>
        simp only
        rw [markAt_cons, if_pos (by rw [h m e hm]; exact hq)]
    · rw [if_neg hq]
      cases hm : f m with
      | none => exact ih
      | some e =>
        simp only
        rw [markAt_cons, if_neg (by rw [h m e hm]; exact hq)]
        exact ih
theorem keep_paths {f : Mrk → Option Mrk} (h : ∀ m e, f m = some e → e.path = m.path) : ∀ {t : List Mrk} {q : Bs}, q ∈ pathsM (t.filterMap f) → q ∈ pathsM t := by
  intro t q hq
  obtain ⟨x, hx, rfl⟩ := List.mem_map.1 hq
  obtain ⟨y, hy, h2⟩ := List.mem_filterMap.1 hx
  rw [h y x h2]
  exact List.mem_map.2 ⟨y, hy, rfl⟩
theorem keep_sorted {f : Mrk → Option Mrk} (h : ∀ m e, f m = some e → e.path = m.path) : ∀ {t : List Mrk}, sorted (pathsM t) → sorted (pathsM (t.filterMap f))
  | [], _ => List.Pairwise.nil
  | m :: t, hs => by
    have ih := keep_sorted h (t := t) (sorted_tail hs)
    rw [List.filterMap_cons]
    cases hm : f m with
    | none => exact ih
    | some e =>
      simp only
      refine List.pairwise_cons.2 ⟨fun b hb => ?_, ih⟩
      show lt e.path b = true
      rw [h m e hm]
      exact sorted_head hs b (keep_paths h hb)
theorem keep_nodup {f : Mrk → Option Mrk} (h : ∀ m e, f m = some e → e.path = m.path) : ∀ {t : List Mrk}, (pathsM t).Nodup → (pathsM (t.filterMap f)).Nodup
  | [], _ => by simp
  | m :: t, hn => by
    have hn2 := List.nodup_cons.1 hn
    have ih := keep_nodup h (t := t) hn2.2
    rw [List.filterMap_cons]
    cases hm : f m with
    | none => exact ih
    | some e =>
      simp only
      refine List.nodup_cons.2 ⟨fun hb => ?_, ih⟩
      have hb' : m.path ∈ pathsM (t.filterMap f) := by rw [← h m e hm]; exact hb
      exact hn2.1 (keep_paths h hb')
def putAllM (t : List Mrk) (es : List Mrk) : List Mrk := es.foldl putM t
theorem putAllM_sorted : ∀ {es t : List Mrk}, sorted (pathsM t) → sorted (pathsM (putAllM t es))
  | [], t, h => h
  | e :: es, t, h => putAllM_sorted (es := es) (putM_sorted h e)
theorem putAllM_at : ∀ {L X : List Mrk}, sorted (pathsM X) → (pathsM L).Nodup → ∀ q, markAt (putAllM X L) q = (markAt L q).or (markAt X q)
  | [], X, _, _, q => by simp [putAllM, markAt]
  | e :: r, X, hs, hn, q => by
    have hn2 := List.nodup_cons.1 hn
    have ih := putAllM_at (L := r) (putM_sorted hs e) hn2.2 q
    have : putAllM X (e :: r) = putAllM (putM X e) r := rfl
    rw [this, ih, putM_at hs, markAt_cons]
    by_cases he : e.path = q
    · rw [if_pos he, if_pos he]
      have : markAt r q = none := markAt_none.2 (by rw [← he]; exact hn2.1)
      rw [this]
      rfl
    · rw [if_neg he, if_neg he]
theorem putAllM_len : ∀ (es t : List Mrk), (putAllM t es).length ≤ t.length + es.length
  | [], t => by simp [putAllM]
  | e :: es, t => by
    have h := putAllM_len es (putM t e)
    have h2 := (putM_len t e).2
    show (putAllM (putM t e) es).length ≤ _
    simp
    omega
theorem putAllM_snoc (t es : List Mrk) (e : Mrk) : putAllM t (es ++ [e]) = putM (putAllM t es) e := by simp [putAllM]
theorem kindAt_ne {l : List Mrk} (h : layerOk l = true) {q : Bs} : kindAt l q = 0 ↔ markAt l q = none := by
  unfold kindAt
  cases hm : markAt l q with
  | none => simp
  | some m =>
    have := (markOk_parts (mark_at h hm).1).1
    simp only [reduceCtorEq, iff_false]
    omega
def bothK (ka kb : Int) : Int := if ka = 2 ∧ kb ≠ 0 ∧ kb ≠ 2 then 4 else ka
def onK (b : List Mrk) (m : Mrk) : Mrk := ⟨m.path, bothK m.kind (kindAt b m.path), m.data⟩
def keepP (a : List Mrk) (p : Bs) : Bool := (markAt a p).isNone && !hides a p
def joinB (a b : List Mrk) : List Mrk := (b.filter fun m => keepP a m.path) ++ a.map (onK b)
def joinR (a b : List Mrk) : List Mrk := putAllM (putAllM [] (b.filter fun m => keepP a m.path)) (a.map (onK b))
def rawAt (a b : List Mrk) (q : Bs) : Option Mrk := match markAt a q with
  | some m => some (onK b m)
  | none => if hides a q then none else markAt b q
theorem paths_onK (a b : List Mrk) : pathsM (a.map (onK b)) = pathsM a := by
  rw [pathsM, pathsM, List.map_map]
  rfl
theorem filter_nodup {t : List Mrk} (h : sorted (pathsM t)) (f : Mrk → Bool) : (pathsM (t.filter f)).Nodup := by
  refine sorted_nodup ?_
  unfold sorted pathsM at h ⊢
  rw [List.pairwise_map] at h ⊢
  exact h.filter _
theorem raw_or {a b : List Mrk} (q : Bs) : (markAt (a.map (onK b)) q).or (markAt (b.filter fun m => keepP a m.path) q) = rawAt a b q ∧ (markAt (b.filter fun m => keepP a m.path) q).or (markAt (a.map (onK b)) q) = rawAt a b q := by
  rw [mark_filter (keepP a), mark_map (f := onK b) (fun _ => rfl)]
  unfold rawAt keepP
  cases hm : markAt a q with
  | some m => simp
  | none => cases hides a q <;> simp
theorem joinB_at {a b : List Mrk} (q : Bs) : markAt (joinB a b) q = rawAt a b q := by
  unfold joinB
  have : ∀ l r : List Mrk, markAt (l ++ r) q = (markAt l q).or (markAt r q) := fun l r => by simp [markAt, List.find?_append]
  rw [this]
  exact (raw_or q).2
theorem joinB_nodup {a b : List Mrk} (ha : sorted (pathsM a)) (hb : sorted (pathsM b)) : (pathsM (joinB a b)).Nodup := by
  unfold joinB
  rw [pathsM, List.map_append, List.nodup_append]
  refine ⟨filter_nodup hb _, by rw [← pathsM, paths_onK]; exact sorted_nodup ha, ?_⟩
  intro x hx y hy hxy
  obtain ⟨m, hm, rfl⟩ := List.mem_map.1 hx
  have hk := (List.mem_filter.1 hm).2
  have h1 : y ∈ pathsM a := by rw [← paths_onK a b]; exact hy
  rw [← hxy] at h1
  obtain ⟨e, he⟩ := markAt_mem h1
  unfold keepP at hk
  rw [he] at hk
  simp at hk
theorem joinR_sorted {a b : List Mrk} : sorted (pathsM (joinR a b)) := putAllM_sorted (putAllM_sorted List.Pairwise.nil)
theorem joinR_at {a b : List Mrk} (ha : sorted (pathsM a)) (hb : sorted (pathsM b)) (q : Bs) : markAt (joinR a b) q = rawAt a b q := by
  unfold joinR
  have h0 : sorted (pathsM ([] : List Mrk)) := List.Pairwise.nil
  rw [putAllM_at (putAllM_sorted h0) (by rw [paths_onK]; exact sorted_nodup ha), putAllM_at h0 (filter_nodup hb _)]
  rw [show markAt ([] : List Mrk) q = none from rfl, Option.or_none]
  exact (raw_or q).1
def tidyF (B : Bs → Bool) (m : Mrk) : Option Mrk := if B m.path = true then (if m.kind = 3 then none else if m.kind = 4 then some ⟨m.path, 2, m.data⟩ else some m) else some m
theorem tidyF_path {B : Bs → Bool} (m e : Mrk) (h : tidyF B m = some e) : e.path = m.path := by
  unfold tidyF at h
  split at h
  · split at h
    · cases h
    · split at h <;> cases h <;> rfl
  · cases h; rfl
def joinL (a b : List Mrk) : List Mrk := (joinR a b).filterMap (tidyF (bare (joinR a b)))
def joinI (a b : List Mrk) : List Mrk := (joinB a b).filterMap (tidyF (bare (joinB a b)))
def layerJoin (a b : List Mrk) : Option (List Mrk) := if layerOk a = true ∧ layerOk b = true ∧ (joinL a b).length ≤ 32 then some (joinL a b) else none
theorem join_bare {a b : List Mrk} (ha : sorted (pathsM a)) (hb : sorted (pathsM b)) : bare (joinB a b) = bare (joinR a b) := by
  funext p
  rw [Bool.eq_iff_iff, bare_at (joinB_nodup ha hb), bare_at (sorted_nodup joinR_sorted)]
  simp only [joinB_at, joinR_at ha hb]
theorem joinL_sorted {a b : List Mrk} : sorted (pathsM (joinL a b)) := keep_sorted tidyF_path joinR_sorted
theorem joinL_at {a b : List Mrk} (ha : sorted (pathsM a)) (hb : sorted (pathsM b)) (q : Bs) : markAt (joinL a b) q = (rawAt a b q).bind (tidyF (bare (joinR a b))) := by
  unfold joinL
  rw [mark_bind tidyF_path q (sorted_nodup joinR_sorted), joinR_at ha hb]
theorem join_one {a b : List Mrk} (ha : sorted (pathsM a)) (hb : sorted (pathsM b)) {S : List Mrk} (hp : S.Perm (joinI a b)) (hs : S.Pairwise fun a b => lt b.path a.path = false) : S = joinL a b := by
  refine sortM_one hp hs (keep_nodup tidyF_path (joinB_nodup ha hb)) joinL_sorted fun q => ?_
  rw [joinL_at ha hb]
  unfold joinI
  rw [mark_bind tidyF_path q (joinB_nodup ha hb), joinB_at, join_bare ha hb]
theorem bare_top {J : List Mrk} (hn : (pathsM J).Nodup) (hok : ∀ q m, markAt J q = some m → pathOk q = true) : ∀ (n : Nat) {p q : Bs} {m : Mrk}, q.length ≤ n → markAt J q = some m → m.kind = 4 → under p q = true → ∃ q m, markAt J q = some m ∧ m.kind = 4 ∧ under p q = true ∧ bare J q = false
  | 0, p, q, m, hl, h1, _, _ => by
    have := (pathOk_pos (hok q m h1)).1
    omega
  | n + 1, p, q, m, hl, h1, h2, h3 => by
    cases hb : bare J q with
    | false => exact ⟨q, m, h1, h2, h3, hb⟩
    | true =>
      obtain ⟨z, x, g1, g2, g3⟩ := (bare_at hn).1 hb
      have hz := hok z x g1
      have := under_lt hz g3
      exact bare_top hn hok n (by omega) g1 g2 (under_trans (hok q m h1) hz h3 (.inr g3))
theorem tidy_ahead {J : List Mrk} (hs : sorted (pathsM J)) (hok : ∀ m ∈ J, pathOk m.path = true) {i : Nat} {x : Mrk} (hx : J[i]? = some x) : bare ((J.take i).filterMap (tidyF (bare J))) x.path = bare J x.path := by
  have hok' : ∀ q m, markAt J q = some m → pathOk q = true := fun q m h => by
    obtain ⟨h1, rfl⟩ := markAt_some h
    exact hok m h1
  rw [Bool.eq_iff_iff]
  constructor
  · intro h
    unfold bare at h ⊢
    rw [List.any_eq_true] at h ⊢
    obtain ⟨y, hy, h1⟩ := h
    simp only [Bool.and_eq_true, decide_eq_true_eq] at h1
    obtain ⟨z, hz, h2⟩ := List.mem_filterMap.1 hy
    have hzy : z = y := by
      unfold tidyF at h2
      split at h2
      · split at h2
        · cases h2
        · split at h2
          · cases h2
            simp at h1
          · cases h2; rfl
      · cases h2; rfl
    subst hzy
    exact ⟨z, List.mem_of_mem_take hz, by simp [h1.1, h1.2]⟩
  · intro h
    obtain ⟨q, m, h1, h2, h3⟩ := (bare_at (sorted_nodup hs)).1 h
    obtain ⟨q, m, h1, h2, h3, h4⟩ := bare_top (sorted_nodup hs) hok' q.length (Nat.le_refl _) h1 h2 h3
    obtain ⟨h5, rfl⟩ := markAt_some h1
    obtain ⟨j, hj⟩ := List.mem_iff_getElem?.1 h5
    have hlt : lt m.path x.path = true := under_less h3 (pathOk_ne (hok m h5))
    have hji : j < i := sorted_less hs (i := j) (j := i) (a := m.path) (b := x.path) (by rw [List.getElem?_map, hj]; rfl) (by rw [List.getElem?_map, hx]; rfl) hlt
    have ht : tidyF (bare J) m = some m := by
      unfold tidyF
      rw [if_neg (by rw [h4]; simp)]
    exact List.any_eq_true.2 ⟨m, List.mem_filterMap.2 ⟨m, List.mem_of_getElem? (i := j) (by rw [List.getElem?_take_of_lt hji]; exact hj), ht⟩, by simp [h2, h3]⟩
theorem tidy_dir {x : Mrk} (B : Bs → Bool) (hd : isDirM x = true) : ∃ y, tidyF B x = some y ∧ isDirM y = true := by
  have h3 : x.kind ≠ 3 := by rcases isDirM_iff.1 hd with h | h <;> omega
  unfold tidyF
  by_cases h1 : B x.path = true
  · rw [if_pos h1, if_neg h3]
    by_cases h4 : x.kind = 4
    · rw [if_pos h4]; exact ⟨_, rfl, rfl⟩
    · rw [if_neg h4]; exact ⟨_, rfl, hd⟩
  · rw [if_neg h1]; exact ⟨_, rfl, hd⟩
section
variable {a b : List Mrk} (ha : layerOk a = true) (hb : layerOk b = true)
include ha hb
theorem raw_some {q : Bs} {x : Mrk} (h : rawAt a b q = some x) : pathOk q = true ∧ markOk x = true ∧ x.path = q := by
  unfold rawAt at h
  cases hm : markAt a q with
  | some m =>
    rw [hm] at h
    cases h
    obtain ⟨h1, h2, h3, _⟩ := mark_at ha hm
    obtain ⟨k1, k2, k3, k4⟩ := markOk_parts h1
    refine ⟨h3, ?_, h2⟩
    unfold onK bothK
    split
    · rename_i hc
      exact markOk_mk (by simp) k2 k3 fun _ => k4 (by omega)
    · exact h1
  | none =>
    rw [hm] at h
    simp only at h
    split at h
    · cases h
    · obtain ⟨h1, h2, h3, _⟩ := mark_at hb h
      exact ⟨h3, h1, h2⟩
theorem join_top {p : Bs} (h : bare (joinR a b) p = true) : ∃ q m, markAt (joinL a b) q = some m ∧ m.kind = 4 ∧ under p q = true := by
  have hsa := layer_srt ha
  have hsb := layer_srt hb
  have hn := sorted_nodup (joinR_sorted (a := a) (b := b))
  have hok : ∀ q m, markAt (joinR a b) q = some m → pathOk q = true := fun q m hm => by
    rw [joinR_at hsa hsb] at hm
    exact (raw_some ha hb hm).1
  obtain ⟨q, m, h1, h2, h3⟩ := (bare_at hn).1 h
  obtain ⟨q, m, h1, h2, h3, h4⟩ := bare_top hn hok q.length (Nat.le_refl _) h1 h2 h3
  refine ⟨q, m, ?_, h2, h3⟩
  rw [joinL_at hsa hsb, ← joinR_at hsa hsb, h1, Option.bind_some, tidyF]
  obtain ⟨_, rfl⟩ := markAt_some h1
  rw [h4]
  simp
theorem join_hides_of {p q : Bs} {x : Mrk} (hx : rawAt a b q = some x) (hk : x.kind ≠ 2) (hi : inP p q = true) : hides (joinL a b) p = true := by
  have hsa := layer_srt ha
  have hsb := layer_srt hb
  obtain ⟨hq, hm, hp⟩ := raw_some ha hb hx
  rw [hides_at joinL_sorted]
  cases hB : bare (joinR a b) q with
  | false =>
    refine ⟨q, x, ?_, hk, hi⟩
    rw [joinL_at hsa hsb, hx, Option.bind_some, tidyF, hp, hB]
    simp
  | true =>
    obtain ⟨z, m, h1, h2, h3⟩ := join_top ha hb hB
    have hz : pathOk z = true := by
      rw [joinL_at hsa hsb] at h1
      cases hr : rawAt a b z with
      | none => rw [hr] at h1; cases h1
      | some y => exact (raw_some ha hb hr).1
    refine ⟨z, m, h1, by omega, inP_iff.2 (.inr ?_)⟩
    rcases inP_iff.1 hi with rfl | h
    · exact h3
    · exact under_trans hq hz h (.inr h3)
theorem join_hides (p : Bs) : hides (joinL a b) p = (hides a p || hides b p) := by
  have hsa := layer_srt ha
  have hsb := layer_srt hb
  rw [Bool.eq_iff_iff, Bool.or_eq_true]
  constructor
  · intro h
    obtain ⟨q, m, h1, h2, h3⟩ := (hides_at joinL_sorted).1 h
    rw [joinL_at hsa hsb] at h1
    cases hr : rawAt a b q with
    | none => rw [hr] at h1; cases h1
    | some x =>
      rw [hr, Option.bind_some] at h1
      have hk : x.kind ≠ 2 := by
        unfold tidyF at h1
        split at h1
        · split at h1
          · cases h1
          · split at h1
            · cases h1; simp at h2
            · cases h1; exact h2
        · cases h1; exact h2
      unfold rawAt at hr
      cases hm : markAt a q with
      | some y =>
        rw [hm] at hr
        cases hr
        by_cases hy : y.kind = 2
        · right
          rw [hides_at hsb]
          have hyp := (markAt_some hm).2
          have hkb : kindAt b q ≠ 0 ∧ kindAt b q ≠ 2 := by
            apply Decidable.byContradiction
            intro hc
            apply hk
            unfold onK bothK
            simp only
            rw [hyp, if_neg fun h => hc h.2, hy]
          cases hmb : markAt b q with
          | none => exact absurd ((kindAt_ne hb).2 hmb) hkb.1
          | some z =>
            have : kindAt b q = z.kind := by rw [kindAt, hmb]
            exact ⟨q, z, hmb, by rw [← this]; exact hkb.2, h3⟩
        · left
          rw [hides_at hsa]
          exact ⟨q, y, hm, hy, h3⟩
      | none =>
        rw [hm] at hr
        simp only at hr
        split at hr
        · cases hr
        · right
          rw [hides_at hsb]
          exact ⟨q, x, hr, hk, h3⟩
  · intro h
    have hA : hides a p = true → hides (joinL a b) p = true := by
      intro h
      obtain ⟨q, m, h1, h2, h3⟩ := (hides_at hsa).1 h
      refine join_hides_of ha hb (q := q) (x := onK b m) (by rw [rawAt, h1]) ?_ h3
      unfold onK bothK
      simp only
      rw [if_neg fun h => h2 h.1]
      exact h2
    by_cases hh : hides a p = true
    · exact hA hh
    · have h := h.resolve_left hh
      obtain ⟨q, m, h1, h2, h3⟩ := (hides_at hsb).1 h
      have hq := (mark_at hb h1).2.2.1
      cases hm : markAt a q with
      | some y =>
        have hy : y.kind = 2 := by
          apply Decidable.byContradiction
          intro hy
          exact hh ((hides_at hsa).2 ⟨q, y, hm, hy, h3⟩)
        refine join_hides_of ha hb (q := q) (x := onK b y) (by rw [rawAt, hm]) ?_ h3
        have hyp := (markAt_some hm).2
        have hkb : kindAt b q = m.kind := by rw [kindAt, h1]
        have hk0 : kindAt b q ≠ 0 := fun h => by
          rw [(kindAt_ne hb).1 h] at h1
          cases h1
        unfold onK bothK
        simp only
        rw [hyp, if_pos ⟨hy, hk0, by rw [hkb]; exact h2⟩]
        decide
      | none =>
        have hna : hides a q = false := by
          rw [← Bool.not_eq_true]
          intro h4
          apply hh
          rcases inP_iff.1 h3 with h5 | h5
          · rw [h5]; exact h4
          · exact hides_down ha hq h5 h4
        refine join_hides_of ha hb (q := q) (x := m) (by rw [rawAt, hm]; simp [hna, h1]) h2 h3
theorem join_on (t : List Ent) (p : Bs) : onAt (joinL a b) t p = match markAt a p with
    | some m => markEnt m
    | none => if hides a p then none else onAt b t p := by
  have hsa := layer_srt ha
  have hsb := layer_srt hb
  have hJ := joinL_at hsa hsb p
  have hH := join_hides ha hb p
  have tidy : ∀ x : Mrk, rawAt a b p = some x → markOk x = true → x.path = p → (x.kind ≠ 2 → (hides a p || hides b p) = true) → onAt (joinL a b) t p = markEnt x := by
    intro x hx hm hp hk
    unfold onAt
    rw [hJ, hx, Option.bind_some, tidyF, hp]
    by_cases hB : bare (joinR a b) p = true
    · rw [if_pos hB]
      by_cases h3 : x.kind = 3
      · rw [if_pos h3]
        simp only
        rw [hH, hk (by omega), if_pos rfl, markEnt, if_pos h3]
      · rw [if_neg h3]
        by_cases h4 : x.kind = 4
        · rw [if_pos h4]
          simp only
          rw [markEnt_dir (d := ⟨p, 2, x.data⟩) rfl, markEnt_dir (isDirM_iff.2 (.inr h4)), hp]
        · rw [if_neg h4]
    · rw [if_neg hB]
  cases hm : markAt a p with
  | some m =>
    simp only
    have hr : rawAt a b p = some (onK b m) := by rw [rawAt, hm]
    obtain ⟨g1, g2, g3⟩ := raw_some ha hb hr
    rw [tidy _ hr g2 g3]
    · unfold onK bothK markEnt
      simp only
      split
      · rename_i hc
        simp [hc.1, isDirM]
      · rfl
    · intro hk
      rw [Bool.or_eq_true]
      by_cases h2 : m.kind = 2
      · right
        rw [hides_at hsb]
        have hyp := (markAt_some hm).2
        have hkb : kindAt b p ≠ 0 ∧ kindAt b p ≠ 2 := by
          apply Decidable.byContradiction
          intro hc
          apply hk
          unfold onK bothK
          simp only
          rw [hyp, if_neg fun h => hc h.2, h2]
        cases hmb : markAt b p with
        | none => exact absurd ((kindAt_ne hb).2 hmb) hkb.1
        | some z =>
          have : kindAt b p = z.kind := by rw [kindAt, hmb]
          exact ⟨p, z, hmb, by rw [← this]; exact hkb.2, inP_iff.2 (.inl rfl)⟩
      · left
        rw [hides_at hsa]
        exact ⟨p, m, hm, h2, inP_iff.2 (.inl rfl)⟩
  | none =>
    simp only
    cases hh : hides a p with
    | true =>
      have hr : rawAt a b p = none := by rw [rawAt, hm]; simp [hh]
      rw [hr, Option.bind_none] at hJ
      unfold onAt
      rw [hJ]
      simp only
      rw [hH, hh]
      rfl
    | false =>
      have hr : rawAt a b p = markAt b p := by rw [rawAt, hm]; simp [hh]
      simp only [Bool.false_eq_true, if_false]
      cases hmb : markAt b p with
      | some m =>
        rw [hmb] at hr
        obtain ⟨g1, g2, g3⟩ := raw_some ha hb hr
        rw [tidy _ hr g2 g3]
        · unfold onAt
          rw [hmb]
        · intro hk
          rw [Bool.or_eq_true]
          right
          rw [hides_at hsb]
          exact ⟨p, m, hmb, hk, inP_iff.2 (.inl rfl)⟩
      | none =>
        rw [hmb] at hr
        rw [hr, Option.bind_none] at hJ
        unfold onAt
        rw [hJ, hmb]
        simp only
        rw [hH, hh, Bool.false_or]
theorem join_ok (hn : (joinL a b).length ≤ 32) : layerOk (joinL a b) = true := by
  have hsa := layer_srt ha
  have hsb := layer_srt hb
  refine layerOk_iff.2 ⟨hn, joinL_sorted, fun y hy => ?_⟩
  have hy2 := markAt_self joinL_sorted hy
  rw [joinL_at hsa hsb] at hy2
  cases hr : rawAt a b y.path with
  | none => rw [hr] at hy2; cases hy2
  | some x =>
    rw [hr, Option.bind_some] at hy2
    obtain ⟨g1, g2, g3⟩ := raw_some ha hb hr
    obtain ⟨k1, k2, k3, k4⟩ := markOk_parts g2
    refine ⟨?_, ?_, ?_⟩
    · unfold tidyF at hy2
      split at hy2
      · split at hy2
        · cases hy2
        · split at hy2
          · rename_i h4
            cases hy2
            exact markOk_mk (by simp) k2 k3 fun _ => k4 (by omega)
          · cases hy2; exact g2
      · cases hy2; exact g2
    · by_cases hu : pathUp y.path = [47]
      · exact .inl hu
      · right
        obtain ⟨u1, u2⟩ := up_of_ne g1 hu
        have key : ∃ d, rawAt a b (pathUp y.path) = some d ∧ isDirM d = true := by
          unfold rawAt at hr ⊢
          cases hm : markAt a y.path with
          | some m =>
            obtain ⟨d, d1, d2⟩ := (mark_at ha hm).2.2.2.1.resolve_left hu
            rw [d1]
            refine ⟨_, rfl, ?_⟩
            unfold onK bothK isDirM
            simp only
            split
            · simp
            · exact d2
          | none =>
            rw [hm] at hr
            simp only at hr
            split at hr
            · cases hr
            · rename_i hh
              obtain ⟨d, d1, d2⟩ := (mark_at hb hr).2.2.2.1.resolve_left hu
              cases hmu : markAt a (pathUp y.path) with
              | some e =>
                have he : e.kind = 2 := by
                  apply Decidable.byContradiction
                  intro he
                  exact hh ((hides_at hsa).2 ⟨_, e, hmu, he, inP_iff.2 (.inr u2)⟩)
                refine ⟨_, rfl, ?_⟩
                unfold onK bothK isDirM
                simp only
                split
                · simp
                · simp [he]
              | none =>
                have : hides a (pathUp y.path) = false := by
                  rw [← Bool.not_eq_true]
                  intro h5
                  exact hh (hides_down ha u1 u2 h5)
                simp only [this]
                exact ⟨d, by simpa using d1, d2⟩
        obtain ⟨d, d1, d2⟩ := key
        obtain ⟨z, z1, z2⟩ := tidy_dir (bare (joinR a b)) d2
        exact ⟨z, by rw [joinL_at hsa hsb, d1, Option.bind_some, z1], z2⟩
    · intro hk
      rw [← Bool.not_eq_true]
      intro hbr
      obtain ⟨q, m, h1, h2, h3⟩ := (bare_at (sorted_nodup joinL_sorted)).1 hbr
      have hB : bare (joinR a b) y.path = true := by
        rw [bare_at (sorted_nodup joinR_sorted)]
        rw [joinL_at hsa hsb] at h1
        cases hq : rawAt a b q with
        | none => rw [hq] at h1; cases h1
        | some z =>
          rw [hq, Option.bind_some] at h1
          refine ⟨q, z, by rw [joinR_at hsa hsb]; exact hq, ?_, h3⟩
          unfold tidyF at h1
          split at h1
          · split at h1
            · cases h1
            · split at h1
              · cases h1; simp at h2
              · cases h1; exact h2
          · cases h1; exact h2
      unfold tidyF at hy2
      rw [g3, if_pos hB] at hy2
      split at hy2
      · cases hy2
      · split at hy2
        · rename_i h4
          have : y.kind = 2 := by rw [← Option.some.inj hy2]
          omega
        · rename_i h5 h6
          have : y.kind = x.kind := by rw [← Option.some.inj hy2]
          omega
end
theorem layerJoin_some {a b j : List Mrk} (h : layerJoin a b = some j) : layerOk a = true ∧ layerOk b = true ∧ j = joinL a b ∧ layerOk j = true := by
  unfold layerJoin at h
  split at h
  · rename_i hc
    cases h
    exact ⟨hc.1, hc.2.1, rfl, join_ok hc.1 hc.2.1 hc.2.2⟩
  · cases h
theorem layerJoin_on {a b j : List Mrk} {t u v : List Ent} (h : layerJoin a b = some j) (hu : layerOn b t = some u) (hv : layerOn a u = some v) : layerOn j t = some v := by
  obtain ⟨h1, h2, rfl, h4⟩ := layerJoin_some h
  obtain ⟨g1, g2, g3, g4⟩ := layerOn_some hu
  obtain ⟨k1, k2, k3, k4⟩ := layerOn_some hv
  refine layerOn_of h4 g2 k3 fun p => ?_
  rw [join_on h1 h2, k4]
  unfold onAt
  cases hm : markAt a p with
  | some m => rfl
  | none =>
    simp only
    rw [g4]
    rfl
end Go.Par
