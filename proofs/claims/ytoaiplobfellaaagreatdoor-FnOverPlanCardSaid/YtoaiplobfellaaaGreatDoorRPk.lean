/- Trees as what is at each path; merges; what differs: in plain Lean. -/
import Derived.Test.YtoaiplobfellaaaGreatDoorRX3
set_option linter.unusedSimpArgs false
set_option linter.unusedVariables false
namespace Go.Par
open Go.Ab
theorem sorted_tail {a : Bs} {w : List Bs} (h : sorted (a :: w)) : sorted w := (List.pairwise_cons.1 h).2
theorem sorted_head {a : Bs} {w : List Bs} (h : sorted (a :: w)) : ∀ b ∈ w, lt a b = true := (List.pairwise_cons.1 h).1
theorem sorted_not {a : Bs} {w : List Bs} (h : sorted (a :: w)) : a ∉ w := fun hm => lt_ne (sorted_head h a hm) rfl
theorem sorted_nodup : ∀ {w : List Bs}, sorted w → w.Nodup
  | [], _ => .nil
  | a :: w, h => List.nodup_cons.2 ⟨sorted_not h, sorted_nodup (sorted_tail h)⟩
theorem sorted_ext : ∀ {w v : List Bs}, sorted w → sorted v → (∀ p, p ∈ w ↔ p ∈ v) → w = v
  | [], [], _, _, _ => rfl
  | [], b :: v, _, _, h => absurd ((h b).2 (by simp)) (by simp)
  | a :: w, [], _, _, h => absurd ((h a).1 (by simp)) (by simp)
  | a :: w, b :: v, hw, hv, h => by
    have hab : a = b := by
      have h1 := (h a).1 (by simp)
      have h2 := (h b).2 (by simp)
      rcases List.mem_cons.1 h1 with h1 | h1
      · exact h1
      · rcases List.mem_cons.1 h2 with h2 | h2
        · exact h2.symm
        · have g1 := sorted_head hv a h1
          have g2 := sorted_head hw b h2
          rw [lt_asymm _ _ g2] at g1
          cases g1
    subst hab
    congr 1
    refine sorted_ext (sorted_tail hw) (sorted_tail hv) fun p => ?_
    have := h p
    simp only [List.mem_cons] at this
    by_cases hp : p = a
    · subst hp
      exact ⟨fun h => absurd h (sorted_not hw), fun h => absurd h (sorted_not hv)⟩
    · simpa [hp] using this
theorem sorted_filter {w : List Bs} (h : sorted w) (p : Bs → Bool) : sorted (w.filter p) := List.Pairwise.filter p h
abbrev pathsE (t : List Ent) : List Bs := t.map (·.path)
theorem entAt_cons (e : Ent) (t : List Ent) (p : Bs) : entAt (e :: t) p = if e.path = p then some e else entAt t p := by
  unfold entAt
  rw [List.find?_cons]
  by_cases h : e.path = p <;> simp [h]
theorem entAt_none {t : List Ent} {p : Bs} : entAt t p = none ↔ p ∉ pathsE t := by
  unfold entAt pathsE
  rw [List.find?_eq_none]
  constructor
  · intro h hm
    obtain ⟨e, he, rfl⟩ := List.mem_map.1 hm
    exact absurd (h e he) (by simp)
  · intro h e he hp
    exact h (List.mem_map.2 ⟨e, he, by simpa using hp⟩)
theorem entAt_mem {t : List Ent} {p : Bs} (h : p ∈ pathsE t) : ∃ e, entAt t p = some e := by
  cases he : entAt t p with
  | some e => exact ⟨e, rfl⟩
  | none => exact absurd h (entAt_none.1 he)
theorem entAt_self : ∀ {t : List Ent} {e : Ent}, sorted (pathsE t) → e ∈ t → entAt t e.path = some e
  | x :: t, e, hs, he => by
    rw [entAt_cons]
    rcases List.mem_cons.1 he with rfl | he
    · rw [if_pos rfl]
    · have : x.path ≠ e.path := lt_ne (sorted_head hs _ (List.mem_map.2 ⟨e, he, rfl⟩))
      rw [if_neg this]
      exact entAt_self (sorted_tail hs) he
theorem ent_ext : ∀ {t u : List Ent}, sorted (pathsE t) → sorted (pathsE u) → (∀ p, entAt t p = entAt u p) → t = u
  | [], [], _, _, _ => rfl
  | [], y :: s, _, _, h => by have := h y.path; rw [entAt_cons, if_pos rfl] at this; cases this
  | x :: r, [], _, _, h => by have := h x.path; rw [entAt_cons, if_pos rfl] at this; cases this
  | x :: r, y :: s, ht, hu, h => by
    have hxy : x.path = y.path := by
      have h1 := h x.path
      have h2 := h y.path
      rw [entAt_cons, if_pos rfl] at h1
      rw [entAt_cons y, if_pos rfl] at h2
      by_cases hp : x.path = y.path
      · exact hp
      · rw [entAt_cons, if_neg (Ne.symm hp)] at h1
        rw [entAt_cons, if_neg hp] at h2
        have g1 := entAt_some h1.symm
        have g2 := entAt_some h2
        have k1 := sorted_head hu x.path (List.mem_map.2 ⟨x, g1.1, rfl⟩)
        have k2 := sorted_head ht y.path (List.mem_map.2 ⟨y, g2.1, rfl⟩)
        rw [lt_asymm _ _ k1] at k2
        cases k2
    have hxe : x = y := by
      have h1 := h x.path
      rw [entAt_cons, if_pos rfl, entAt_cons, if_pos hxy.symm] at h1
      exact Option.some.inj h1
    subst hxe
    congr 1
    refine ent_ext (sorted_tail ht) (sorted_tail hu) fun p => ?_
    by_cases hp : x.path = p
    · subst hp
      rw [entAt_none.2 (sorted_not ht), entAt_none.2 (sorted_not hu)]
    · have := h p
      rwa [entAt_cons, if_neg hp, entAt_cons, if_neg hp] at this
theorem upCode_zero {t : List Ent} {p : Bs} : upCode t p = 0 ↔ pathUp p = [47] ∨ ∃ e, entAt t (pathUp p) = some e ∧ e.dir = true := by
  unfold upCode
  by_cases h : pathUp p = [47]
  · simp [h]
  · simp only [h, if_false, false_or]
    cases he : entAt t (pathUp p) with
    | none => simp
    | some e => cases hd : e.dir <;> simp [hd]
theorem prev_sorted {t : List Ent} (h : sorted (pathsE t)) {i : Nat} {e : Ent} (hi : t[i]? = some e) : prevLt t e i = true := by
  unfold prevLt
  match i, hi with
  | 0, _ => rfl
  | j + 1, hi =>
    simp only
    cases hj : t[j]? with
    | none => rfl
    | some e' =>
      simp only
      exact sorted_at (i := j) (j := j + 1) h (by simp [hj]) (by simp [hi]) (by omega)
theorem treeOk_iff {t : List Ent} : treeOk t = true ↔ t.length ≤ 16 ∧ sorted (pathsE t) ∧ ∀ e ∈ t, entOk e = true ∧ upCode t e.path = 0 := by
  constructor
  · intro h
    refine ⟨treeOk_len h, ?_, ?_⟩
    · rw [← treeOkI_eq] at h
      unfold treeOkI at h
      rw [Bool.and_eq_true, all_range] at h
      exact sorted_c fun i hi => okI_c (h.2 i hi)
    · rw [← treeOkI_eq] at h
      unfold treeOkI at h
      rw [Bool.and_eq_true, all_range] at h
      intro e he
      obtain ⟨i, hi⟩ := List.mem_iff_getElem?.1 he
      have := h.2 i (List.getElem?_eq_some_iff.1 hi).1
      simp only [okI, hi, Bool.and_eq_true, decide_eq_true_eq] at this
      exact ⟨this.1.1, this.2⟩
  · rintro ⟨h1, h2, h3⟩
    refine treeOkI_true h1 fun i hi => ?_
    have he : t[i]? = some t[i] := List.getElem?_eq_getElem hi
    have h4 := h3 t[i] (List.getElem_mem hi)
    simp only [okI, he, Bool.and_eq_true, decide_eq_true_eq]
    exact ⟨⟨h4.1, prev_sorted h2 he⟩, h4.2⟩
theorem treeOk_srt {t : List Ent} (h : treeOk t = true) : sorted (pathsE t) := (treeOk_iff.1 h).2.1
theorem treeOk_root {t : List Ent} (h : treeOk t = true) : entAt t [47] = none := by
  rw [entAt_none]
  intro hm
  obtain ⟨e, he, hp⟩ := List.mem_map.1 hm
  have := treeOk_ent h e he
  simp only [entOk, Bool.and_eq_true] at this
  exact pathOk_ne this.1.1 hp
theorem entGet_ne {t : List Ent} {p : Bs} (hp : p ≠ [47]) : entGet t p = entAt t p := if_neg hp
theorem entGet_root (t : List Ent) : entGet t [47] = some rootE := if_pos rfl
theorem putE_at {t : List Ent} (hs : sorted (pathsE t)) (e : Ent) (p : Bs) : entAt (putE t e) p = if e.path = p then some e else entAt t p := by
  induction t with
  | nil => rw [putE, entAt_cons]
  | cons x r ih =>
    have ih := ih (sorted_tail hs)
    unfold putE
    split
    · rename_i hl
      rw [entAt_cons, ih, entAt_cons]
      by_cases h1 : x.path = p
      · have : e.path ≠ p := by rw [← h1]; exact fun h => lt_ne hl h.symm
        rw [if_pos h1, if_neg this, if_pos h1]
      · rw [if_neg h1, if_neg h1]
    · split
      · rename_i hp
        rw [entAt_cons, entAt_cons]
        by_cases h1 : e.path = p
        · rw [if_pos h1, if_pos h1]
        · rw [if_neg h1, if_neg h1, if_neg (by rw [hp]; exact h1)]
      · rw [entAt_cons]
theorem putE_paths {t : List Ent} {e : Ent} {p : Bs} : p ∈ pathsE (putE t e) ↔ p = e.path ∨ p ∈ pathsE t := by
  induction t with
  | nil => simp [putE, pathsE]
  | cons x r ih =>
    unfold putE
    split
    · simp only [pathsE, List.map_cons, List.mem_cons] at ih ⊢
      rw [ih]
      constructor
      · rintro (h | h | h) <;> simp [h]
      · rintro (h | h | h) <;> simp [h]
    · split
      · rename_i hp
        simp only [pathsE, List.map_cons, List.mem_cons, hp]
        constructor
        · rintro (h | h) <;> simp [h]
        · rintro (h | h | h) <;> simp [h]
      · simp [pathsE]
theorem putE_sorted {t : List Ent} (hs : sorted (pathsE t)) (e : Ent) : sorted (pathsE (putE t e)) := by
  induction t with
  | nil => simp [putE, pathsE, sorted]
  | cons x r ih =>
    have ih := ih (sorted_tail hs)
    unfold putE
    split
    · rename_i hl
      refine List.pairwise_cons.2 ⟨fun b hb => ?_, ih⟩
      rcases putE_paths.1 hb with rfl | hb
      · exact hl
      · exact sorted_head hs b hb
    · rename_i hl
      split
      · rename_i hp
        refine List.pairwise_cons.2 ⟨fun b hb => ?_, sorted_tail hs⟩
        show lt e.path b = true
        rw [← hp]
        exact sorted_head hs b hb
      · rename_i hp
        have hlt : lt e.path x.path = true := by
          rcases lt_total e.path x.path with h | h | h
          · exact h
          · exact absurd h.symm hp
          · exact absurd h hl
        refine List.pairwise_cons.2 ⟨fun b hb => ?_, hs⟩
        rcases List.mem_cons.1 hb with rfl | hb
        · exact hlt
        · exact lt_trans _ _ _ hlt (sorted_head hs b hb)
theorem putAll_sorted : ∀ {es t : List Ent}, sorted (pathsE t) → sorted (pathsE (putAll t es))
  | [], t, h => h
  | e :: es, t, h => putAll_sorted (es := es) (putE_sorted h e)
theorem putAll_paths : ∀ {es t : List Ent} {p : Bs}, p ∈ pathsE (putAll t es) ↔ p ∈ pathsE es ∨ p ∈ pathsE t
  | [], t, p => by simp [putAll, pathsE]
  | e :: es, t, p => by
    have := putAll_paths (es := es) (t := putE t e) (p := p)
    rw [putE_paths] at this
    show p ∈ pathsE (putAll (putE t e) es) ↔ _
    rw [this]
    simp only [pathsE, List.map_cons, List.mem_cons]
    constructor
    · rintro (h | h | h) <;> simp [h]
    · rintro ((h | h) | h) <;> simp [h]
/-- what two trees that came of one make of a path -/
def mAt (base a b : List Ent) (p : Bs) : Option (Option Ent) :=
  if entGet a p = entGet base p then some (entGet b p) else if entGet b p = entGet base p ∨ entGet a p = entGet b p then some (entGet a p) else none
def mGet (base a b : List Ent) (p : Bs) : Option Ent := (mAt base a b p).getD none
def allP (base a b : List Ent) : List Bs := pathsE (putAll (putAll base a) b)
def right3 (base a b : List Ent) : Bool := treeOk base && treeOk a && treeOk b
def mergeAt (base a b : List Ent) (p : Bs) : Option (Option Ent) := if right3 base a b then mAt base a b p else none
def clashL (base a b : List Ent) : List Bs := if right3 base a b then (allP base a b).filter fun p => (mAt base a b p).isNone else []
def mOut (base a b : List Ent) : List Ent := (allP base a b).filterMap (mGet base a b)
def mergeL (base a b : List Ent) : Option (List Ent) :=
  if right3 base a b = true ∧ (allP base a b).all (fun p => (mAt base a b p).isSome) = true ∧ treeOk (mOut base a b) = true then some (mOut base a b) else none
def turnedL (a b : List Ent) : List Bs := if treeOk a && treeOk b then (pathsE (putAll a b)).filter fun p => decide (entGet a p ≠ entGet b p) else []
theorem turned_mem {a b : List Ent} (ha : treeOk a = true) (hb : treeOk b = true) {p : Bs} : p ∈ turnedL a b ↔ entAt a p ≠ entAt b p := by
  rw [turnedL, ha, hb]
  simp only [Bool.and_self, if_true, List.mem_filter, decide_eq_true_eq, putAll_paths]
  constructor
  · rintro ⟨h1, h2⟩
    have hp : p ≠ [47] := by
      rintro rfl
      exact h2 (by rw [entGet_root, entGet_root])
    rwa [entGet_ne hp, entGet_ne hp] at h2
  · intro h
    have hp : p ≠ [47] := by
      rintro rfl
      exact h (by rw [treeOk_root ha, treeOk_root hb])
    refine ⟨?_, by rwa [entGet_ne hp, entGet_ne hp]⟩
    by_cases h1 : p ∈ pathsE b
    · exact .inl h1
    · by_cases h2 : p ∈ pathsE a
      · exact .inr h2
      · rw [← entAt_none] at h1 h2
        exact absurd (h2.trans h1.symm) h
theorem turned_sorted {a b : List Ent} : sorted (turnedL a b) := by
  unfold turnedL
  split
  · rename_i h
    rw [Bool.and_eq_true] at h
    exact sorted_filter (putAll_sorted (treeOk_srt h.1)) _
  · exact .nil
/-- as the program finds it: both lists at once -/
def turnW : List Ent → List Ent → List Bs
  | [], b => pathsE b
  | x :: r, [] => pathsE (x :: r)
  | x :: r, y :: s => if lt x.path y.path then x.path :: turnW r (y :: s) else if lt y.path x.path then y.path :: turnW (x :: r) s else if x = y then turnW r s else x.path :: turnW r s
termination_by a b => a.length + b.length
theorem turnW_mem : ∀ (a b : List Ent), sorted (pathsE a) → sorted (pathsE b) → ∀ p, p ∈ turnW a b ↔ entAt a p ≠ entAt b p
  | [], b, _, _, p => by
    rw [turnW]
    constructor
    · intro h
      obtain ⟨e, he⟩ := entAt_mem h
      rw [he]; simp [entAt]
    · intro h
      by_cases hm : p ∈ pathsE b
      · exact hm
      · rw [entAt_none.2 hm] at h; exact absurd rfl h
  | x :: r, [], _, _, p => by
    rw [turnW]
    constructor
    · intro h
      obtain ⟨e, he⟩ := entAt_mem h
      rw [he]; simp [entAt]
    · intro h
      by_cases hm : p ∈ pathsE (x :: r)
      · exact hm
      · rw [entAt_none.2 hm] at h; exact absurd rfl h
  | x :: r, y :: s, ha, hb, p => by
    rw [turnW]
    split
    · rename_i hl
      have ih := turnW_mem r (y :: s) (sorted_tail ha) hb p
      rw [List.mem_cons, ih, entAt_cons x r]
      by_cases hp : p = x.path
      · subst hp
        have hn : entAt (y :: s) x.path = none := by
          rw [entAt_none]
          intro hm
          rcases List.mem_cons.1 hm with hm | hm
          · exact lt_ne hl hm
          · exact lt_ne (lt_trans _ _ _ hl (sorted_head hb _ hm)) rfl
        simp [hn]
      · simp [hp, Ne.symm hp]
    · split
      · rename_i hl' hl
        have ih := turnW_mem (x :: r) s ha (sorted_tail hb) p
        rw [List.mem_cons, ih, entAt_cons y s]
        by_cases hp : p = y.path
        · subst hp
          have hn : entAt (x :: r) y.path = none := by
            rw [entAt_none]
            intro hm
            rcases List.mem_cons.1 hm with hm | hm
            · exact lt_ne hl hm
            · exact lt_ne (lt_trans _ _ _ hl (sorted_head ha _ hm)) rfl
          simp [hn]
        · simp [hp, Ne.symm hp]
      · rename_i h1 h2
        have hxy : x.path = y.path := by
          rcases lt_total x.path y.path with h | h | h
          · exact absurd h h1
          · exact h
          · exact absurd h h2
        have ih := turnW_mem r s (sorted_tail ha) (sorted_tail hb) p
        have e1 : entAt r x.path = none := entAt_none.2 (sorted_not ha)
        have e2 : entAt s y.path = none := entAt_none.2 (sorted_not hb)
        rw [entAt_cons, entAt_cons]
        split
        · rename_i he
          subst he
          rw [ih]
          by_cases hp : x.path = p
          · subst hp
            simp [e1, e2]
          · simp [hp]
        · rename_i he
          rw [List.mem_cons, ih]
          by_cases hp : p = x.path
          · subst hp
            simp [hxy, he]
          · simp [hp, Ne.symm hp, ← hxy]
termination_by a b => a.length + b.length
theorem turnW_sorted : ∀ (a b : List Ent), sorted (pathsE a) → sorted (pathsE b) → sorted (turnW a b)
  | [], b, _, hb => by rw [turnW]; exact hb
  | x :: r, [], ha, _ => by rw [turnW]; exact ha
  | x :: r, y :: s, ha, hb => by
    have key : ∀ {a b : List Ent} {q : Bs}, sorted (pathsE a) → sorted (pathsE b) → (∀ p ∈ pathsE a, lt q p = true) → (∀ p ∈ pathsE b, lt q p = true) → sorted (turnW a b) → sorted (q :: turnW a b) := by
      intro a b q h1 h2 h3 h4 h5
      refine List.pairwise_cons.2 ⟨fun p hp => ?_, h5⟩
      have := (turnW_mem a b h1 h2 p).1 hp
      by_cases hm : p ∈ pathsE a
      · exact h3 p hm
      · by_cases hm2 : p ∈ pathsE b
        · exact h4 p hm2
        · rw [entAt_none.2 hm, entAt_none.2 hm2] at this
          exact absurd rfl this
    rw [turnW]
    split
    · rename_i hl
      refine key (sorted_tail ha) hb (sorted_head ha) (fun p hp => ?_) (turnW_sorted r (y :: s) (sorted_tail ha) hb)
      rcases List.mem_cons.1 hp with rfl | hp
      · exact hl
      · exact lt_trans _ _ _ hl (sorted_head hb _ hp)
    · split
      · rename_i hl' hl
        refine key ha (sorted_tail hb) (fun p hp => ?_) (sorted_head hb) (turnW_sorted (x :: r) s ha (sorted_tail hb))
        rcases List.mem_cons.1 hp with rfl | hp
        · exact hl
        · exact lt_trans _ _ _ hl (sorted_head ha _ hp)
      · rename_i h1 h2
        have hxy : x.path = y.path := by
          rcases lt_total x.path y.path with h | h | h
          · exact absurd h h1
          · exact h
          · exact absurd h h2
        split
        · exact turnW_sorted r s (sorted_tail ha) (sorted_tail hb)
        · exact key (sorted_tail ha) (sorted_tail hb) (sorted_head ha) (fun p hp => by rw [hxy]; exact sorted_head hb p hp) (turnW_sorted r s (sorted_tail ha) (sorted_tail hb))
termination_by a b => a.length + b.length
theorem turnW_eq {a b : List Ent} (ha : treeOk a = true) (hb : treeOk b = true) : turnW a b = turnedL a b :=
  sorted_ext (turnW_sorted a b (treeOk_srt ha) (treeOk_srt hb)) turned_sorted fun p => by rw [turnW_mem a b (treeOk_srt ha) (treeOk_srt hb), turned_mem ha hb]
end Go.Par
