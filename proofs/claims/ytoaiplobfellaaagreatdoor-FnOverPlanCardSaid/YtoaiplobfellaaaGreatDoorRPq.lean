/- What is done to right trees, path by path: in plain Lean. -/
import Derived.Test.YtoaiplobfellaaaGreatDoorRPl
set_option linter.unusedSimpArgs false
set_option linter.unusedVariables false
namespace Go.Par
open Go.Ab
theorem under_ex {s d : Bs} (hd : d ≠ [47]) : under s d = true ↔ ∃ r, s = d ++ 47 :: r := by
  simp only [under, hd, decide_false, Bool.false_or, Bool.and_eq_true, decide_eq_true_eq]
  constructor
  · rintro ⟨⟨h1, h2⟩, h3⟩
    refine ⟨s.drop (d.length + 1), ?_⟩
    have h4 := List.drop_eq_getElem_cons h1
    rw [List.getElem?_eq_getElem h1] at h3
    rw [Option.some.inj h3] at h4
    conv => lhs; rw [← List.take_append_drop d.length s, h2, h4]
  · rintro ⟨r, rfl⟩
    simp
theorem path_up {s : Bs} (h : pathOk s = true) : ∃ u n, s = u ++ 47 :: n ∧ 47 ∉ n ∧ ((u = [] ∧ pathUp s = [47]) ∨ (pathOk u = true ∧ pathUp s = u)) := by
  obtain ⟨w, a, h1, hw, ha, hl, rfl⟩ := path_split h
  refine ⟨_, _, rfl, (name_free ha).1, ?_⟩
  rw [pathUp_split hw ha hl]
  by_cases hn : w = []
  · subst hn; exact .inl ⟨rfl, rfl⟩
  · rw [if_neg hn]
    exact .inr ⟨pathOk_of hw (List.length_pos_iff.2 hn) (by omega), rfl⟩
theorem cut_one {u n a r : Bs} (hn : 47 ∉ n) (h : u ++ 47 :: n = a ++ 47 :: r) : a = u ∨ ∃ c, u = a ++ 47 :: c := by
  rcases List.append_eq_append_iff.1 h with ⟨c, h1, h2⟩ | ⟨c, h1, h2⟩
  · match c, h1, h2 with
    | [], h1, h2 => left; simpa using h1
    | x :: c, h1, h2 =>
      exfalso
      simp only [List.cons_append, List.cons.injEq] at h2
      apply hn
      rw [h2.2]
      simp
  · match c, h1, h2 with
    | [], h1, h2 => left; simpa using h1.symm
    | x :: c, h1, h2 =>
      right
      simp only [List.cons_append, List.cons.injEq] at h2
      exact ⟨c, by rw [h1, ← h2.1]⟩
theorem not_under_root {a : Bs} (ha : pathOk a = true) : under [47] a = false := by
  rw [← Bool.not_eq_true, under_ex (pathOk_ne ha)]
  rintro ⟨r, h⟩
  cases a with
  | nil => rw [path_empty] at ha; cases ha
  | cons x a => simp at h
theorem under_up {s a : Bs} (hs : pathOk s = true) (ha : pathOk a = true) (h : under s a = true) : pathOk (pathUp s) = true ∧ (pathUp s = a ∨ under (pathUp s) a = true) := by
  obtain ⟨u, n, h1, hn, hu⟩ := path_up hs
  obtain ⟨r, h2⟩ := (under_ex (pathOk_ne ha)).1 h
  rcases cut_one hn (h1.symm.trans h2) with h3 | ⟨c, h3⟩
  · rcases hu with ⟨hu, _⟩ | ⟨hu, hp⟩
    · rw [h3, hu, path_empty] at ha; cases ha
    · exact ⟨by rw [hp]; exact hu, .inl (by rw [hp, h3])⟩
  · rcases hu with ⟨hu, _⟩ | ⟨hu, hp⟩
    · rw [hu] at h3; simp at h3
    · exact ⟨by rw [hp]; exact hu, .inr (by rw [hp]; exact (under_ex (pathOk_ne ha)).2 ⟨c, h3⟩)⟩
theorem up_under {s a : Bs} (hs : pathOk s = true) (ha : pathOk a = true) (h : pathUp s = a ∨ under (pathUp s) a = true) : under s a = true := by
  obtain ⟨u, n, h1, hn, hu⟩ := path_up hs
  rcases hu with ⟨hu, hp⟩ | ⟨hu, hp⟩
  · exfalso
    rw [hp] at h
    rcases h with h | h
    · rw [← h, path_root] at ha; cases ha
    · rw [not_under_root ha] at h; cases h
  · rw [hp] at h
    rw [under_ex (pathOk_ne ha)]
    rcases h with h | h
    · exact ⟨n, by rw [h1, h]⟩
    · obtain ⟨r, h2⟩ := (under_ex (pathOk_ne ha)).1 h
      exact ⟨r ++ 47 :: n, by rw [h1, h2]; simp⟩
theorem up_of {x n : Bs} (h : pathOk (x ++ 47 :: n) = true) (hn : 47 ∉ n) (hx : x ≠ []) : pathUp (x ++ 47 :: n) = x := by
  obtain ⟨u, k, h1, hk, hu⟩ := path_up h
  have hux : u = x := by
    rcases cut_one hn h1 with h2 | ⟨c, h2⟩
    · exact h2
    · exfalso
      rw [h2] at h1
      simp only [List.append_assoc, List.cons_append, List.append_cancel_left_eq, List.cons.injEq] at h1
      apply hk
      rw [← h1.2]
      simp
  rcases hu with ⟨h2, _⟩ | ⟨_, h2⟩
  · exact absurd (hux.symm.trans h2) hx
  · rw [h2, hux]
theorem under_lt {s a : Bs} (ha : pathOk a = true) (h : under s a = true) : a.length < s.length := (under_len h (pathOk_ne ha)).1
theorem under_trans {s a b : Bs} (ha : pathOk a = true) (hb : pathOk b = true) (h1 : under s a = true) (h2 : a = b ∨ under a b = true) : under s b = true := by
  obtain ⟨r, rfl⟩ := (under_ex (pathOk_ne ha)).1 h1
  rcases h2 with rfl | h2
  · exact h1
  · obtain ⟨q, rfl⟩ := (under_ex (pathOk_ne hb)).1 h2
    exact (under_ex (pathOk_ne hb)).2 ⟨q ++ 47 :: r, by simp⟩
/-- at it or below it -/
def inP (s a : Bs) : Bool := decide (s = a) || under s a
theorem inP_iff {s a : Bs} : inP s a = true ↔ s = a ∨ under s a = true := by simp [inP]
theorem inP_ex {s a : Bs} (ha : pathOk a = true) : inP s a = true ↔ ∃ x, s = a ++ x ∧ (x = [] ∨ ∃ r, x = 47 :: r) := by
  rw [inP_iff, under_ex (pathOk_ne ha)]
  constructor
  · rintro (rfl | ⟨r, rfl⟩)
    · exact ⟨[], by simp, .inl rfl⟩
    · exact ⟨_, rfl, .inr ⟨r, rfl⟩⟩
  · rintro ⟨x, rfl, rfl | ⟨r, rfl⟩⟩
    · left; simp
    · exact .inr ⟨r, rfl⟩
def mvP (a b s : Bs) : Bs := if inP s a then b ++ s.drop a.length else s
theorem mvP_in {a b s : Bs} (h : inP s a = true) : mvP a b s = b ++ s.drop a.length := by rw [mvP, if_pos h]
theorem mvP_out {a b s : Bs} (h : inP s a = false) : mvP a b s = s := by rw [mvP, h]; rfl
theorem mvP_app {a b x : Bs} (ha : pathOk a = true) (hx : x = [] ∨ ∃ r, x = 47 :: r) : inP (a ++ x) a = true ∧ mvP a b (a ++ x) = b ++ x := by
  have h : inP (a ++ x) a = true := (inP_ex ha).2 ⟨x, rfl, hx⟩
  exact ⟨h, by rw [mvP_in h]; simp⟩
theorem pathMove_mv {s a b : Bs} (hs : pathOk s = true) (ha : pathOk a = true) (hb : pathOk b = true) : pathMove s a b = if pathOk (mvP a b s) = true then some (mvP a b s) else none := by
  unfold pathMove
  rw [hs, ha, hb]
  simp only [Bool.and_self, if_true]
  cases h : inP s a with
  | true =>
    have h2 := h
    rw [inP_iff] at h2
    rw [mvP_in h, if_neg]
    rintro ⟨h3, h4⟩
    rcases h2 with h2 | h2
    · exact h3 h2
    · rw [h2] at h4; cases h4
  | false =>
    have h2 : ¬ inP s a = true := by rw [h]; simp
    rw [inP_iff] at h2
    rw [mvP_out h, if_pos hs, if_pos ⟨fun e => h2 (.inl e), by rw [← Bool.not_eq_true]; exact fun e => h2 (.inr e)⟩]
theorem inP_up {s a : Bs} (hs : pathOk s = true) (ha : pathOk a = true) (hne : s ≠ a) : inP (pathUp s) a = inP s a := by
  rw [Bool.eq_iff_iff, inP_iff, inP_iff]
  constructor
  · intro h; exact .inr (up_under hs ha h)
  · rintro (h | h)
    · exact absurd h hne
    · exact (under_up hs ha h).2
theorem mvP_up {s a b : Bs} (hs : pathOk s = true) (ha : pathOk a = true) (hb : pathOk b = true) (h : under s a = true) (ho : pathOk (mvP a b s) = true) : pathUp (mvP a b s) = mvP a b (pathUp s) := by
  obtain ⟨hu, h2⟩ := under_up hs ha h
  obtain ⟨u, n, h1, hn, h3⟩ := path_up hs
  have hus : pathUp s = u := by
    rcases h3 with ⟨_, h3⟩ | ⟨_, h3⟩
    · rw [h3, path_root] at hu; cases hu
    · exact h3
  rw [hus] at h2 ⊢
  obtain ⟨x, hx1, hx2⟩ := (inP_ex ha).1 (inP_iff.2 h2)
  have e1 : mvP a b u = b ++ x := by rw [hx1]; exact (mvP_app ha hx2).2
  have e2 : mvP a b s = (b ++ x) ++ 47 :: n := by
    rw [mvP_in (inP_iff.2 (.inr h)), h1, hx1]
    simp
  rw [e2] at ho ⊢
  rw [e1]
  refine up_of ho hn ?_
  intro e
  have hb2 : b = [] := (List.append_eq_nil_iff.1 e).1
  rw [hb2, path_empty] at hb
  cases hb
theorem tree_mem {t : List Ent} (h : treeOk t = true) {e : Ent} (he : e ∈ t) : entOk e = true ∧ pathOk e.path = true ∧ (pathUp e.path = [47] ∨ ∃ d, entAt t (pathUp e.path) = some d ∧ d.dir = true) := by
  obtain ⟨_, _, h3⟩ := treeOk_iff.1 h
  obtain ⟨h4, h5⟩ := h3 e he
  refine ⟨h4, ?_, upCode_zero.1 h5⟩
  simp only [entOk, Bool.and_eq_true] at h4
  exact h4.1.1
theorem tree_at {t : List Ent} (h : treeOk t = true) {p : Bs} {e : Ent} (he : entAt t p = some e) : entOk e = true ∧ e.path = p ∧ pathOk p = true ∧ (pathUp p = [47] ∨ ∃ d, entAt t (pathUp p) = some d ∧ d.dir = true) := by
  obtain ⟨h1, rfl⟩ := entAt_some he
  obtain ⟨h2, h3, h4⟩ := tree_mem h h1
  exact ⟨h2, rfl, h3, h4⟩
theorem under_in {t : List Ent} (h : treeOk t = true) {a : Bs} (ha : pathOk a = true) : ∀ (n : Nat) {p : Bs} {e : Ent}, p.length ≤ n → entAt t p = some e → under p a = true → ∃ d, entAt t a = some d ∧ d.dir = true
  | 0, p, e, hn, he, hu => by
    have := under_lt ha hu
    omega
  | n + 1, p, e, hn, he, hu => by
    obtain ⟨h2, h3, h4, h5⟩ := tree_at h he
    obtain ⟨g1, g2⟩ := under_up h4 ha hu
    have hne : pathUp p ≠ [47] := pathOk_ne g1
    obtain ⟨d, hd1, hd2⟩ := h5.resolve_left hne
    rcases g2 with g2 | g2
    · exact ⟨d, by rw [← g2]; exact hd1, hd2⟩
    · have := pathUp_short h4 hne
      exact under_in h ha n (by omega) hd1 g2
theorem kid_in {t : List Ent} (h : treeOk t = true) {a : Bs} (ha : pathOk a = true) : ∀ (n : Nat) {p : Bs} {e : Ent}, p.length ≤ n → entAt t p = some e → under p a = true → ∃ k ∈ t, pathUp k.path = a
  | 0, p, e, hn, he, hu => by
    have := under_lt ha hu
    omega
  | n + 1, p, e, hn, he, hu => by
    obtain ⟨h2, h3, h4, h5⟩ := tree_at h he
    obtain ⟨g1, g2⟩ := under_up h4 ha hu
    have hne : pathUp p ≠ [47] := pathOk_ne g1
    rcases g2 with g2 | g2
    · exact ⟨e, (entAt_some he).1, by rw [h3]; exact g2⟩
    · obtain ⟨d, hd1, hd2⟩ := h5.resolve_left hne
      have := pathUp_short h4 hne
      exact kid_in h ha n (by omega) hd1 g2
theorem kids_none {t : List Ent} {p : Bs} : kids t p = [] ↔ ∀ e ∈ t, pathUp e.path ≠ p := by
  unfold kids
  rw [List.map_eq_nil_iff, List.filter_eq_nil_iff]
  simp
theorem no_below {t : List Ent} (h : treeOk t = true) {p : Bs} (hp : pathOk p = true) (hn : ∀ d, entAt t p = some d → d.dir = false) {q : Bs} (hq : under q p = true) : entAt t q = none := by
  cases he : entAt t q with
  | none => rfl
  | some e =>
    exfalso
    obtain ⟨d, h1, h2⟩ := under_in h hp q.length (Nat.le_refl _) he hq
    rw [hn d h1] at h2
    cases h2
theorem offT_at (t : List Ent) (p q : Bs) : entAt (offT t p) q = if p = q then none else entAt t q := by
  induction t with
  | nil => simp [offT, entAt]
  | cons e t ih =>
    unfold offT at ih ⊢
    rw [List.filter_cons]
    by_cases hp : e.path = p
    · rw [if_neg (by simpa using hp), ih, entAt_cons]
      by_cases hq : p = q
      · rw [if_pos hq, if_pos hq]
      · rw [if_neg hq, if_neg hq, if_neg (by rw [hp]; exact hq)]
    · rw [if_pos (by simpa using hp), entAt_cons, ih, entAt_cons]
      by_cases hq : p = q
      · rw [if_pos hq, if_pos hq, if_neg (by rw [← hq]; exact hp)]
      · rw [if_neg hq, if_neg hq]
theorem offT_sorted {t : List Ent} (h : sorted (pathsE t)) (p : Bs) : sorted (pathsE (offT t p)) := by
  unfold offT
  unfold sorted pathsE at h ⊢
  rw [List.pairwise_map] at h ⊢
  exact h.filter _
theorem putAll_at : ∀ {L X : List Ent}, sorted (pathsE X) → (pathsE L).Nodup → ∀ q, entAt (putAll X L) q = (entAt L q).or (entAt X q)
  | [], X, _, _, q => by simp [putAll, entAt]
  | e :: r, X, hs, hn, q => by
    have hn2 := List.nodup_cons.1 hn
    have ih := putAll_at (L := r) (putE_sorted hs e) hn2.2 q
    have : putAll X (e :: r) = putAll (putE X e) r := rfl
    rw [this, ih, putE_at hs, entAt_cons]
    by_cases he : e.path = q
    · rw [if_pos he, if_pos he]
      have : entAt r q = none := entAt_none.2 (by rw [← he]; exact hn2.1)
      rw [this]
      rfl
    · rw [if_neg he, if_neg he]
theorem entAt_map {f : Ent → Ent} {q s : Bs} : ∀ {t : List Ent}, (∀ e ∈ t, (f e).path = q ↔ e.path = s) → entAt (t.map f) q = (entAt t s).map f
  | [], _ => rfl
  | e :: t, h => by
    have ih := entAt_map (t := t) fun x hx => h x (by simp [hx])
    rw [List.map_cons, entAt_cons, entAt_cons, ih]
    by_cases he : e.path = s
    · rw [if_pos he, if_pos ((h e (by simp)).2 he)]; rfl
    · rw [if_neg he, if_neg fun hq => he ((h e (by simp)).1 hq)]
theorem entAt_map_none {f : Ent → Ent} {q : Bs} {t : List Ent} (h : ∀ e ∈ t, (f e).path ≠ q) : entAt (t.map f) q = none := by
  refine entAt_none.2 fun hm => ?_
  obtain ⟨x, hx, hq⟩ := List.mem_map.1 hm
  obtain ⟨e, he, rfl⟩ := List.mem_map.1 hx
  exact h e he hq
theorem treeOk_of {t : List Ent} (hl : t.length ≤ 16) (hs : sorted (pathsE t)) (h : ∀ p e, entAt t p = some e → entOk e = true ∧ (pathUp p = [47] ∨ ∃ d, entAt t (pathUp p) = some d ∧ d.dir = true)) : treeOk t = true := by
  refine treeOk_iff.2 ⟨hl, hs, fun e he => ?_⟩
  have h1 := h e.path e (entAt_self hs he)
  exact ⟨h1.1, upCode_zero.2 h1.2⟩
theorem tree_ext {t u : List Ent} (h1 : treeOk t = true) (h2 : treeOk u = true) (h : ∀ p, entAt t p = entAt u p) : t = u := ent_ext (treeOk_srt h1) (treeOk_srt h2) h
theorem putE_len_in : ∀ {t : List Ent} {e : Ent}, e.path ∈ pathsE t → sorted (pathsE t) → (putE t e).length = t.length
  | [], _, h, _ => by simp at h
  | x :: r, e, h, hs => by
    unfold putE
    by_cases h1 : lt x.path e.path = true
    · rw [if_pos h1]
      have hm : e.path ∈ pathsE r := by
        rcases List.mem_cons.1 h with h | h
        · rw [h, lt_irrefl] at h1; cases h1
        · exact h
      simp [putE_len_in hm (sorted_tail hs)]
    · rw [if_neg h1]
      by_cases h2 : x.path = e.path
      · rw [if_pos h2]; simp
      · exfalso
        rcases List.mem_cons.1 h with h | h
        · exact h2 h.symm
        · exact h1 (sorted_head hs e.path h)
end Go.Par
