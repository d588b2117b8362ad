/- Texts of this claim, set close: lemmas and contracts. -/
import Derived.Test.YtlicaibhgcenhaaGreatDoorWZY6
set_option linter.unusedSimpArgs false
set_option linter.unusedVariables false
namespace Go.Par
open Go.Ab
theorem sorted_tail {a : Bs} {w : List Bs} (h : sorted (a :: w)) : sorted w := (List.pairwise_cons.1 h).2
theorem sorted_head {a : Bs} {w : List Bs} (h : sorted (a :: w)) : ∀ b ∈ w, lt a b = true := (List.pairwise_cons.1 h).1
theorem sorted_not {a : Bs} {w : List Bs} (h : sorted (a :: w)) : a ∉ w := fun hm => lt_ne (sorted_head h a hm) rfl
theorem sorted_nodup : ∀ {w : List Bs}, sorted w → w.Nodup
 | [], _ => .nil
 | a :: w, h => List.nodup_cons.2 ⟨sorted_not h, sorted_nodup (sorted_tail h)⟩
theorem sorted_ext : ∀ {w v : List Bs}, sorted w → sorted v → (∀ p, p ∈ w ↔ p ∈ v) → w = v
 | [], [], _, _, _ => rfl
 | [], b :: v, _, _, h => absurd ((h b).2 (by simp)) (by simp)
 | a :: w, [], _, _, h => absurd ((h a).1 (by simp)) (by simp)
 | a :: w, b :: v, hw, hv, h => by
   have hab : a = b := by
    have h1 := (h a).1 (by simp)
    have h2 := (h b).2 (by simp)
    rcases List.mem_cons.1 h1 with h1 | h1
    · exact h1
    · rcases List.mem_cons.1 h2 with h2 | h2
      · exact h2.symm
      · have g1 := sorted_head hv a h1
        have g2 := sorted_head hw b h2
        rw [lt_asymm _ _ g2] at g1
        cases g1
   subst hab
   congr 1
   refine sorted_ext (sorted_tail hw) (sorted_tail hv) fun p => ?_
   have := h p
   simp only [List.mem_cons] at this
   by_cases hp : p = a
   · subst hp
     exact ⟨fun h => absurd h (sorted_not hw), fun h => absurd h (sorted_not hv)⟩
   · simpa [hp] using this
theorem sorted_filter {w : List Bs} (h : sorted w) (p : Bs → Bool) : sorted (w.filter p) := List.Pairwise.filter p h
abbrev pathsE (t : List Ent) : List Bs := t.map (·.path)
theorem entAt_cons (e : Ent) (t : List Ent) (p : Bs) : entAt (e :: t) p = if e.path = p then some e else entAt t p := by
 unfold entAt
 rw [List.find?_cons]
 by_cases h : e.path = p <;> simp [h]
theorem entAt_none {t : List Ent} {p : Bs} : entAt t p = none ↔ p ∉ pathsE t := by
 unfold entAt pathsE
 rw [List.find?_eq_none]
 constructor
 · intro h hm
   obtain ⟨e, he, rfl⟩ := List.mem_map.1 hm
   exact absurd (h e he) (by simp)
 · intro h e he hp
   exact h (List.mem_map.2 ⟨e, he, by simpa using hp⟩)
theorem entAt_mem {t : List Ent} {p : Bs} (h : p ∈ pathsE t) : ∃ e, entAt t p = some e := by
 cases he : entAt t p with
 | some e => exact ⟨e, rfl⟩
 | none => exact absurd h (entAt_none.1 he)
theorem entAt_self : ∀ {t : List Ent} {e : Ent}, sorted (pathsE t) → e ∈ t → entAt t e.path = some e
 | x :: t, e, hs, he => by
   rw [entAt_cons]
   rcases List.mem_cons.1 he with rfl | he
   · rw [if_pos rfl]
   · have : x.path ≠ e.path := lt_ne (sorted_head hs _ (List.mem_map.2 ⟨e, he, rfl⟩))
     rw [if_neg this]
     exact entAt_self (sorted_tail hs) he
theorem ent_ext : ∀ {t u : List Ent}, sorted (pathsE t) → sorted (pathsE u) → (∀ p, entAt t p = entAt u p) → t = u
 | [], [], _, _, _ => rfl
 | [], y :: s, _, _, h => by have := h y.path; rw [entAt_cons, if_pos rfl] at this; cases this
 | x :: r, [], _, _, h => by have := h x.path; rw [entAt_cons, if_pos rfl] at this; cases this
 | x :: r, y :: s, ht, hu, h => by
   have hxy : x.path = y.path := by
    have h1 := h x.path
    have h2 := h y.path
    rw [entAt_cons, if_pos rfl] at h1
    rw [entAt_cons y, if_pos rfl] at h2
    by_cases hp : x.path = y.path
    · exact hp
    · rw [entAt_cons, if_neg (Ne.symm hp)] at h1
      rw [entAt_cons, if_neg hp] at h2
      have g1 := entAt_some h1.symm
      have g2 := entAt_some h2
      have k1 := sorted_head hu x.path (List.mem_map.2 ⟨x, g1.1, rfl⟩)
      have k2 := sorted_head ht y.path (List.mem_map.2 ⟨y, g2.1, rfl⟩)
      rw [lt_asymm _ _ k1] at k2
      cases k2
   have hxe : x = y := by
    have h1 := h x.path
    rw [entAt_cons, if_pos rfl, entAt_cons, if_pos hxy.symm] at h1
    exact Option.some.inj h1
   subst hxe
   congr 1
   refine ent_ext (sorted_tail ht) (sorted_tail hu) fun p => ?_
   by_cases hp : x.path = p
   · subst hp
     rw [entAt_none.2 (sorted_not ht), entAt_none.2 (sorted_not hu)]
   · have := h p
     rwa [entAt_cons, if_neg hp, entAt_cons, if_neg hp] at this
theorem upCode_zero {t : List Ent} {p : Bs} : upCode t p = 0 ↔ pathUp p = [47] ∨ ∃ e, entAt t (pathUp p) = some e ∧ e.dir = true := by
 unfold upCode
 by_cases h : pathUp p = [47]
 · simp [h]
 · simp only [h, if_false, false_or]
   cases he : entAt t (pathUp p) with
   | none => simp
   | some e => cases hd : e.dir <;> simp [hd]
theorem prev_sorted {t : List Ent} (h : sorted (pathsE t)) {i : Nat} {e : Ent} (hi : t[i]? = some e) : prevLt t e i = true := by
 unfold prevLt
 match i, hi with
 | 0, _ => rfl
 | j + 1, hi =>
   simp only
   cases hj : t[j]? with
   | none => rfl
   | some e' =>
     simp only
     exact sorted_at (i := j) (j := j + 1) h (by simp [hj]) (by simp [hi]) (by omega)
theorem treeOk_iff {t : List Ent} : treeOk t = true ↔ t.length ≤ 16 ∧ sorted (pathsE t) ∧ ∀ e ∈ t, entOk e = true ∧ upCode t e.path = 0 := by
 constructor
 · intro h
   refine ⟨treeOk_len h, ?_, ?_⟩
   · rw [← treeOkI_eq] at h
     unfold treeOkI at h
     rw [Bool.and_eq_true, all_range] at h
     exact sorted_c fun i hi => okI_c (h.2 i hi)
   · rw [← treeOkI_eq] at h
     unfold treeOkI at h
     rw [Bool.and_eq_true, all_range] at h
     intro e he
     obtain ⟨i, hi⟩ := List.mem_iff_getElem?.1 he
     have := h.2 i (List.getElem?_eq_some_iff.1 hi).1
     simp only [okI, hi, Bool.and_eq_true, decide_eq_true_eq] at this
     exact ⟨this.1.1, this.2⟩
 · rintro ⟨h1, h2, h3⟩
   refine treeOkI_true h1 fun i hi => ?_
   have he : t[i]? = some t[i] := List.getElem?_eq_getElem hi
   have h4 := h3 t[i] (List.getElem_mem hi)
   simp only [okI, he, Bool.and_eq_true, decide_eq_true_eq]
   exact ⟨⟨h4.1, prev_sorted h2 he⟩, h4.2⟩
theorem treeOk_srt {t : List Ent} (h : treeOk t = true) : sorted (pathsE t) := (treeOk_iff.1 h).2.1
theorem treeOk_root {t : List Ent} (h : treeOk t = true) : entAt t [47] = none := by
 rw [entAt_none]
 intro hm
 obtain ⟨e, he, hp⟩ := List.mem_map.1 hm
 have := treeOk_ent h e he
 simp only [entOk, Bool.and_eq_true] at this
 exact pathOk_ne this.1.1 hp
theorem entGet_ne {t : List Ent} {p : Bs} (hp : p ≠ [47]) : entGet t p = entAt t p := if_neg hp
theorem entGet_root (t : List Ent) : entGet t [47] = some rootE := if_pos rfl
theorem putE_at {t : List Ent} (hs : sorted (pathsE t)) (e : Ent) (p : Bs) : entAt (putE t e) p = if e.path = p then some e else entAt t p := by
 induction t with
 | nil => rw [putE, entAt_cons]
 | cons x r ih =>
   have ih := ih (sorted_tail hs)
   unfold putE
   split
   · rename_i hl
     rw [entAt_cons, ih, entAt_cons]
     by_cases h1 : x.path = p
     · have : e.path ≠ p := by rw [← h1]; exact fun h => lt_ne hl h.symm
       rw [if_pos h1, if_neg this, if_pos h1]
     · rw [if_neg h1, if_neg h1]
   · split
     · rename_i hp
       rw [entAt_cons, entAt_cons]
       by_cases h1 : e.path = p
       · rw [if_pos h1, if_pos h1]
       · rw [if_neg h1, if_neg h1, if_neg (by rw [hp]; exact h1)]
     · rw [entAt_cons]
theorem putE_paths {t : List Ent} {e : Ent} {p : Bs} : p ∈ pathsE (putE t e) ↔ p = e.path ∨ p ∈ pathsE t := by
 induction t with
 | nil => simp [putE, pathsE]
 | cons x r ih =>
   unfold putE
   split
   · simp only [pathsE, List.map_cons, List.mem_cons] at ih ⊢
     rw [ih]
     constructor
     · rintro (h | h | h) <;> simp [h]
     · rintro (h | h | h) <;> simp [h]
   · split
     · rename_i hp
       simp only [pathsE, List.map_cons, List.mem_cons, hp]
       constructor
       · rintro (h | h) <;> simp [h]
       · rintro (h | h | h) <;> simp [h]
     · simp [pathsE]
theorem putE_sorted {t : List Ent} (hs : sorted (pathsE t)) (e : Ent) : sorted (pathsE (putE t e)) := by
 induction t with
 | nil => simp [putE, pathsE, sorted]
 | cons x r ih =>
   have ih := ih (sorted_tail hs)
   unfold putE
   split
   · rename_i hl
     refine List.pairwise_cons.2 ⟨fun b hb => ?_, ih⟩
     rcases putE_paths.1 hb with rfl | hb
     · exact hl
     · exact sorted_head hs b hb
   · rename_i hl
     split
     · rename_i hp
       refine List.pairwise_cons.2 ⟨fun b hb => ?_, sorted_tail hs⟩
       show lt e.path b = true
       rw [← hp]
       exact sorted_head hs b hb
     · rename_i hp
       have hlt : lt e.path x.path = true := by
        rcases lt_total e.path x.path with h | h | h
        · exact h
        · exact absurd h.symm hp
        · exact absurd h hl
       refine List.pairwise_cons.2 ⟨fun b hb => ?_, hs⟩
       rcases List.mem_cons.1 hb with rfl | hb
       · exact hlt
       · exact lt_trans _ _ _ hlt (sorted_head hs b hb)
theorem putAll_sorted : ∀ {es t : List Ent}, sorted (pathsE t) → sorted (pathsE (putAll t es))
 | [], t, h => h
 | e :: es, t, h => putAll_sorted (es := es) (putE_sorted h e)
theorem putAll_paths : ∀ {es t : List Ent} {p : Bs}, p ∈ pathsE (putAll t es) ↔ p ∈ pathsE es ∨ p ∈ pathsE t
 | [], t, p => by simp [putAll, pathsE]
 | e :: es, t, p => by
   have := putAll_paths (es := es) (t := putE t e) (p := p)
   rw [putE_paths] at this
   show p ∈ pathsE (putAll (putE t e) es) ↔ _
   rw [this]
   simp only [pathsE, List.map_cons, List.mem_cons]
   constructor
   · rintro (h | h | h) <;> simp [h]
   · rintro ((h | h) | h) <;> simp [h]
def turnedL (a b : List Ent) : List Bs := if treeOk a && treeOk b then (pathsE (putAll a b)).filter fun p => decide (entGet a p ≠ entGet b p) else []
theorem turned_mem {a b : List Ent} (ha : treeOk a = true) (hb : treeOk b = true) {p : Bs} : p ∈ turnedL a b ↔ entAt a p ≠ entAt b p := by
 rw [turnedL, ha, hb]
 simp only [Bool.and_self, if_true, List.mem_filter, decide_eq_true_eq, putAll_paths]
 constructor
 · rintro ⟨h1, h2⟩
   have hp : p ≠ [47] := by
    rintro rfl
    exact h2 (by rw [entGet_root, entGet_root])
   rwa [entGet_ne hp, entGet_ne hp] at h2
 · intro h
   have hp : p ≠ [47] := by
    rintro rfl
    exact h (by rw [treeOk_root ha, treeOk_root hb])
   refine ⟨?_, by rwa [entGet_ne hp, entGet_ne hp]⟩
   by_cases h1 : p ∈ pathsE b
   · exact .inl h1
   · by_cases h2 : p ∈ pathsE a
     · exact .inr h2
     · rw [← entAt_none] at h1 h2
       exact absurd (h2.trans h1.symm) h
theorem turned_sorted {a b : List Ent} : sorted (turnedL a b) := by
 unfold turnedL
 split
 · rename_i h
   rw [Bool.and_eq_true] at h
   exact sorted_filter (putAll_sorted (treeOk_srt h.1)) _
 · exact .nil
def turnW : List Ent → List Ent → List Bs
 | [], b => pathsE b
 | x :: r, [] => pathsE (x :: r)
 | x :: r, y :: s => if lt x.path y.path then x.path :: turnW r (y :: s) else if lt y.path x.path then y.path :: turnW (x :: r) s else if x = y then turnW r s else x.path :: turnW r s
termination_by a b => a.length + b.length
theorem turnW_mem : ∀ (a b : List Ent), sorted (pathsE a) → sorted (pathsE b) → ∀ p, p ∈ turnW a b ↔ entAt a p ≠ entAt b p
 | [], b, _, _, p => by
   rw [turnW]
   constructor
   · intro h
     obtain ⟨e, he⟩ := entAt_mem h
     rw [he]; simp [entAt]
   · intro h
     by_cases hm : p ∈ pathsE b
     · exact hm
     · rw [entAt_none.2 hm] at h; exact absurd rfl h
 | x :: r, [], _, _, p => by
   rw [turnW]
   constructor
   · intro h
     obtain ⟨e, he⟩ := entAt_mem h
     rw [he]; simp [entAt]
   · intro h
     by_cases hm : p ∈ pathsE (x :: r)
     · exact hm
     · rw [entAt_none.2 hm] at h; exact absurd rfl h
 | x :: r, y :: s, ha, hb, p => by
   rw [turnW]
   split
   · rename_i hl
     have ih := turnW_mem r (y :: s) (sorted_tail ha) hb p
     rw [List.mem_cons, ih, entAt_cons x r]
     by_cases hp : p = x.path
     · subst hp
       have hn : entAt (y :: s) x.path = none := by
        rw [entAt_none]
        intro hm
        rcases List.mem_cons.1 hm with hm | hm
        · exact lt_ne hl hm
        · exact lt_ne (lt_trans _ _ _ hl (sorted_head hb _ hm)) rfl
       simp [hn]
     · simp [hp, Ne.symm hp]
   · split
     · rename_i hl' hl
       have ih := turnW_mem (x :: r) s ha (sorted_tail hb) p
       rw [List.mem_cons, ih, entAt_cons y s]
       by_cases hp : p = y.path
       · subst hp
         have hn : entAt (x :: r) y.path = none := by
          rw [entAt_none]
          intro hm
          rcases List.mem_cons.1 hm with hm | hm
          · exact lt_ne hl hm
          · exact lt_ne (lt_trans _ _ _ hl (sorted_head ha _ hm)) rfl
         simp [hn]
       · simp [hp, Ne.symm hp]
     · rename_i h1 h2
       have hxy : x.path = y.path := by
        rcases lt_total x.path y.path with h | h | h
        · exact absurd h h1
        · exact h
        · exact absurd h h2
       have ih := turnW_mem r s (sorted_tail ha) (sorted_tail hb) p
       have e1 : entAt r x.path = none := entAt_none.2 (sorted_not ha)
       have e2 : entAt s y.path = none := entAt_none.2 (sorted_not hb)
       rw [entAt_cons, entAt_cons]
       split
       · rename_i he
         subst he
         rw [ih]
         by_cases hp : x.path = p
         · subst hp
           simp [e1, e2]
         · simp [hp]
       · rename_i he
         rw [List.mem_cons, ih]
         by_cases hp : p = x.path
         · subst hp
           simp [hxy, he]
         · simp [hp, Ne.symm hp, ← hxy]
termination_by a b => a.length + b.length
theorem turnW_sorted : ∀ (a b : List Ent), sorted (pathsE a) → sorted (pathsE b) → sorted (turnW a b)
 | [], b, _, hb => by rw [turnW]; exact hb
 | x :: r, [], ha, _ => by rw [turnW]; exact ha
 | x :: r, y :: s, ha, hb => by
   have key : ∀ {a b : List Ent} {q : Bs}, sorted (pathsE a) → sorted (pathsE b) → (∀ p ∈ pathsE a, lt q p = true) → (∀ p ∈ pathsE b, lt q p = true) → sorted (turnW a b) → sorted (q :: turnW a b) := by
    intro a b q h1 h2 h3 h4 h5
    refine List.pairwise_cons.2 ⟨fun p hp => ?_, h5⟩
    have := (turnW_mem a b h1 h2 p).1 hp
    by_cases hm : p ∈ pathsE a
    · exact h3 p hm
    · by_cases hm2 : p ∈ pathsE b
      · exact h4 p hm2
      · rw [entAt_none.2 hm, entAt_none.2 hm2] at this
        exact absurd rfl this
   rw [turnW]
   split
   · rename_i hl
     refine key (sorted_tail ha) hb (sorted_head ha) (fun p hp => ?_) (turnW_sorted r (y :: s) (sorted_tail ha) hb)
     rcases List.mem_cons.1 hp with rfl | hp
     · exact hl
     · exact lt_trans _ _ _ hl (sorted_head hb _ hp)
   · split
     · rename_i hl' hl
       refine key ha (sorted_tail hb) (fun p hp => ?_) (sorted_head hb) (turnW_sorted (x :: r) s ha (sorted_tail hb))
       rcases List.mem_cons.1 hp with rfl | hp
       · exact hl
       · exact lt_trans _ _ _ hl (sorted_head ha _ hp)
     · rename_i h1 h2
       have hxy : x.path = y.path := by
        rcases lt_total x.path y.path with h | h | h
        · exact absurd h h1
        · exact h
        · exact absurd h h2
       split
       · exact turnW_sorted r s (sorted_tail ha) (sorted_tail hb)
       · exact key (sorted_tail ha) (sorted_tail hb) (sorted_head ha) (fun p hp => by rw [hxy]; exact sorted_head hb p hp) (turnW_sorted r s (sorted_tail ha) (sorted_tail hb))
termination_by a b => a.length + b.length
theorem turnW_eq {a b : List Ent} (ha : treeOk a = true) (hb : treeOk b = true) : turnW a b = turnedL a b :=
 sorted_ext (turnW_sorted a b (treeOk_srt ha) (treeOk_srt hb)) turned_sorted fun p => by rw [turnW_mem a b (treeOk_srt ha) (treeOk_srt hb), turned_mem ha hb]
theorem nodup_sub : ∀ {w v : List Bs}, w.Nodup → (∀ p ∈ w, p ∈ v) → w.length ≤ v.length
 | [], v, _, _ => Nat.zero_le _
 | a :: w, v, hn, h => by
   obtain ⟨h1, h2⟩ := List.nodup_cons.1 hn
   have ha := h a (by simp)
   have ih := nodup_sub (w := w) (v := v.erase a) h2 fun p hp => by
    have hne : p ≠ a := by rintro rfl; exact h1 hp
    exact (List.mem_erase_of_ne hne).2 (h p (by simp [hp]))
   have hl := List.length_erase_of_mem ha
   have hpos : 0 < v.length := List.length_pos_of_mem ha
   simp only [List.length_cons]
   omega
theorem under_ex {s d : Bs} (hd : d ≠ [47]) : under s d = true ↔ ∃ r, s = d ++ 47 :: r := by
 simp only [under, hd, decide_false, Bool.false_or, Bool.and_eq_true, decide_eq_true_eq]
 constructor
 · rintro ⟨⟨h1, h2⟩, h3⟩
   refine ⟨s.drop (d.length + 1), ?_⟩
   have h4 := List.drop_eq_getElem_cons h1
   rw [List.getElem?_eq_getElem h1] at h3
   rw [Option.some.inj h3] at h4
   conv => lhs; rw [← List.take_append_drop d.length s, h2, h4]
 · rintro ⟨r, rfl⟩
   simp
theorem path_up {s : Bs} (h : pathOk s = true) : ∃ u n, s = u ++ 47 :: n ∧ 47 ∉ n ∧ ((u = [] ∧ pathUp s = [47]) ∨ (pathOk u = true ∧ pathUp s = u)) := by
 obtain ⟨w, a, h1, hw, ha, hl, rfl⟩ := path_split h
 refine ⟨_, _, rfl, (name_free ha).1, ?_⟩
 rw [pathUp_split hw ha hl]
 by_cases hn : w = []
 · subst hn; exact .inl ⟨rfl, rfl⟩
 · rw [if_neg hn]
   exact .inr ⟨pathOk_of hw (List.length_pos_iff.2 hn) (by omega), rfl⟩
theorem cut_one {u n a r : Bs} (hn : 47 ∉ n) (h : u ++ 47 :: n = a ++ 47 :: r) : a = u ∨ ∃ c, u = a ++ 47 :: c := by
 rcases List.append_eq_append_iff.1 h with ⟨c, h1, h2⟩ | ⟨c, h1, h2⟩
 · match c, h1, h2 with
   | [], h1, h2 => left; simpa using h1
   | x :: c, h1, h2 =>
     exfalso
     simp only [List.cons_append, List.cons.injEq] at h2
     apply hn
     rw [h2.2]
     simp
 · match c, h1, h2 with
   | [], h1, h2 => left; simpa using h1.symm
   | x :: c, h1, h2 =>
     right
     simp only [List.cons_append, List.cons.injEq] at h2
     exact ⟨c, by rw [h1, ← h2.1]⟩
theorem not_under_root {a : Bs} (ha : pathOk a = true) : under [47] a = false := by
 rw [← Bool.not_eq_true, under_ex (pathOk_ne ha)]
 rintro ⟨r, h⟩
 cases a with
 | nil => rw [path_empty] at ha; cases ha
 | cons x a => simp at h
theorem under_up {s a : Bs} (hs : pathOk s = true) (ha : pathOk a = true) (h : under s a = true) : pathOk (pathUp s) = true ∧ (pathUp s = a ∨ under (pathUp s) a = true) := by
 obtain ⟨u, n, h1, hn, hu⟩ := path_up hs
 obtain ⟨r, h2⟩ := (under_ex (pathOk_ne ha)).1 h
 rcases cut_one hn (h1.symm.trans h2) with h3 | ⟨c, h3⟩
 · rcases hu with ⟨hu, _⟩ | ⟨hu, hp⟩
   · rw [h3, hu, path_empty] at ha; cases ha
   · exact ⟨by rw [hp]; exact hu, .inl (by rw [hp, h3])⟩
 · rcases hu with ⟨hu, _⟩ | ⟨hu, hp⟩
   · rw [hu] at h3; simp at h3
   · exact ⟨by rw [hp]; exact hu, .inr (by rw [hp]; exact (under_ex (pathOk_ne ha)).2 ⟨c, h3⟩)⟩
theorem up_under {s a : Bs} (hs : pathOk s = true) (ha : pathOk a = true) (h : pathUp s = a ∨ under (pathUp s) a = true) : under s a = true := by
 obtain ⟨u, n, h1, hn, hu⟩ := path_up hs
 rcases hu with ⟨hu, hp⟩ | ⟨hu, hp⟩
 · exfalso
   rw [hp] at h
   rcases h with h | h
   · rw [← h, path_root] at ha; cases ha
   · rw [not_under_root ha] at h; cases h
 · rw [hp] at h
   rw [under_ex (pathOk_ne ha)]
   rcases h with h | h
   · exact ⟨n, by rw [h1, h]⟩
   · obtain ⟨r, h2⟩ := (under_ex (pathOk_ne ha)).1 h
     exact ⟨r ++ 47 :: n, by rw [h1, h2]; simp⟩
theorem up_of {x n : Bs} (h : pathOk (x ++ 47 :: n) = true) (hn : 47 ∉ n) (hx : x ≠ []) : pathUp (x ++ 47 :: n) = x := by
 obtain ⟨u, k, h1, hk, hu⟩ := path_up h
 have hux : u = x := by
  rcases cut_one hn h1 with h2 | ⟨c, h2⟩
  · exact h2
  · exfalso
    rw [h2] at h1
    simp only [List.append_assoc, List.cons_append, List.append_cancel_left_eq, List.cons.injEq] at h1
    apply hk
    rw [← h1.2]
    simp
 rcases hu with ⟨h2, _⟩ | ⟨_, h2⟩
 · exact absurd (hux.symm.trans h2) hx
 · rw [h2, hux]
theorem under_lt {s a : Bs} (ha : pathOk a = true) (h : under s a = true) : a.length < s.length := (under_len h (pathOk_ne ha)).1
theorem under_trans {s a b : Bs} (ha : pathOk a = true) (hb : pathOk b = true) (h1 : under s a = true) (h2 : a = b ∨ under a b = true) : under s b = true := by
 obtain ⟨r, rfl⟩ := (under_ex (pathOk_ne ha)).1 h1
 rcases h2 with rfl | h2
 · exact h1
 · obtain ⟨q, rfl⟩ := (under_ex (pathOk_ne hb)).1 h2
   exact (under_ex (pathOk_ne hb)).2 ⟨q ++ 47 :: r, by simp⟩
def inP (s a : Bs) : Bool := decide (s = a) || under s a
theorem inP_iff {s a : Bs} : inP s a = true ↔ s = a ∨ under s a = true := by simp [inP]
theorem inP_ex {s a : Bs} (ha : pathOk a = true) : inP s a = true ↔ ∃ x, s = a ++ x ∧ (x = [] ∨ ∃ r, x = 47 :: r) := by
 rw [inP_iff, under_ex (pathOk_ne ha)]
 constructor
 · rintro (rfl | ⟨r, rfl⟩)
   · exact ⟨[], by simp, .inl rfl⟩
   · exact ⟨_, rfl, .inr ⟨r, rfl⟩⟩
 · rintro ⟨x, rfl, rfl | ⟨r, rfl⟩⟩
   · left; simp
   · exact .inr ⟨r, rfl⟩
def mvP (a b s : Bs) : Bs := if inP s a then b ++ s.drop a.length else s
theorem mvP_in {a b s : Bs} (h : inP s a = true) : mvP a b s = b ++ s.drop a.length := by rw [mvP, if_pos h]
theorem mvP_out {a b s : Bs} (h : inP s a = false) : mvP a b s = s := by rw [mvP, h]; rfl
theorem mvP_app {a b x : Bs} (ha : pathOk a = true) (hx : x = [] ∨ ∃ r, x = 47 :: r) : inP (a ++ x) a = true ∧ mvP a b (a ++ x) = b ++ x := by
 have h : inP (a ++ x) a = true := (inP_ex ha).2 ⟨x, rfl, hx⟩
 exact ⟨h, by rw [mvP_in h]; simp⟩
theorem pathMove_mv {s a b : Bs} (hs : pathOk s = true) (ha : pathOk a = true) (hb : pathOk b = true) : pathMove s a b = if pathOk (mvP a b s) = true then some (mvP a b s) else none := by
 unfold pathMove
 rw [hs, ha, hb]
 simp only [Bool.and_self, if_true]
 cases h : inP s a with
 | true =>
   have h2 := h
   rw [inP_iff] at h2
   rw [mvP_in h, if_neg]
   rintro ⟨h3, h4⟩
   rcases h2 with h2 | h2
   · exact h3 h2
   · rw [h2] at h4; cases h4
 | false =>
   have h2 : ¬ inP s a = true := by rw [h]; simp
   rw [inP_iff] at h2
   rw [mvP_out h, if_pos hs, if_pos ⟨fun e => h2 (.inl e), by rw [← Bool.not_eq_true]; exact fun e => h2 (.inr e)⟩]
theorem inP_up {s a : Bs} (hs : pathOk s = true) (ha : pathOk a = true) (hne : s ≠ a) : inP (pathUp s) a = inP s a := by
 rw [Bool.eq_iff_iff, inP_iff, inP_iff]
 constructor
 · intro h; exact .inr (up_under hs ha h)
 · rintro (h | h)
   · exact absurd h hne
   · exact (under_up hs ha h).2
theorem mvP_up {s a b : Bs} (hs : pathOk s = true) (ha : pathOk a = true) (hb : pathOk b = true) (h : under s a = true) (ho : pathOk (mvP a b s) = true) : pathUp (mvP a b s) = mvP a b (pathUp s) := by
 obtain ⟨hu, h2⟩ := under_up hs ha h
 obtain ⟨u, n, h1, hn, h3⟩ := path_up hs
 have hus : pathUp s = u := by
  rcases h3 with ⟨_, h3⟩ | ⟨_, h3⟩
  · rw [h3, path_root] at hu; cases hu
  · exact h3
 rw [hus] at h2 ⊢
 obtain ⟨x, hx1, hx2⟩ := (inP_ex ha).1 (inP_iff.2 h2)
 have e1 : mvP a b u = b ++ x := by rw [hx1]; exact (mvP_app ha hx2).2
 have e2 : mvP a b s = (b ++ x) ++ 47 :: n := by
  rw [mvP_in (inP_iff.2 (.inr h)), h1, hx1]
  simp
 rw [e2] at ho ⊢
 rw [e1]
 refine up_of ho hn ?_
 intro e
 have hb2 : b = [] := (List.append_eq_nil_iff.1 e).1
 rw [hb2, path_empty] at hb
 cases hb
theorem tree_mem {t : List Ent} (h : treeOk t = true) {e : Ent} (he : e ∈ t) : entOk e = true ∧ pathOk e.path = true ∧ (pathUp e.path = [47] ∨ ∃ d, entAt t (pathUp e.path) = some d ∧ d.dir = true) := by
 obtain ⟨_, _, h3⟩ := treeOk_iff.1 h
 obtain ⟨h4, h5⟩ := h3 e he
 refine ⟨h4, ?_, upCode_zero.1 h5⟩
 simp only [entOk, Bool.and_eq_true] at h4
 exact h4.1.1
theorem tree_at {t : List Ent} (h : treeOk t = true) {p : Bs} {e : Ent} (he : entAt t p = some e) : entOk e = true ∧ e.path = p ∧ pathOk p = true ∧ (pathUp p = [47] ∨ ∃ d, entAt t (pathUp p) = some d ∧ d.dir = true) := by
 obtain ⟨h1, rfl⟩ := entAt_some he
 obtain ⟨h2, h3, h4⟩ := tree_mem h h1
 exact ⟨h2, rfl, h3, h4⟩
theorem under_in {t : List Ent} (h : treeOk t = true) {a : Bs} (ha : pathOk a = true) : ∀ (n : Nat) {p : Bs} {e : Ent}, p.length ≤ n → entAt t p = some e → under p a = true → ∃ d, entAt t a = some d ∧ d.dir = true
 | 0, p, e, hn, he, hu => by
   have := under_lt ha hu
   omega
 | n + 1, p, e, hn, he, hu => by
   obtain ⟨h2, h3, h4, h5⟩ := tree_at h he
   obtain ⟨g1, g2⟩ := under_up h4 ha hu
   have hne : pathUp p ≠ [47] := pathOk_ne g1
   obtain ⟨d, hd1, hd2⟩ := h5.resolve_left hne
   rcases g2 with g2 | g2
   · exact ⟨d, by rw [← g2]; exact hd1, hd2⟩
   · have := pathUp_short h4 hne
     exact under_in h ha n (by omega) hd1 g2
theorem kid_in {t : List Ent} (h : treeOk t = true) {a : Bs} (ha : pathOk a = true) : ∀ (n : Nat) {p : Bs} {e : Ent}, p.length ≤ n → entAt t p = some e → under p a = true → ∃ k ∈ t, pathUp k.path = a
 | 0, p, e, hn, he, hu => by
   have := under_lt ha hu
   omega
 | n + 1, p, e, hn, he, hu => by
   obtain ⟨h2, h3, h4, h5⟩ := tree_at h he
   obtain ⟨g1, g2⟩ := under_up h4 ha hu
   have hne : pathUp p ≠ [47] := pathOk_ne g1
   rcases g2 with g2 | g2
   · exact ⟨e, (entAt_some he).1, by rw [h3]; exact g2⟩
   · obtain ⟨d, hd1, hd2⟩ := h5.resolve_left hne
     have := pathUp_short h4 hne
     exact kid_in h ha n (by omega) hd1 g2
theorem kids_none {t : List Ent} {p : Bs} : kids t p = [] ↔ ∀ e ∈ t, pathUp e.path ≠ p := by
 unfold kids
 rw [List.map_eq_nil_iff, List.filter_eq_nil_iff]
 simp
theorem no_below {t : List Ent} (h : treeOk t = true) {p : Bs} (hp : pathOk p = true) (hn : ∀ d, entAt t p = some d → d.dir = false) {q : Bs} (hq : under q p = true) : entAt t q = none := by
 cases he : entAt t q with
 | none => rfl
 | some e =>
   exfalso
   obtain ⟨d, h1, h2⟩ := under_in h hp q.length (Nat.le_refl _) he hq
   rw [hn d h1] at h2
   cases h2
theorem offT_at (t : List Ent) (p q : Bs) : entAt (offT t p) q = if p = q then none else entAt t q := by
 induction t with
 | nil => simp [offT, entAt]
 | cons e t ih =>
   unfold offT at ih ⊢
   rw [List.filter_cons]
   by_cases hp : e.path = p
   · rw [if_neg (by simpa using hp), ih, entAt_cons]
     by_cases hq : p = q
     · rw [if_pos hq, if_pos hq]
     · rw [if_neg hq, if_neg hq, if_neg (by rw [hp]; exact hq)]
   · rw [if_pos (by simpa using hp), entAt_cons, ih, entAt_cons]
     by_cases hq : p = q
     · rw [if_pos hq, if_pos hq, if_neg (by rw [← hq]; exact hp)]
     · rw [if_neg hq, if_neg hq]
theorem offT_sorted {t : List Ent} (h : sorted (pathsE t)) (p : Bs) : sorted (pathsE (offT t p)) := by
 unfold offT
 unfold sorted pathsE at h ⊢
 rw [List.pairwise_map] at h ⊢
 exact h.filter _
theorem putAll_at : ∀ {L X : List Ent}, sorted (pathsE X) → (pathsE L).Nodup → ∀ q, entAt (putAll X L) q = (entAt L q).or (entAt X q)
 | [], X, _, _, q => by simp [putAll, entAt]
 | e :: r, X, hs, hn, q => by
   have hn2 := List.nodup_cons.1 hn
   have ih := putAll_at (L := r) (putE_sorted hs e) hn2.2 q
   have : putAll X (e :: r) = putAll (putE X e) r := rfl
   rw [this, ih, putE_at hs, entAt_cons]
   by_cases he : e.path = q
   · rw [if_pos he, if_pos he]
     have : entAt r q = none := entAt_none.2 (by rw [← he]; exact hn2.1)
     rw [this]
     rfl
   · rw [if_neg he, if_neg he]
theorem entAt_map {f : Ent → Ent} {q s : Bs} : ∀ {t : List Ent}, (∀ e ∈ t, (f e).path = q ↔ e.path = s) → entAt (t.map f) q = (entAt t s).map f
 | [], _ => rfl
 | e :: t, h => by
   have ih := entAt_map (t := t) fun x hx => h x (by simp [hx])
   rw [List.map_cons, entAt_cons, entAt_cons, ih]
   by_cases he : e.path = s
   · rw [if_pos he, if_pos ((h e (by simp)).2 he)]; rfl
   · rw [if_neg he, if_neg fun hq => he ((h e (by simp)).1 hq)]
theorem entAt_map_none {f : Ent → Ent} {q : Bs} {t : List Ent} (h : ∀ e ∈ t, (f e).path ≠ q) : entAt (t.map f) q = none := by
 refine entAt_none.2 fun hm => ?_
 obtain ⟨x, hx, hq⟩ := List.mem_map.1 hm
 obtain ⟨e, he, rfl⟩ := List.mem_map.1 hx
 exact h e he hq
theorem treeOk_of {t : List Ent} (hl : t.length ≤ 16) (hs : sorted (pathsE t)) (h : ∀ p e, entAt t p = some e → entOk e = true ∧ (pathUp p = [47] ∨ ∃ d, entAt t (pathUp p) = some d ∧ d.dir = true)) : treeOk t = true := by
 refine treeOk_iff.2 ⟨hl, hs, fun e he => ?_⟩
 have h1 := h e.path e (entAt_self hs he)
 exact ⟨h1.1, upCode_zero.2 h1.2⟩
theorem putE_len_in : ∀ {t : List Ent} {e : Ent}, e.path ∈ pathsE t → sorted (pathsE t) → (putE t e).length = t.length
 | [], _, h, _ => by simp at h
 | x :: r, e, h, hs => by
   unfold putE
   by_cases h1 : lt x.path e.path = true
   · rw [if_pos h1]
     have hm : e.path ∈ pathsE r := by
      rcases List.mem_cons.1 h with h | h
      · rw [h, lt_irrefl] at h1; cases h1
      · exact h
     simp [putE_len_in hm (sorted_tail hs)]
   · rw [if_neg h1]
     by_cases h2 : x.path = e.path
     · rw [if_pos h2]; simp
     · exfalso
       rcases List.mem_cons.1 h with h | h
       · exact h2 h.symm
       · exact h1 (sorted_head hs e.path h)
end Go.Par
