/- Texts of this claim, set close: lemmas and contracts. -/
import Derived.Test.YtlicaibhgcenhaaGreatDoorWZY15
import Derived.Test.YtlicaibhgcenhaaGreatDoorWZY4
import Derived.Shelf.SlSortCmp.NoneTotal
import Derived.Shelf.SlicesQ.Reverse
import Derived.Shelf.SlGeneric
import Derived.Ground.SlsfProg
import Derived.Ground.SlgnProg
import Derived.Test.YtlicaibhgcenhaaGreatDoorProg
set_option linter.unusedSimpArgs false
set_option linter.unusedVariables false
namespace Go.Par
open Go.Ab
abbrev pathsM (l : List Mrk) : List Bs := l.map (·.path)
theorem markAt_cons (e : Mrk) (t : List Mrk) (p : Bs) : markAt (e :: t) p = if e.path = p then some e else markAt t p := by
 unfold markAt
 rw [List.find?_cons]
 by_cases h : e.path = p <;> simp [h]
theorem markAt_none {t : List Mrk} {p : Bs} : markAt t p = none ↔ p ∉ pathsM t := by
 unfold markAt pathsM
 rw [List.find?_eq_none]
 constructor
 · intro h hm
   obtain ⟨e, he, rfl⟩ := List.mem_map.1 hm
   exact absurd (h e he) (by simp)
 · intro h e he hp
   exact h (List.mem_map.2 ⟨e, he, by simpa using hp⟩)
theorem markAt_mem {t : List Mrk} {p : Bs} (h : p ∈ pathsM t) : ∃ e, markAt t p = some e := by
 cases he : markAt t p with
 | some e => exact ⟨e, rfl⟩
 | none => exact absurd h (markAt_none.1 he)
theorem markAt_self : ∀ {t : List Mrk} {e : Mrk}, sorted (pathsM t) → e ∈ t → markAt t e.path = some e
 | x :: t, e, hs, he => by
   rw [markAt_cons]
   rcases List.mem_cons.1 he with rfl | he
   · rw [if_pos rfl]
   · have : x.path ≠ e.path := lt_ne (sorted_head hs _ (List.mem_map.2 ⟨e, he, rfl⟩))
     rw [if_neg this]
     exact markAt_self (sorted_tail hs) he
theorem mark_ext : ∀ {t u : List Mrk}, sorted (pathsM t) → sorted (pathsM u) → (∀ p, markAt t p = markAt u p) → t = u
 | [], [], _, _, _ => rfl
 | [], y :: s, _, _, h => by have := h y.path; rw [markAt_cons, if_pos rfl] at this; cases this
 | x :: r, [], _, _, h => by have := h x.path; rw [markAt_cons, if_pos rfl] at this; cases this
 | x :: r, y :: s, ht, hu, h => by
   have hxy : x.path = y.path := by
    have h1 := h x.path
    have h2 := h y.path
    rw [markAt_cons, if_pos rfl] at h1
    rw [markAt_cons y, if_pos rfl] at h2
    by_cases hp : x.path = y.path
    · exact hp
    · rw [markAt_cons, if_neg (Ne.symm hp)] at h1
      rw [markAt_cons, if_neg hp] at h2
      have g1 := markAt_some h1.symm
      have g2 := markAt_some h2
      have k1 := sorted_head hu x.path (List.mem_map.2 ⟨x, g1.1, rfl⟩)
      have k2 := sorted_head ht y.path (List.mem_map.2 ⟨y, g2.1, rfl⟩)
      rw [lt_asymm _ _ k1] at k2
      cases k2
   have hxe : x = y := by
    have h1 := h x.path
    rw [markAt_cons, if_pos rfl, markAt_cons, if_pos hxy.symm] at h1
    exact Option.some.inj h1
   subst hxe
   congr 1
   refine mark_ext (sorted_tail ht) (sorted_tail hu) fun p => ?_
   by_cases hp : x.path = p
   · subst hp
     rw [markAt_none.2 (sorted_not ht), markAt_none.2 (sorted_not hu)]
   · have := h p
     rwa [markAt_cons, if_neg hp, markAt_cons, if_neg hp] at this
theorem putM_at {t : List Mrk} (hs : sorted (pathsM t)) (e : Mrk) (p : Bs) : markAt (putM t e) p = if e.path = p then some e else markAt t p := by
 induction t with
 | nil => rw [putM, markAt_cons]
 | cons x r ih =>
   have ih := ih (sorted_tail hs)
   unfold putM
   split
   · rename_i hl
     rw [markAt_cons, ih, markAt_cons]
     by_cases h1 : x.path = p
     · have : e.path ≠ p := by rw [← h1]; exact fun h => lt_ne hl h.symm
       rw [if_pos h1, if_neg this, if_pos h1]
     · rw [if_neg h1, if_neg h1]
   · split
     · rename_i hp
       rw [markAt_cons, markAt_cons]
       by_cases h1 : e.path = p
       · rw [if_pos h1, if_pos h1]
       · rw [if_neg h1, if_neg h1, if_neg (by rw [hp]; exact h1)]
     · rw [markAt_cons]
theorem putM_paths {t : List Mrk} {e : Mrk} {p : Bs} : p ∈ pathsM (putM t e) ↔ p = e.path ∨ p ∈ pathsM t := by
 induction t with
 | nil => simp [putM, pathsM]
 | cons x r ih =>
   unfold putM
   split
   · simp only [pathsM, List.map_cons, List.mem_cons] at ih ⊢
     rw [ih]
     constructor
     · rintro (h | h | h) <;> simp [h]
     · rintro (h | h | h) <;> simp [h]
   · split
     · rename_i hp
       simp only [pathsM, List.map_cons, List.mem_cons, hp]
       constructor
       · rintro (h | h) <;> simp [h]
       · rintro (h | h | h) <;> simp [h]
     · simp [pathsM]
theorem putM_sorted {t : List Mrk} (hs : sorted (pathsM t)) (e : Mrk) : sorted (pathsM (putM t e)) := by
 induction t with
 | nil => simp [putM, pathsM, sorted]
 | cons x r ih =>
   have ih := ih (sorted_tail hs)
   unfold putM
   split
   · rename_i hl
     refine List.pairwise_cons.2 ⟨fun b hb => ?_, ih⟩
     rcases putM_paths.1 hb with rfl | hb
     · exact hl
     · exact sorted_head hs b hb
   · rename_i hl
     split
     · rename_i hp
       refine List.pairwise_cons.2 ⟨fun b hb => ?_, sorted_tail hs⟩
       show lt e.path b = true
       rw [← hp]
       exact sorted_head hs b hb
     · rename_i hp
       have hlt : lt e.path x.path = true := by
        rcases lt_total e.path x.path with h | h | h
        · exact h
        · exact absurd h.symm hp
        · exact absurd h hl
       refine List.pairwise_cons.2 ⟨fun b hb => ?_, hs⟩
       rcases List.mem_cons.1 hb with rfl | hb
       · exact hlt
       · exact lt_trans _ _ _ hlt (sorted_head hs b hb)
theorem markAt_iff {t : List Mrk} (hn : (pathsM t).Nodup) {q : Bs} {e : Mrk} : markAt t q = some e ↔ e ∈ t ∧ e.path = q := by
 constructor
 · exact markAt_some
 · rintro ⟨h1, h2⟩
   induction t with
   | nil => cases h1
   | cons x t ih =>
     have hn2 := List.nodup_cons.1 hn
     rw [markAt_cons]
     rcases List.mem_cons.1 h1 with h1 | h1
     · rw [← h1, if_pos h2]
     · rw [if_neg]
       · exact ih hn2.2 h1
       · intro h3
         exact hn2.1 (by show x.path ∈ _; rw [h3, ← h2]; exact List.mem_map.2 ⟨e, h1, rfl⟩)
theorem sortM_one {S L U : List Mrk} (hp : S.Perm L) (hs : S.Pairwise fun a b => lt b.path a.path = false) (hn : (pathsM L).Nodup) (hu : sorted (pathsM U)) (hat : ∀ q, markAt L q = markAt U q) : S = U := by
 have hn2 : (pathsM S).Nodup := (hp.map _).nodup_iff.2 hn
 have hss : sorted (pathsM S) := by
  unfold sorted pathsM
  rw [List.pairwise_map]
  have h1 := List.pairwise_map.1 (List.nodup_iff_pairwise_ne.1 hn2)
  refine (h1.and hs).imp ?_
  rintro a b ⟨h2, h3⟩
  rcases lt_total a.path b.path with h | h | h
  · exact h
  · exact absurd h h2
  · rw [h] at h3; cases h3
 refine mark_ext hss hu fun q => ?_
 rw [← hat]
 cases h : markAt L q with
 | none =>
   refine markAt_none.2 fun hm => markAt_none.1 h ?_
   exact (hp.map _).mem_iff.1 hm
 | some e =>
   obtain ⟨h1, h2⟩ := (markAt_iff hn).1 h
   exact (markAt_iff hn2).2 ⟨hp.mem_iff.2 h1, h2⟩
theorem prevM_sorted {t : List Mrk} (h : sorted (pathsM t)) {i : Nat} {e : Mrk} (hi : t[i]? = some e) : prevLtM t e i = true := by
 unfold prevLtM
 match i, hi with
 | 0, _ => rfl
 | j + 1, hi =>
   simp only
   cases hj : t[j]? with
   | none => rfl
   | some e' =>
     simp only
     exact sorted_at (i := j) (j := j + 1) h (by simp [hj]) (by simp [hi]) (by omega)
theorem bareI_eq {l : List Mrk} (h : ∀ m ∈ l, pathOk m.path = true) {p : Bs} (hp : pathOk p = true) : bareI l p = bare l p := by
 unfold bareI bare
 rw [Bool.eq_iff_iff, List.any_eq_true, List.any_eq_true]
 constructor
 · rintro ⟨m, hm, h1⟩
   exact ⟨m, hm, by simpa [pathUnder, hp, h m hm] using h1⟩
 · rintro ⟨m, hm, h1⟩
   exact ⟨m, hm, by simpa [pathUnder, hp, h m hm] using h1⟩
theorem inM_iff {l : List Mrk} {p : Bs} : inM l p = true ↔ pathUp p = [47] ∨ ∃ d, markAt l (pathUp p) = some d ∧ isDirM d = true := by
 unfold inM
 rw [Bool.or_eq_true, decide_eq_true_eq]
 refine or_congr Iff.rfl ?_
 cases markAt l (pathUp p) with
 | none => simp [isDirMO]
 | some d => simp [isDirMO]
theorem layerOk_iff {l : List Mrk} : layerOk l = true ↔ l.length ≤ 32 ∧ sorted (pathsM l) ∧ ∀ m ∈ l, markOk m = true ∧ (pathUp m.path = [47] ∨ ∃ d, markAt l (pathUp m.path) = some d ∧ isDirM d = true) ∧ (2 < m.kind → bare l m.path = false) := by
 constructor
 · intro h
   have hk := layerOk_mark h
   refine ⟨layerOk_len h, layerOk_sorted h, ?_⟩
   rw [← layerOkI_eq] at h
   unfold layerOkI at h
   rw [Bool.and_eq_true, all_range] at h
   intro e he
   obtain ⟨i, hi⟩ := List.mem_iff_getElem?.1 he
   have := h.2 i (List.getElem?_eq_some_iff.1 hi).1
   simp only [okLI, hi, Bool.and_eq_true] at this
   obtain ⟨⟨⟨h1, h2⟩, h3⟩, h4⟩ := this
   refine ⟨h1, inM_iff.1 h3, fun h5 => ?_⟩
   rw [bareI_eq (fun m hm => markOk_path (hk m hm)) (markOk_path h1)] at h4
   simpa [h5] using h4
 · rintro ⟨h1, h2, h3⟩
   refine layerOkI_true h1 fun i hi => ?_
   have he : l[i]? = some l[i] := List.getElem?_eq_getElem hi
   obtain ⟨g1, g2, g3⟩ := h3 l[i] (List.getElem_mem hi)
   simp only [okLI, he, Bool.and_eq_true]
   refine ⟨⟨⟨g1, prevM_sorted h2 he⟩, inM_iff.2 g2⟩, ?_⟩
   rw [bareI_eq (fun m hm => markOk_path (h3 m hm).1) (markOk_path g1)]
   by_cases h5 : 2 < l[i].kind
   · rw [g3 h5]; simp
   · simp [h5]
theorem mark_at {l : List Mrk} (h : layerOk l = true) {p : Bs} {m : Mrk} (hm : markAt l p = some m) : markOk m = true ∧ m.path = p ∧ pathOk p = true ∧ (pathUp p = [47] ∨ ∃ d, markAt l (pathUp p) = some d ∧ isDirM d = true) ∧ (2 < m.kind → bare l p = false) := by
 obtain ⟨h1, rfl⟩ := markAt_some hm
 obtain ⟨_, _, h3⟩ := layerOk_iff.1 h
 obtain ⟨g1, g2, g3⟩ := h3 m h1
 exact ⟨g1, rfl, markOk_path g1, g2, g3⟩
theorem markOk_parts {m : Mrk} (h : markOk m = true) : (m.kind = 1 ∨ m.kind = 2 ∨ m.kind = 3 ∨ m.kind = 4) ∧ pathOk m.path = true ∧ dataOk m.data = true ∧ (m.kind ≠ 1 → m.data = []) := by
 simp only [markOk, Bool.and_eq_true, decide_eq_true_eq] at h
 obtain ⟨⟨⟨h1, h2⟩, h3⟩, h4⟩ := h
 refine ⟨by omega, h3, ?_, fun hk => ?_⟩
 · split at h4
   · exact h4
   · rw [of_decide_eq_true h4]; rfl
 · rw [if_neg hk] at h4
   exact of_decide_eq_true h4
theorem markOk_mk {p d : Bs} {k : Int} (hk : k = 1 ∨ k = 2 ∨ k = 3 ∨ k = 4) (hp : pathOk p = true) (hd : dataOk d = true) (hd2 : k ≠ 1 → d = []) : markOk ⟨p, k, d⟩ = true := by
 rcases hk with rfl | rfl | rfl | rfl
 · simp [markOk, hp, hd]
 all_goals simp [markOk, hp, hd2 (by decide)]
theorem layer_srt {l : List Mrk} (h : layerOk l = true) : sorted (pathsM l) := layerOk_sorted h
theorem isDirM_iff {m : Mrk} : isDirM m = true ↔ m.kind = 2 ∨ m.kind = 4 := by simp [isDirM]
def hides (l : List Mrk) (p : Bs) : Bool := l.any fun m => decide (m.kind ≠ 2) && inP p m.path
theorem hides_iff {l : List Mrk} {p : Bs} : hides l p = true ↔ ∃ m ∈ l, m.kind ≠ 2 ∧ inP p m.path = true := by
 unfold hides
 rw [List.any_eq_true]
 simp
theorem hides_at {l : List Mrk} (hs : sorted (pathsM l)) {p : Bs} : hides l p = true ↔ ∃ q m, markAt l q = some m ∧ m.kind ≠ 2 ∧ inP p q = true := by
 rw [hides_iff]
 constructor
 · rintro ⟨m, h1, h2, h3⟩
   exact ⟨m.path, m, markAt_self hs h1, h2, h3⟩
 · rintro ⟨q, m, h1, h2, h3⟩
   obtain ⟨h4, rfl⟩ := markAt_some h1
   exact ⟨m, h4, h2, h3⟩
theorem inP_down {p a q : Bs} (ha : pathOk a = true) (hq : pathOk q = true) (h1 : inP a q = true) (h2 : under p a = true) : under p q = true := by
 rcases inP_iff.1 h1 with rfl | h
 · exact h2
 · exact under_trans ha hq h2 (.inr h)
theorem hides_down {l : List Mrk} (h : layerOk l = true) {p a : Bs} (ha : pathOk a = true) (hu : under p a = true) (hh : hides l a = true) : hides l p = true := by
 rw [hides_at (layer_srt h)] at hh ⊢
 obtain ⟨q, m, h1, h2, h3⟩ := hh
 exact ⟨q, m, h1, h2, inP_iff.2 (.inr (inP_down ha (mark_at h h1).2.2.1 h3 hu))⟩
theorem up_of_ne {p : Bs} (hp : pathOk p = true) (hr : pathUp p ≠ [47]) : pathOk (pathUp p) = true ∧ under p (pathUp p) = true := by
 have h1 := ((pathUp_less hp).resolve_left hr).1
 exact ⟨h1, up_under hp h1 (.inl rfl)⟩
def markEnt (m : Mrk) : Option Ent := if m.kind = 3 then none else some ⟨m.path, isDirM m, m.data⟩
def onL (l : List Mrk) (t : List Ent) : List Ent := putAll (t.filter fun e => !hides l e.path) (l.filterMap markEnt)
def onAt (l : List Mrk) (t : List Ent) (p : Bs) : Option Ent := match markAt l p with
 | some m => markEnt m
 | none => if hides l p then none else entAt t p
def layerOn (l : List Mrk) (t : List Ent) : Option (List Ent) := if layerOk l = true ∧ treeOk t = true ∧ (onL l t).length ≤ 16 then some (onL l t) else none
theorem ent_filter (f : Bs → Bool) (q : Bs) : ∀ t : List Ent, entAt (t.filter fun e => f e.path) q = if f q = true then entAt t q else none
 | [] => by simp [entAt]
 | e :: t => by
   have ih := ent_filter f q t
   rw [List.filter_cons]
   by_cases hq : e.path = q
   · subst hq
     by_cases hf : f e.path = true
     · rw [if_pos hf, if_pos hf, entAt_cons, entAt_cons, if_pos rfl, if_pos rfl]
     · rw [if_neg hf, if_neg hf, ih, if_neg hf]
   · by_cases hf : f e.path = true
     · rw [if_pos hf, entAt_cons, if_neg hq, ih, entAt_cons, if_neg hq]
     · rw [if_neg hf, ih, entAt_cons, if_neg hq]
theorem markEnt_path {m : Mrk} {e : Ent} (h : markEnt m = some e) : e.path = m.path := by
 unfold markEnt at h
 split at h
 · cases h
 · cases h; rfl
theorem marks_ent : ∀ {l : List Mrk}, sorted (pathsM l) → ∀ q, entAt (l.filterMap markEnt) q = (markAt l q).bind markEnt
 | [], _, q => rfl
 | m :: r, hs, q => by
   have ih := marks_ent (l := r) (sorted_tail hs) q
   rw [List.filterMap_cons, markAt_cons]
   by_cases hq : m.path = q
   · rw [if_pos hq, Option.bind_some]
     cases hm : markEnt m with
     | none =>
       simp only
       rw [ih, markAt_none.2 (by rw [← hq]; exact sorted_not hs)]
       rfl
     | some e =>
       simp only
       rw [entAt_cons, if_pos (by rw [markEnt_path hm]; exact hq)]
   · rw [if_neg hq]
     cases hm : markEnt m with
     | none => exact ih
     | some e =>
       simp only
       rw [entAt_cons, if_neg (by rw [markEnt_path hm]; exact hq)]
       exact ih
theorem marks_ent_nodup {l : List Mrk} (hs : sorted (pathsM l)) : (pathsE (l.filterMap markEnt)).Nodup := by
 induction l with
 | nil => simp
 | cons m r ih =>
   have ih := ih (sorted_tail hs)
   rw [List.filterMap_cons]
   cases hm : markEnt m with
   | none => exact ih
   | some e =>
     simp only
     refine List.nodup_cons.2 ⟨fun hmem => ?_, ih⟩
     obtain ⟨x, hx, h1⟩ := List.mem_map.1 hmem
     obtain ⟨y, hy, h2⟩ := List.mem_filterMap.1 hx
     have h3 := sorted_head hs y.path (List.mem_map.2 ⟨y, hy, rfl⟩)
     have h4 : m.path = y.path := (markEnt_path hm).symm.trans (h1.symm.trans (markEnt_path h2))
     exact absurd h4 (lt_ne h3)
theorem filter_srt {t : List Ent} (h : sorted (pathsE t)) (f : Ent → Bool) : sorted (pathsE (t.filter f)) := by
 unfold sorted pathsE at h ⊢
 rw [List.pairwise_map] at h ⊢
 exact h.filter _
theorem onL_srt {l : List Mrk} {t : List Ent} (ht : sorted (pathsE t)) : sorted (pathsE (onL l t)) := putAll_sorted (filter_srt ht _)
theorem onL_at {l : List Mrk} {t : List Ent} (hl : sorted (pathsM l)) (ht : sorted (pathsE t)) (p : Bs) : entAt (onL l t) p = onAt l t p := by
 unfold onL onAt
 rw [putAll_at (filter_srt ht _) (marks_ent_nodup hl), marks_ent hl, ent_filter (fun q => !hides l q)]
 cases hm : markAt l p with
 | none =>
   simp only [Option.bind_none, Option.none_or]
   cases hides l p <;> simp
 | some m =>
   simp only [Option.bind_some]
   cases he : markEnt m with
   | some e => rfl
   | none =>
     have hk : m.kind = 3 := by
      unfold markEnt at he
      split at he
      · assumption
      · cases he
     have hh : hides l p = true := (hides_at hl).2 ⟨p, m, hm, by omega, inP_iff.2 (.inl rfl)⟩
     simp [hh]
theorem markEnt_ok {m : Mrk} {e : Ent} (hm : markOk m = true) (he : markEnt m = some e) : entOk e = true ∧ e.dir = isDirM m := by
 obtain ⟨h1, h2, h3, h4⟩ := markOk_parts hm
 unfold markEnt at he
 split at he
 · cases he
 · cases he
   refine ⟨entOk_mk h2 h3 fun hd => h4 ?_, rfl⟩
   rcases isDirM_iff.1 hd with h | h <;> omega
theorem markEnt_dir {d : Mrk} (hd : isDirM d = true) : markEnt d = some ⟨d.path, true, d.data⟩ := by
 have : d.kind ≠ 3 := by rcases isDirM_iff.1 hd with h | h <;> omega
 rw [markEnt, if_neg this, hd]
theorem onL_ok {l : List Mrk} {t : List Ent} (hl : layerOk l = true) (ht : treeOk t = true) (hn : (onL l t).length ≤ 16) : treeOk (onL l t) = true := by
 refine treeOk_of hn (onL_srt (treeOk_srt ht)) fun p e he => ?_
 simp only [onL_at (layer_srt hl) (treeOk_srt ht)] at he ⊢
 unfold onAt at he
 cases hm : markAt l p with
 | some m =>
   rw [hm] at he
   obtain ⟨h1, h2, h3, h4, _⟩ := mark_at hl hm
   refine ⟨(markEnt_ok h1 he).1, h4.imp id ?_⟩
   rintro ⟨d, d1, d2⟩
   refine ⟨⟨d.path, true, d.data⟩, ?_, rfl⟩
   unfold onAt
   rw [d1]
   exact markEnt_dir d2
 | none =>
   rw [hm] at he
   simp only at he
   cases hh : hides l p with
   | true => rw [hh] at he; cases he
   | false =>
     rw [hh] at he
     simp only [Bool.false_eq_true, if_false] at he
     obtain ⟨h1, h2, h3, h4⟩ := tree_at ht he
     refine ⟨h1, ?_⟩
     by_cases hr : pathUp p = [47]
     · exact .inl hr
     · right
       obtain ⟨d, d1, d2⟩ := h4.resolve_left hr
       obtain ⟨u1, u2⟩ := up_of_ne h3 hr
       unfold onAt
       cases hmu : markAt l (pathUp p) with
       | some m =>
         have hk : m.kind = 2 := by
          apply Decidable.byContradiction
          intro hk
          have : hides l p = true := (hides_at (layer_srt hl)).2 ⟨pathUp p, m, hmu, hk, inP_iff.2 (.inr u2)⟩
          rw [hh] at this
          cases this
         exact ⟨_, markEnt_dir (isDirM_iff.2 (.inl hk)), rfl⟩
       | none =>
         have : hides l (pathUp p) = false := by
          rw [← Bool.not_eq_true]
          intro h5
          rw [hides_down hl u1 u2 h5] at hh
          cases hh
         simp only [this]
         exact ⟨d, by simpa using d1, d2⟩
theorem layerOn_some {l : List Mrk} {t u : List Ent} (h : layerOn l t = some u) : layerOk l = true ∧ treeOk t = true ∧ treeOk u = true ∧ ∀ p, entAt u p = onAt l t p := by
 unfold layerOn at h
 split at h
 · rename_i hc
   cases h
   exact ⟨hc.1, hc.2.1, onL_ok hc.1 hc.2.1 hc.2.2, onL_at (layer_srt hc.1) (treeOk_srt hc.2.1)⟩
 · cases h
end Go.Par
namespace Go.Par
open Go Go.RowKit Go.Ab Go.Proofs Go.Sort
instance : Inhabited Ent := ⟨ent0⟩
instance : Inhabited Mrk := ⟨⟨[], 0, []⟩⟩
abbrev vS (l : Bs) : Value := .string ⟨l.toArray⟩
def Ent.v (e : Ent) : List Value := [vS e.path, .bool e.dir, vS e.data]
def Mrk.v (m : Mrk) : List Value := [vS m.path, .int .i64 m.kind, vS m.data]
theorem cellsE : Cells Ent.v Ent.c 3 where
 len _ := rfl
 lenD _ := rfl
 one x u hu := by
  simp only [Ent.v, List.mem_cons, List.not_mem_nil, or_false] at hu
  rcases hu with rfl | rfl | rfl <;> rfl
 rel w Av x j d hd := by
  match j, hd with
  | 0, hd => cases hd; exact ⟨_, rfl, .s _⟩
  | 1, hd => cases hd; exact ⟨_, rfl, .b _⟩
  | 2, hd => cases hd; exact ⟨_, rfl, .s _⟩
  | n + 3, hd => cases hd
 inv w Av x j d u hd hu := by
  match j, hd with
  | 0, hd => cases hd; cases hu; rfl
  | 1, hd => cases hd; cases hu; rfl
  | 2, hd => cases hd; cases hu; rfl
  | n + 3, hd => cases hd
theorem cellsM : Cells Mrk.v Mrk.c 3 where
 len _ := rfl
 lenD _ := rfl
 one x u hu := by
  simp only [Mrk.v, List.mem_cons, List.not_mem_nil, or_false] at hu
  rcases hu with rfl | rfl | rfl <;> rfl
 rel w Av x j d hd := by
  match j, hd with
  | 0, hd => cases hd; exact ⟨_, rfl, .s _⟩
  | 1, hd => cases hd; exact ⟨_, rfl, .k _ _⟩
  | 2, hd => cases hd; exact ⟨_, rfl, .s _⟩
  | n + 3, hd => cases hd
 inv w Av x j d u hd hu := by
  match j, hd with
  | 0, hd => cases hd; cases hu; rfl
  | 1, hd => cases hd; cases hu; rfl
  | 2, hd => cases hd; cases hu; rfl
  | n + 3, hd => cases hd
def cmpS (a b : Bs) : Int := if lt a b then -1 else if lt b a then 1 else 0
theorem cmpS_lt (a b : Bs) : decide (cmpS a b < 0) = lt a b := by
 unfold cmpS
 cases lt a b
 · cases lt b a <;> simp
 · simp
theorem lt_ntrans {a b c : Bs} (h1 : lt a b = false) (h2 : lt b c = false) : lt a c = false := by
 rw [← Bool.not_eq_true]
 intro h
 rcases lt_total a b with k | k | k
 · rw [h1] at k; cases k
 · rw [k, h2] at h; cases h
 · have := lt_trans _ _ _ k h
   rw [h2] at this
   cases this
theorem swoE : SWO (ltOf fun x y : Ent => cmpS x.path y.path) where
 irrefl x := by rw [ltOf, cmpS_lt]; exact lt_irrefl _
 trans x y z h1 h2 := by
  rw [ltOf, cmpS_lt] at *
  exact lt_trans _ _ _ h1 h2
 ntrans x y z h1 h2 := by
  rw [ltOf, cmpS_lt] at *
  exact lt_ntrans h1 h2
theorem swoM : SWO (ltOf fun x y : Mrk => cmpS x.path y.path) where
 irrefl x := by rw [ltOf, cmpS_lt]; exact lt_irrefl _
 trans x y z h1 h2 := by
  rw [ltOf, cmpS_lt] at *
  exact lt_trans _ _ _ h1 h2
 ntrans x y z h1 h2 := by
  rw [ltOf, cmpS_lt] at *
  exact lt_ntrans h1 h2
section
variable {α : Type} [Inhabited α] {pa : α → Bs}
theorem perm_list {L : List α} {d : Array α} (h : PermIn 0 L.toArray.size L.toArray d) : d.toList.Perm L := by
 obtain ⟨h1, _, h3⟩ := h
 have e1 : d.extract 0 L.toArray.size = d := by rw [← h1]; simp
 have e2 : L.toArray.extract 0 L.toArray.size = L.toArray := by simp
 rw [e1, e2] at h3
 exact h3
theorem sorted_list {L : List α} {d : Array α} (h1 : d.size = L.toArray.size) (h : SortedIn (ltOf fun x y : α => cmpS (pa x) (pa y)) 0 L.toArray.size d) : d.toList.Pairwise fun a b => lt (pa b) (pa a) = false := by
 rw [List.pairwise_iff_getElem]
 intro i j hi hj hij
 have h2 := h i j (Nat.zero_le _) hij (by rw [← h1]; simpa using hj)
 rw [ltOf, cmpS_lt, getElem!_pos _ i (by simpa using hi), getElem!_pos _ j (by simpa using hj)] at h2
 exact h2
end
theorem uniq_len' {α : Type} {pa : α → Bs} {L U : List α} (hU : ∀ S : List α, S.Perm L → (S.Pairwise fun a b => lt (pa b) (pa a) = false) → S = U) : U.length = L.length := by
 have hp : (L.mergeSort fun x y => !lt (pa y) (pa x)).Perm L := List.mergeSort_perm _ _
 have hs : (L.mergeSort fun x y => !lt (pa y) (pa x)).Pairwise fun x y => (!lt (pa y) (pa x)) = true := by
  refine List.pairwise_mergeSort (fun a b c h1 h2 => ?_) (fun a b => ?_) _
  · simp only [Bool.not_eq_true'] at *
    exact lt_ntrans h2 h1
  · cases h : lt (pa b) (pa a) with
    | false => simp
    | true => simp [lt_asymm _ _ h]
 rw [← hU _ hp (hs.imp fun h => by simpa using h), hp.length_eq]
end Go.Par
namespace Go.Proofs
open Go.Shelf
def Tryz.sortE_ren : Go.Shelf.Ren := ⟨fun | 6 => 245 | 15 => 287 | 14 => 286 | 28 => 319 | 29 => 320 | 20 => 311 | 21 => 312 | 22 => 313 | 23 => 314 | 24 => 315 | 25 => 316 | 26 => 317 | 27 => 318 | 46 => 331 | 47 => 332 | 48 => 333 | 49 => 334 | 50 => 335 | 57 => 348 | n => n, fun | 22 => 45 | 24 => 150 | 25 => 260 | 3 => 3 | 39 => 263 | 0 => 0 | 53 => 288 | 55 => 293 | 4 => 4 | 46 => 303 | 45 => 302 | 50 => 117 | 5 => 5 | 9 => 9 | 66 => 322 | 70 => 326 | 76 => 334 | 77 => 335 | n => n, fun | n => n⟩
theorem Tryz.sortE : Go.Proofs.SlLaysF0.n6 Tryz.prog Tryz.sortE_ren := {
 mixed := by kernel_rfl
 f6 := ⟨Tryz.f245.name, by decide, Tryz.func245.trans (congrArg some (by kernel_rfl))⟩
 f14 := ⟨Tryz.f286.name, by decide, Tryz.func286.trans (congrArg some (by kernel_rfl))⟩
 f15 := Tryz.func287.trans (congrArg some (by kernel_rfl))
 f20 := ⟨Tryz.f311.name, by decide, Tryz.func311.trans (congrArg some (by kernel_rfl))⟩
 f21 := ⟨Tryz.f312.name, by decide, Tryz.func312.trans (congrArg some (by kernel_rfl))⟩
 f22 := ⟨Tryz.f313.name, by decide, Tryz.func313.trans (congrArg some (by kernel_rfl))⟩
 f23 := ⟨Tryz.f314.name, by decide, Tryz.func314.trans (congrArg some (by kernel_rfl))⟩
 f24 := ⟨Tryz.f315.name, by decide, Tryz.func315.trans (congrArg some (by kernel_rfl))⟩
 f25 := ⟨Tryz.f316.name, by decide, Tryz.func316.trans (congrArg some (by kernel_rfl))⟩
 f26 := ⟨Tryz.f317.name, by decide, Tryz.func317.trans (congrArg some (by kernel_rfl))⟩
 f27 := ⟨Tryz.f318.name, by decide, Tryz.func318.trans (congrArg some (by kernel_rfl))⟩
 f28 := Tryz.func319.trans (congrArg some (by kernel_rfl))
 f29 := Tryz.func320.trans (congrArg some (by kernel_rfl))
 f46 := ⟨Tryz.f331.name, by decide, Tryz.func331.trans (congrArg some (by kernel_rfl))⟩
 f47 := Tryz.func332.trans (congrArg some (by kernel_rfl))
 f48 := Tryz.func333.trans (congrArg some (by kernel_rfl))
 f49 := ⟨Tryz.f334.name, by decide, Tryz.func334.trans (congrArg some (by kernel_rfl))⟩
 f50 := ⟨Tryz.f335.name, by decide, Tryz.func335.trans (congrArg some (by kernel_rfl))⟩
 f57 := ⟨Tryz.f348.name, by decide, Tryz.func348.trans (congrArg some (by kernel_rfl))⟩
 t0 := Tryz.underlying0
 a0 := Tryz.isAgg0
 z0 := Tryz.sizeOf0
 v0 := Tryz.zeroValue0
 t3 := Tryz.underlying3
 a3 := Tryz.isAgg3
 z3 := Tryz.sizeOf3
 v3 := Tryz.zeroValue3
 t4 := Tryz.underlying4
 a4 := Tryz.isAgg4
 z4 := Tryz.sizeOf4
 v4 := Tryz.zeroValue4
 t5 := Tryz.underlying5
 a5 := Tryz.isAgg5
 z5 := Tryz.sizeOf5
 v5 := Tryz.zeroValue5
 t9 := Tryz.underlying9
 a9 := Tryz.isAgg9
 z9 := Tryz.sizeOf9
 v9 := Tryz.zeroValue9
 t22 := Tryz.underlying45
 a22 := Tryz.isAgg45
 z22 := Tryz.sizeOf45
 v22 := Tryz.zeroValue45
 t25 := Tryz.underlying260
 a25 := Tryz.isAgg260
 z25 := Tryz.sizeOf260
 v25 := Tryz.zeroValue260
 t39 := Tryz.underlying263
 a39 := Tryz.isAgg263
 z39 := Tryz.sizeOf263
 v39 := Tryz.zeroValue263
 t45 := Tryz.underlying302
 a45 := Tryz.isAgg302
 z45 := Tryz.sizeOf302
 v45 := Tryz.zeroValue302
 t46 := Tryz.underlying303
 a46 := Tryz.isAgg303
 z46 := Tryz.sizeOf303
 v46 := Tryz.zeroValue303
 t50 := Tryz.underlying117
 a50 := Tryz.isAgg117
 z50 := Tryz.sizeOf117
 v50 := Tryz.zeroValue117
 t53 := Tryz.underlying288
 a53 := Tryz.isAgg288
 z53 := Tryz.sizeOf288
 v53 := Tryz.zeroValue288
 t55 := Tryz.underlying293
 a55 := Tryz.isAgg293
 z55 := Tryz.sizeOf293
 v55 := Tryz.zeroValue293
 t66 := Tryz.underlying322
 a66 := Tryz.isAgg322
 z66 := Tryz.sizeOf322
 v66 := Tryz.zeroValue322
 t70 := Tryz.underlying326
 a70 := Tryz.isAgg326
 z70 := Tryz.sizeOf326
 v70 := Tryz.zeroValue326
 t76 := Tryz.underlying334
 a76 := Tryz.isAgg334
 z76 := Tryz.sizeOf334
 v76 := Tryz.zeroValue334
 t77 := Tryz.underlying335
 a77 := Tryz.isAgg335
 z77 := Tryz.sizeOf335
 v77 := Tryz.zeroValue335 }
def Tryz.sortM_ren : Go.Shelf.Ren := ⟨fun | 6 => 307 | 15 => 287 | 14 => 330 | 28 => 319 | 29 => 320 | 20 => 340 | 21 => 341 | 22 => 342 | 23 => 343 | 24 => 344 | 25 => 345 | 26 => 346 | 27 => 347 | 46 => 351 | 47 => 332 | 48 => 333 | 49 => 352 | 50 => 353 | 57 => 354 | n => n, fun | 22 => 47 | 24 => 197 | 25 => 300 | 3 => 3 | 39 => 263 | 0 => 0 | 53 => 288 | 55 => 293 | 4 => 4 | 46 => 303 | 45 => 302 | 50 => 117 | 5 => 5 | 9 => 9 | 66 => 322 | 70 => 326 | 76 => 334 | 77 => 335 | n => n, fun | n => n⟩
theorem Tryz.sortM : Go.Proofs.SlLaysF0.n6 Tryz.prog Tryz.sortM_ren := {
 mixed := by kernel_rfl
 f6 := ⟨Tryz.f307.name, by decide, Tryz.func307.trans (congrArg some (by kernel_rfl))⟩
 f14 := ⟨Tryz.f330.name, by decide, Tryz.func330.trans (congrArg some (by kernel_rfl))⟩
 f15 := Tryz.func287.trans (congrArg some (by kernel_rfl))
 f20 := ⟨Tryz.f340.name, by decide, Tryz.func340.trans (congrArg some (by kernel_rfl))⟩
 f21 := ⟨Tryz.f341.name, by decide, Tryz.func341.trans (congrArg some (by kernel_rfl))⟩
 f22 := ⟨Tryz.f342.name, by decide, Tryz.func342.trans (congrArg some (by kernel_rfl))⟩
 f23 := ⟨Tryz.f343.name, by decide, Tryz.func343.trans (congrArg some (by kernel_rfl))⟩
 f24 := ⟨Tryz.f344.name, by decide, Tryz.func344.trans (congrArg some (by kernel_rfl))⟩
 f25 := ⟨Tryz.f345.name, by decide, Tryz.func345.trans (congrArg some (by kernel_rfl))⟩
 f26 := ⟨Tryz.f346.name, by decide, Tryz.func346.trans (congrArg some (by kernel_rfl))⟩
 f27 := ⟨Tryz.f347.name, by decide, Tryz.func347.trans (congrArg some (by kernel_rfl))⟩
 f28 := Tryz.func319.trans (congrArg some (by kernel_rfl))
 f29 := Tryz.func320.trans (congrArg some (by kernel_rfl))
 f46 := ⟨Tryz.f351.name, by decide, Tryz.func351.trans (congrArg some (by kernel_rfl))⟩
 f47 := Tryz.func332.trans (congrArg some (by kernel_rfl))
 f48 := Tryz.func333.trans (congrArg some (by kernel_rfl))
 f49 := ⟨Tryz.f352.name, by decide, Tryz.func352.trans (congrArg some (by kernel_rfl))⟩
 f50 := ⟨Tryz.f353.name, by decide, Tryz.func353.trans (congrArg some (by kernel_rfl))⟩
 f57 := ⟨Tryz.f354.name, by decide, Tryz.func354.trans (congrArg some (by kernel_rfl))⟩
 t0 := Tryz.underlying0
 a0 := Tryz.isAgg0
 z0 := Tryz.sizeOf0
 v0 := Tryz.zeroValue0
 t3 := Tryz.underlying3
 a3 := Tryz.isAgg3
 z3 := Tryz.sizeOf3
 v3 := Tryz.zeroValue3
 t4 := Tryz.underlying4
 a4 := Tryz.isAgg4
 z4 := Tryz.sizeOf4
 v4 := Tryz.zeroValue4
 t5 := Tryz.underlying5
 a5 := Tryz.isAgg5
 z5 := Tryz.sizeOf5
 v5 := Tryz.zeroValue5
 t9 := Tryz.underlying9
 a9 := Tryz.isAgg9
 z9 := Tryz.sizeOf9
 v9 := Tryz.zeroValue9
 t22 := Tryz.underlying47
 a22 := Tryz.isAgg47
 z22 := Tryz.sizeOf47
 v22 := Tryz.zeroValue47
 t25 := Tryz.underlying300
 a25 := Tryz.isAgg300
 z25 := Tryz.sizeOf300
 v25 := Tryz.zeroValue300
 t39 := Tryz.underlying263
 a39 := Tryz.isAgg263
 z39 := Tryz.sizeOf263
 v39 := Tryz.zeroValue263
 t45 := Tryz.underlying302
 a45 := Tryz.isAgg302
 z45 := Tryz.sizeOf302
 v45 := Tryz.zeroValue302
 t46 := Tryz.underlying303
 a46 := Tryz.isAgg303
 z46 := Tryz.sizeOf303
 v46 := Tryz.zeroValue303
 t50 := Tryz.underlying117
 a50 := Tryz.isAgg117
 z50 := Tryz.sizeOf117
 v50 := Tryz.zeroValue117
 t53 := Tryz.underlying288
 a53 := Tryz.isAgg288
 z53 := Tryz.sizeOf288
 v53 := Tryz.zeroValue288
 t55 := Tryz.underlying293
 a55 := Tryz.isAgg293
 z55 := Tryz.sizeOf293
 v55 := Tryz.zeroValue293
 t66 := Tryz.underlying322
 a66 := Tryz.isAgg322
 z66 := Tryz.sizeOf322
 v66 := Tryz.zeroValue322
 t70 := Tryz.underlying326
 a70 := Tryz.isAgg326
 z70 := Tryz.sizeOf326
 v70 := Tryz.zeroValue326
 t76 := Tryz.underlying334
 a76 := Tryz.isAgg334
 z76 := Tryz.sizeOf334
 v76 := Tryz.zeroValue334
 t77 := Tryz.underlying335
 a77 := Tryz.isAgg335
 z77 := Tryz.sizeOf335
 v77 := Tryz.zeroValue335 }
end Go.Proofs
