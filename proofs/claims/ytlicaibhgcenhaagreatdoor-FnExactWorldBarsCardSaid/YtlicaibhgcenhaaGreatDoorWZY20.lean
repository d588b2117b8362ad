/- Texts of this claim, set close: lemmas and contracts. -/
import Derived.Test.YtlicaibhgcenhaaGreatDoorWZY16
import Derived.Test.YtlicaibhgcenhaaGreatDoorWZY18
set_option linter.unusedSimpArgs false
set_option linter.unusedVariables false
namespace Go.Par
open Go.Ab
theorem markAt_app (l r : List Mrk) (q : Bs) : markAt (l ++ r) q = (markAt l q).or (markAt r q) := by simp [markAt, List.find?_append]
theorem not_under_pathUp_root {p q : Bs} (hp : pathOk p = true) (hr : pathUp p = [47]) (hq : pathOk q = true) : under p q = false := by
 rw [← Bool.not_eq_true]
 intro h
 have h1 := (under_up hp hq h).1
 rw [hr, path_root] at h1
 cases h1
theorem under_up_iff {p q : Bs} (hp : pathOk p = true) (hq : pathOk q = true) : under p q = true ↔ pathUp p = q ∨ under (pathUp p) q = true := ⟨fun h => (under_up hp hq h).2, up_under hp hq⟩
def dirM (p q : Bs) : Option Mrk := if pathOk q = true ∧ under p q = true then some ⟨q, 2, []⟩ else none
theorem dirM_root {p : Bs} (hp : pathOk p = true) (hr : pathUp p = [47]) (q : Bs) : dirM p q = none := by
 unfold dirM
 rw [if_neg]
 rintro ⟨h1, h2⟩
 rw [not_under_pathUp_root hp hr h1] at h2
 cases h2
theorem dirM_up {p : Bs} (hp : pathOk p = true) (hr : pathUp p ≠ [47]) (q : Bs) : dirM p q = (if pathUp p = q then some ⟨pathUp p, 2, []⟩ else none : Option Mrk).or (dirM (pathUp p) q) := by
 obtain ⟨u1, u2⟩ := up_of_ne hp hr
 by_cases hq : pathUp p = q
 · subst hq
   unfold dirM
   rw [if_pos ⟨u1, u2⟩, if_pos rfl]
   rfl
 · rw [if_neg hq, Option.none_or]
   unfold dirM
   by_cases hk : pathOk q = true
   · have := under_up_iff hp hk
     simp only [hq, false_or] at this
     by_cases h : under p q = true
     · rw [if_pos ⟨hk, h⟩, if_pos ⟨hk, this.1 h⟩]
     · rw [if_neg fun x => h x.2, if_neg fun x => h (this.2 x.2)]
   · rw [if_neg fun x => hk x.1, if_neg fun x => hk x.1]
theorem kindAt_zero {l : List Mrk} (h : ∀ m ∈ l, m.kind ≠ 0) {q : Bs} : kindAt l q = 0 ↔ markAt l q = none := by
 unfold kindAt
 cases hm : markAt l q with
 | none => simp
 | some m => simp [h m (markAt_some hm).1]
theorem ups_at : ∀ (n : Nat) {l : List Mrk} {p : Bs}, p.length ≤ n → pathOk p = true → sorted (pathsM l) → (∀ m ∈ l, m.kind ≠ 0) →
   sorted (pathsM (upsM n l p)) ∧ (∀ m ∈ upsM n l p, m.kind ≠ 0) ∧ ∀ q, markAt (upsM n l p) q = (markAt l q).or (dirM p q)
 | 0, l, p, hn, hp, _, _ => by have := (pathOk_pos hp).1; omega
 | n + 1, l, p, hn, hp, hs, hk => by
   unfold upsM
   by_cases hr : pathUp p = [47]
   · rw [if_pos hr]
     exact ⟨hs, hk, fun q => by rw [dirM_root hp hr, Option.or_none]⟩
   · rw [if_neg hr]
     obtain ⟨u1, u2⟩ := up_of_ne hp hr
     have := pathUp_short hp hr
     by_cases h0 : kindAt l (pathUp p) = 0
     · rw [if_pos h0]
       obtain ⟨i1, i2, i3⟩ := ups_at n (l := putM l ⟨pathUp p, 2, []⟩) (p := pathUp p) (by omega) u1 (putM_sorted hs _) (fun m hm => by
        rcases putM_mem hm with rfl | hm
        · simp
        · exact hk m hm)
       refine ⟨i1, i2, fun q => ?_⟩
       rw [i3, putM_at hs, dirM_up hp hr]
       have h1 := (kindAt_zero hk).1 h0
       by_cases hq : pathUp p = q
       · rw [if_pos hq, if_pos hq, ← hq, h1]
         rfl
       · rw [if_neg hq, if_neg hq, Option.none_or]
     · rw [if_neg h0]
       obtain ⟨i1, i2, i3⟩ := ups_at n (l := l) (p := pathUp p) (by omega) u1 hs hk
       refine ⟨i1, i2, fun q => ?_⟩
       rw [i3, dirM_up hp hr]
       have h1 : markAt l (pathUp p) ≠ none := fun h => h0 ((kindAt_zero hk).2 h)
       by_cases hq : pathUp p = q
       · rw [if_pos hq, ← hq]
         cases hm : markAt l (pathUp p) with
         | none => exact absurd hm h1
         | some m => rfl
       · rw [if_neg hq, Option.none_or]
def upsA : Nat → List Mrk → Bs → List Mrk
 | 0, l, _ => l
 | n + 1, l, p => if pathUp p = [47] then l else upsA n (if (markAt l (pathUp p)).isNone then l ++ [⟨pathUp p, 2, []⟩] else l) (pathUp p)
theorem nodup_snoc {l : List Mrk} {m : Mrk} (h : (pathsM l).Nodup) (hm : markAt l m.path = none) : (pathsM (l ++ [m])).Nodup := by
 rw [pathsM, List.map_append, List.nodup_append]
 refine ⟨h, by simp, ?_⟩
 intro a ha b hb hab
 simp at hb
 rw [hab, hb] at ha
 exact markAt_none.1 hm ha
theorem markAt_one (m : Mrk) (q : Bs) : markAt [m] q = if m.path = q then some m else none := by
 rw [markAt_cons]
 rfl
theorem upsA_at : ∀ (n : Nat) {l : List Mrk} {p : Bs}, p.length ≤ n → pathOk p = true → (pathsM l).Nodup →
   (pathsM (upsA n l p)).Nodup ∧ (∃ X, upsA n l p = l ++ X ∧ X.length ≤ n) ∧ ∀ q, markAt (upsA n l p) q = (markAt l q).or (dirM p q)
 | 0, l, p, hn, hp, _ => by have := (pathOk_pos hp).1; omega
 | n + 1, l, p, hn, hp, hs => by
   unfold upsA
   by_cases hr : pathUp p = [47]
   · rw [if_pos hr]
     exact ⟨hs, ⟨[], by simp, by simp⟩, fun q => by rw [dirM_root hp hr, Option.or_none]⟩
   · rw [if_neg hr]
     obtain ⟨u1, u2⟩ := up_of_ne hp hr
     have := pathUp_short hp hr
     cases h0 : markAt l (pathUp p) with
     | none =>
       rw [Option.isNone_none, if_pos rfl]
       obtain ⟨i1, ⟨X, i2, i4⟩, i3⟩ := upsA_at n (l := l ++ [⟨pathUp p, 2, []⟩]) (p := pathUp p) (by omega) u1 (nodup_snoc hs h0)
       refine ⟨i1, ⟨⟨pathUp p, 2, []⟩ :: X, by rw [i2]; simp, by simp; omega⟩, fun q => ?_⟩
       rw [i3, markAt_app, markAt_one, dirM_up hp hr, Option.or_assoc]
     | some m =>
       rw [Option.isNone_some, if_neg (by simp)]
       obtain ⟨i1, ⟨X, i2, i4⟩, i3⟩ := upsA_at n (l := l) (p := pathUp p) (by omega) u1 hs
       refine ⟨i1, ⟨X, i2, by omega⟩, fun q => ?_⟩
       rw [i3, dirM_up hp hr]
       by_cases hq : pathUp p = q
       · rw [if_pos hq, ← hq, h0]
         rfl
       · rw [if_neg hq, Option.none_or]
def baseM (a b : List Ent) (p : Bs) : Option Mrk := if entAt a p = entAt b p then none else match entAt b p with
 | some e => some (if e.dir then ⟨p, 2, []⟩ else ⟨p, 1, e.data⟩)
 | none => if upCode b p = 0 then some ⟨p, 3, []⟩ else none
theorem baseM_some {a b : List Ent} {p : Bs} {m : Mrk} (h : baseM a b p = some m) : m.path = p ∧ entAt a p ≠ entAt b p ∧
   ((∃ e, entAt b p = some e ∧ e.dir = true ∧ m = ⟨p, 2, []⟩) ∨ (∃ e, entAt b p = some e ∧ e.dir = false ∧ m = ⟨p, 1, e.data⟩) ∨ (entAt b p = none ∧ upCode b p = 0 ∧ m = ⟨p, 3, []⟩)) := by
 unfold baseM at h
 split at h
 · cases h
 · rename_i hne
   split at h
   · rename_i e he
     cases h
     cases hd : e.dir with
     | true => exact ⟨rfl, hne, .inl ⟨e, he, hd, rfl⟩⟩
     | false => exact ⟨rfl, hne, .inr (.inl ⟨e, he, hd, rfl⟩)⟩
   · rename_i he
     split at h
     · rename_i hu
       cases h
       exact ⟨rfl, hne, .inr (.inr ⟨he, hu, rfl⟩)⟩
     · cases h
theorem baseM_kind {a b : List Ent} {p : Bs} {m : Mrk} (h : baseM a b p = some m) : m.kind ≠ 0 := by
 obtain ⟨_, _, ⟨e, _, _, rfl⟩ | ⟨e, _, _, rfl⟩ | ⟨_, _, rfl⟩⟩ := baseM_some h <;> simp
def above (a b : List Ent) (T : List Bs) (q : Bs) : Bool := pathOk q && T.any fun p => (baseM a b p).isSome && under p q
def diffAt (a b : List Ent) (T : List Bs) (q : Bs) : Option Mrk := (if q ∈ T then baseM a b q else none).or (if above a b T q = true then some ⟨q, 2, []⟩ else none)
def diffS (a b : List Ent) (out : List Mrk) (p : Bs) : List Mrk := match baseM a b p with
 | some m => upsM 12 (putM out m) p
 | none => out
def diffL (a b : List Ent) : List Mrk := (turnedL a b).foldl (diffS a b) []
theorem above_snoc (a b : List Ent) (T : List Bs) (p q : Bs) : above a b (T ++ [p]) q = (above a b T q || (pathOk q && ((baseM a b p).isSome && under p q))) := by
 unfold above
 rw [List.any_append]
 cases pathOk q <;> simp
theorem or_if {c : Prop} [Decidable c] {d : Prop} [Decidable d] {m : Mrk} : (if c then some m else none : Option Mrk).or (if d then some m else none) = if c ∨ d then some m else none := by
 by_cases hc : c <;> by_cases hd : d <;> simp [hc, hd]
theorem diffS_inv {a b : List Ent} {T : List Bs} {out : List Mrk} {p : Bs} (hp : pathOk p = true) (h1 : sorted (pathsM out)) (h2 : ∀ m ∈ out, m.kind ≠ 0) (h3 : ∀ q, markAt out q = diffAt a b T q) :
   sorted (pathsM (diffS a b out p)) ∧ (∀ m ∈ diffS a b out p, m.kind ≠ 0) ∧ ∀ q, markAt (diffS a b out p) q = diffAt a b (T ++ [p]) q := by
 unfold diffS
 cases hb : baseM a b p with
 | none =>
   refine ⟨h1, h2, fun q => ?_⟩
   simp only
   rw [h3]
   unfold diffAt
   rw [above_snoc, hb]
   simp only [Option.isSome_none, Bool.false_and, Bool.and_false, Bool.or_false]
   congr 1
   by_cases hq : q = p
   · subst hq
     rw [hb]
     simp
   · simp [hq]
 | some m =>
   simp only
   obtain ⟨b1, _, _⟩ := baseM_some hb
   have hk : ∀ x ∈ putM out m, x.kind ≠ 0 := fun x hx => by
    rcases putM_mem hx with rfl | hx
    · exact baseM_kind hb
    · exact h2 x hx
   obtain ⟨i1, i2, i3⟩ := ups_at 12 (l := putM out m) (p := p) (pathOk_pos hp).2 hp (putM_sorted h1 _) hk
   refine ⟨i1, i2, fun q => ?_⟩
   rw [i3, putM_at h1, h3, b1]
   unfold diffAt
   rw [above_snoc, hb]
   by_cases hq : p = q
   · subst hq
     rw [if_pos rfl, if_pos (by simp), hb]
     rfl
   · rw [if_neg hq, Option.or_assoc]
     congr 1
     · simp [Ne.symm hq]
     · unfold dirM
       rw [or_if]
       simp
theorem diff_fold {a b : List Ent} : ∀ (T2 T : List Bs) (out : List Mrk), (∀ p ∈ T2, pathOk p = true) → sorted (pathsM out) → (∀ m ∈ out, m.kind ≠ 0) → (∀ q, markAt out q = diffAt a b T q) →
   sorted (pathsM (T2.foldl (diffS a b) out)) ∧ ∀ q, markAt (T2.foldl (diffS a b) out) q = diffAt a b (T ++ T2) q
 | [], T, out, _, h1, _, h3 => ⟨h1, fun q => by rw [List.append_nil]; exact h3 q⟩
 | p :: T2, T, out, hp, h1, h2, h3 => by
   obtain ⟨i1, i2, i3⟩ := diffS_inv (hp p (by simp)) h1 h2 h3
   have := diff_fold T2 (T ++ [p]) _ (fun q hq => hp q (by simp [hq])) i1 i2 i3
   simpa using this
theorem turned_ok {a b : List Ent} (ha : treeOk a = true) (hb : treeOk b = true) {p : Bs} (hp : p ∈ turnedL a b) : pathOk p = true := by
 rw [turned_mem ha hb] at hp
 cases he : entAt a p with
 | some e => exact (tree_at ha he).2.2.1
 | none =>
   cases hf : entAt b p with
   | some f => exact (tree_at hb hf).2.2.1
   | none => rw [he, hf] at hp; exact absurd rfl hp
theorem diffL_at {a b : List Ent} (ha : treeOk a = true) (hb : treeOk b = true) : sorted (pathsM (diffL a b)) ∧ ∀ q, markAt (diffL a b) q = diffAt a b (turnedL a b) q := by
 have h0 : sorted (pathsM ([] : List Mrk)) := List.Pairwise.nil
 have := diff_fold (a := a) (b := b) (turnedL a b) [] [] (fun p hp => turned_ok ha hb hp) h0 (by simp) (fun q => by simp [diffAt, above, markAt])
 rw [List.nil_append] at this
 exact this
theorem above_dir {a b : List Ent} (ha : treeOk a = true) (hb : treeOk b = true) {q : Bs} (h : above a b (turnedL a b) q = true) : pathOk q = true ∧ ∃ e, entAt b q = some e ∧ e.dir = true := by
 unfold above at h
 rw [Bool.and_eq_true, List.any_eq_true] at h
 obtain ⟨hq, p, hp, h⟩ := h
 rw [Bool.and_eq_true] at h
 obtain ⟨h1, h2⟩ := h
 refine ⟨hq, ?_⟩
 obtain ⟨m, hm⟩ := Option.isSome_iff_exists.1 h1
 have hpk := turned_ok ha hb hp
 obtain ⟨_, _, h3⟩ := baseM_some hm
 rcases h3 with ⟨e, he, _, _⟩ | ⟨e, he, _, _⟩ | ⟨he, hu, _⟩
 · exact under_in hb hq p.length (Nat.le_refl _) he h2
 · exact under_in hb hq p.length (Nat.le_refl _) he h2
 · rcases upCode_zero.1 hu with hr | ⟨d, d1, d2⟩
   · rw [not_under_pathUp_root hpk hr hq] at h2; cases h2
   · rcases (under_up hpk hq h2).2 with h4 | h4
     · exact ⟨d, by rw [← h4]; exact d1, d2⟩
     · exact under_in hb hq (pathUp p).length (Nat.le_refl _) d1 h4
theorem diff_cases {a b : List Ent} (ha : treeOk a = true) (hb : treeOk b = true) {q : Bs} {m : Mrk} (h : markAt (diffL a b) q = some m) : pathOk q = true ∧ m.path = q ∧
   ((∃ e, entAt b q = some e ∧ e.dir = true ∧ m = ⟨q, 2, []⟩) ∨ (∃ e, entAt b q = some e ∧ e.dir = false ∧ m = ⟨q, 1, e.data⟩ ∧ entAt a q ≠ entAt b q) ∨ (entAt b q = none ∧ upCode b q = 0 ∧ m = ⟨q, 3, []⟩ ∧ entAt a q ≠ entAt b q)) := by
 rw [(diffL_at ha hb).2] at h
 unfold diffAt at h
 by_cases hT : q ∈ turnedL a b
 · rw [if_pos hT] at h
   cases hm : baseM a b q with
   | some x =>
     rw [hm, Option.some_or] at h
     cases h
     obtain ⟨h1, h2, h3⟩ := baseM_some hm
     refine ⟨turned_ok ha hb hT, h1, ?_⟩
     rcases h3 with ⟨e, he, hd, rfl⟩ | ⟨e, he, hd, rfl⟩ | ⟨he, hu, rfl⟩
     · exact .inl ⟨e, he, hd, rfl⟩
     · exact .inr (.inl ⟨e, he, hd, rfl, h2⟩)
     · exact .inr (.inr ⟨he, hu, rfl, h2⟩)
   | none =>
     rw [hm, Option.none_or] at h
     split at h
     · rename_i hab
       cases h
       obtain ⟨h1, e, he, hd⟩ := above_dir ha hb hab
       exact ⟨h1, rfl, .inl ⟨e, he, hd, rfl⟩⟩
     · cases h
 · rw [if_neg hT, Option.none_or] at h
   split at h
   · rename_i hab
     cases h
     obtain ⟨h1, e, he, hd⟩ := above_dir ha hb hab
     exact ⟨h1, rfl, .inl ⟨e, he, hd, rfl⟩⟩
   · cases h
theorem diff_above {a b : List Ent} (ha : treeOk a = true) (hb : treeOk b = true) {q : Bs} {m : Mrk} (h : markAt (diffL a b) q = some m) {u : Bs} (hu : pathOk u = true) (hq : under q u = true) : above a b (turnedL a b) u = true := by
 have hqk := (diff_cases ha hb h).1
 rw [(diffL_at ha hb).2] at h
 unfold above
 rw [hu, Bool.true_and, List.any_eq_true]
 unfold diffAt at h
 by_cases hT : q ∈ turnedL a b ∧ (baseM a b q).isSome = true
 · exact ⟨q, hT.1, by rw [hT.2, hq]; rfl⟩
 · have h0 : (if q ∈ turnedL a b then baseM a b q else none) = none := by
     split
     · rename_i h1
       cases hm : baseM a b q with
       | none => rfl
       | some x => exact absurd ⟨h1, by rw [hm]; rfl⟩ hT
     · rfl
   rw [h0, Option.none_or] at h
   split at h
   · rename_i hab
     unfold above at hab
     rw [Bool.and_eq_true, List.any_eq_true] at hab
     obtain ⟨_, p, hp, h1⟩ := hab
     rw [Bool.and_eq_true] at h1
     exact ⟨p, hp, by rw [h1.1, under_trans hqk hu h1.2 (.inr hq)]; rfl⟩
   · cases h
theorem diff_ok {a b : List Ent} (ha : treeOk a = true) (hb : treeOk b = true) : layerOk (diffL a b) = true := by
 have hs := (diffL_at ha hb).1
 refine layerOk_iff.2 ⟨?_, hs, fun m hm => ?_⟩
 · have h1 := nodup_sub (v := pathsE a ++ pathsE b) (sorted_nodup hs) (fun p hp => by
     obtain ⟨m, hm⟩ := markAt_mem hp
     rw [List.mem_append]
     obtain ⟨_, _, ⟨e, he, _⟩ | ⟨e, he, _⟩ | ⟨he, _, _, hne⟩⟩ := diff_cases ha hb hm
     · exact .inr (List.mem_map.2 ⟨e, (entAt_some he).1, (entAt_some he).2⟩)
     · exact .inr (List.mem_map.2 ⟨e, (entAt_some he).1, (entAt_some he).2⟩)
     · left
       cases hf : entAt a p with
       | none => rw [hf, he] at hne; exact absurd rfl hne
       | some f => exact List.mem_map.2 ⟨f, (entAt_some hf).1, (entAt_some hf).2⟩)
   have := treeOk_len ha
   have := treeOk_len hb
   simp only [List.length_append, List.length_map] at h1
   omega
 · have hmm := markAt_self hs hm
   obtain ⟨h1, h2, h3⟩ := diff_cases ha hb hmm
   refine ⟨?_, ?_, fun hk => ?_⟩
   · rcases h3 with ⟨e, he, hd, hx⟩ | ⟨e, he, hd, hx, _⟩ | ⟨he, hu, hx, _⟩
     · rw [hx]; exact markOk_mk (by simp) h1 rfl (fun _ => rfl)
     · rw [hx]; exact markOk_mk (by simp) h1 (entOk_data (tree_at hb he).1).1 (fun h => absurd rfl h)
     · rw [hx]; exact markOk_mk (by simp) h1 rfl (fun _ => rfl)
   · by_cases hr : pathUp m.path = [47]
     · exact .inl hr
     · right
       obtain ⟨u1, u2⟩ := up_of_ne h1 hr
       have hab := diff_above ha hb hmm u1 u2
       have hex : ∃ d, markAt (diffL a b) (pathUp m.path) = some d := by
        rw [(diffL_at ha hb).2]
        unfold diffAt
        rw [hab, if_pos rfl]
        cases (if pathUp m.path ∈ turnedL a b then baseM a b (pathUp m.path) else none) <;> exact ⟨_, rfl⟩
       obtain ⟨d, hd⟩ := hex
       refine ⟨d, hd, ?_⟩
       obtain ⟨_, e, he, hdir⟩ := above_dir ha hb hab
       obtain ⟨_, _, ⟨f, hf, _, hx⟩ | ⟨f, hf, hnd, hx, _⟩ | ⟨hf, _⟩⟩ := diff_cases ha hb hd
       · rw [hx]; rfl
       · rw [he] at hf; cases hf; rw [hdir] at hnd; cases hnd
       · rw [he] at hf; cases hf
   · unfold bare
     rw [List.any_eq_false]
     intro x hx
     obtain ⟨_, _, ⟨f, _, _, hy⟩ | ⟨f, _, _, hy, _⟩ | ⟨_, _, hy, _⟩⟩ := diff_cases ha hb (markAt_self hs hx) <;> rw [hy] <;> simp
theorem dir_eta {b : List Ent} (hb : treeOk b = true) {q : Bs} {e : Ent} (he : entAt b q = some e) (hd : e.dir = true) : e = ⟨q, true, []⟩ := by
 obtain ⟨h1, h2, _⟩ := tree_at hb he
 exact ent_eta h2 hd ((entOk_data h1).2 hd)
def diffB (a b : List Ent) : List Mrk := (turnedL a b).filterMap (baseM a b)
theorem filterM_at {f : Bs → Option Mrk} : ∀ {w : List Bs}, (∀ p m, f p = some m → m.path = p) → ∀ q, markAt (w.filterMap f) q = if q ∈ w then f q else none
 | [], _, q => by simp [markAt]
 | p :: w, h, q => by
   have ih := filterM_at (w := w) h q
   rw [List.filterMap_cons]
   cases hp : f p with
   | none =>
     simp only
     rw [ih]
     by_cases hq : q = p
     · subst hq; simp [hp]
     · simp [hq]
   | some m =>
     simp only
     rw [markAt_cons, ih, h p m hp]
     by_cases hq : p = q
     · subst hq; simp [hp]
     · simp [hq, Ne.symm hq]
theorem filterM_nodup {f : Bs → Option Mrk} : ∀ {w : List Bs}, w.Nodup → (∀ p m, f p = some m → m.path = p) → (pathsM (w.filterMap f)).Nodup
 | [], _, _ => by simp
 | p :: w, hn, h => by
   have hn2 := List.nodup_cons.1 hn
   have ih := filterM_nodup (w := w) hn2.2 h
   rw [List.filterMap_cons]
   cases hp : f p with
   | none => exact ih
   | some m =>
     simp only
     refine List.nodup_cons.2 ⟨fun hm => ?_, ih⟩
     obtain ⟨x, hx, h1⟩ := List.mem_map.1 hm
     obtain ⟨y, hy, h2⟩ := List.mem_filterMap.1 hx
     have h3 : y = p := (h y x h2).symm.trans (h1.trans (h p m hp))
     rw [h3] at hy
     exact hn2.1 hy
theorem diffB_path {a b : List Ent} (p : Bs) (m : Mrk) (h : baseM a b p = some m) : m.path = p := (baseM_some h).1
def diffU (a b : List Ent) (i : Nat) : List Mrk := ((diffB a b).take i).foldl (fun D m => upsA 12 D m.path) (diffB a b)
theorem diffU_succ {a b : List Ent} {i : Nat} {m : Mrk} (h : (diffB a b)[i]? = some m) : diffU a b (i + 1) = upsA 12 (diffU a b i) m.path := by
 unfold diffU
 rw [List.take_add_one, h, List.foldl_append]
 rfl
theorem diffU_inv {a b : List Ent} (ha : treeOk a = true) (hb : treeOk b = true) : ∀ i, i ≤ (diffB a b).length → (pathsM (diffU a b i)).Nodup ∧ (∃ X, diffU a b i = diffB a b ++ X ∧ X.length ≤ 12 * i) ∧
   ∀ q, markAt (diffU a b i) q = (markAt (diffB a b) q).or (if pathOk q = true ∧ ((diffB a b).take i).any (fun m => under m.path q) = true then some ⟨q, 2, []⟩ else none)
 | 0, _ => ⟨filterM_nodup (sorted_nodup turned_sorted) diffB_path, ⟨[], by simp [diffU], by simp⟩, fun q => by simp [diffU]⟩
 | i + 1, hi => by
   obtain ⟨i1, ⟨X, i2, i4⟩, i3⟩ := diffU_inv ha hb i (by omega)
   obtain ⟨m, hm⟩ : ∃ m, (diffB a b)[i]? = some m := ⟨_, List.getElem?_eq_getElem (by omega)⟩
   obtain ⟨p, hp, hpm⟩ := List.mem_filterMap.1 (List.mem_of_getElem? hm)
   have hmp : pathOk m.path = true := by rw [diffB_path p m hpm]; exact turned_ok ha hb hp
   rw [diffU_succ hm]
   obtain ⟨j1, ⟨Y, j2, j4⟩, j3⟩ := upsA_at 12 (l := diffU a b i) (p := m.path) (pathOk_pos hmp).2 hmp i1
   refine ⟨j1, ⟨X ++ Y, by rw [j2, i2]; simp, by simp; omega⟩, fun q => ?_⟩
   rw [j3, i3, Option.or_assoc]
   congr 1
   unfold dirM
   rw [or_if, List.take_add_one, hm, List.any_append]
   simp only [Option.toList_some, List.any_cons, List.any_nil, Bool.or_false, Bool.or_eq_true]
   by_cases hq : pathOk q = true <;> simp [hq]
theorem diffU_all {a b : List Ent} (ha : treeOk a = true) (hb : treeOk b = true) : (pathsM (diffU a b (diffB a b).length)).Nodup ∧ ∀ q, markAt (diffU a b (diffB a b).length) q = markAt (diffL a b) q := by
 obtain ⟨i1, _, i3⟩ := diffU_inv ha hb _ (Nat.le_refl _)
 refine ⟨i1, fun q => ?_⟩
 rw [i3, (diffL_at ha hb).2, List.take_length]
 unfold diffAt
 rw [show markAt (diffB a b) q = if q ∈ turnedL a b then baseM a b q else none from filterM_at diffB_path q]
 congr 1
 have : (pathOk q = true ∧ (diffB a b).any (fun m => under m.path q) = true) ↔ above a b (turnedL a b) q = true := by
  unfold above
  rw [Bool.and_eq_true, List.any_eq_true, List.any_eq_true]
  refine and_congr Iff.rfl ?_
  constructor
  · rintro ⟨m, hm, h⟩
    obtain ⟨p, hp, hpm⟩ := List.mem_filterMap.1 hm
    exact ⟨p, hp, by rw [hpm, ← diffB_path p m hpm, h]; rfl⟩
  · rintro ⟨p, hp, h⟩
    rw [Bool.and_eq_true] at h
    obtain ⟨m, hm⟩ := Option.isSome_iff_exists.1 h.1
    exact ⟨m, List.mem_filterMap.2 ⟨p, hp, hm⟩, by rw [diffB_path p m hm]; exact h.2⟩
 by_cases h : above a b (turnedL a b) q = true
 · rw [if_pos h, if_pos (this.2 h)]
 · rw [if_neg h, if_neg fun x => h (this.1 x)]
theorem diff_one {a b : List Ent} (ha : treeOk a = true) (hb : treeOk b = true) {S : List Mrk} (hp : S.Perm (diffU a b (diffB a b).length)) (hs : S.Pairwise fun a b => lt b.path a.path = false) : S = diffL a b :=
 sortM_one hp hs (diffU_all ha hb).1 (diffL_at ha hb).1 (diffU_all ha hb).2
theorem diffB_len {a b : List Ent} : (diffB a b).length ≤ 32 := by
 have := turned_len a b
 have := List.length_filterMap_le (baseM a b) (turnedL a b)
 unfold diffB
 omega
end Go.Par
