/- Texts of this claim, set close: lemmas and contracts. -/
import Derived.Test.YtlicaibhgcenhaaGreatDoorWZY14
set_option linter.unusedSimpArgs false
set_option linter.unusedVariables false
namespace Go.Par
open Go.Ab
theorem opOk_path {o : Opn} (h : opOk o = true) : pathOk o.path = true := by
 simp only [opOk, Bool.and_eq_true] at h
 exact h.1
theorem opOk_to {o : Opn} (h : opOk o = true) (hk : o.kind = 5) : pathOk o.tgt = true ∧ o.data = [] := by
 simp only [opOk, Bool.and_eq_true, hk, if_true, decide_eq_true_eq] at h
 exact h.2
theorem opOk_data {o : Opn} (h : opOk o = true) : dataOk o.data = true ∧ (o.kind ≠ 2 → o.data = []) ∧ (o.kind ≠ 5 → o.tgt = []) := by
 simp only [opOk, Bool.and_eq_true] at h
 obtain ⟨_, h⟩ := h
 split at h
 · rename_i hk
   simp only [Bool.and_eq_true, decide_eq_true_eq] at h
   refine ⟨by rw [h.2]; rfl, fun _ => h.2, fun hn => absurd hk hn⟩
 · split at h
   · rename_i hk
     simp only [Bool.and_eq_true, decide_eq_true_eq] at h
     exact ⟨h.2, fun hn => absurd hk hn, fun _ => h.1⟩
   · simp only [Bool.and_eq_true, decide_eq_true_eq] at h
     exact ⟨by rw [h.2]; rfl, fun _ => h.2, fun _ => h.1.2⟩
theorem entOk_mk {p d : Bs} {x : Bool} (hp : pathOk p = true) (hd : dataOk d = true) (hx : x = true → d = []) : entOk ⟨p, x, d⟩ = true := by
 simp only [entOk, hp, hd, Bool.true_and, Bool.and_true]
 cases x with
 | true => simp [hx rfl]
 | false => simp
theorem entOk_data {e : Ent} (h : entOk e = true) : dataOk e.data = true ∧ (e.dir = true → e.data = []) := by
 simp only [entOk, Bool.and_eq_true] at h
 refine ⟨h.1.2, fun hd => ?_⟩
 have := h.2
 rw [hd] at this
 simpa using this
theorem newCode_zero {t : List Ent} {p : Bs} (hp : pathOk p = true) : newCode t p = 0 ↔ upCode t p = 0 ∧ entAt t p = none ∧ t.length < 16 := by
 unfold newCode
 rw [entGet_ne (pathOk_ne hp)]
 by_cases h1 : upCode t p = 0
 · rw [if_neg (by simpa using h1)]
   cases h2 : entAt t p with
   | none =>
     simp only [Option.isSome_none, Bool.false_eq_true, if_false, h1, true_and]
     by_cases h3 : 16 ≤ t.length
     · rw [if_pos h3]; constructor
       · intro h; cases h
       · intro h; omega
     · rw [if_neg h3]; simp; omega
   | some e => simp
 · rw [if_pos (by simpa using h1)]
   simp [h1]
theorem newCode_four {t : List Ent} {p : Bs} (hp : pathOk p = true) : newCode t p = 4 ↔ upCode t p = 0 ∧ ∃ e, entAt t p = some e := by
 unfold newCode
 rw [entGet_ne (pathOk_ne hp)]
 by_cases h1 : upCode t p = 0
 · rw [if_neg (by simpa using h1)]
   cases h2 : entAt t p with
   | none =>
     simp only [Option.isSome_none, Bool.false_eq_true, if_false]
     split <;> simp
   | some e => simp [h1]
 · rw [if_pos (by simpa using h1)]
   have : upCode t p ≠ 4 := by
    unfold upCode
    repeat' split
    all_goals decide
   simp [h1, this]
theorem putCode_zero {t : List Ent} {p : Bs} (hp : pathOk p = true) : putCode t p = 0 ↔ upCode t p = 0 ∧ ((∃ e, entAt t p = some e ∧ e.dir = false) ∨ (entAt t p = none ∧ t.length < 16)) := by
 unfold putCode
 have hg : entGet t p = entAt t p := entGet_ne (pathOk_ne hp)
 by_cases h4 : newCode t p = 4
 · obtain ⟨h5, e, h6⟩ := (newCode_four hp).1 h4
   rw [hg, h6]
   cases hd : e.dir with
   | true => simp [h4, isDirO, hd, h5]
   | false => simp [h4, isDirO, hd, h5]
 · rw [if_neg (fun h => h4 h.1), if_neg h4, newCode_zero hp]
   constructor
   · rintro ⟨h1, h2, h3⟩
     exact ⟨h1, .inr ⟨h2, h3⟩⟩
   · rintro ⟨h1, ⟨e, h2, h3⟩ | h2⟩
     · exact absurd ((newCode_four hp).2 ⟨h1, e, h2⟩) h4
     · exact ⟨h1, h2.1, h2.2⟩
theorem offCode_zero {t : List Ent} {o : Opn} (hp : pathOk o.path = true) : offCode t o = 0 ↔ ∃ e, entAt t o.path = some e ∧ (o.kind = 3 → e.dir = false) ∧ (o.kind = 4 → e.dir = true) ∧ kids t o.path = [] := by
 unfold offCode
 rw [entGet_ne (pathOk_ne hp)]
 cases h : entAt t o.path with
 | none => simp
 | some e =>
   simp only
   by_cases h1 : o.kind = 3 ∧ e.dir = true
   · rw [if_pos h1]
     constructor
     · intro h; cases h
     · rintro ⟨e', h2, h3, _⟩
       cases h2
       rw [h3 h1.1] at h1
       cases h1.2
   · rw [if_neg h1]
     by_cases h2 : o.kind = 4 ∧ e.dir = false
     · rw [if_pos h2]
       constructor
       · intro h; cases h
       · rintro ⟨e', h3, _, h4, _⟩
         cases h3
         rw [h4 h2.1] at h2
         cases h2.2
     · rw [if_neg h2]
       by_cases h3 : 0 < (kids t o.path).length
       · rw [if_pos h3]
         constructor
         · intro h; cases h
         · rintro ⟨_, _, _, _, h4⟩
           rw [h4] at h3
           simp at h3
       · rw [if_neg h3]
         simp only [true_iff]
         refine ⟨e, rfl, fun hk => ?_, fun hk => ?_, List.length_eq_zero_iff.1 (by omega)⟩
         · cases hd : e.dir with
           | false => rfl
           | true => exact absurd ⟨hk, hd⟩ h1
         · cases hd : e.dir with
           | true => rfl
           | false => exact absurd ⟨hk, hd⟩ h2
theorem moveCode_zero {t : List Ent} {o : Opn} (ht : treeOk t = true) (hp : pathOk o.path = true) (hq : pathOk o.tgt = true) : moveCode t o = 0 ↔ (∃ e, entAt t o.path = some e) ∧ upCode t o.tgt = 0 ∧ entAt t o.tgt = none ∧ under o.tgt o.path = false ∧ ∀ e ∈ t, pathOk (mvP o.path o.tgt e.path) = true := by
 unfold moveCode
 rw [entGet_ne (pathOk_ne hp), entGet_ne (pathOk_ne hq)]
 cases h1 : entAt t o.path with
 | none => simp
 | some e1 =>
   simp only [Option.isNone_some, Bool.false_eq_true, if_false]
   by_cases h2 : upCode t o.tgt = 0
   · rw [if_neg (by simpa using h2)]
     cases h3 : entAt t o.tgt with
     | some e2 => simp
     | none =>
       simp only [Option.isSome_none, Bool.false_eq_true, if_false]
       cases h4 : under o.tgt o.path with
       | true => simp
       | false =>
         simp only [Bool.false_eq_true, if_false]
         have hall : t.all (fun e => (pathMove e.path o.path o.tgt).isSome) = true ↔ ∀ e ∈ t, pathOk (mvP o.path o.tgt e.path) = true := by
          rw [List.all_eq_true]
          refine forall_congr' fun e => imp_congr_right fun he => ?_
          rw [pathMove_mv (tree_mem ht he).2.1 hp hq]
          split <;> simp_all
         by_cases h5 : t.all (fun e => (pathMove e.path o.path o.tgt).isSome) = true
         · rw [if_pos h5]
           simp only [true_iff]
           exact ⟨⟨e1, rfl⟩, h2, trivial, trivial, hall.1 h5⟩
         · rw [if_neg h5]
           constructor
           · intro h; cases h
           · rintro ⟨_, _, _, _, h6⟩
             exact absurd (hall.2 h6) h5
   · rw [if_pos (by simpa using h2)]
     simp [h2]
def atDo (t : List Ent) (o : Opn) (q : Bs) : Option Ent :=
 if o.kind = 1 then (if o.path = q then some ⟨o.path, true, []⟩ else entAt t q)
 else if o.kind = 2 then (if o.path = q then some ⟨o.path, false, o.data⟩ else entAt t q)
 else if o.kind = 5 then (if inP q o.tgt = true then (entAt t (mvP o.tgt o.path q)).map (fun e => ⟨q, e.dir, e.data⟩) else if inP q o.path = true then none else entAt t q)
 else (if o.path = q then none else entAt t q)
theorem moveE_mv {a b : Bs} {e : Ent} (hs : pathOk e.path = true) (ha : pathOk a = true) (hb : pathOk b = true) (ho : pathOk (mvP a b e.path) = true) : moveE a b e = ⟨mvP a b e.path, e.dir, e.data⟩ := by
 unfold moveE
 rw [pathMove_mv hs ha hb, if_pos ho]
 rfl
theorem move_at {t : List Ent} {a b : Bs} (ht : treeOk t = true) (ha : pathOk a = true) (hb : pathOk b = true) (hn : ∀ q, inP q b = true → entAt t q = none) (hall : ∀ e ∈ t, pathOk (mvP a b e.path) = true) :
   (pathsE (t.map (moveE a b))).Nodup ∧ ∀ q, entAt (t.map (moveE a b)) q = if inP q b = true then (entAt t (mvP b a q)).map (fun e => ⟨q, e.dir, e.data⟩) else if inP q a = true then none else entAt t q := by
 have hf : ∀ e ∈ t, moveE a b e = ⟨mvP a b e.path, e.dir, e.data⟩ := fun e he => moveE_mv (tree_mem ht he).2.1 ha hb (hall e he)
 have hnb : ∀ e ∈ t, inP e.path b = false := fun e he => by
  rw [← Bool.not_eq_true]
  intro hi
  have := hn e.path hi
  rw [entAt_self (treeOk_srt ht) he] at this
  cases this
 have key : ∀ e ∈ t, ∀ q, mvP a b e.path = q → (inP q b = true ∧ e.path = mvP b a q) ∨ (inP q b = false ∧ inP q a = false ∧ e.path = q) := by
  intro e he q hq
  cases hi : inP e.path a with
  | true =>
    obtain ⟨x, h1, h2⟩ := (inP_ex ha).1 hi
    rw [h1, (mvP_app ha h2).2] at hq
    left
    rw [← hq]
    exact ⟨(mvP_app (b := a) hb h2).1, by rw [(mvP_app hb h2).2]; exact h1⟩
  | false =>
    rw [mvP_out hi] at hq
    right
    rw [← hq]
    exact ⟨hnb e he, hi, rfl⟩
 have back : ∀ s, inP s b = true → ∃ x, s = b ++ x ∧ mvP b a s = a ++ x ∧ mvP a b (mvP b a s) = s := by
  intro s hs
  obtain ⟨x, h1, h2⟩ := (inP_ex hb).1 hs
  refine ⟨x, h1, by rw [h1]; exact (mvP_app hb h2).2, ?_⟩
  rw [h1, (mvP_app hb h2).2, (mvP_app ha h2).2]
 refine ⟨?_, fun q => ?_⟩
 · have e1 : pathsE (t.map (moveE a b)) = (pathsE t).map (mvP a b) := by
     rw [pathsE, pathsE, List.map_map, List.map_map]
     exact List.map_congr_left fun e he => by simp [hf e he]
   rw [e1]
   have hinj : ∀ x ∈ pathsE t, ∀ y ∈ pathsE t, mvP a b x = mvP a b y → x = y := by
    intro x hx y hy hxy
    obtain ⟨e, he, rfl⟩ := List.mem_map.1 hx
    obtain ⟨d, hd, rfl⟩ := List.mem_map.1 hy
    rcases key e he _ rfl with ⟨k1, k2⟩ | ⟨k1, k2, k3⟩
    · rcases key d hd _ hxy.symm with ⟨l1, l2⟩ | ⟨l1, l2, l3⟩
      · rw [k2, l2]
      · rw [k1] at l1; cases l1
    · rcases key d hd _ hxy.symm with ⟨l1, l2⟩ | ⟨l1, l2, l3⟩
      · rw [k1] at l1; cases l1
      · rw [k3, l3]
   have hnd := sorted_nodup (treeOk_srt ht)
   rw [List.nodup_iff_pairwise_ne] at hnd ⊢
   rw [List.pairwise_map]
   exact hnd.imp_of_mem fun {x y} hx hy hne heq => hne (hinj x hx y hy heq)
 · cases h1 : inP q b with
   | true =>
     rw [if_pos rfl]
     obtain ⟨x, g1, g2, g3⟩ := back q h1
     rw [entAt_map (s := mvP b a q)]
     · cases he : entAt t (mvP b a q) with
       | none => rfl
       | some e =>
         obtain ⟨k1, k2⟩ := entAt_some he
         simp only [Option.map_some]
         rw [hf e k1, k2, g3]
     · intro e he
       rw [hf e he]
       constructor
       · intro h
         rcases key e he q h with ⟨_, k⟩ | ⟨k, _⟩
         · exact k
         · rw [h1] at k; cases k
       · intro h
         simp only
         rw [h, g3]
   | false =>
     rw [if_neg (by simp)]
     cases h2 : inP q a with
     | true =>
       rw [if_pos rfl]
       refine entAt_map_none fun e he h => ?_
       rw [hf e he] at h
       rcases key e he q h with ⟨k, _⟩ | ⟨_, k, _⟩
       · rw [h1] at k; cases k
       · rw [h2] at k; cases k
     | false =>
       rw [if_neg (by simp), entAt_map (s := q)]
       · cases he : entAt t q with
         | none => rfl
         | some e =>
           obtain ⟨k1, k2⟩ := entAt_some he
           simp only [Option.map_some]
           rw [hf e k1, k2, mvP_out h2, ← k2]
       · intro e he
         rw [hf e he]
         constructor
         · intro h
           rcases key e he q h with ⟨k, _⟩ | ⟨_, _, k⟩
           · rw [h1] at k; cases k
           · exact k
         · intro h
           simp only
           rw [h, mvP_out h2]
theorem free_to {t : List Ent} {b : Bs} (ht : treeOk t = true) (hb : pathOk b = true) (h : entAt t b = none) : ∀ q, inP q b = true → entAt t q = none := by
 intro q hq
 rcases inP_iff.1 hq with rfl | hq
 · exact h
 · exact no_below ht hb (fun d hd => by rw [h] at hd; cases hd) hq
theorem doT_at {t : List Ent} {o : Opn} (ht : treeOk t = true) (ho : opOk o = true) (hc : opCode t o = 0) (q : Bs) : entAt (doT t o) q = atDo t o q := by
 unfold doT atDo opCode at *
 have hp := opOk_path ho
 split
 · exact putE_at (treeOk_srt ht) _ _
 · split
   · exact putE_at (treeOk_srt ht) _ _
   · split
     · rename_i h1 h2 h5
       rw [if_neg h1, if_neg h2, if_pos h5] at hc
       obtain ⟨hq, _⟩ := opOk_to ho h5
       obtain ⟨g1, g2, g3, g4, g5⟩ := (moveCode_zero ht hp hq).1 hc
       obtain ⟨m1, m2⟩ := move_at ht hp hq (free_to ht hq g3) g5
       unfold moveT
       rw [putAll_at (X := []) List.Pairwise.nil m1, m2]
       simp [entAt]
     · exact offT_at t o.path q
theorem up_stay {t : List Ent} {p : Bs} (h : upCode t p = 0) : pathUp p = [47] ∨ ∃ d, entAt t (pathUp p) = some d ∧ d.dir = true := upCode_zero.1 h
theorem up_ne {p : Bs} (hp : pathOk p = true) : pathUp p ≠ p := by
 intro h
 rcases pathUp_less hp with h1 | ⟨_, h1⟩
 · rw [h1] at h; rw [← h, path_root] at hp; cases hp
 · rw [h, lt_irrefl] at h1; cases h1
theorem doT_srt {t : List Ent} (ht : treeOk t = true) (o : Opn) : sorted (pathsE (doT t o)) := by
 unfold doT
 split
 · exact putE_sorted (treeOk_srt ht) _
 · split
   · exact putE_sorted (treeOk_srt ht) _
   · split
     · exact putAll_sorted List.Pairwise.nil
     · exact offT_sorted (treeOk_srt ht) _
theorem doT_len {t : List Ent} {o : Opn} (ht : treeOk t = true) (ho : opOk o = true) (hc : opCode t o = 0) : (doT t o).length ≤ 16 := by
 have hl := treeOk_len ht
 have hp := opOk_path ho
 unfold doT opCode at *
 split
 · rename_i h1
   rw [if_pos h1] at hc
   have := (putE_len t ⟨o.path, true, []⟩).2
   have := ((newCode_zero hp).1 hc).2.2
   omega
 · rename_i h1
   rw [if_neg h1] at hc
   split
   · rename_i h2
     rw [if_pos h2] at hc
     rcases ((putCode_zero hp).1 hc).2 with ⟨e, he, _⟩ | ⟨_, h3⟩
     · obtain ⟨k1, k2⟩ := entAt_some he
       rw [putE_len_in (e := ⟨o.path, false, o.data⟩) (List.mem_map.2 ⟨e, k1, k2⟩) (treeOk_srt ht)]
       exact hl
     · have := (putE_len t ⟨o.path, false, o.data⟩).2
       omega
   · split
     · have := putAll_len (t.map (moveE o.path o.tgt)) []
       simp only [List.length_map, List.length_nil] at this
       unfold moveT
       omega
     · have := List.length_filter_le (fun e : Ent => decide (e.path ≠ o.path)) t
       unfold offT
       omega
theorem doT_ok {t : List Ent} {o : Opn} (ht : treeOk t = true) (ho : opOk o = true) (hc : opCode t o = 0) : treeOk (doT t o) = true := by
 refine treeOk_of (doT_len ht ho hc) (doT_srt ht o) fun p e he => ?_
 rw [doT_at ht ho hc] at he
 simp only [doT_at ht ho hc]
 have hp := opOk_path ho
 have hdat := opOk_data ho
 unfold atDo opCode at *
 by_cases h1 : o.kind = 1
 · simp only [if_pos h1] at hc he ⊢
   obtain ⟨g1, g2, g3⟩ := (newCode_zero hp).1 hc
   by_cases hq : o.path = p
   · rw [if_pos hq] at he
     cases he
     refine ⟨entOk_mk hp rfl fun _ => rfl, ?_⟩
     rw [← hq]
     refine (up_stay g1).imp id ?_
     rintro ⟨d, d1, d2⟩
     exact ⟨d, by rw [if_neg fun h => up_ne hp h.symm]; exact d1, d2⟩
   · rw [if_neg hq] at he
     obtain ⟨k1, k2, k3, k4⟩ := tree_at ht he
     refine ⟨k1, k4.imp id ?_⟩
     rintro ⟨d, d1, d2⟩
     exact ⟨d, by rw [if_neg fun h => by rw [← h, g2] at d1; cases d1]; exact d1, d2⟩
 · simp only [if_neg h1] at hc he ⊢
   by_cases h2 : o.kind = 2
   · simp only [if_pos h2] at hc he ⊢
     obtain ⟨g1, g2⟩ := (putCode_zero hp).1 hc
     have hnd : ∀ d, entAt t o.path = some d → d.dir = false := by
      intro d hd
      rcases g2 with ⟨e', h3, h4⟩ | ⟨h3, _⟩
      · rw [h3] at hd; cases hd; exact h4
      · rw [h3] at hd; cases hd
     by_cases hq : o.path = p
     · rw [if_pos hq] at he
       cases he
       refine ⟨entOk_mk hp hdat.1 (fun h => by cases h), ?_⟩
       rw [← hq]
       refine (up_stay g1).imp id ?_
       rintro ⟨d, d1, d2⟩
       exact ⟨d, by rw [if_neg fun h => up_ne hp h.symm]; exact d1, d2⟩
     · rw [if_neg hq] at he
       obtain ⟨k1, k2, k3, k4⟩ := tree_at ht he
       refine ⟨k1, k4.imp id ?_⟩
       rintro ⟨d, d1, d2⟩
       exact ⟨d, by rw [if_neg fun h => by rw [← h] at d1; rw [hnd d d1] at d2; cases d2]; exact d1, d2⟩
   · simp only [if_neg h2] at hc he ⊢
     by_cases h5 : o.kind = 5
     · simp only [if_pos h5] at hc he ⊢
       obtain ⟨hq, _⟩ := opOk_to ho h5
       obtain ⟨⟨e0, g1⟩, g2, g3, g4, g5⟩ := (moveCode_zero ht hp hq).1 hc
       have hfree := free_to ht hq g3
       have hupto : pathUp o.tgt = [47] ∨ (inP (pathUp o.tgt) o.tgt = false ∧ inP (pathUp o.tgt) o.path = false) := by
        by_cases hr : pathUp o.tgt = [47]
        · exact .inl hr
        · right
          constructor
          · rw [← Bool.not_eq_true, inP_iff]
            rintro (h | h)
            · exact up_ne hq h
            · have := under_lt hq h
              have := pathUp_short hq hr
              omega
          · rw [← Bool.not_eq_true, inP_iff]
            intro h
            have := up_under hq hp h
            rw [g4] at this
            cases this
       by_cases hb : inP p o.tgt = true
       · rw [if_pos hb] at he
         cases hs : entAt t (mvP o.tgt o.path p) with
         | none => rw [hs] at he; cases he
         | some e' =>
           rw [hs] at he
           cases he
           obtain ⟨k1, k2, k3, k4⟩ := tree_at ht hs
           obtain ⟨x, hx1, hx2⟩ := (inP_ex hq).1 hb
           have hsrc : mvP o.tgt o.path p = o.path ++ x := by rw [hx1]; exact (mvP_app hq hx2).2
           have hmv : mvP o.path o.tgt (o.path ++ x) = p := by rw [(mvP_app hp hx2).2, hx1]
           have hpok : pathOk p = true := by
            have := g5 e' (entAt_some hs).1
            rw [k2, hsrc, hmv] at this
            exact this
           obtain ⟨d1, d2⟩ := entOk_data k1
           refine ⟨entOk_mk hpok d1 d2, ?_⟩
           rcases hx2 with rfl | ⟨r, hr⟩
           · -- the moved one itself
             have hpt : p = o.tgt := by rw [hx1]; simp
             rw [hpt]
             rcases up_stay g2 with h | ⟨d, h3, h4⟩
             · exact .inl h
             · rcases hupto with h | ⟨h6, h7⟩
               · exact .inl h
               · right
                 refine ⟨d, ?_, h4⟩
                 rw [h6, h7]
                 simpa using h3
           · -- below it
             have hu : under (o.path ++ x) o.path = true := (under_ex (pathOk_ne hp)).2 ⟨r, by rw [hr]⟩
             rw [hsrc] at k3 k4
             obtain ⟨u1, u2⟩ := under_up k3 hp hu
             obtain ⟨d, h3, h4⟩ := k4.resolve_left (pathOk_ne u1)
             have hup : pathUp p = mvP o.path o.tgt (pathUp (o.path ++ x)) := by
              have := mvP_up k3 hp hq hu (by rw [hmv]; exact hpok)
              rw [hmv] at this
              exact this
             obtain ⟨y, hy1, hy2⟩ := (inP_ex hp).1 (inP_iff.2 u2)
             have hup2 : pathUp p = o.tgt ++ y := by rw [hup, hy1]; exact (mvP_app hp hy2).2
             right
             refine ⟨⟨pathUp p, d.dir, d.data⟩, ?_, h4⟩
             obtain ⟨i1, i2⟩ := mvP_app (b := o.path) hq hy2
             rw [hup2, if_pos i1, i2, ← hy1, h3]
             rfl
       · have hb' : inP p o.tgt = false := by simpa using hb
         simp only [hb', Bool.false_eq_true, if_false] at he
         by_cases ha : inP p o.path = true
         · rw [if_pos ha] at he; cases he
         · have ha' : inP p o.path = false := by simpa using ha
           simp only [ha', Bool.false_eq_true, if_false] at he
           obtain ⟨k1, k2, k3, k4⟩ := tree_at ht he
           refine ⟨k1, ?_⟩
           rcases k4 with k4 | ⟨d, h3, h4⟩
           · exact .inl k4
           · right
             refine ⟨d, ?_, h4⟩
             have i1 : inP (pathUp p) o.tgt = false := by
              rw [← Bool.not_eq_true]
              intro h
              rw [hfree _ h] at h3
              cases h3
             have i2 : inP (pathUp p) o.path = false := by
              rw [inP_up k3 hp]
              · exact ha'
              · rintro rfl
                rw [inP_iff.2 (.inl rfl)] at ha'
                cases ha'
             rw [i1, i2]
             simpa using h3
     · simp only [if_neg h5] at hc he ⊢
       obtain ⟨e0, g1, g2, g3, g4⟩ := (offCode_zero hp).1 hc
       by_cases hq : o.path = p
       · rw [if_pos hq] at he; cases he
       · rw [if_neg hq] at he
         obtain ⟨k1, k2, k3, k4⟩ := tree_at ht he
         refine ⟨k1, k4.imp id ?_⟩
         rintro ⟨d, d1, d2⟩
         refine ⟨d, ?_, d2⟩
         rw [if_neg]
         · exact d1
         · intro h
           have := kids_none.1 g4 e (entAt_some he).1
           rw [k2] at this
           exact this h.symm
theorem treeDo_ok {t : List Ent} (ht : treeOk t = true) (o : Opn) : treeOk (treeDo t o).1 = true := by
 unfold treeDo
 split
 · rename_i h; rw [ht] at h; cases h
 · split
   · exact ht
   · split
     · exact ht
     · rename_i h1 h2 h3
       exact doT_ok ht (by simpa using h2) (by simpa using h3)
theorem kinds {o : Opn} (h : opOk o = true) : o.kind = 1 ∨ o.kind = 2 ∨ o.kind = 3 ∨ o.kind = 4 ∨ o.kind = 5 := by
 have := opOk_kind h
 omega
theorem kids_empty {t u : List Ent} {p : Bs} (ht : treeOk t = true) (hu : treeOk u = true) (hp : pathOk p = true) (hn : ∀ d, entAt t p = some d → d.dir = false) (hq : ∀ q, q ≠ p → entAt u q = entAt t q) : kids u p = [] := by
 refine kids_none.2 fun e he h => ?_
 obtain ⟨k1, k2, k3⟩ := tree_mem hu he
 have h1 := entAt_self (treeOk_srt hu) he
 have h2 : under e.path p = true := up_under k2 hp (.inl h)
 have h3 : e.path ≠ p := fun h4 => by
  have := under_lt hp h2
  rw [h4] at this
  omega
 rw [hq _ h3, no_below ht hp hn h2] at h1
 cases h1
theorem ent_eta {e : Ent} {p : Bs} {d : Bool} {x : Bs} (h1 : e.path = p) (h2 : e.dir = d) (h3 : e.data = x) : e = ⟨p, d, x⟩ := by
 cases e; simp_all
theorem entAt_iff {t : List Ent} (hn : (pathsE t).Nodup) {q : Bs} {e : Ent} : entAt t q = some e ↔ e ∈ t ∧ e.path = q := by
 constructor
 · exact entAt_some
 · rintro ⟨h1, h2⟩
   induction t with
   | nil => cases h1
   | cons x t ih =>
     have hn2 := List.nodup_cons.1 hn
     rw [entAt_cons]
     rcases List.mem_cons.1 h1 with h1 | h1
     · rw [← h1, if_pos h2]
     · rw [if_neg]
       · exact ih hn2.2 h1
       · intro h3
         exact hn2.1 (by show x.path ∈ _; rw [h3, ← h2]; exact List.mem_map.2 ⟨e, h1, rfl⟩)
theorem sort_one {S L U : List Ent} (hp : S.Perm L) (hs : S.Pairwise fun a b => lt b.path a.path = false) (hn : (pathsE L).Nodup) (hu : sorted (pathsE U)) (hat : ∀ q, entAt L q = entAt U q) : S = U := by
 have hn2 : (pathsE S).Nodup := (hp.map _).nodup_iff.2 hn
 have hss : sorted (pathsE S) := by
  unfold sorted pathsE
  rw [List.pairwise_map]
  have h1 := List.pairwise_map.1 (List.nodup_iff_pairwise_ne.1 hn2)
  refine (h1.and hs).imp ?_
  rintro a b ⟨h2, h3⟩
  rcases lt_total a.path b.path with h | h | h
  · exact h
  · exact absurd h h2
  · rw [h] at h3; cases h3
 refine ent_ext hss hu fun q => ?_
 rw [← hat]
 cases h : entAt L q with
 | none =>
   refine entAt_none.2 fun hm => entAt_none.1 h ?_
   exact (hp.map _).mem_iff.1 hm
 | some e =>
   obtain ⟨h1, h2⟩ := (entAt_iff hn).1 h
   exact (entAt_iff hn2).2 ⟨hp.mem_iff.2 h1, h2⟩
def toldL (t : List Ent) (o : Opn) : List Ent :=
 (if o.kind = 5 then t.map (moveE o.path o.tgt) else offT t o.path) ++ (if o.kind = 1 ∨ o.kind = 2 then [⟨o.path, decide (o.kind = 1), o.data⟩] else [])
theorem toldL_doT {t : List Ent} {o : Opn} (ht : treeOk t = true) (ho : opOk o = true) (hc : opCode t o = 0) : (pathsE (toldL t o)).Nodup ∧ ∀ q, entAt (toldL t o) q = entAt (doT t o) q := by
 have hp := opOk_path ho
 have hoff : (pathsE (offT t o.path)).Nodup := sorted_nodup (offT_sorted (treeOk_srt ht) _)
 have hno : o.path ∉ pathsE (offT t o.path) := by
  rw [← entAt_none, offT_at, if_pos rfl]
 have hsnoc : ∀ e : Ent, e.path = o.path → (pathsE (offT t o.path ++ [e])).Nodup ∧ ∀ q, entAt (offT t o.path ++ [e]) q = if o.path = q then some e else entAt t q := by
  intro e he
  constructor
  · rw [pathsE, List.map_append, List.nodup_append]
    refine ⟨hoff, by simp, ?_⟩
    intro a ha b hb hab
    simp at hb
    rw [hab, hb, he] at ha
    exact hno ha
  · intro q
    have happ : ∀ l : List Ent, entAt (l ++ [e]) q = (entAt l q).or (entAt [e] q) := by
     intro l
     simp [entAt, List.find?_append]
    rw [happ, offT_at]
    by_cases hq : o.path = q
    · rw [if_pos hq, if_pos hq]
      simp [entAt, he, hq]
    · rw [if_neg hq, if_neg hq]
      have : entAt [e] q = none := by
       rw [entAt_cons, if_neg (by rw [he]; exact hq)]
       rfl
      rw [this]
      simp
 simp only [doT_at ht ho hc]
 unfold toldL atDo
 have hdat := opOk_data ho
 by_cases h1 : o.kind = 1
 · have h5 : ¬ o.kind = 5 := by omega
   rw [if_neg h5, if_pos (.inl h1)]
   simp only [if_pos h1]
   have hd : o.data = [] := hdat.2.1 (by omega)
   have h := hsnoc ⟨o.path, decide (o.kind = 1), o.data⟩ rfl
   refine ⟨h.1, fun q => ?_⟩
   rw [h.2, hd, h1]
   simp
 · by_cases h2 : o.kind = 2
   · have h5 : ¬ o.kind = 5 := by omega
     rw [if_neg h5, if_pos (.inr h2)]
     simp only [if_neg h1, if_pos h2]
     have h := hsnoc ⟨o.path, decide (o.kind = 1), o.data⟩ rfl
     refine ⟨h.1, fun q => ?_⟩
     rw [h.2]
     simp [h1]
   · rw [if_neg (show ¬ (o.kind = 1 ∨ o.kind = 2) by omega), List.append_nil]
     simp only [if_neg h1, if_neg h2]
     by_cases h5 : o.kind = 5
     · simp only [if_pos h5]
       unfold opCode at hc
       rw [if_neg h1, if_neg h2, if_pos h5] at hc
       obtain ⟨hq, _⟩ := opOk_to ho h5
       obtain ⟨g1, g2, g3, g4, g5⟩ := (moveCode_zero ht hp hq).1 hc
       exact move_at ht hp hq (free_to ht hq g3) g5
     · simp only [if_neg h5]
       exact ⟨hoff, fun q => offT_at t o.path q⟩
theorem told_one {t S : List Ent} {o : Opn} (ht : treeOk t = true) (ho : opOk o = true) (hc : opCode t o = 0) (hp : S.Perm (toldL t o)) (hs : S.Pairwise fun a b => lt b.path a.path = false) : S = doT t o :=
 sort_one hp hs (toldL_doT ht ho hc).1 (doT_srt ht o) (toldL_doT ht ho hc).2
theorem toldL_len {t : List Ent} {o : Opn} (ht : treeOk t = true) : (toldL t o).length ≤ 17 := by
 have hl := treeOk_len ht
 unfold toldL
 rw [List.length_append]
 have h1 : (if o.kind = 5 then t.map (moveE o.path o.tgt) else offT t o.path).length ≤ 16 := by
  split
  · simp; exact hl
  · have := List.length_filter_le (fun e : Ent => decide (e.path ≠ o.path)) t
    unfold offT
    omega
 have h2 : (if o.kind = 1 ∨ o.kind = 2 then [(⟨o.path, decide (o.kind = 1), o.data⟩ : Ent)] else []).length ≤ 1 := by
  split <;> simp
 omega
theorem newCode_i {t : List Ent} {p : Bs} (hp : pathOk p = true) : newCode t p = if upCode t p ≠ 0 then upCode t p else if (entAt t p).isSome then 4 else if 16 ≤ t.length then 8 else 0 := by
 unfold newCode
 rw [entGet_ne (pathOk_ne hp)]
theorem putCode_i {t : List Ent} {p : Bs} (hp : pathOk p = true) : putCode t p = if upCode t p ≠ 0 then upCode t p else if (entAt t p).isSome ∧ ((entAt t p).getD ent0).dir = true then 5 else if (entAt t p).isNone ∧ 16 ≤ t.length then 8 else 0 := by
 unfold putCode
 rw [newCode_i hp, entGet_ne (pathOk_ne hp)]
 by_cases h1 : upCode t p = 0
 · simp only [h1, ne_eq, not_true_eq_false, if_false]
   cases h2 : entAt t p with
   | none =>
     simp only [Option.isSome_none, Bool.false_eq_true, if_false, false_and, Option.isNone_none, true_and]
     by_cases h3 : 16 ≤ t.length
     · simp [h3]
     · simp [h3]
   | some e =>
     cases hd : e.dir <;> simp [isDirO, hd]
 · have h4 : upCode t p ≠ 4 := by
     unfold upCode
     repeat' split
     all_goals decide
   simp [h1, h4]
theorem rmCode_i {t : List Ent} {o : Opn} (ht : treeOk t = true) (hp : pathOk o.path = true) (hk : o.kind = 3) : offCode t o = if (entAt t o.path).isNone then 2 else if ((entAt t o.path).getD ent0).dir = true then 5 else 0 := by
 unfold offCode
 rw [entGet_ne (pathOk_ne hp)]
 cases h : entAt t o.path with
 | none => rfl
 | some e =>
   simp only [Option.isNone_some, Bool.false_eq_true, if_false, Option.getD_some, hk, true_and]
   by_cases hd : e.dir = true
   · simp [hd]
   · have hd' : e.dir = false := by simpa using hd
     have hkid : kids t o.path = [] := kids_empty ht ht hp (fun d hd2 => by rw [h] at hd2; cases hd2; exact hd') (fun _ _ => rfl)
     simp [hkid, hd']
theorem kids_any {t : List Ent} {p : Bs} (ht : treeOk t = true) (hp : pathOk p = true) : decide (0 < (kids t p).length) = t.any (fun e => under e.path p) := by
 rw [Bool.eq_iff_iff, decide_eq_true_eq, List.any_eq_true]
 constructor
 · intro h
   have hne : kids t p ≠ [] := by intro h2; rw [h2] at h; simp at h
   rw [ne_eq, kids_none] at hne
   simp only [ne_eq, Classical.not_forall, Decidable.not_not] at hne
   obtain ⟨e, he, h2⟩ := hne
   exact ⟨e, he, up_under (tree_mem ht he).2.1 hp (.inl h2)⟩
 · rintro ⟨e, he, hu⟩
   obtain ⟨k, h1, h2⟩ := kid_in ht hp e.path.length (Nat.le_refl _) (entAt_self (treeOk_srt ht) he) hu
   apply Nat.pos_of_ne_zero
   intro h3
   exact kids_none.1 (List.length_eq_zero_iff.1 h3) k h1 h2
theorem rmdirCode_i {t : List Ent} {o : Opn} (ht : treeOk t = true) (hp : pathOk o.path = true) (hk : o.kind = 4) : offCode t o = if (entAt t o.path).isNone then 2 else if ((entAt t o.path).getD ent0).dir = false then 3 else if t.any (fun e => under e.path o.path) = true then 6 else 0 := by
 unfold offCode
 rw [entGet_ne (pathOk_ne hp)]
 cases h : entAt t o.path with
 | none => rfl
 | some e =>
   have h3 : ¬ (o.kind = 3 ∧ e.dir = true) := by omega
   simp only [if_neg h3, hk, true_and, Option.isNone_some, Bool.false_eq_true, if_false, Option.getD_some]
   have := kids_any ht hp
   by_cases hd : e.dir = true
   · rw [← this]
     simp [hd]
   · have hd' : e.dir = false := by simpa using hd
     simp [hd']
theorem moveCode_i {t : List Ent} {o : Opn} (hp : pathOk o.path = true) (hq : pathOk o.tgt = true) : moveCode t o = if (entAt t o.path).isNone then 2 else if upCode t o.tgt ≠ 0 then upCode t o.tgt else if (entAt t o.tgt).isSome then 4 else if under o.tgt o.path = true then 7 else if t.all (fun e => (pathMove e.path o.path o.tgt).isSome) = true then 0 else 8 := by
 unfold moveCode
 rw [entGet_ne (pathOk_ne hp), entGet_ne (pathOk_ne hq)]
end Go.Par
