/- What is turned, and what is done apart: in plain Lean. -/
import Derived.Test.YtoaiplobfellaaaGreatDoorPt
set_option linter.unusedSimpArgs false
set_option linter.unusedVariables false
namespace Go.Par
open Go.Ab

def touch (o : Opn) (p : Bs) : Bool := decide (o.path = p) || decide (o.to = p) || pathUnder p o.path || (!decide (o.to = []) && pathUnder p o.to)
theorem inP_touch {o : Opn} {p : Bs} (hp : pathOk p = true) (h1 : pathOk o.path = true) (h : inP p o.path = true) : touch o p = true := by
  rcases inP_iff.1 h with h | h
  · simp [touch, h]
  · have : pathUnder p o.path = true := by simp [pathUnder, hp, h1, h]
    simp [touch, this]
theorem inP_touch2 {o : Opn} {p : Bs} (hp : pathOk p = true) (h1 : pathOk o.to = true) (h : inP p o.to = true) : touch o p = true := by
  rcases inP_iff.1 h with h | h
  · simp [touch, h]
  · have h2 : pathUnder p o.to = true := by simp [pathUnder, hp, h1, h]
    have h3 : o.to ≠ [] := by
      intro h3
      rw [h3, path_empty] at h1
      cases h1
    simp [touch, h2, h3]
theorem atDo_touch {t : List Ent} {o : Opn} {p : Bs} (ho : opOk o = true) (hp : pathOk p = true) : atDo t o p = entAt t p ∨ touch o p = true := by
  have h1 := opOk_path ho
  have self : o.path = p → touch o p = true := fun h => by simp [touch, h]
  unfold atDo
  split
  · split
    · rename_i h; exact .inr (self h)
    · exact .inl rfl
  · split
    · split
      · rename_i h; exact .inr (self h)
      · exact .inl rfl
    · split
      · rename_i h5
        split
        · rename_i h; exact .inr (inP_touch2 hp (opOk_to ho h5).1 h)
        · split
          · rename_i h; exact .inr (inP_touch hp h1 h)
          · exact .inl rfl
      · split
        · rename_i h; exact .inr (self h)
        · exact .inl rfl
theorem code_zero {t : List Ent} {o : Opn} (h : (treeDo t o).2 = 0) : treeDo t o = ((treeDo t o).1, 0) := by rw [← h]
theorem turned_touch : ∀ (ops : List Opn) {t : List Ent} {p : Bs}, treeOk t = true → pathOk p = true → entAt (logRun t ops).1 p ≠ entAt t p → ∃ (k : Nat) (o : Opn), ops[k]? = some o ∧ (logRun t ops).2[k]? = some 0 ∧ touch o p = true
  | [], t, p, _, _, h => absurd rfl h
  | o :: r, t, p, ht, hp, h => by
    simp only [logRun] at h ⊢
    have next : entAt (logRun (treeDo t o).1 r).1 p ≠ entAt (treeDo t o).1 p → ∃ (k : Nat) (o' : Opn), (o :: r)[k]? = some o' ∧ ((treeDo t o).2 :: (logRun (treeDo t o).1 r).2)[k]? = some 0 ∧ touch o' p = true := by
      intro hne
      obtain ⟨k, o', h1, h2, h3⟩ := turned_touch r (treeDo_ok ht o) hp hne
      exact ⟨k + 1, o', by simpa using h1, by simpa using h2, h3⟩
    by_cases hc : (treeDo t o).2 = 0
    · obtain ⟨_, ho, _, _, hat⟩ := treeDo_at (code_zero hc)
      rcases atDo_touch (t := t) ho hp with h1 | h1
      · rw [← hat] at h1
        exact next (by rw [h1]; exact h)
      · exact ⟨0, o, rfl, by rw [hc]; rfl, h1⟩
    · rw [stay ht hc] at h next ⊢
      exact next h
/-! apart -/
def firstN : Nat → Bs → Bs
  | 0, s => s
  | n + 1, s => if pathUp s = [47] then s else firstN n (pathUp s)
def firstP (s : Bs) : Bs := if pathOk s then firstN s.length s else []
theorem firstN_fuel : ∀ (n m : Nat) (s : Bs), pathOk s = true → s.length ≤ n → s.length ≤ m → firstN n s = firstN m s
  | 0, m, s, hs, hn, _ => by have := (pathOk_pos hs).1; omega
  | n + 1, 0, s, hs, _, hm => by have := (pathOk_pos hs).1; omega
  | n + 1, m + 1, s, hs, hn, hm => by
    unfold firstN
    by_cases h : pathUp s = [47]
    · rw [if_pos h, if_pos h]
    · rw [if_neg h, if_neg h]
      have h1 := pathUp_short hs h
      refine firstN_fuel n m _ ((pathUp_less hs).resolve_left h).1 (by omega) (by omega)
theorem firstP_up {s : Bs} (hs : pathOk s = true) : firstP s = if pathUp s = [47] then s else firstP (pathUp s) := by
  by_cases h : pathUp s = [47]
  · rw [if_pos h, firstP, if_pos hs]
    cases hl : s.length with
    | zero => rfl
    | succ n => rw [firstN, if_pos h]
  · rw [if_neg h]
    have hu := ((pathUp_less hs).resolve_left h).1
    have h1 := pathUp_short hs h
    rw [firstP, if_pos hs, firstP, if_pos hu]
    cases hl : s.length with
    | zero => omega
    | succ n =>
      rw [firstN, if_neg h]
      exact firstN_fuel n _ _ hu (by omega) (Nat.le_refl _)
theorem firstP_in {a : Bs} (ha : pathOk a = true) : ∀ (n : Nat) {s : Bs}, s.length ≤ n → pathOk s = true → inP s a = true → firstP s = firstP a
  | 0, s, hn, hs, _ => by have := (pathOk_pos hs).1; omega
  | n + 1, s, hn, hs, h => by
    rcases inP_iff.1 h with h | h
    · rw [h]
    · obtain ⟨h1, h2⟩ := under_up hs ha h
      have hne := pathOk_ne h1
      have := pathUp_short hs hne
      rw [firstP_up hs, if_neg hne]
      exact firstP_in ha n (by omega) h1 (inP_iff.2 h2)
theorem firstP_inP {a s : Bs} (ha : pathOk a = true) (hs : pathOk s = true) (h : inP s a = true) : firstP s = firstP a := firstP_in ha s.length (Nat.le_refl _) hs h
/-- the tops that something is done in -/
def inT (o : Opn) (p : Bs) : Prop := firstP p = firstP o.path ∨ (o.kind = 5 ∧ firstP p = firstP o.to)
/-- two trees are one where 'o' looks -/
def alike (t u : List Ent) (o : Opn) : Prop := ∀ q, pathOk q = true → inT o q → entAt t q = entAt u q
theorem at_bad {t : List Ent} (ht : treeOk t = true) {q : Bs} (h : pathOk q = false) : entAt t q = none := by
  cases he : entAt t q with
  | none => rfl
  | some e => rw [(tree_at ht he).2.2.1] at h; cases h
theorem atDo_out {t : List Ent} {o : Opn} {q : Bs} (ho : opOk o = true) (hq : pathOk q = true) (h : ¬ inT o q) : atDo t o q = entAt t q := by
  have h1 := opOk_path ho
  have self : o.path ≠ q := fun e => h (.inl (by rw [e]))
  unfold atDo
  by_cases k1 : o.kind = 1
  · rw [if_pos k1, if_neg self]
  · rw [if_neg k1]
    by_cases k2 : o.kind = 2
    · rw [if_pos k2, if_neg self]
    · rw [if_neg k2]
      by_cases k5 : o.kind = 5
      · rw [if_pos k5, if_neg, if_neg]
        · intro hi
          exact h (.inl (firstP_inP h1 hq hi))
        · intro hi
          exact h (.inr ⟨k5, firstP_inP (opOk_to ho k5).1 hq hi⟩)
      · rw [if_neg k5, if_neg self]
theorem atDo_alike {t u : List Ent} {o : Opn} (ho : opOk o = true) (ht : treeOk t = true) (hu : treeOk u = true) (h : alike t u o) {q : Bs} (hq : pathOk q = true) (hi : inT o q) : atDo t o q = atDo u o q := by
  have h1 := opOk_path ho
  have e := h q hq hi
  unfold atDo
  by_cases k1 : o.kind = 1
  · rw [if_pos k1, if_pos k1, e]
  · rw [if_neg k1, if_neg k1]
    by_cases k2 : o.kind = 2
    · rw [if_pos k2, if_pos k2, e]
    · rw [if_neg k2, if_neg k2]
      by_cases k5 : o.kind = 5
      · rw [if_pos k5, if_pos k5, e]
        have hto := (opOk_to ho k5).1
        by_cases hb : inP q o.to = true
        · rw [if_pos hb, if_pos hb]
          obtain ⟨x, hx1, hx2⟩ := (inP_ex hto).1 hb
          have hm : mvP o.to o.path q = o.path ++ x := by rw [hx1]; exact (mvP_app hto hx2).2
          rw [hm]
          cases hok : pathOk (o.path ++ x) with
          | true => rw [h _ hok (.inl (firstP_inP h1 hok (mvP_app (b := o.to) h1 hx2).1))]
          | false => rw [at_bad ht hok, at_bad hu hok]
        · rw [if_neg hb, if_neg hb]
      · rw [if_neg k5, if_neg k5, e]
theorem upCode_alike {t u : List Ent} {o : Opn} {p : Bs} (hp : pathOk p = true) (hi : inT o p) (h : alike t u o) : upCode t p = upCode u p := by
  unfold upCode
  by_cases hr : pathUp p = [47]
  · simp [hr]
  · have hu := ((pathUp_less hp).resolve_left hr).1
    have hf : firstP (pathUp p) = firstP p := by rw [firstP_up hp, if_neg hr]
    have hi2 : inT o (pathUp p) := by
      unfold inT at hi ⊢
      rw [hf]
      exact hi
    rw [h _ hu hi2]
theorem newCode_alike {t u : List Ent} {o : Opn} {p : Bs} (hp : pathOk p = true) (hi : inT o p) (h : alike t u o) : newCode t p = newCode u p ∨ newCode t p = 8 ∨ newCode u p = 8 := by
  rw [newCode_i hp, newCode_i hp, upCode_alike hp hi h, h p hp hi]
  by_cases h1 : upCode u p = 0
  · simp only [h1, ne_eq, not_true_eq_false, if_false]
    cases (entAt u p).isSome with
    | true => simp
    | false =>
      simp only [Bool.false_eq_true, if_false]
      by_cases h2 : 16 ≤ t.length <;> by_cases h3 : 16 ≤ u.length <;> simp [h2, h3]
  · simp [h1]
theorem putCode_alike {t u : List Ent} {o : Opn} {p : Bs} (hp : pathOk p = true) (hi : inT o p) (h : alike t u o) : putCode t p = putCode u p ∨ putCode t p = 8 ∨ putCode u p = 8 := by
  rw [putCode_i hp, putCode_i hp, upCode_alike hp hi h, h p hp hi]
  by_cases h1 : upCode u p = 0
  · simp only [h1, ne_eq, not_true_eq_false, if_false]
    cases entAt u p with
    | some e => simp
    | none =>
      by_cases h2 : 16 ≤ t.length <;> by_cases h3 : 16 ≤ u.length <;> simp [h2, h3]
  · simp [h1]
theorem any_alike {t u : List Ent} {o : Opn} {p : Bs} (ht : treeOk t = true) (hu : treeOk u = true) (hp : pathOk p = true) (hi : inT o p) (h : alike t u o) : t.any (fun e => under e.path p) = true → u.any (fun e => under e.path p) = true := by
  intro ha
  obtain ⟨e, he, h1⟩ := List.any_eq_true.1 ha
  have h2 := entAt_self (treeOk_srt ht) he
  have h3 := (tree_mem ht he).2.1
  have hf := firstP_inP hp h3 (inP_iff.2 (.inr h1))
  have hi2 : inT o e.path := by
    unfold inT at hi ⊢
    rw [hf]
    exact hi
  rw [h _ h3 hi2] at h2
  exact List.any_eq_true.2 ⟨e, (entAt_some h2).1, h1⟩
theorem alike_symm {t u : List Ent} {o : Opn} (h : alike t u o) : alike u t o := fun q h1 h2 => (h q h1 h2).symm
theorem offCode_alike {t u : List Ent} {o : Opn} (ht : treeOk t = true) (hu : treeOk u = true) (hp : pathOk o.path = true) (h : alike t u o) : offCode t o = offCode u o := by
  have hi : inT o o.path := .inl rfl
  have hk : decide (0 < (kids t o.path).length) = decide (0 < (kids u o.path).length) := by
    rw [kids_any ht hp, kids_any hu hp, Bool.eq_iff_iff]
    exact ⟨any_alike ht hu hp hi h, any_alike hu ht hp hi (alike_symm h)⟩
  rw [decide_eq_decide] at hk
  unfold offCode
  rw [entGet_ne (pathOk_ne hp), entGet_ne (pathOk_ne hp), h _ hp hi]
  simp only [hk]
theorem all_alike {t u : List Ent} {o : Opn} (ht : treeOk t = true) (hu : treeOk u = true) (hp : pathOk o.path = true) (hq : pathOk o.to = true) (h : alike t u o) : t.all (fun e => (pathMove e.path o.path o.to).isSome) = true → u.all (fun e => (pathMove e.path o.path o.to).isSome) = true := by
  intro ha
  rw [List.all_eq_true] at ha ⊢
  intro e he
  have h3 := (tree_mem hu he).2.1
  cases hi : inP e.path o.path with
  | true =>
    have h2 := entAt_self (treeOk_srt hu) he
    rw [← h _ h3 (.inl (firstP_inP hp h3 hi))] at h2
    exact ha e (entAt_some h2).1
  | false => rw [pathMove_mv h3 hp hq, mvP_out hi, if_pos h3]; rfl
theorem moveCode_alike {t u : List Ent} {o : Opn} (ht : treeOk t = true) (hu : treeOk u = true) (hk : o.kind = 5) (hp : pathOk o.path = true) (hq : pathOk o.to = true) (h : alike t u o) : moveCode t o = moveCode u o := by
  have hi : inT o o.path := .inl rfl
  have hi2 : inT o o.to := .inr ⟨hk, rfl⟩
  have ha : t.all (fun e => (pathMove e.path o.path o.to).isSome) = u.all (fun e => (pathMove e.path o.path o.to).isSome) := by
    rw [Bool.eq_iff_iff]
    exact ⟨all_alike ht hu hp hq h, all_alike hu ht hp hq (alike_symm h)⟩
  rw [moveCode_i hp hq, moveCode_i hp hq, ha, h _ hp hi, h _ hq hi2, upCode_alike hq hi2 h]
theorem code_alike {t u : List Ent} {o : Opn} (ht : treeOk t = true) (hu : treeOk u = true) (ho : opOk o = true) (h : alike t u o) : opCode t o = opCode u o ∨ opCode t o = 8 ∨ opCode u o = 8 := by
  have hp := opOk_path ho
  unfold opCode
  split
  · exact newCode_alike hp (.inl rfl) h
  · split
    · exact putCode_alike hp (.inl rfl) h
    · split
      · rename_i k5
        exact .inl (moveCode_alike ht hu k5 hp (opOk_to ho k5).1 h)
      · exact .inl (offCode_alike ht hu hp h)
theorem treeDo_code {t : List Ent} {o : Opn} (ht : treeOk t = true) (ho : opOk o = true) : (treeDo t o).2 = opCode t o := by
  unfold treeDo
  rw [if_neg (by rw [ht]; simp), if_neg (by rw [ho]; simp)]
  split
  · rfl
  · rename_i h
    simp only [ne_eq, Decidable.not_not] at h
    rw [h]
theorem treeDo_bad {t : List Ent} {o : Opn} (ht : treeOk t = true) (ho : opOk o = false) : treeDo t o = (t, 1) := by
  unfold treeDo
  rw [if_neg (by rw [ht]; simp), if_pos ho]
theorem apart {t : List Ent} {a b : Opn} (ht : treeOk t = true) (ha : (treeDo t a).2 = 0) (hab : ∀ q, pathOk q = true → inT a q → ¬ inT b q)
    (hd : (treeDo (treeDo t a).1 b).2 ≠ 8) (he : (treeDo t b).2 ≠ 8) (hf : (treeDo (treeDo t b).1 a).2 ≠ 8) :
    (treeDo (treeDo t b).1 a).2 = 0 ∧ (treeDo (treeDo t a).1 b).2 = (treeDo t b).2 ∧ (treeDo (treeDo t a).1 b).1 = (treeDo (treeDo t b).1 a).1 := by
  obtain ⟨_, oa, ca, h1, at1⟩ := treeDo_at (code_zero ha)
  cases ob : opOk b with
  | false =>
    rw [treeDo_bad ht ob, treeDo_bad h1 ob]
    exact ⟨ha, rfl, rfl⟩
  | true =>
    have al : alike t (treeDo t a).1 b := fun q hq hi => by rw [at1, atDo_out oa hq fun h => hab q hq h hi]
    rw [treeDo_code h1 ob] at hd ⊢
    rw [treeDo_code ht ob] at he ⊢
    have hde : opCode (treeDo t a).1 b = opCode t b := by
      rcases code_alike ht h1 ob al with h | h | h
      · exact h.symm
      · exact absurd h he
      · exact absurd h hd
    by_cases h0 : opCode t b = 0
    · have hb0 : (treeDo t b).2 = 0 := by rw [treeDo_code ht ob]; exact h0
      obtain ⟨_, _, cb, h2, at2⟩ := treeDo_at (code_zero hb0)
      have al2 : alike t (treeDo t b).1 a := fun q hq hi => by rw [at2, atDo_out ob hq (hab q hq hi)]
      rw [treeDo_code h2 oa] at hf ⊢
      have hf0 : opCode (treeDo t b).1 a = 0 := by
        rcases code_alike ht h2 oa al2 with h | h | h
        · rw [← h]; exact ca
        · rw [ca] at h; cases h
        · exact absurd h hf
      have hx0 : (treeDo (treeDo t a).1 b).2 = 0 := by rw [treeDo_code h1 ob, hde]; exact h0
      have hy0 : (treeDo (treeDo t b).1 a).2 = 0 := by rw [treeDo_code h2 oa]; exact hf0
      obtain ⟨_, _, _, h3, at3⟩ := treeDo_at (code_zero hx0)
      obtain ⟨_, _, _, h4, at4⟩ := treeDo_at (code_zero hy0)
      refine ⟨hf0, hde, tree_ext h3 h4 fun q => ?_⟩
      cases hq : pathOk q with
      | false => rw [at_bad h3 hq, at_bad h4 hq]
      | true =>
        by_cases ia : inT a q
        · rw [at3, atDo_out ob hq (hab q hq ia), at1, at4]
          exact atDo_alike oa ht h2 al2 hq ia
        · by_cases ib : inT b q
          · rw [at4, atDo_out oa hq ia, at2, at3]
            exact (atDo_alike ob ht h1 al hq ib).symm
          · rw [at3, atDo_out ob hq ib, at1, atDo_out oa hq ia, at4, atDo_out oa hq ia, at2, atDo_out ob hq ib]
    · have hb0 : (treeDo t b).2 ≠ 0 := by rw [treeDo_code ht ob]; exact h0
      have hx0 : (treeDo (treeDo t a).1 b).2 ≠ 0 := by rw [treeDo_code h1 ob, hde]; exact h0
      rw [stay ht hb0, stay h1 hx0]
      exact ⟨ha, hde, rfl⟩
end Go.Par
