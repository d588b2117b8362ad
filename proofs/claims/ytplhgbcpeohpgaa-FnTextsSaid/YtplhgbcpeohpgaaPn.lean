/- Texts that are cut behind a line; texts of operations that are read: in plain Lean. -/
import Derived.Test.YtplhgbcpeohpgaaX3
set_option linter.unusedSimpArgs false
set_option linter.unusedVariables false
namespace Go.Par
open Go.Ab

theorem word_no {k : Int} (h1 : 1 ≤ k) (h2 : k ≤ 5) : 32 ∉ opWord k := by
  rcases five h1 h2 with rfl | rfl | rfl | rfl | rfl <;> decide
theorem opRead_iff {s : Bs} {o : Opn} : opRead s = some o ↔ opOk o = true ∧ opText o = s := by
  constructor
  · intro h
    unfold opRead at h
    split at h
    · rename_i o' ho
      split at h
      · rename_i ht
        cases h
        exact ⟨(opOfWords_some ho).2.2.1, ht⟩
      · cases h
    · cases h
  · rintro ⟨h1, h2⟩
    have hk := opOk_kind h1
    have hw := word_no hk.1 hk.2
    have hkw := opKind_word hk.1 hk.2
    have h1' := h1
    have h3 := h2
    rw [opText, if_pos h1] at h3
    simp only [opOk, Bool.and_eq_true] at h1
    obtain ⟨hp, h1⟩ := h1
    have hpn := (path_no hp).1
    obtain ⟨k, p, t, d⟩ := o
    simp only at *
    have key : opOfWords (cut 32 s) = some ⟨k, p, t, d⟩ := by
      by_cases h5 : k = 5
      · subst h5
        simp only [if_true, Bool.and_eq_true, decide_eq_true_eq] at h1
        obtain ⟨ht, rfl⟩ := h1
        simp only [if_true, List.append_nil] at h3
        have hc : cut 32 s = [opWord 5, p, t] := by
          rw [← words3 hw hpn (path_no ht).1, ← h3]
          simp
        unfold opOfWords
        rw [hc]
        simp only [wordAt, List.getD_cons_zero, List.getD_cons_succ, hkw]
        have e : opOfKind 5 p t = ⟨5, p, t, []⟩ := rfl
        rw [e, if_pos ⟨by simp, by simp, h1'⟩]
      · have ht : t = [] := by
          rw [if_neg h5] at h1
          split at h1
          · simp only [Bool.and_eq_true, decide_eq_true_eq] at h1
            exact h1.1
          · simp only [Bool.and_eq_true, decide_eq_true_eq] at h1
            exact h1.1.2
        have hd : dataOk d = true := by
          rw [if_neg h5] at h1
          split at h1
          · simp only [Bool.and_eq_true, decide_eq_true_eq] at h1
            exact h1.2
          · simp only [Bool.and_eq_true, decide_eq_true_eq] at h1
            rw [h1.2]; rfl
        subst ht
        rw [if_neg h5] at h3
        have e : opOfKind k p d = ⟨k, p, [], d⟩ := if_neg h5
        by_cases hd0 : d = []
        · subst hd0
          simp only [if_true, List.append_nil] at h3
          have hc : cut 32 s = [opWord k, p] := by
            rw [← words2 hw hpn, ← h3]
            simp
          unfold opOfWords
          rw [hc]
          simp only [wordAt, List.getD_cons_zero, List.getD_cons_succ, List.getD_nil, hkw]
          rw [e, if_pos ⟨by simp, by simp, h1'⟩]
        · rw [if_neg hd0] at h3
          have hc : cut 32 s = [opWord k, p, d] := by
            rw [← words3 hw hpn (data_no hd).1, ← h3]
            simp
          unfold opOfWords
          rw [hc]
          simp only [wordAt, List.getD_cons_zero, List.getD_cons_succ, hkw]
          rw [e, if_pos ⟨by simp, by simp, h1'⟩]
    unfold opRead
    rw [key]
    simp only
    rw [if_pos h2]
theorem opRead_text (o : Opn) : opRead (opText o) = if opOk o = true then some o else none := by
  split
  · rename_i h
    exact opRead_iff.2 ⟨h, rfl⟩
  · rename_i h
    cases hr : opRead (opText o) with
    | none => rfl
    | some x =>
      exfalso
      obtain ⟨h1, h2⟩ := opRead_iff.1 hr
      exact h (opText_ne (by rw [← h2]; exact opText_pos h1))
theorem opText_nil (o : Opn) : decide (opText o = []) = !opOk o := by
  cases h : opOk o with
  | true => simpa using opText_pos h
  | false => simp [opText, h]
theorem opText_inj {a b : Opn} (ha : opOk a = true) (hb : opOk b = true) : opText a = opText b ↔ a = b := by
  constructor
  · intro h
    have h1 := opRead_iff.2 ⟨ha, h⟩
    have h2 := opRead_iff.2 ⟨hb, rfl⟩
    rw [h1] at h2
    exact Option.some.inj h2
  · intro h; rw [h]
theorem treeText_inj {a b : List Ent} (ha : treeOk a = true) (hb : treeOk b = true) : treeText a = treeText b ↔ a = b := by
  constructor
  · intro h
    have h1 := treeReadS_iff.2 ⟨ha, h⟩
    have h2 := treeReadS_iff.2 ⟨hb, rfl⟩
    rw [h1] at h2
    exact Option.some.inj h2
  · intro h; rw [h]
theorem layerText_inj {a b : List Mrk} (ha : layerOk a = true) (hb : layerOk b = true) : layerText a = layerText b ↔ a = b := by
  constructor
  · intro h
    have h1 := layerReadS_iff.2 ⟨ha, h⟩
    have h2 := layerReadS_iff.2 ⟨hb, rfl⟩
    rw [h1] at h2
    exact Option.some.inj h2
  · intro h; rw [h]
theorem entText_ne (e : Ent) : entText e ≠ [] := by
  unfold entText
  split
  · simp
  · split <;> simp
theorem treeReadS_text (t : List Ent) : treeReadS (treeText t) = if treeOk t = true then some t else some [] := by
  split
  · rename_i h
    exact treeReadS_iff.2 ⟨h, rfl⟩
  · rename_i h
    refine treeReadS_iff.2 ⟨by decide, ?_⟩
    rw [treeText, treeText, if_neg h]
    rfl
theorem layerReadS_text (t : List Mrk) : layerReadS (layerText t) = if layerOk t = true then some t else some [] := by
  split
  · rename_i h
    exact layerReadS_iff.2 ⟨h, rfl⟩
  · rename_i h
    refine layerReadS_iff.2 ⟨by decide, ?_⟩
    rw [layerText, layerText, if_neg h]
    rfl
/-! lines -/
def nls (s : Bs) : Nat := (s.filter fun b => decide (b = 10)).length
theorem nls_app (a b : Bs) : nls (a ++ b) = nls a + nls b := by simp [nls]
theorem nls_no {a : Bs} (h : 10 ∉ a) : nls a = 0 := by
  unfold nls
  rw [List.length_eq_zero_iff, List.filter_eq_nil_iff]
  intro b hb
  simp only [decide_eq_true_eq]
  rintro rfl
  exact h hb
theorem nls_lines {α : Type} {f : α → Bs} : ∀ {t : List α}, (∀ e ∈ t, 10 ∉ f e) → nls ((t.map fun e => f e ++ [10]).flatten) = t.length
  | [], _ => rfl
  | e :: t, h => by
    have ih := nls_lines (t := t) (f := f) fun x hx => h x (by simp [hx])
    simp only [List.map_cons, List.flatten_cons, nls_app, ih, nls_no (h e (by simp)), List.length_cons]
    have : nls [10] = 1 := rfl
    omega
theorem nls_tree (t : List Ent) : nls (treeText t) = if treeOk t = true then t.length else 0 := by
  unfold treeText
  split
  · rename_i h
    exact nls_lines fun e he => entText_no (treeOk_ent h e he)
  · rfl
theorem nls_layer (t : List Mrk) : nls (layerText t) = if layerOk t = true then t.length else 0 := by
  unfold layerText
  split
  · rename_i h
    exact nls_lines fun e he => markText_no (layerOk_mark h e he)
  · rfl
theorem nls_step {s : Bs} {i : Nat} {b : UInt8} (h : s[i]? = some b) : nls (s.take (i + 1)) = nls (s.take i) + if b = 10 then 1 else 0 := by
  have : s.take (i + 1) = s.take i ++ [b] := by rw [List.take_add_one, h]; rfl
  rw [this, nls_app]
  congr 1
  unfold nls
  by_cases hb : b = 10
  · subst hb; rfl
  · simp [hb]
theorem nls_le (s : Bs) : nls s ≤ s.length := List.length_filter_le _ _
/-- what ends at a newline is so many lines -/
theorem cut_at {α : Type} {f : α → Bs} : ∀ {t : List α} {i : Nat}, (∀ e ∈ t, 10 ∉ f e) → ((t.map fun e => f e ++ [10]).flatten)[i]? = some 10 → ∃ k, k ≤ t.length ∧ ((t.map fun e => f e ++ [10]).flatten).take (i + 1) = ((t.take k).map fun e => f e ++ [10]).flatten
  | [], i, _, h => by simp at h
  | e :: t, i, h, hi => by
    simp only [List.map_cons, List.flatten_cons] at hi ⊢
    by_cases h1 : i < (f e).length
    · exfalso
      rw [List.append_assoc, List.getElem?_append_left h1] at hi
      exact h e (by simp) (List.mem_of_getElem? hi)
    · by_cases h2 : i = (f e).length
      · refine ⟨1, by simp, ?_⟩
        simp only [List.take_succ_cons, List.take_zero, List.map_cons, List.map_nil, List.flatten_cons, List.flatten_nil, List.append_nil]
        rw [List.take_append_of_le_length (by simp; omega)]
        rw [List.take_of_length_le (by simp; omega)]
      · rw [List.getElem?_append_right (by simp; omega)] at hi
        simp only [List.length_append, List.length_cons, List.length_nil] at hi
        obtain ⟨k, hk, hc⟩ := cut_at (t := t) (i := i - ((f e).length + 1)) (fun x hx => h x (by simp [hx])) (by simpa using hi)
        refine ⟨k + 1, by simp; omega, ?_⟩
        simp only [List.take_succ_cons, List.map_cons, List.flatten_cons]
        rw [← hc, List.take_append, List.take_of_length_le (by simp; omega)]
        congr 2
        simp
        omega
theorem treeOk_take {t : List Ent} (h : treeOk t = true) (k : Nat) : treeOk (t.take k) = true := by
  unfold treeOk at h ⊢
  simp only [Bool.and_eq_true, decide_eq_true_eq, all_range] at h ⊢
  obtain ⟨h1, h2⟩ := h
  refine ⟨by rw [List.length_take]; omega, fun i hi => ?_⟩
  rw [List.length_take] at hi
  have h3 := h2 i (by omega)
  unfold okS at h3 ⊢
  have e1 : (t.take k)[i]? = t[i]? := List.getElem?_take_of_lt (by omega)
  have e2 : (t.take k).take i = t.take i := by rw [List.take_take]; congr 1; omega
  have e3 : ∀ e, prevLt (t.take k) e i = prevLt t e i := fun e => by
    cases i with
    | zero => rfl
    | succ j =>
      simp only [prevLt, List.getElem?_take_of_lt (show j < k by omega)]
  simp only [e1, e2, e3]
  exact h3
theorem layerOk_take {t : List Mrk} (h : layerOk t = true) (k : Nat) : layerOk (t.take k) = true := by
  unfold layerOk at h ⊢
  simp only [Bool.and_eq_true, decide_eq_true_eq, all_range] at h ⊢
  obtain ⟨h1, h2⟩ := h
  refine ⟨by rw [List.length_take]; omega, fun i hi => ?_⟩
  rw [List.length_take] at hi
  have h3 := h2 i (by omega)
  unfold okLS at h3 ⊢
  have e1 : (t.take k)[i]? = t[i]? := List.getElem?_take_of_lt (by omega)
  have e2 : (t.take k).take i = t.take i := by rw [List.take_take]; congr 1; omega
  have e3 : ∀ e, prevLtM (t.take k) e i = prevLtM t e i := fun e => by
    cases i with
    | zero => rfl
    | succ j =>
      simp only [prevLtM, List.getElem?_take_of_lt (show j < k by omega)]
  simp only [e1, e2, e3]
  exact h3
theorem treeText_cut {t : List Ent} {i : Nat} (h : (treeText t)[i]? = some 10) : ∃ k, k ≤ t.length ∧ treeReadS ((treeText t).take (i + 1)) = some (t.take k) := by
  unfold treeText at h
  split at h
  · rename_i hok
    obtain ⟨k, h1, h2⟩ := cut_at (fun e he => entText_no (treeOk_ent hok e he)) h
    refine ⟨k, h1, treeReadS_iff.2 ⟨treeOk_take hok k, ?_⟩⟩
    rw [treeText, if_pos (treeOk_take hok k), treeText, if_pos hok, h2]
  · simp at h
theorem layerText_cut {t : List Mrk} {i : Nat} (h : (layerText t)[i]? = some 10) : ∃ k, k ≤ t.length ∧ layerReadS ((layerText t).take (i + 1)) = some (t.take k) := by
  unfold layerText at h
  split at h
  · rename_i hok
    obtain ⟨k, h1, h2⟩ := cut_at (fun e he => markText_no (layerOk_mark hok e he)) h
    refine ⟨k, h1, layerReadS_iff.2 ⟨layerOk_take hok k, ?_⟩⟩
    rw [layerText, if_pos (layerOk_take hok k), layerText, if_pos hok, h2]
  · simp at h
theorem lines_len {α : Type} {f : α → Bs} {n : Nat} : ∀ {t : List α}, (∀ e ∈ t, (f e).length ≤ n) → ((t.map fun e => f e ++ [10]).flatten).length ≤ (n + 1) * t.length
  | [], _ => by simp
  | e :: t, h => by
    have ih := lines_len (t := t) (f := f) (n := n) fun x hx => h x (by simp [hx])
    have h0 := h e (by simp)
    simp only [List.map_cons, List.flatten_cons, List.length_append, List.length_cons, List.length_nil, Nat.mul_add]
    omega
theorem treeText_len (t : List Ent) : (treeText t).length ≤ 1000 := by
  unfold treeText
  split
  · rename_i h
    have h1 := treeOk_len h
    have h2 := lines_len (f := entText) (n := 21) (t := t) fun e he => by
      have h3 := entText_len e
      have h4 := entOk_len (treeOk_ent h e he)
      omega
    omega
  · simp
theorem layerText_len (t : List Mrk) : (layerText t).length ≤ 1000 := by
  unfold layerText
  split
  · rename_i h
    have h1 := layerOk_len h
    have h2 := lines_len (f := markText) (n := 21) (t := t) fun e he => by
      have h3 := markText_len e
      have h4 := markOk_len (layerOk_mark h e he)
      omega
    omega
  · simp
end Go.Par
