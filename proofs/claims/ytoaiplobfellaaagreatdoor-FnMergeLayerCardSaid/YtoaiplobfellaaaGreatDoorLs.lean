/- Contracts: merges, path by path. -/
import Derived.Test.YtoaiplobfellaaaGreatDoorLe
import Derived.Test.YtoaiplobfellaaaGreatDoorLj
import Derived.Test.YtoaiplobfellaaaGreatDoorPk
set_option linter.unusedSimpArgs false
set_option linter.unusedVariables false
set_option maxHeartbeats 1000000
set_option maxRecDepth 10000
namespace Go.Proofs.YtoaiplobfellaaaGreatDoor
open Go Go.RowKit Go.Ab Go.Par
variable {m : Int}
theorem entD_eq (o : Option Ent) : entD o = .tup [.agg (o.getD ent0).c, .b o.isSome] := by cases o <;> rfl
abbrev fe (X Y : Option Ent) : Bool := decide ((X.getD ent0).path = (Y.getD ent0).path) && (((X.getD ent0).dir == (Y.getD ent0).dir) && (decide ((X.getD ent0).data = (Y.getD ent0).data) && true))
abbrev fs (X Y : Option Ent) : Bool := X.isSome == Y.isSome
abbrev ft (X Y : Option Ent) : Bool := decide ((X.getD ent0).path = (Y.getD ent0).path) && (((X.getD ent0).dir == (Y.getD ent0).dir) && (decide ((X.getD ent0).data = (Y.getD ent0).data) && ((X.isSome == Y.isSome) && true)))
theorem fe_eq {X Y : Option Ent} (h : X = Y) : fe X Y = true := by subst h; simp [fe]
theorem fs_eq {X Y : Option Ent} (h : X = Y) : fs X Y = true := by subst h; simp [fs]
theorem ft_eq {X Y : Option Ent} (h : X = Y) : ft X Y = true := by subst h; simp [ft]
theorem fe_or {X Y : Option Ent} (h : X ≠ Y) : fs X Y = false ∨ (fs X Y = true ∧ fe X Y = false) := by
  cases X with
  | none =>
    cases Y with
    | none => exact absurd rfl h
    | some y => left; rfl
  | some x =>
    cases Y with
    | none => left; rfl
    | some y =>
      right
      refine ⟨rfl, ?_⟩
      rw [← Bool.not_eq_true]
      intro hf
      apply h
      obtain ⟨p, d, q⟩ := x
      obtain ⟨p', d', q'⟩ := y
      simp [fe] at hf
      simp [hf]
theorem ft_ne {X Y : Option Ent} (h : X ≠ Y) : ft X Y = false := by
  rcases fe_or h with h | ⟨h1, h2⟩
  · simp only [fs] at h
    simp [ft, h]
  · simp only [fs] at h1
    simp only [fe] at h2
    simp only [ft, h1]
    exact h2
def mD : Option (Option Ent) → D
  | some o => .tup [.agg (o.getD ent0).c, .b o.isSome, .b true]
  | none => .tup [.agg ent0.c, .b false, .b false]
theorem iGet_con (t : List Ent) (p : Bs) (hb : ∀ e ∈ t, e.path.length ≤ 1073741824 ∧ e.data.length ≤ 1073741824) : Con (E m) 71 0 [.sl (t.map Ent.c), .s p] [] (entD (if treeOk t then entGet t p else none)) [] := by
  have c1 := iTreeOk_con (m := m) t hb
  cases hok : treeOk t with
  | false =>
    rw [hok] at c1
    refine con_of_cd tyOk mix Tryz.func71 rfl rfl rfl (Nat.le_of_ble_eq_true rfl) ?_
    repeat' first | refine Ra ⟨?_⟩ | ((first | refine Rc [] 0 rfl rfl (c1) ?_ | (refine bd (fun h => ?_) (fun h => ?_) <;> (try simp only [List.length_map] at h)) | refine bsplit.mk (fun h => ?_) (fun h => ?_)) <;> conv => whnf) | refine Rb ⟨?_⟩ | fail
    exact Rf
  | true =>
    rw [hok] at c1
    have hl := treeOk_len hok
    have c2 := iAt_con (m := m) t p (by omega)
    simp only [if_true]
    unfold entGet
    by_cases hr : p = [47]
    · subst hr
      refine con_of_cd tyOk mix Tryz.func71 rfl rfl rfl (Nat.le_of_ble_eq_true rfl) ?_
      repeat' first | refine Ra ⟨?_⟩ | ((first | refine Rc [] 0 rfl rfl (c1) ?_ | (refine bd (fun h => ?_) (fun h => ?_) <;> (try simp only [List.length_map] at h)) | refine bsplit.mk (fun h => ?_) (fun h => ?_)) <;> conv => whnf) | refine Rb ⟨?_⟩ | fail
      exact Rf
    · rw [if_neg hr]
      rw [entD_eq] at c2 ⊢
      refine con_of_cd tyOk mix Tryz.func71 rfl rfl rfl (Nat.le_of_ble_eq_true rfl) ?_
      repeat' first | refine Ra ⟨?_⟩ | ((first | refine Rc [] 0 rfl rfl (c1) ?_ | refine Rc [] 0 rfl rfl (c2) ?_ | (refine bd (fun h => ?_) (fun h => ?_) <;> (try simp only [List.length_map] at h)) | refine bsplit.mk (fun h => ?_) (fun h => ?_)) <;> conv => whnf) | refine Rb ⟨?_⟩ | fail
      exact Rf
theorem tellAt_con (t : List Ent) (p : Bs) (hb : ∀ e ∈ t, e.path.length ≤ 1073741824 ∧ e.data.length ≤ 1073741824) (hok : treeOk t = true) : Con (E m) 193 0 [.sl (t.map Ent.c), .s p] [] (.agg [.s ((entGet t p).getD ent0).path, .b ((entGet t p).getD ent0).dir, .s ((entGet t p).getD ent0).data, .b (entGet t p).isSome]) [] := by
  have c1 := iGet_con (m := m) t p hb
  rw [hok, entD_eq] at c1
  refine con_of_cd tyOk mix Tryz.func193 rfl rfl rfl (Nat.le_of_ble_eq_true rfl) ?_
  repeat' first | refine Ra ⟨?_⟩ | ((first | refine Rc [] 0 rfl rfl (c1) ?_ | (refine bd (fun h => ?_) (fun h => ?_) <;> (try simp only [List.length_map] at h)) | refine bsplit.mk (fun h => ?_) (fun h => ?_)) <;> conv => whnf) | refine Rb ⟨?_⟩ | fail
  exact Rf
theorem iMAt_con (t a b : List Ent) (p : Bs) (ht : ∀ e ∈ t, e.path.length ≤ 1073741824 ∧ e.data.length ≤ 1073741824) (ha : ∀ e ∈ a, e.path.length ≤ 1073741824 ∧ e.data.length ≤ 1073741824) (hb : ∀ e ∈ b, e.path.length ≤ 1073741824 ∧ e.data.length ≤ 1073741824) :
    Con (E m) 124 0 [.sl (t.map Ent.c), .sl (a.map Ent.c), .sl (b.map Ent.c), .s p] [] (mD (mergeAt t a b p)) [] := by
  have c1 := iTreeOk_con (m := m) t ht
  have c2 := iTreeOk_con (m := m) a ha
  have c3 := iTreeOk_con (m := m) b hb
  cases hr : right3 t a b with
  | false =>
    have hx : mergeAt t a b p = none := by simp [mergeAt, hr]
    rw [hx]
    have hr2 : treeOk t = false ∨ (treeOk t = true ∧ treeOk a = false) ∨ (treeOk t = true ∧ treeOk a = true ∧ treeOk b = false) := by
      unfold right3 at hr
      cases h1 : treeOk t
      · exact .inl rfl
      · cases h2 : treeOk a
        · exact .inr (.inl ⟨rfl, rfl⟩)
        · cases h3 : treeOk b
          · exact .inr (.inr ⟨rfl, rfl, rfl⟩)
          · rw [h1, h2, h3] at hr; cases hr
    rcases hr2 with h1 | ⟨h1, h2⟩ | ⟨h1, h2, h3⟩
    · rw [h1] at c1
      refine con_of_cd tyOk mix Tryz.func124 rfl rfl rfl (Nat.le_of_ble_eq_true rfl) ?_
      repeat' first | refine Ra ⟨?_⟩ | ((first | refine Rc [] 0 rfl rfl (c1) ?_ | (refine bd (fun h => ?_) (fun h => ?_) <;> (try simp only [List.length_map] at h)) | refine bsplit.mk (fun h => ?_) (fun h => ?_)) <;> conv => whnf) | refine Rb ⟨?_⟩ | fail
      exact Rf
    · rw [h1] at c1
      rw [h2] at c2
      refine con_of_cd tyOk mix Tryz.func124 rfl rfl rfl (Nat.le_of_ble_eq_true rfl) ?_
      repeat' first | refine Ra ⟨?_⟩ | ((first | refine Rc [] 0 rfl rfl (c1) ?_ | refine Rc [] 0 rfl rfl (c2) ?_ | (refine bd (fun h => ?_) (fun h => ?_) <;> (try simp only [List.length_map] at h)) | refine bsplit.mk (fun h => ?_) (fun h => ?_)) <;> conv => whnf) | refine Rb ⟨?_⟩ | fail
      exact Rf
    · rw [h1] at c1
      rw [h2] at c2
      rw [h3] at c3
      refine con_of_cd tyOk mix Tryz.func124 rfl rfl rfl (Nat.le_of_ble_eq_true rfl) ?_
      repeat' first | refine Ra ⟨?_⟩ | ((first | refine Rc [] 0 rfl rfl (c1) ?_ | refine Rc [] 0 rfl rfl (c2) ?_ | refine Rc [] 0 rfl rfl (c3) ?_ | (refine bd (fun h => ?_) (fun h => ?_) <;> (try simp only [List.length_map] at h)) | refine bsplit.mk (fun h => ?_) (fun h => ?_)) <;> conv => whnf) | refine Rb ⟨?_⟩ | fail
      exact Rf
  | true =>
    obtain ⟨h1, h2, h3⟩ := right3_iff.1 hr
    have c4 := tellAt_con (m := m) t p ht h1
    have c5 := tellAt_con (m := m) a p ha h2
    have c6 := tellAt_con (m := m) b p hb h3
    rw [h1] at c1
    rw [h2] at c2
    rw [h3] at c3
    have hx : mergeAt t a b p = mAt t a b p := by simp [mergeAt, hr]
    rw [hx]
    unfold mAt
    generalize entGet t p = A at *
    generalize entGet a p = B at *
    generalize entGet b p = C at *
    by_cases k1 : B = A
    · have e1 := ft_eq k1
      rw [if_pos k1]
      refine con_of_cd tyOk mix Tryz.func124 rfl rfl rfl (Nat.le_of_ble_eq_true rfl) ?_
      repeat' first | refine Ra ⟨?_⟩ | ((first | refine Rc [] 0 rfl rfl (c1) ?_ | refine Rc [] 0 rfl rfl (c2) ?_ | refine Rc [] 0 rfl rfl (c3) ?_ | refine Rc [] 0 rfl rfl (c4) ?_ | refine Rc [] 0 rfl rfl (c5) ?_ | refine Rc [] 0 rfl rfl (c6) ?_ | (refine bd (fun h => ?_) (fun h => ?_) <;> (try simp only [List.length_map] at h)) | refine bsplit.mk (fun h => ?_) (fun h => ?_)) <;> conv => whnf) | refine Rb ⟨?_⟩ | fail
      exact Rf
    · have e1 := ft_ne k1
      rw [if_neg k1]
      by_cases k2 : C = A
      · have e2 := ft_eq k2
        rw [if_pos (.inl k2)]
        refine con_of_cd tyOk mix Tryz.func124 rfl rfl rfl (Nat.le_of_ble_eq_true rfl) ?_
        repeat' first | refine Ra ⟨?_⟩ | ((first | refine Rc [] 0 rfl rfl (c1) ?_ | refine Rc [] 0 rfl rfl (c2) ?_ | refine Rc [] 0 rfl rfl (c3) ?_ | refine Rc [] 0 rfl rfl (c4) ?_ | refine Rc [] 0 rfl rfl (c5) ?_ | refine Rc [] 0 rfl rfl (c6) ?_ | (refine bd (fun h => ?_) (fun h => ?_) <;> (try simp only [List.length_map] at h)) | refine bsplit.mk (fun h => ?_) (fun h => ?_)) <;> conv => whnf) | refine Rb ⟨?_⟩ | fail
        exact Rf
      · have e2 := ft_ne k2
        by_cases k3 : B = C
        · have e3 := ft_eq k3
          rw [if_pos (.inr k3)]
          refine con_of_cd tyOk mix Tryz.func124 rfl rfl rfl (Nat.le_of_ble_eq_true rfl) ?_
          repeat' first | refine Ra ⟨?_⟩ | ((first | refine Rc [] 0 rfl rfl (c1) ?_ | refine Rc [] 0 rfl rfl (c2) ?_ | refine Rc [] 0 rfl rfl (c3) ?_ | refine Rc [] 0 rfl rfl (c4) ?_ | refine Rc [] 0 rfl rfl (c5) ?_ | refine Rc [] 0 rfl rfl (c6) ?_ | (refine bd (fun h => ?_) (fun h => ?_) <;> (try simp only [List.length_map] at h)) | refine bsplit.mk (fun h => ?_) (fun h => ?_)) <;> conv => whnf) | refine Rb ⟨?_⟩ | fail
          exact Rf
        · have e3 := ft_ne k3
          rw [if_neg (by rintro (h | h); exact k2 h; exact k3 h)]
          refine con_of_cd tyOk mix Tryz.func124 rfl rfl rfl (Nat.le_of_ble_eq_true rfl) ?_
          repeat' first | refine Ra ⟨?_⟩ | ((first | refine Rc [] 0 rfl rfl (c1) ?_ | refine Rc [] 0 rfl rfl (c2) ?_ | refine Rc [] 0 rfl rfl (c3) ?_ | refine Rc [] 0 rfl rfl (c4) ?_ | refine Rc [] 0 rfl rfl (c5) ?_ | refine Rc [] 0 rfl rfl (c6) ?_ | (refine bd (fun h => ?_) (fun h => ?_) <;> (try simp only [List.length_map] at h)) | refine bsplit.mk (fun h => ?_) (fun h => ?_)) <;> conv => whnf) | refine Rb ⟨?_⟩ | fail
          exact Rf
theorem sMAt_con (t a b : List Ent) (p : Bs) (ht : t.length ≤ 1073741824) (ha : a.length ≤ 1073741824) (hb : b.length ≤ 1073741824) :
    Con (E m) 128 0 [.sl (t.map Ent.c), .sl (a.map Ent.c), .sl (b.map Ent.c), .s p] [] (mD (mAt t a b p)) [] := by
  have c1 := sGet_con (m := m) t p ht
  have c2 := sGet_con (m := m) a p ha
  have c3 := sGet_con (m := m) b p hb
  rw [entD_eq] at c1 c2 c3
  unfold mAt
  generalize entGet t p = A at *
  generalize entGet a p = B at *
  generalize entGet b p = C at *
  by_cases k1 : B = A
  · have e1 := fe_eq k1
    have f1 := fs_eq k1
    rw [if_pos k1]
    refine con_of_cd tyOk mix Tryz.func128 rfl rfl rfl (Nat.le_of_ble_eq_true rfl) ?_
    repeat' first | refine Ra ⟨?_⟩ | ((first | refine Rc [] 0 rfl rfl (c1) ?_ | refine Rc [] 0 rfl rfl (c2) ?_ | refine Rc [] 0 rfl rfl (c3) ?_ | (refine bd (fun h => ?_) (fun h => ?_) <;> (try simp only [List.length_map] at h)) | refine bsplit.mk (fun h => ?_) (fun h => ?_)) <;> conv => whnf) | refine Rb ⟨?_⟩ | fail
    exact Rf
  · rw [if_neg k1]
    by_cases k2 : C = A
    · have e2 := fe_eq k2
      have f2 := fs_eq k2
      rw [if_pos (.inl k2)]
      rcases fe_or k1 with f1 | ⟨f1, e1⟩
      all_goals
        refine con_of_cd tyOk mix Tryz.func128 rfl rfl rfl (Nat.le_of_ble_eq_true rfl) ?_
        repeat' first | refine Ra ⟨?_⟩ | ((first | refine Rc [] 0 rfl rfl (c1) ?_ | refine Rc [] 0 rfl rfl (c2) ?_ | refine Rc [] 0 rfl rfl (c3) ?_ | (refine bd (fun h => ?_) (fun h => ?_) <;> (try simp only [List.length_map] at h)) | refine bsplit.mk (fun h => ?_) (fun h => ?_)) <;> conv => whnf) | refine Rb ⟨?_⟩ | fail
        exact Rf
    · by_cases k3 : B = C
      · have e3 := fe_eq k3
        have f3 := fs_eq k3
        rw [if_pos (.inr k3)]
        rcases fe_or k1 with f1 | ⟨f1, e1⟩ <;> rcases fe_or k2 with f2 | ⟨f2, e2⟩
        all_goals
          refine con_of_cd tyOk mix Tryz.func128 rfl rfl rfl (Nat.le_of_ble_eq_true rfl) ?_
          repeat' first | refine Ra ⟨?_⟩ | ((first | refine Rc [] 0 rfl rfl (c1) ?_ | refine Rc [] 0 rfl rfl (c2) ?_ | refine Rc [] 0 rfl rfl (c3) ?_ | (refine bd (fun h => ?_) (fun h => ?_) <;> (try simp only [List.length_map] at h)) | refine bsplit.mk (fun h => ?_) (fun h => ?_)) <;> conv => whnf) | refine Rb ⟨?_⟩ | fail
          exact Rf
      · rw [if_neg (by rintro (h | h); exact k2 h; exact k3 h)]
        rcases fe_or k1 with f1 | ⟨f1, e1⟩ <;> rcases fe_or k2 with f2 | ⟨f2, e2⟩ <;> rcases fe_or k3 with f3 | ⟨f3, e3⟩
        all_goals
          refine con_of_cd tyOk mix Tryz.func128 rfl rfl rfl (Nat.le_of_ble_eq_true rfl) ?_
          repeat' first | refine Ra ⟨?_⟩ | ((first | refine Rc [] 0 rfl rfl (c1) ?_ | refine Rc [] 0 rfl rfl (c2) ?_ | refine Rc [] 0 rfl rfl (c3) ?_ | (refine bd (fun h => ?_) (fun h => ?_) <;> (try simp only [List.length_map] at h)) | refine bsplit.mk (fun h => ?_) (fun h => ?_)) <;> conv => whnf) | refine Rb ⟨?_⟩ | fail
          exact Rf
theorem sRight_con (t a b : List Ent) (ht : ∀ e ∈ t, e.path.length ≤ 1073741824 ∧ e.data.length ≤ 1073741824) (ha : ∀ e ∈ a, e.path.length ≤ 1073741824 ∧ e.data.length ≤ 1073741824) (hb : ∀ e ∈ b, e.path.length ≤ 1073741824 ∧ e.data.length ≤ 1073741824) :
    Con (E m) 126 0 [.sl (t.map Ent.c), .sl (a.map Ent.c), .sl (b.map Ent.c)] [] (.b (right3 t a b)) [] := by
  have c1 := sTreeOk_con (m := m) t ht
  have c2 := sTreeOk_con (m := m) a ha
  have c3 := sTreeOk_con (m := m) b hb
  unfold right3
  cases h1 : treeOk t <;> cases h2 : treeOk a <;> cases h3 : treeOk b
  all_goals
    rw [h1] at c1
    rw [h2] at c2
    rw [h3] at c3
    refine con_of_cd tyOk mix Tryz.func126 rfl rfl rfl (Nat.le_of_ble_eq_true rfl) ?_
    repeat' first | refine Ra ⟨?_⟩ | ((first | refine Rc [] 0 rfl rfl (c1) ?_ | refine Rc [] 0 rfl rfl (c2) ?_ | refine Rc [] 0 rfl rfl (c3) ?_ | (refine bd (fun h => ?_) (fun h => ?_) <;> (try simp only [List.length_map] at h)) | refine bsplit.mk (fun h => ?_) (fun h => ?_)) <;> conv => whnf) | refine Rb ⟨?_⟩ | fail
    exact Rf
abbrev big (es : List Ent) : Prop := es.length ≤ 9223372036854775807 ∧ ∀ e ∈ es, e.path.length ≤ 9223372036854775807 ∧ e.data.length ≤ 9223372036854775807
/-- what is left of a bound behind a list: a number of which only this is known -/
theorem szE_con (es : List Ent) (n : Int) (hn : 0 ≤ n ∧ n ≤ 1048576) (h : big es) : ∃ r : Int, Con (E m) 21 0 [.sl (es.map Ent.c), .k .i64 n] [] (.k .i64 r) [] ∧ (r < 0 ∨ (r ≤ n ∧ (es.length : Int) ≤ n ∧ ∀ e ∈ es, e.path.length ≤ 1073741824 ∧ e.data.length ≤ 1073741824)) := by
  refine ⟨_, szEntS_con (m := m) es n hn h.1 h.2, ?_⟩
  rcases szEnts_or es n with h1 | ⟨h1, h2⟩
  · exact .inl h1
  · exact .inr ⟨szEnts_le es n hn.1, h1, fun e he => by have := h2 e he; omega⟩
end Go.Proofs.YtoaiplobfellaaaGreatDoor
