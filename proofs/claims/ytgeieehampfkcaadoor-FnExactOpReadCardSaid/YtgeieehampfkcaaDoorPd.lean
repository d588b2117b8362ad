/- Trees: in plain Lean. -/
import Derived.Test.YtgeieehampfkcaaDoorPc
namespace Go.Par
open Go.Ab

def entAt (t : List Ent) (p : Bs) : Option Ent := t.find? fun e => decide (e.path = p)
def isDirO : Option Ent → Bool
  | some e => e.dir
  | none => false
def dirAt (t : List Ent) (p : Bs) : Bool := decide (p = [47]) || isDirO (entAt t p)
def upCode (t : List Ent) (p : Bs) : Int :=
  if pathUp p = [47] then 0 else match entAt t (pathUp p) with
    | none => 2
    | some e => if e.dir then 0 else 3
def entOk (e : Ent) : Bool := pathOk e.path && dataOk e.data && !(e.dir && !decide (e.data = []))
def prevLt (t : List Ent) (e : Ent) : Nat → Bool
  | 0 => true
  | j + 1 => match t[j]? with
    | some e' => lt e'.path e.path
    | none => true
def okC (t : List Ent) (i : Nat) : Bool := match t[i]? with
  | some e => entOk e && prevLt t e i
  | none => true
def okS (t : List Ent) (i : Nat) : Bool := match t[i]? with
  | some e => entOk e && prevLt t e i && dirAt (t.take i) (pathUp e.path)
  | none => true
def okI (t : List Ent) (i : Nat) : Bool := match t[i]? with
  | some e => entOk e && prevLt t e i && decide (upCode t e.path = 0)
  | none => true
def treeOk (t : List Ent) : Bool := decide (t.length ≤ 16) && (List.range t.length).all (okS t)
def treeOkI (t : List Ent) : Bool := decide (t.length ≤ 16) && (List.range t.length).all (okI t)

theorem all_range {n : Nat} {p : Nat → Bool} : (List.range n).all p = true ↔ ∀ i, i < n → p i = true := by
  simp [List.all_eq_true]
theorem sorted_c {t : List Ent} (h : ∀ i, i < t.length → okC t i = true) : sorted (t.map (·.path)) := by
  refine sorted_of fun i a b h1 h2 => ?_
  simp only [List.getElem?_map, Option.map_eq_some_iff] at h1 h2
  obtain ⟨e1, he1, rfl⟩ := h1
  obtain ⟨e2, he2, rfl⟩ := h2
  have := h (i + 1) (List.getElem?_eq_some_iff.1 he2).1
  simp only [okC, he2, prevLt, he1, Bool.and_eq_true] at this
  exact this.2
theorem entAt_some {t : List Ent} {p : Bs} {e : Ent} (h : entAt t p = some e) : e ∈ t ∧ e.path = p := by
  have h1 := List.mem_of_find?_eq_some h
  have h2 := List.find?_some h
  exact ⟨h1, by simpa using h2⟩
theorem entAt_take {t : List Ent} (hs : sorted (t.map (·.path))) {i : Nat} {e : Ent} (hi : t[i]? = some e) {p : Bs} (hl : lt p e.path = true) : entAt (t.take i) p = entAt t p := by
  have h1 : entAt t p = (entAt (t.take i) p).or (entAt (t.drop i) p) := by
    unfold entAt
    rw [← List.find?_append, List.take_append_drop]
  have h2 : entAt (t.drop i) p = none := by
    unfold entAt
    rw [List.find?_eq_none]
    intro e' he' hp
    simp only [decide_eq_true_eq] at hp
    obtain ⟨j, hj⟩ := List.mem_iff_getElem?.1 he'
    rw [List.getElem?_drop] at hj
    have a1 : (t.map (·.path))[i]? = some e.path := by simp [hi]
    have a2 : (t.map (·.path))[i + j]? = some e'.path := by simp [hj]
    rw [hp] at a2
    have := sorted_less hs a2 a1 hl
    omega
  rw [h1, h2]
  simp
theorem okS_c {t : List Ent} {i : Nat} (h : okS t i = true) : okC t i = true := by
  unfold okS at h
  unfold okC
  match he : t[i]?, h with
  | some e, h =>
    simp only [Bool.and_eq_true] at h ⊢
    exact h.1
  | none, _ => rfl
theorem okI_c {t : List Ent} {i : Nat} (h : okI t i = true) : okC t i = true := by
  unfold okI at h
  unfold okC
  match he : t[i]?, h with
  | some e, h =>
    simp only [Bool.and_eq_true] at h ⊢
    exact h.1
  | none, _ => rfl
theorem okI_eq {t : List Ent} (hs : sorted (t.map (·.path))) (i : Nat) : okI t i = okS t i := by
  unfold okI okS
  match he : t[i]? with
  | none => rfl
  | some e =>
    simp only
    cases hok : entOk e with
    | false => simp
    | true =>
      congr 1
      simp only [entOk, Bool.and_eq_true] at hok
      unfold upCode dirAt
      rcases pathUp_less hok.1.1 with h | ⟨h1, h2⟩
      · simp [h]
      · have hne : pathUp e.path ≠ [47] := by
          intro h
          rw [h] at h1
          revert h1
          decide
        rw [entAt_take hs he h2, if_neg hne]
        simp only [hne, decide_false, Bool.false_or]
        match entAt t (pathUp e.path) with
        | none => simp [isDirO]
        | some e' => cases hd : e'.dir <;> simp [isDirO, hd]
theorem treeOkI_eq (t : List Ent) : treeOkI t = treeOk t := by
  unfold treeOkI treeOk
  congr 1
  rw [Bool.eq_iff_iff, all_range, all_range]
  constructor
  · intro h i hi
    have hs := sorted_c fun i hi => okI_c (h i hi)
    rw [← okI_eq hs]
    exact h i hi
  · intro h i hi
    have hs := sorted_c fun i hi => okS_c (h i hi)
    rw [okI_eq hs]
    exact h i hi

/-- the text of a tree -/
def treeText (t : List Ent) : Bs := if treeOk t then (t.map fun e => entText e ++ [10]).flatten else []
/-- where a path stands in a tree -/
def entIx (t : List Ent) (p : Bs) : Int := match t.findIdx? fun e => decide (e.path = p) with
  | some i => i
  | none => -1
theorem entIx_at {t : List Ent} {p : Bs} {i : Nat} {e : Ent} (h : t[i]? = some e) (hp : e.path = p) (hb : ∀ k e, k < i → t[k]? = some e → e.path ≠ p) : entIx t p = i := by
  have : (t.findIdx? fun e => decide (e.path = p)) = some i := by
    rw [List.findIdx?_eq_some_iff_getElem]
    obtain ⟨hlt, rfl⟩ := List.getElem?_eq_some_iff.1 h
    refine ⟨hlt, by simpa using hp, fun j hj => ?_⟩
    have := hb j t[j] hj (List.getElem?_eq_getElem (by omega))
    simpa using this
  rw [entIx, this]
theorem entIx_none {t : List Ent} {p : Bs} (hb : ∀ (k : Nat) e, t[k]? = some e → e.path ≠ p) : entIx t p = -1 := by
  have : (t.findIdx? fun e => decide (e.path = p)) = none := by
    rw [List.findIdx?_eq_none_iff]
    intro e he
    obtain ⟨k, hk⟩ := List.mem_iff_getElem?.1 he
    simpa using hb k e hk
  rw [entIx, this]
theorem entIx_or (t : List Ent) (p : Bs) : (∃ (i : Nat), entIx t p = i ∧ ∃ hi : i < t.length, entAt t p = some t[i]) ∨ (entIx t p = -1 ∧ entAt t p = none) := by
  match h : t.findIdx? fun e => decide (e.path = p) with
  | some i =>
    left
    rw [List.findIdx?_eq_some_iff_getElem] at h
    obtain ⟨hlt, h1, h2⟩ := h
    refine ⟨i, entIx_at (List.getElem?_eq_getElem hlt) (by simpa using h1) (fun k e hk he => ?_), hlt, ?_⟩
    · obtain ⟨hk', rfl⟩ := List.getElem?_eq_some_iff.1 he
      simpa using h2 k hk
    · unfold entAt
      rw [List.find?_eq_some_iff_getElem]
      exact ⟨h1, i, hlt, rfl, fun j hj => by simpa using h2 j hj⟩
  | none =>
    right
    rw [List.findIdx?_eq_none_iff] at h
    refine ⟨entIx_none fun k e he => by simpa using h e (List.mem_of_getElem? he), ?_⟩
    unfold entAt
    rw [List.find?_eq_none]
    intro e he
    simpa using h e he
theorem okS_eq {t : List Ent} {i : Nat} (hi : i < t.length) : okS t i = (entOk t[i] && (if 0 < i then lt (t[i - 1]'(by omega)).path t[i].path else true) && dirAt (t.take i) (pathUp t[i].path)) := by
  have h : t[i]? = some t[i] := List.getElem?_eq_getElem hi
  unfold okS
  rw [h]
  simp only
  congr 2
  match i, hi with
  | 0, _ => rfl
  | k + 1, hi =>
    have h' : t[k]? = some t[k] := List.getElem?_eq_getElem (by omega)
    simp [prevLt, h']
theorem okI_at {t : List Ent} {i : Nat} (hi : i < t.length) : okI t i = (entOk t[i] && (if 0 < i then lt (t[i - 1]'(by omega)).path t[i].path else true) && decide (upCode t t[i].path = 0)) := by
  have h : t[i]? = some t[i] := List.getElem?_eq_getElem hi
  unfold okI
  rw [h]
  simp only
  congr 2
  match i, hi with
  | 0, _ => rfl
  | k + 1, hi =>
    have h' : t[k]? = some t[k] := List.getElem?_eq_getElem (by omega)
    simp [prevLt, h']
theorem treeOk_false {t : List Ent} {i : Nat} (hi : i < t.length) (h : okS t i = false) : treeOk t = false := by
  unfold treeOk
  rw [Bool.and_eq_false_iff]
  right
  rw [List.all_eq_false]
  exact ⟨i, List.mem_range.2 hi, by simp [h]⟩
theorem treeOkI_false {t : List Ent} {i : Nat} (hi : i < t.length) (h : okI t i = false) : treeOk t = false := by
  rw [← treeOkI_eq]
  unfold treeOkI
  rw [Bool.and_eq_false_iff]
  right
  rw [List.all_eq_false]
  exact ⟨i, List.mem_range.2 hi, by simp [h]⟩
theorem treeOk_true {t : List Ent} (hl : t.length ≤ 16) (h : ∀ k, k < t.length → okS t k = true) : treeOk t = true := by
  unfold treeOk
  rw [Bool.and_eq_true, all_range]
  exact ⟨by simpa using hl, h⟩
theorem treeOkI_true {t : List Ent} (hl : t.length ≤ 16) (h : ∀ k, k < t.length → okI t k = true) : treeOk t = true := by
  rw [← treeOkI_eq]
  unfold treeOkI
  rw [Bool.and_eq_true, all_range]
  exact ⟨by simpa using hl, h⟩
theorem treeOk_len {t : List Ent} (h : treeOk t = true) : t.length ≤ 16 := by
  unfold treeOk at h
  rw [Bool.and_eq_true] at h
  simpa using h.1
theorem treeOk_ent {t : List Ent} (h : treeOk t = true) : ∀ e ∈ t, entOk e = true := by
  intro e he
  obtain ⟨i, hi⟩ := List.mem_iff_getElem?.1 he
  unfold treeOk at h
  rw [Bool.and_eq_true, all_range] at h
  have := h.2 i (List.getElem?_eq_some_iff.1 hi).1
  unfold okS at this
  rw [hi] at this
  simp only [Bool.and_eq_true] at this
  exact this.1.1
theorem entOk_len {e : Ent} (h : entOk e = true) : e.path.length ≤ 12 ∧ e.data.length ≤ 6 := by
  simp only [entOk, Bool.and_eq_true] at h
  refine ⟨(pathOk_pos h.1.1).2, ?_⟩
  have := h.1.2
  simp only [dataOk, Bool.and_eq_true, decide_eq_true_eq] at this
  exact this.1
theorem entText_len (e : Ent) : (entText e).length ≤ e.path.length + e.data.length + 3 := by
  unfold entText
  split
  · simp; omega
  · split
    · simp; omega
    · simp; omega
theorem texts_len {t : List Ent} (h : ∀ e ∈ t, entOk e = true) : ∀ i, (((t.take i).map fun e => entText e ++ [10]).flatten).length ≤ 22 * i
  | 0 => by simp
  | i + 1 => by
    have ih := texts_len h i
    rw [List.take_add_one]
    match hi : t[i]? with
    | none => simp at ih ⊢; omega
    | some e =>
      have h1 := entOk_len (h e (List.mem_of_getElem? hi))
      have h2 := entText_len e
      simp at ih ⊢
      omega
/-- what is left of a bound behind a list of entries -/
def szAll : List Ent → Int → Int
  | [], n => n
  | e :: r, n => if less2 n e.path.length e.data.length < 0 then -1 else szAll r (less2 n e.path.length e.data.length)
def szEnts (es : List Ent) (n : Int) : Int := if n - es.length < 0 then -1 else szAll es (n - es.length)
theorem less2_le (n : Int) (p d : Nat) (h : 0 ≤ n) : less2 n p d ≤ n := by
  rcases less2_or n p d with h' | h' <;> omega
theorem szAll_or : ∀ (es : List Ent) (n : Int), szAll es n < 0 ∨ ∀ e ∈ es, (e.path.length : Int) + e.data.length ≤ n
  | [], n => .inr (by simp)
  | e :: r, n => by
    unfold szAll
    split
    · left; omega
    · rename_i h
      rcases less2_or n e.path.length e.data.length with h1 | ⟨h1, h2⟩
      · exact absurd h1 h
      · rcases szAll_or r (less2 n e.path.length e.data.length) with h3 | h3
        · exact .inl h3
        · refine .inr fun x hx => ?_
          rcases List.mem_cons.1 hx with rfl | hx
          · omega
          · have := h3 x hx
            omega
theorem szEnts_or (es : List Ent) (n : Int) : szEnts es n < 0 ∨ ((es.length : Int) ≤ n ∧ ∀ e ∈ es, (e.path.length : Int) + e.data.length ≤ n) := by
  unfold szEnts
  split
  · left; omega
  · rcases szAll_or es (n - es.length) with h | h
    · exact .inl h
    · refine .inr ⟨by omega, fun e he => ?_⟩
      have := h e he
      omega
theorem fill_get {α β : Type} {l : List α} {f : α → β} {z : β} {i : Nat} (hi : i < l.length) : ((l.take i).map f ++ List.replicate (l.length - i) z)[i]? = some z := by
  rw [List.getElem?_append_right (by simp; omega)]
  have : i - ((l.take i).map f).length = 0 := by simp; omega
  rw [this, List.getElem?_replicate]
  simp
  omega
theorem fill_set {α β : Type} {l : List α} {f : α → β} {z : β} {i : Nat} (hi : i < l.length) : ((l.take i).map f ++ List.replicate (l.length - i) z).set i (f l[i]) = (l.take (i + 1)).map f ++ List.replicate (l.length - (i + 1)) z := by
  have h1 : ((l.take i).map f).length = i := by simp; omega
  rw [List.set_append_right _ _ (by omega), h1, Nat.sub_self]
  have h2 : l.length - i = (l.length - (i + 1)) + 1 := by omega
  rw [h2, List.replicate_succ, List.set_cons_zero, List.take_add_one, List.getElem?_eq_getElem hi]
  simp only [Option.toList_some, List.map_append, List.map_cons, List.map_nil, List.append_assoc, List.cons_append, List.nil_append]
def eqE (a b : Ent) : Bool := decide (a.path = b.path) && (a.dir == b.dir) && decide (a.data = b.data)
theorem eqE_self (a : Ent) : eqE a a = true := by simp [eqE]
theorem bytesOf_app (a b : Bs) : bytesOf (a ++ b) = bytesOf a ++ bytesOf b := by simp [bytesOf]
end Go.Par
