/- Layers: in plain Lean. -/
import Derived.Test.YtgeieehampfkcaaDoorPe
set_option linter.unusedSimpArgs false
set_option linter.unusedVariables false
namespace Go.Par
open Go.Ab

theorem c47 (b : UInt8) : ((b.toNat : Int) = 47) ↔ b = 47 := by
  constructor
  · intro h
    exact UInt8.toNat_inj.1 (Int.ofNat_inj.1 h)
  · intro h
    rw [h]; rfl
/-- below, of right paths -/
def under (s d : Bs) : Bool := decide (d = [47]) || (decide (d.length < s.length) && decide (s.take d.length = d) && decide (s[d.length]? = some 47))
def pathUnder (s d : Bs) : Bool := pathOk s && (decide (d = [47]) || pathOk d) && under s d
theorem under_less {s d : Bs} (h : under s d = true) (hd : d ≠ [47]) : lt d s = true := by
  simp only [under, hd, decide_false, Bool.false_or, Bool.and_eq_true, decide_eq_true_eq] at h
  have e : s = d ++ s.drop d.length := by
    have h1 := h.1.2
    conv => lhs; rw [← List.take_append_drop d.length s, h1]
  rw [e]
  exact lt_app _ _ (by intro h0; have := congrArg List.length h0; simp at this; omega)
theorem path_root : pathOk [47] = false := by decide
theorem path_empty : pathOk [] = false := by decide

def markAt (l : List Mrk) (p : Bs) : Option Mrk := l.find? fun m => decide (m.path = p)
def isDirM (m : Mrk) : Bool := decide (m.kind = 2) || decide (m.kind = 4)
def isDirMO : Option Mrk → Bool
  | some m => isDirM m
  | none => false
def bare (l : List Mrk) (p : Bs) : Bool := l.any fun m => decide (m.kind = 4) && under p m.path
def bareI (l : List Mrk) (p : Bs) : Bool := l.any fun m => decide (m.kind = 4) && pathUnder p m.path
def markOk (m : Mrk) : Bool := decide (1 ≤ m.kind) && decide (m.kind ≤ 4) && pathOk m.path && (if m.kind = 1 then dataOk m.data else decide (m.data = []))
def prevLtM (l : List Mrk) (e : Mrk) : Nat → Bool
  | 0 => true
  | j + 1 => match l[j]? with
    | some e' => lt e'.path e.path
    | none => true
def inM (l : List Mrk) (p : Bs) : Bool := decide (pathUp p = [47]) || isDirMO (markAt l (pathUp p))
def okLC (l : List Mrk) (i : Nat) : Bool := match l[i]? with
  | some m => markOk m && prevLtM l m i
  | none => true
def okLS (l : List Mrk) (i : Nat) : Bool := match l[i]? with
  | some m => markOk m && prevLtM l m i && inM (l.take i) m.path && !(decide (2 < m.kind) && bare (l.take i) m.path)
  | none => true
def okLI (l : List Mrk) (i : Nat) : Bool := match l[i]? with
  | some m => markOk m && prevLtM l m i && inM l m.path && !(decide (2 < m.kind) && bareI l m.path)
  | none => true
def layerOk (l : List Mrk) : Bool := decide (l.length ≤ 32) && (List.range l.length).all (okLS l)
def layerOkI (l : List Mrk) : Bool := decide (l.length ≤ 32) && (List.range l.length).all (okLI l)

theorem sorted_m {l : List Mrk} (h : ∀ i, i < l.length → okLC l i = true) : sorted (l.map (·.path)) := by
  refine sorted_of fun i a b h1 h2 => ?_
  simp only [List.getElem?_map, Option.map_eq_some_iff] at h1 h2
  obtain ⟨e1, he1, rfl⟩ := h1
  obtain ⟨e2, he2, rfl⟩ := h2
  have := h (i + 1) (List.getElem?_eq_some_iff.1 he2).1
  simp only [okLC, he2, prevLtM, he1, Bool.and_eq_true] at this
  exact this.2
theorem markOk_path {m : Mrk} (h : markOk m = true) : pathOk m.path = true := by
  simp only [markOk, Bool.and_eq_true] at h
  exact h.1.2
theorem markOk_bad {m : Mrk} (h : dataOk m.data = false) : markOk m = false := by
  unfold markOk
  rw [Bool.and_eq_false_iff]
  right
  split
  · exact h
  · simp only [decide_eq_false_iff_not]
    intro h0
    rw [h0] at h
    cases h
theorem markAt_some {t : List Mrk} {p : Bs} {e : Mrk} (h : markAt t p = some e) : e ∈ t ∧ e.path = p := by
  have h1 := List.mem_of_find?_eq_some h
  have h2 := List.find?_some h
  exact ⟨h1, by simpa using h2⟩
theorem markAt_take {t : List Mrk} (hs : sorted (t.map (·.path))) {i : Nat} {e : Mrk} (hi : t[i]? = some e) {p : Bs} (hl : lt p e.path = true) : markAt (t.take i) p = markAt t p := by
  have h1 : markAt t p = (markAt (t.take i) p).or (markAt (t.drop i) p) := by
    unfold markAt
    rw [← List.find?_append, List.take_append_drop]
  have h2 : markAt (t.drop i) p = none := by
    unfold markAt
    rw [List.find?_eq_none]
    intro e' he' hp
    simp only [decide_eq_true_eq] at hp
    obtain ⟨j, hj⟩ := List.mem_iff_getElem?.1 he'
    rw [List.getElem?_drop] at hj
    have a1 : (t.map (·.path))[i]? = some e.path := by simp [hi]
    have a2 : (t.map (·.path))[i + j]? = some e'.path := by simp [hj]
    rw [hp] at a2
    have := sorted_less hs a2 a1 hl
    omega
  rw [h1, h2]
  simp
theorem bare_take {t : List Mrk} (hs : sorted (t.map (·.path))) (hok : ∀ m ∈ t, pathOk m.path = true) {i : Nat} {e : Mrk} (hi : t[i]? = some e) : bareI t e.path = bare (t.take i) e.path := by
  rw [Bool.eq_iff_iff]
  simp only [bareI, bare, List.any_eq_true, Bool.and_eq_true, decide_eq_true_eq]
  constructor
  · rintro ⟨m, hm, hk, hu⟩
    simp only [pathUnder, Bool.and_eq_true] at hu
    have hne : m.path ≠ [47] := by
      intro h
      have := hok m hm
      rw [h, path_root] at this
      cases this
    obtain ⟨j, hj⟩ := List.mem_iff_getElem?.1 hm
    have a1 : (t.map (·.path))[i]? = some e.path := by simp [hi]
    have a2 : (t.map (·.path))[j]? = some m.path := by simp [hj]
    have hlt := sorted_less hs a2 a1 (under_less hu.2 hne)
    refine ⟨m, ?_, hk, hu.2⟩
    rw [List.mem_iff_getElem?]
    exact ⟨j, by rw [List.getElem?_take, if_pos hlt, hj]⟩
  · rintro ⟨m, hm, hk, hu⟩
    have hm' := List.mem_of_mem_take hm
    exact ⟨m, hm', hk, by simp [pathUnder, hok e (List.mem_of_getElem? hi), hok m hm', hu]⟩
theorem okLS_c {t : List Mrk} {i : Nat} (h : okLS t i = true) : okLC t i = true := by
  unfold okLS at h
  unfold okLC
  match he : t[i]?, h with
  | some e, h =>
    simp only [Bool.and_eq_true] at h ⊢
    exact h.1.1
  | none, _ => rfl
theorem okLI_c {t : List Mrk} {i : Nat} (h : okLI t i = true) : okLC t i = true := by
  unfold okLI at h
  unfold okLC
  match he : t[i]?, h with
  | some e, h =>
    simp only [Bool.and_eq_true] at h ⊢
    exact h.1.1
  | none, _ => rfl
theorem okLC_all {t : List Mrk} (h : ∀ i, i < t.length → okLC t i = true) : ∀ m ∈ t, markOk m = true := by
  intro m hm
  obtain ⟨i, hi⟩ := List.mem_iff_getElem?.1 hm
  have := h i (List.getElem?_eq_some_iff.1 hi).1
  simp only [okLC, hi, Bool.and_eq_true] at this
  exact this.1
theorem okLI_eq {t : List Mrk} (hc : ∀ i, i < t.length → okLC t i = true) (i : Nat) : okLI t i = okLS t i := by
  have hs := sorted_m hc
  have hok := okLC_all hc
  unfold okLI okLS
  match he : t[i]? with
  | none => rfl
  | some e =>
    simp only
    have hp := markOk_path (hok e (List.mem_of_getElem? he))
    rw [bare_take hs (fun m hm => markOk_path (hok m hm)) he]
    congr 2
    unfold inM
    rcases pathUp_less hp with h | ⟨h1, h2⟩
    · simp [h]
    · rw [markAt_take hs he h2]
theorem layerOkI_eq (t : List Mrk) : layerOkI t = layerOk t := by
  unfold layerOkI layerOk
  congr 1
  rw [Bool.eq_iff_iff, all_range, all_range]
  constructor
  · intro h i hi
    rw [← okLI_eq fun i hi => okLI_c (h i hi)]
    exact h i hi
  · intro h i hi
    rw [okLI_eq fun i hi => okLS_c (h i hi)]
    exact h i hi
theorem okLS_at {t : List Mrk} {i : Nat} (hi : i < t.length) : okLS t i = (markOk t[i] && (if 0 < i then lt (t[i - 1]'(by omega)).path t[i].path else true) && inM (t.take i) t[i].path && !(decide (2 < t[i].kind) && bare (t.take i) t[i].path)) := by
  have h : t[i]? = some t[i] := List.getElem?_eq_getElem hi
  unfold okLS
  rw [h]
  simp only
  congr 3
  match i, hi with
  | 0, _ => rfl
  | k + 1, hi =>
    have h' : t[k]? = some t[k] := List.getElem?_eq_getElem (by omega)
    simp [prevLtM, h']
theorem okLI_at {t : List Mrk} {i : Nat} (hi : i < t.length) : okLI t i = (markOk t[i] && (if 0 < i then lt (t[i - 1]'(by omega)).path t[i].path else true) && inM t t[i].path && !(decide (2 < t[i].kind) && bareI t t[i].path)) := by
  have h : t[i]? = some t[i] := List.getElem?_eq_getElem hi
  unfold okLI
  rw [h]
  simp only
  congr 3
  match i, hi with
  | 0, _ => rfl
  | k + 1, hi =>
    have h' : t[k]? = some t[k] := List.getElem?_eq_getElem (by omega)
    simp [prevLtM, h']
theorem okLI_at' {t : List Mrk} {i : Nat} (hi : i < t.length) : okLI t i = (markOk t[i] && (if 0 < i then lt (t[i - 1]'(by omega)).path t[i].path else true) && inM t t[i].path && !((decide (t[i].kind = 3) || decide (t[i].kind = 4)) && bareI t t[i].path)) := by
  rw [okLI_at hi]
  cases hm : markOk t[i] with
  | false => simp
  | true =>
    have : decide (2 < t[i].kind) = (decide (t[i].kind = 3) || decide (t[i].kind = 4)) := by
      simp only [markOk, Bool.and_eq_true, decide_eq_true_eq] at hm
      rw [Bool.eq_iff_iff]
      simp
      omega
    rw [this]
theorem layerOk_false {t : List Mrk} {i : Nat} (hi : i < t.length) (h : okLS t i = false) : layerOk t = false := by
  unfold layerOk
  rw [Bool.and_eq_false_iff]
  right
  rw [List.all_eq_false]
  exact ⟨i, List.mem_range.2 hi, by simp [h]⟩
theorem layerOkI_false {t : List Mrk} {i : Nat} (hi : i < t.length) (h : okLI t i = false) : layerOk t = false := by
  rw [← layerOkI_eq]
  unfold layerOkI
  rw [Bool.and_eq_false_iff]
  right
  rw [List.all_eq_false]
  exact ⟨i, List.mem_range.2 hi, by simp [h]⟩
theorem layerOk_true {t : List Mrk} (hl : t.length ≤ 32) (h : ∀ k, k < t.length → okLS t k = true) : layerOk t = true := by
  unfold layerOk
  rw [Bool.and_eq_true, all_range]
  exact ⟨by simpa using hl, h⟩
theorem layerOkI_true {t : List Mrk} (hl : t.length ≤ 32) (h : ∀ k, k < t.length → okLI t k = true) : layerOk t = true := by
  rw [← layerOkI_eq]
  unfold layerOkI
  rw [Bool.and_eq_true, all_range]
  exact ⟨by simpa using hl, h⟩
theorem layerOk_len {t : List Mrk} (h : layerOk t = true) : t.length ≤ 32 := by
  unfold layerOk at h
  rw [Bool.and_eq_true] at h
  simpa using h.1
theorem layerOk_mark {t : List Mrk} (h : layerOk t = true) : ∀ e ∈ t, markOk e = true := by
  unfold layerOk at h
  rw [Bool.and_eq_true, all_range] at h
  exact okLC_all fun i hi => okLS_c (h.2 i hi)
theorem layerOk_sorted {t : List Mrk} (h : layerOk t = true) : sorted (t.map (·.path)) := by
  unfold layerOk at h
  rw [Bool.and_eq_true, all_range] at h
  exact sorted_m fun i hi => okLS_c (h.2 i hi)
theorem treeOk_sorted {t : List Ent} (h : treeOk t = true) : sorted (t.map (·.path)) := by
  unfold treeOk at h
  rw [Bool.and_eq_true, all_range] at h
  exact sorted_c fun i hi => okS_c (h.2 i hi)
theorem dataOk_len {d : Bs} (h : dataOk d = true) : d.length ≤ 6 := by
  simp only [dataOk, Bool.and_eq_true, decide_eq_true_eq] at h
  exact h.1
theorem markOk_len {e : Mrk} (h : markOk e = true) : e.path.length ≤ 12 ∧ e.data.length ≤ 6 := by
  refine ⟨(pathOk_pos (markOk_path h)).2, ?_⟩
  simp only [markOk, Bool.and_eq_true] at h
  have := h.2
  split at this
  · exact dataOk_len this
  · simp at this
    rw [this]; simp
theorem markText_len (e : Mrk) : (markText e).length ≤ e.path.length + e.data.length + 3 := by
  have := entText_len ⟨e.path, false, e.data⟩
  unfold markText
  split
  · simp; omega
  · split
    · simp; omega
    · split
      · simp; omega
      · simpa using this
def layerText (t : List Mrk) : Bs := if layerOk t then (t.map fun e => markText e ++ [10]).flatten else []
theorem marks_len {t : List Mrk} (h : ∀ e ∈ t, markOk e = true) : ∀ i, (((t.take i).map fun e => markText e ++ [10]).flatten).length ≤ 22 * i
  | 0 => by simp
  | i + 1 => by
    have ih := marks_len h i
    rw [List.take_add_one]
    match hi : t[i]? with
    | none => simp at ih ⊢; omega
    | some e =>
      have h1 := markOk_len (h e (List.mem_of_getElem? hi))
      have h2 := markText_len e
      simp at ih ⊢
      omega
/-- where a path stands in a layer -/
def markIx (t : List Mrk) (p : Bs) : Int := match t.findIdx? fun e => decide (e.path = p) with
  | some i => i
  | none => -1
theorem markIx_at {t : List Mrk} {p : Bs} {i : Nat} {e : Mrk} (h : t[i]? = some e) (hp : e.path = p) (hb : ∀ k e, k < i → t[k]? = some e → e.path ≠ p) : markIx t p = i := by
  have : (t.findIdx? fun e => decide (e.path = p)) = some i := by
    rw [List.findIdx?_eq_some_iff_getElem]
    obtain ⟨hlt, rfl⟩ := List.getElem?_eq_some_iff.1 h
    refine ⟨hlt, by simpa using hp, fun j hj => ?_⟩
    have := hb j t[j] hj (List.getElem?_eq_getElem (by omega))
    simpa using this
  rw [markIx, this]
theorem markIx_none {t : List Mrk} {p : Bs} (hb : ∀ (k : Nat) e, t[k]? = some e → e.path ≠ p) : markIx t p = -1 := by
  have : (t.findIdx? fun e => decide (e.path = p)) = none := by
    rw [List.findIdx?_eq_none_iff]
    intro e he
    obtain ⟨k, hk⟩ := List.mem_iff_getElem?.1 he
    simpa using hb k e hk
  rw [markIx, this]
theorem markIx_or (t : List Mrk) (p : Bs) : (∃ (i : Nat), markIx t p = i ∧ ∃ hi : i < t.length, markAt t p = some t[i]) ∨ (markIx t p = -1 ∧ markAt t p = none) := by
  match h : t.findIdx? fun e => decide (e.path = p) with
  | some i =>
    left
    rw [List.findIdx?_eq_some_iff_getElem] at h
    obtain ⟨hlt, h1, h2⟩ := h
    refine ⟨i, markIx_at (List.getElem?_eq_getElem hlt) (by simpa using h1) (fun k e hk he => ?_), hlt, ?_⟩
    · obtain ⟨hk', rfl⟩ := List.getElem?_eq_some_iff.1 he
      simpa using h2 k hk
    · unfold markAt
      rw [List.find?_eq_some_iff_getElem]
      exact ⟨h1, i, hlt, rfl, fun j hj => by simpa using h2 j hj⟩
  | none =>
    right
    rw [List.findIdx?_eq_none_iff] at h
    refine ⟨markIx_none fun k e he => by simpa using h e (List.mem_of_getElem? he), ?_⟩
    unfold markAt
    rw [List.find?_eq_none]
    intro e he
    simpa using h e he
def kindAt (l : List Mrk) (p : Bs) : Int := match markAt l p with
  | some m => m.kind
  | none => 0
def szAllM : List Mrk → Int → Int
  | [], n => n
  | e :: r, n => if less2 n e.path.length e.data.length < 0 then -1 else szAllM r (less2 n e.path.length e.data.length)
def szMarks (es : List Mrk) (n : Int) : Int := if n - es.length < 0 then -1 else szAllM es (n - es.length)
theorem szAllM_or : ∀ (es : List Mrk) (n : Int), szAllM es n < 0 ∨ ∀ e ∈ es, (e.path.length : Int) + e.data.length ≤ n
  | [], n => .inr (by simp)
  | e :: r, n => by
    unfold szAllM
    split
    · left; omega
    · rename_i h
      rcases less2_or n e.path.length e.data.length with h1 | ⟨h1, h2⟩
      · exact absurd h1 h
      · rcases szAllM_or r (less2 n e.path.length e.data.length) with h3 | h3
        · exact .inl h3
        · refine .inr fun x hx => ?_
          rcases List.mem_cons.1 hx with rfl | hx
          · omega
          · have := h3 x hx
            omega
theorem szMarks_or (es : List Mrk) (n : Int) : szMarks es n < 0 ∨ ((es.length : Int) ≤ n ∧ ∀ e ∈ es, (e.path.length : Int) + e.data.length ≤ n) := by
  unfold szMarks
  split
  · left; omega
  · rcases szAllM_or es (n - es.length) with h | h
    · exact .inl h
    · refine .inr ⟨by omega, fun e he => ?_⟩
      have := h e he
      omega
def eqM (a b : Mrk) : Bool := decide (a.path = b.path) && decide (a.kind = b.kind) && decide (a.data = b.data)
theorem eqM_self (a : Mrk) : eqM a a = true := by simp [eqM]
end Go.Par
