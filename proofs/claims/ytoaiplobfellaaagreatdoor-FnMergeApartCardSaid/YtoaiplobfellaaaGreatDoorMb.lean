/- Contracts: the laws' own helpers for lists of what is done. -/
import Derived.Test.YtoaiplobfellaaaGreatDoorMa
import Derived.Test.YtoaiplobfellaaaGreatDoorLr
import Derived.Test.YtoaiplobfellaaaGreatDoorPz
set_option linter.unusedSimpArgs false
set_option linter.unusedVariables false
set_option maxHeartbeats 1000000
set_option maxRecDepth 10000
namespace Go.Proofs.YtoaiplobfellaaaGreatDoor
open Go Go.RowKit Go.Ab Go.Par
variable {m : Int}
def szAllO : List Opn → Int → Int
  | [], n => n
  | e :: r, n => if less3 n e.path.length e.to.length e.data.length < 0 then -1 else szAllO r (less3 n e.path.length e.to.length e.data.length)
def szOps (es : List Opn) (n : Int) : Int := if n - es.length < 0 then -1 else szAllO es (n - es.length)
theorem less3_le (n : Int) (p t d : Nat) (h : 0 ≤ n) : less3 n p t d ≤ n := by
  rcases less3_or n p t d with h' | h' <;> omega
theorem szAllO_or : ∀ (es : List Opn) (n : Int), szAllO es n < 0 ∨ ∀ e ∈ es, (e.path.length : Int) + e.to.length + e.data.length ≤ n
  | [], n => .inr (by simp)
  | e :: r, n => by
    unfold szAllO
    split
    · left; omega
    · rename_i h
      rcases less3_or n e.path.length e.to.length e.data.length with h1 | ⟨h1, h2⟩
      · exact absurd h1 h
      · rcases szAllO_or r (less3 n e.path.length e.to.length e.data.length) with h3 | h3
        · exact .inl h3
        · refine .inr fun x hx => ?_
          rcases List.mem_cons.1 hx with rfl | hx
          · omega
          · have := h3 x hx
            omega
theorem szAllO_le : ∀ (es : List Opn) (n : Int), 0 ≤ n → szAllO es n ≤ n
  | [], n, _ => Int.le_refl n
  | e :: r, n, h => by
    unfold szAllO
    split
    · omega
    · have h1 := less3_le n e.path.length e.to.length e.data.length h
      have h2 := szAllO_le r (less3 n e.path.length e.to.length e.data.length) (by omega)
      omega
abbrev bigO (es : List Opn) : Prop := es.length ≤ 9223372036854775807 ∧ ∀ e ∈ es, e.path.length ≤ 9223372036854775807 ∧ e.to.length ≤ 9223372036854775807 ∧ e.data.length ≤ 9223372036854775807
theorem szE2_con (es : List Ent) (n : Int) (hn : 0 ≤ n ∧ n ≤ 1048576) (h : big es) : ∃ r : Int, Con (E m) 21 0 [.sl (es.map Ent.c), .k .i64 n] [] (.k .i64 r) [] ∧ (r < 0 ∨ (r ≤ n ∧ (es.length : Int) ≤ n ∧ bndE 1048576 es)) := by
  refine ⟨_, szEntS_con (m := m) es n hn h.1 h.2, ?_⟩
  rcases szEnts_or es n with h1 | ⟨h1, h2⟩
  · exact .inl h1
  · exact .inr ⟨szEnts_le es n hn.1, h1, fun e he => by have := h2 e he; omega⟩
theorem bB2 {es : List Ent} (h : bndE 1048576 es) : bndE 1073741823 es := fun e he => by have := h e he; omega
theorem bE2 {es : List Ent} (h : bndE 1048576 es) : ∀ e ∈ es, e.path.length ≤ 1073741824 ∧ e.data.length ≤ 1073741824 := fun e he => by have := h e he; omega
theorem szOpS_con (es : List Opn) (n : Int) (hn : 0 ≤ n ∧ n ≤ 1048576) (h : bigO es) :
    Con (E m) 56 0 [.sl (es.map Opn.c), .k .i64 n] [] (.k .i64 (szOps es n)) [] := by
  have hl := h.1
  have hb := h.2
  have e1 : (es.map Opn.c).length = es.length := List.length_map ..
  unfold szOps
  by_cases h0 : n - (es.length : Int) < 0
  · rw [if_pos h0]
    refine con_of_cd tyOk mix Tryz.func56 rfl rfl rfl (Nat.le_of_ble_eq_true rfl) ?_
    repeat' first | refine Ra ⟨?_⟩ | ((first | (refine bd (fun h => ?_) (fun h => ?_) <;> (try simp only [List.length_map] at h)) | refine bsplit.mk (fun h => ?_) (fun h => ?_)) <;> conv => whnf) | refine Rb ⟨?_⟩ | fail
    exact Rf
  · rw [if_neg h0]
    refine con_of_cd tyOk mix Tryz.func56 rfl rfl rfl (Nat.le_of_ble_eq_true rfl) ?_
    repeat' first | refine Ra ⟨?_⟩ | ((first | (refine bd (fun h => ?_) (fun h => ?_) <;> (try simp only [List.length_map] at h)) | refine bsplit.mk (fun h => ?_) (fun h => ?_)) <;> conv => whnf) | refine Rb ⟨?_⟩ | fail
    refine Cd.loop2 (fun mq tm S nx => ∃ (i : Nat) (l : Int), mq = (es.length - i) ∧ tm = [(0, .sl (es.map Opn.c)), (1, .k .i64 l), (5, .k .i64 i)] ∧ S = [] ∧ nx = 0 ∧ (i ≤ es.length) ∧ (0 ≤ l ∧ l ≤ 1048576) ∧ (szAllO es (n - es.length) = szAllO (es.drop i) l)) ?_ ?_
    · refine la [0, 1, 5] ?_
      conv => whnf
      refine ⟨rfl, rfl, _, 0, n - ((es.map Opn.c).length : Int), rfl, rfl, rfl, rfl, by omega, by omega, (by rw [e1]; rfl)⟩
    · rintro mq tm S nx ⟨i, l, hn, rfl, rfl, rfl, hi, h1, ha⟩
      rcases drop_or es i hi with ⟨rfl, hd⟩ | ⟨x, r, hx', hd, hr, hlt⟩
      · rw [hd] at ha
        rw [ha]
        repeat' first | refine Ra ⟨?_⟩ | ((first | (refine bd (fun h => ?_) (fun h => ?_) <;> (try simp only [List.length_map] at h)) | refine bsplit.mk (fun h => ?_) (fun h => ?_)) <;> conv => whnf) | refine Rb ⟨?_⟩ | fail
        exact Rf
      · have hbe := hb x (List.mem_of_getElem? hx')
        rw [hd, szAllO] at ha
        have hle := less3_le l x.path.length x.to.length x.data.length h1.1
        have c1 := szOp_con (m := m) x l h1 hbe.1 hbe.2.1 hbe.2.2
        by_cases hz : less3 l x.path.length x.to.length x.data.length < 0
        · rw [if_pos hz] at ha
          rw [ha]
          repeat' first | refine Ra ⟨?_⟩ | ((first | refine Rc [] 0 rfl rfl (c1) ?_ | (refine bd (fun h => ?_) (fun h => ?_) <;> (try simp only [List.length_map] at h)) | refine bsplit.mk (fun h => ?_) (fun h => ?_)) <;> conv => whnf) | refine Rb ⟨?_⟩ | fail
          exact Rf
        · rw [if_neg hz, ← hr] at ha
          repeat' first | refine Ra ⟨?_⟩ | ((first | refine Rc [] 0 rfl rfl (c1) ?_ | (refine bd (fun h => ?_) (fun h => ?_) <;> (try simp only [List.length_map] at h)) | refine bsplit.mk (fun h => ?_) (fun h => ?_)) <;> conv => whnf) | refine Rb ⟨?_⟩ | fail
          refine .here ⟨mq - 1, by omega, ?_⟩
          refine la [0, 1, 5] ?_
          conv => whnf
          refine ⟨rfl, rfl, i + 1, _, (by omega), rfl, rfl, rfl, by omega, by omega, ha⟩
/-- what is left of a bound behind a list: a number of which only this is known -/
theorem szO_con (es : List Opn) (n : Int) (hn : 0 ≤ n ∧ n ≤ 1048576) (h : bigO es) : ∃ r : Int, Con (E m) 56 0 [.sl (es.map Opn.c), .k .i64 n] [] (.k .i64 r) [] ∧ (r < 0 ∨ (r ≤ n ∧ (es.length : Int) ≤ n ∧ ∀ e ∈ es, bndO 1073741823 e)) := by
  refine ⟨_, szOpS_con (m := m) es n hn h, ?_⟩
  unfold szOps
  by_cases h0 : n - (es.length : Int) < 0
  · rw [if_pos h0]; left; omega
  · rw [if_neg h0]
    rcases szAllO_or es (n - es.length) with h1 | h1
    · exact .inl h1
    · refine .inr ⟨?_, by omega, fun e he => ?_⟩
      · have := szAllO_le es (n - es.length) (by omega)
        omega
      · have := h1 e he
        exact ⟨by omega, by omega, by omega⟩
theorem toOpS_con (es : List Opn) (hl : es.length ≤ 1048576) : Con (E m) 57 0 [.sl (es.map Opn.c)] [] (.own 0) [(0, .own 27 (es.map Opn.c))] := by
  have e1 : (es.map Opn.c).length = es.length := List.length_map ..
  refine con_of_cd tyOk mix Tryz.func57 rfl rfl rfl (Nat.le_of_ble_eq_true rfl) ?_
  repeat' first | refine Ra ⟨?_⟩ | ((first | (refine ⟨es.length, by simp only [List.length_map], by simp only [List.length_map], (by unfold room; omega), Nat.le_of_ble_eq_true rfl, ?_⟩) | (refine bd (fun h => ?_) (fun h => ?_) <;> (try simp only [List.length_map] at h)) | refine bsplit.mk (fun h => ?_) (fun h => ?_)) <;> conv => whnf) | refine Rb ⟨?_⟩ | fail
  refine Cd.loop2 (fun mq tm S nx => ∃ (i : Nat) (xs : List (List D)), mq = (es.length - i) ∧ tm = [(0, .sl (es.map Opn.c)), (3, .own 0), (4, .k .i64 i)] ∧ S = [(0, .own 27 xs)] ∧ nx = 1 ∧ (i ≤ es.length) ∧ (xs = (es.take i).map Opn.c ++ List.replicate (es.length - i) [.k .i64 0, .s [], .s [], .s []])) ?_ ?_
  · refine la [0, 3, 4] ?_
    conv => whnf
    refine ⟨rfl, rfl, _, 0, _, rfl, rfl, rfl, rfl, by omega, rfl⟩
  · rintro mq tm S nx ⟨i, xs, hn, rfl, rfl, rfl, hi, hxs⟩
    have hxl : xs.length = es.length := by rw [hxs]; simp; omega
    by_cases hlt : i < es.length
    · have hg : xs[i]? = some [.k .i64 0, .s [], .s [], .s []] := by rw [hxs]; exact fill_get hlt
      have g1 : es[i]? = some es[i] := List.getElem?_eq_getElem hlt
      have g2 := fill_set (f := Opn.c) (z := [D.k .i64 0, .s [], .s [], .s []]) hlt
      rw [← hxs] at g2
      generalize es[i] = x at g1 g2
      have c1 := toOp_con (m := m) x
      repeat' first | refine Ra ⟨?_⟩ | ((first | refine Rc [] 0 rfl rfl (c1) ?_ | refine ⟨_, hg, Nat.le_of_ble_eq_true rfl, ?_⟩ | (refine bd (fun h => ?_) (fun h => ?_) <;> (try simp only [List.length_map] at h)) | refine bsplit.mk (fun h => ?_) (fun h => ?_)) <;> conv => whnf) | refine Rb ⟨?_⟩ | fail
      refine .here ⟨mq - 1, by omega, ?_⟩
      refine la [0, 3, 4] ?_
      conv => whnf
      refine ⟨rfl, rfl, i + 1, _, (by omega), rfl, rfl, rfl, by omega, g2⟩
    · have hx : xs = es.map Opn.c := by
        rw [hxs, List.take_of_length_le (by omega)]
        have : es.length - i = 0 := by omega
        simp [this]
      subst hx
      repeat' first | refine Ra ⟨?_⟩ | ((first | (refine bd (fun h => ?_) (fun h => ?_) <;> (try simp only [List.length_map] at h)) | refine bsplit.mk (fun h => ?_) (fun h => ?_)) <;> conv => whnf) | refine Rb ⟨?_⟩ | fail
      exact Rf
theorem eqOpS_con (t : List Opn) (hl : t.length ≤ 1048576) : Con (E m) 58 0 [.sl (t.map Opn.c), .sl (t.map Opn.c)] [] (.b true) [] := by
  have e1 : (t.map Opn.c).length = t.length := List.length_map ..
  refine con_of_cd tyOk mix Tryz.func58 rfl rfl rfl (Nat.le_of_ble_eq_true rfl) ?_
  repeat' first | refine Ra ⟨?_⟩ | ((first | (refine bd (fun h => ?_) (fun h => ?_) <;> (try simp only [List.length_map] at h)) | refine bsplit.mk (fun h => ?_) (fun h => ?_)) <;> conv => whnf) | refine Rb ⟨?_⟩ | fail
  refine Cd.loop2 (fun mq tm S nx => ∃ (i : Nat), mq = (t.length - i) ∧ tm = [(0, .sl (t.map Opn.c)), (1, .sl (t.map Opn.c)), (5, .k .i64 i)] ∧ S = [] ∧ nx = 0 ∧ (i ≤ t.length)) ?_ ?_
  · refine la [0, 1, 5] ?_
    conv => whnf
    refine ⟨rfl, rfl, _, 0, rfl, rfl, rfl, rfl, by omega⟩
  · rintro mq tm S nx ⟨i, hn, rfl, rfl, rfl, hi⟩
    by_cases hlt : i < t.length
    · have g1 : t[i]? = some t[i] := List.getElem?_eq_getElem hlt
      generalize t[i] = x at g1
      have c1 := eqOp_con (m := m) x x
      rw [eqO_self] at c1
      repeat' first | refine Ra ⟨?_⟩ | ((first | refine Rc [] 0 rfl rfl (c1) ?_ | (refine bd (fun h => ?_) (fun h => ?_) <;> (try simp only [List.length_map] at h)) | refine bsplit.mk (fun h => ?_) (fun h => ?_)) <;> conv => whnf) | refine Rb ⟨?_⟩ | fail
      refine .here ⟨mq - 1, by omega, ?_⟩
      refine la [0, 1, 5] ?_
      conv => whnf
      refine ⟨rfl, rfl, i + 1, (by omega), rfl, rfl, rfl, by omega⟩
    · repeat' first | refine Ra ⟨?_⟩ | ((first | (refine bd (fun h => ?_) (fun h => ?_) <;> (try simp only [List.length_map] at h)) | refine bsplit.mk (fun h => ?_) (fun h => ?_)) <;> conv => whnf) | refine Rb ⟨?_⟩ | fail
      exact Rf
theorem eqIntS_con (t : List Int) (hl : t.length ≤ 1048576) : Con (E m) 62 0 [.sl (ints t), .sl (ints t)] [] (.b true) [] := by
  have e1 : (ints t).length = t.length := List.length_map ..
  refine con_of_cd tyOk mix Tryz.func62 rfl rfl rfl (Nat.le_of_ble_eq_true rfl) ?_
  repeat' first | refine Ra ⟨?_⟩ | ((first | (refine bd (fun h => ?_) (fun h => ?_) <;> (try simp only [List.length_map] at h)) | refine bsplit.mk (fun h => ?_) (fun h => ?_)) <;> conv => whnf) | refine Rb ⟨?_⟩ | fail
  refine Cd.loop2 (fun mq tm S nx => ∃ (i : Nat), mq = (t.length - i) ∧ tm = [(0, .sl (ints t)), (1, .sl (ints t)), (5, .k .i64 i)] ∧ S = [] ∧ nx = 0 ∧ (i ≤ t.length)) ?_ ?_
  · refine la [0, 1, 5] ?_
    conv => whnf
    refine ⟨rfl, rfl, _, 0, rfl, rfl, rfl, rfl, by omega⟩
  · rintro mq tm S nx ⟨i, hn, rfl, rfl, rfl, hi⟩
    by_cases hlt : i < t.length
    · have g1 : t[i]? = some t[i] := List.getElem?_eq_getElem hlt
      generalize t[i] = x at g1
      repeat' first | refine Ra ⟨?_⟩ | ((first | (refine bd (fun h => ?_) (fun h => ?_) <;> (try simp only [List.length_map] at h)) | refine bsplit.mk (fun h => ?_) (fun h => ?_)) <;> conv => whnf) | refine Rb ⟨?_⟩ | fail
      refine .here ⟨mq - 1, by omega, ?_⟩
      refine la [0, 1, 5] ?_
      conv => whnf
      refine ⟨rfl, rfl, i + 1, (by omega), rfl, rfl, rfl, by omega⟩
    · repeat' first | refine Ra ⟨?_⟩ | ((first | (refine bd (fun h => ?_) (fun h => ?_) <;> (try simp only [List.length_map] at h)) | refine bsplit.mk (fun h => ?_) (fun h => ?_)) <;> conv => whnf) | refine Rb ⟨?_⟩ | fail
      exact Rf
theorem lOp_cells' {cs : List D} (h : Shp Tryz.prog 24 cs) : ∃ o : Opn, cs = o.c ∧ o.path.length ≤ 9223372036854775807 ∧ o.to.length ≤ 9223372036854775807 ∧ o.data.length ≤ 9223372036854775807 := by
  have h1 := h.struct_inv Tryz.underlying24
  have h2 : ShpF Tryz.prog [3, 9, 9, 9] cs := h1
  obtain ⟨a, _, rfl, ha, b, _, rfl, hb, c, _, rfl, hc, d, _, rfl, hd, rfl⟩ := h2
  obtain ⟨x, rfl, _⟩ := ha.int_inv Tryz.underlying3
  obtain ⟨p, rfl, hp⟩ := hb.str_inv Tryz.underlying9
  obtain ⟨q, rfl, hq⟩ := hc.str_inv Tryz.underlying9
  obtain ⟨r, rfl, hr⟩ := hd.str_inv Tryz.underlying9
  exact ⟨⟨x, p, q, r⟩, rfl, hp, hq, hr⟩
theorem lOps_cells : ∀ (xs : List (List D)), (∀ cs ∈ xs, Shp Tryz.prog 24 cs) → ∃ es : List Opn, xs = es.map Opn.c ∧ ∀ e ∈ es, e.path.length ≤ 9223372036854775807 ∧ e.to.length ≤ 9223372036854775807 ∧ e.data.length ≤ 9223372036854775807
  | [], _ => ⟨[], rfl, by simp⟩
  | cs :: xs, h => by
    obtain ⟨e, rfl, h1⟩ := lOp_cells' (h cs (by simp))
    obtain ⟨es, rfl, h3⟩ := lOps_cells xs fun c hc => h c (by simp [hc])
    refine ⟨e :: es, rfl, fun x hx => ?_⟩
    rcases List.mem_cons.1 hx with rfl | hx
    · exact h1
    · exact h3 x hx
theorem lOps_shp {d : D} (h : ShpV Tryz.prog 61 d) : ∃ es : List Opn, d = .sl (es.map Opn.c) ∧ bigO es := by
  have h1 := h.one (fun fs => by rw [Tryz.underlying61]; simp)
  obtain ⟨xs, hx, hl, hc⟩ := h1.slice_inv Tryz.underlying61
  obtain ⟨es, rfl, he⟩ := lOps_cells xs hc
  cases hx
  rw [List.length_map] at hl
  exact ⟨es, rfl, hl, he⟩
theorem iLevels_con (s : Bs) (hs : s.length ≤ 1073741824) : Con (E m) 176 0 [.s s] [] (.k .i64 (if pathOk s then (names s).length else 0 : Nat)) [] := by
  have c1 := iNames_con (m := m) s hs
  have e1 : (((if pathOk s then names s else []).map fun l => [D.s l]).length : Int) = ((if pathOk s then (names s).length else 0 : Nat) : Int) := by
    cases pathOk s <;> simp
  have hl : (if pathOk s then (names s).length else 0) ≤ s.length + 1 := by
    have := names_len s
    split <;> omega
  refine con_of_cd tyOk mix Tryz.func176 rfl rfl rfl (Nat.le_of_ble_eq_true rfl) ?_
  repeat' first | refine Ra ⟨?_⟩ | ((first | refine Rc [] 1 rfl rfl (c1) ?_ | (refine bd (fun h => ?_) (fun h => ?_) <;> (try simp only [List.length_map] at h)) | refine bsplit.mk (fun h => ?_) (fun h => ?_)) <;> conv => whnf) | refine Rb ⟨?_⟩ | fail
  first | refine CallEnd.here (fa ?_) | refine fa ?_
  conv => whnf
  first | exact ⟨rfl, rfl, rfl, rfl⟩ | refine ⟨rfl, rfl, congrArg some (congrArg D.s ?_), rfl⟩ | refine ⟨rfl, rfl, congrArg some (congrArg D.b ?_), rfl⟩ | refine ⟨rfl, rfl, congrArg some (congrArg (D.k _) ?_), rfl⟩ | refine ⟨rfl, rfl, congrArg some (congrArg D.agg ?_), rfl⟩ | refine ⟨rfl, rfl, rfl, ?_⟩
  exact e1
theorem wpFirst_con (s : Bs) (hs : s.length ≤ 1073741824) : Con (E m) 107 0 [.s s] [] (.s (firstP s)) [] := by
  refine con_of_cd tyOk mix Tryz.func107 rfl rfl rfl (Nat.le_of_ble_eq_true rfl) ?_
  repeat' first | refine Ra ⟨?_⟩ | ((first | (refine bd (fun h => ?_) (fun h => ?_) <;> (try simp only [List.length_map] at h)) | refine bsplit.mk (fun h => ?_) (fun h => ?_)) <;> conv => whnf) | refine Rb ⟨?_⟩ | fail
  refine Cd.loop2 (fun mq tm S nx => ∃ (x : Bs), mq = (x.length) ∧ tm = [(0, .s x)] ∧ S = [] ∧ nx = 0 ∧ (firstP s = firstP x) ∧ (x.length ≤ 1073741824)) ?_ ?_
  · refine la [0] ?_
    conv => whnf
    refine ⟨rfl, rfl, _, s, rfl, rfl, rfl, rfl, rfl, hs⟩
  · rintro mq tm S nx ⟨x, hn, rfl, rfl, rfl, hx, hl⟩
    have c1 := iLevels_con (m := m) x hl
    have c2 := iUp_con (m := m) x hl
    have c3 := iPathOk_con (m := m) x hl
    have hnl := names_len x
    cases hok : pathOk x with
    | false =>
      rw [hok] at c1 c3
      rw [hx, firstP_bad hok]
      repeat' first | refine Ra ⟨?_⟩ | ((first | refine Rc [] 0 rfl rfl (c1) ?_ | refine Rc [] 0 rfl rfl (c3) ?_ | (refine bd (fun h => ?_) (fun h => ?_) <;> (try simp only [List.length_map] at h)) | refine bsplit.mk (fun h => ?_) (fun h => ?_)) <;> conv => whnf) | refine Rb ⟨?_⟩ | fail
      exact Rf
    | true =>
      rw [hok, if_pos rfl] at c1
      rw [hok] at c3
      have hu := names_up hok
      by_cases hr : pathUp x = [47]
      · have hn : ¬ 1 < (names x).length := fun h => (hu.1 h) hr
        have hfx : firstP x = x := by rw [firstP_up hok, if_pos hr]
        rw [hx, hfx]
        generalize (names x).length = k at c1 hn hnl
        repeat' first | refine Ra ⟨?_⟩ | ((first | refine Rc [] 0 rfl rfl (c1) ?_ | refine Rc [] 0 rfl rfl (c3) ?_ | (refine bd (fun h => ?_) (fun h => ?_) <;> (try simp only [List.length_map] at h)) | refine bsplit.mk (fun h => ?_) (fun h => ?_)) <;> conv => whnf) | refine Rb ⟨?_⟩ | fail
        exact Rf
      · have hn := hu.2 hr
        have hsh := pathUp_short hok hr
        have hfx : firstP x = firstP (pathUp x) := by rw [firstP_up hok, if_neg hr]
        generalize (names x).length = k at c1 hn hnl
        repeat' first | refine Ra ⟨?_⟩ | ((first | refine Rc [] 0 rfl rfl (c1) ?_ | refine Rc [] 0 rfl rfl (c2) ?_ | (refine bd (fun h => ?_) (fun h => ?_) <;> (try simp only [List.length_map] at h)) | refine bsplit.mk (fun h => ?_) (fun h => ?_)) <;> conv => whnf) | refine Rb ⟨?_⟩ | fail
        refine .here ⟨(pathUp x).length, by omega, ?_⟩
        refine la [0] ?_
        conv => whnf
        exact ⟨rfl, rfl, pathUp x, rfl, rfl, rfl, rfl, hx.trans hfx, by omega⟩
theorem wpTop_con (a b : Opn) (ha : bndO 1073741823 a) (hb : bndO 1073741823 b) : Con (E m) 43 0 [.agg a.c, .agg b.c] [] (.b (wpTopV a b)) [] := by
  have c1 := wpFirst_con (m := m) a.path (by have := ha.1; omega)
  have c2 := wpFirst_con (m := m) a.to (by have := ha.2.1; omega)
  have c3 := wpFirst_con (m := m) b.path (by have := hb.1; omega)
  have c4 := wpFirst_con (m := m) b.to (by have := hb.2.1; omega)
  unfold wpTopV
  generalize firstP a.path = p0 at c1
  generalize firstP a.to = p1 at c2
  generalize firstP b.path = q0 at c3
  generalize firstP b.to = q1 at c4
  refine con_of_cd tyOk mix Tryz.func43 rfl rfl rfl (Nat.le_of_ble_eq_true rfl) ?_
  repeat' first | refine Ra ⟨?_⟩ | ((first | refine Rc [] 0 rfl rfl (c1) ?_ | refine Rc [] 0 rfl rfl (c2) ?_ | refine Rc [] 0 rfl rfl (c3) ?_ | refine Rc [] 0 rfl rfl (c4) ?_ | (refine bd (fun h => ?_) (fun h => ?_) <;> (try simp only [List.length_map] at h)) | refine bsplit.mk (fun h => ?_) (fun h => ?_)) <;> conv => whnf) | refine Rb ⟨?_⟩ | fail
  refine Cd.loop2 (fun mq tm S nx => ∃ (i : Nat), mq = (2 - i) ∧ tm = [(5, .sl [[.s p0], [.s p1]]), (6, .sl [[.s q0], [.s q1]]), (7, .k .i64 i)] ∧ S = [] ∧ nx = 0 ∧ (i ≤ 2) ∧ (0 < i → ¬ (p0 ≠ [] ∧ (p0 = q0 ∨ p0 = q1))) ∧ (1 < i → ¬ (p1 ≠ [] ∧ (p1 = q0 ∨ p1 = q1)))) ?_ ?_
  · refine li [5, 6] [5, 6, 7] ?_
    conv => whnf
    refine ⟨rfl, rfl, _, 0, rfl, rfl, rfl, rfl, by omega, by omega, by omega⟩
  · rintro mq tm S nx ⟨i, hn, rfl, rfl, rfl, hi, h0, h1⟩
    by_cases hlt : i < 2
    · obtain ⟨x, hx⟩ : ∃ x : Bs, (i = 0 ∧ x = p0) ∨ (i = 1 ∧ x = p1) := by
        have : i = 0 ∨ i = 1 := by omega
        rcases this with h | h
        · exact ⟨p0, .inl ⟨h, rfl⟩⟩
        · exact ⟨p1, .inr ⟨h, rfl⟩⟩
      have hg : ([[D.s p0], [D.s p1]])[i]? = some [.s x] := by
        rcases hx with ⟨rfl, rfl⟩ | ⟨rfl, rfl⟩ <;> rfl
      obtain ⟨mo, hmo⟩ : ∃ mo, mo = mq := ⟨_, rfl⟩
      subst hmo
      have hno := hn
      repeat' first | refine Ra ⟨?_⟩ | ((first | (refine bd (fun h => ?_) (fun h => ?_) <;> (try simp only [List.length_map] at h)) | refine bsplit.mk (fun h => ?_) (fun h => ?_)) <;> conv => whnf) | refine Rb ⟨?_⟩ | fail
      refine Cd.loop2 (fun mq tm S nx => ∃ (k : Nat), mq = (2 - k) ∧ tm = [(5, .sl [[.s p0], [.s p1]]), (6, .sl [[.s q0], [.s q1]]), (7, .k .i64 i), (8, .k .i64 k)] ∧ S = [] ∧ nx = 0 ∧ (k ≤ 2) ∧ (0 < k → ¬ (x ≠ [] ∧ x = q0)) ∧ (1 < k → ¬ (x ≠ [] ∧ x = q1))) ?_ ?_
      · refine la [5, 6, 7, 8] ?_
        conv => whnf
        refine ⟨rfl, rfl, _, 0, rfl, rfl, rfl, rfl, by omega, by omega, by omega⟩
      · rintro mq tm S nx ⟨k, hn, rfl, rfl, rfl, hk, g0, g1⟩
        by_cases hkl : k < 2
        · obtain ⟨y, hy⟩ : ∃ y : Bs, (k = 0 ∧ y = q0) ∨ (k = 1 ∧ y = q1) := by
            have : k = 0 ∨ k = 1 := by omega
            rcases this with h | h
            · exact ⟨q0, .inl ⟨h, rfl⟩⟩
            · exact ⟨q1, .inr ⟨h, rfl⟩⟩
          have hgy : ([[D.s q0], [D.s q1]])[k]? = some [.s y] := by
            rcases hy with ⟨rfl, rfl⟩ | ⟨rfl, rfl⟩ <;> rfl
          by_cases hxe : x = []
          · repeat' first | refine Ra ⟨?_⟩ | ((first | refine ⟨(rfl : ([_] : List D).length = _), ?_⟩ | (refine bd (fun h => ?_) (fun h => ?_) <;> (try simp only [List.length_map] at h)) | refine bsplit.mk (fun h => ?_) (fun h => ?_)) <;> conv => whnf) | refine Rb ⟨?_⟩ | fail
            refine .here ⟨mq - 1, by omega, ?_⟩
            refine la [5, 6, 7, 8] ?_
            conv => whnf
            refine ⟨rfl, rfl, k + 1, (by omega), rfl, rfl, rfl, by omega, (fun _ h => h.1 hxe), (fun _ h => h.1 hxe)⟩
          · by_cases hxy : x = y
            · have hz : (!((decide (p0 ≠ []) && (decide (p0 = q0) || decide (p0 = q1))) || (decide (p1 ≠ []) && (decide (p1 = q0) || decide (p1 = q1)))) && decide (p0 ≠ []) && decide (q0 ≠ [])) = false := by
                rcases hx with ⟨rfl, rfl⟩ | ⟨rfl, rfl⟩ <;> rcases hy with ⟨rfl, rfl⟩ | ⟨rfl, rfl⟩ <;> simp_all
              rw [hz]
              repeat' first | refine Ra ⟨?_⟩ | ((first | refine ⟨(rfl : ([_] : List D).length = _), ?_⟩ | (refine bd (fun h => ?_) (fun h => ?_) <;> (try simp only [List.length_map] at h)) | refine bsplit.mk (fun h => ?_) (fun h => ?_)) <;> conv => whnf) | refine Rb ⟨?_⟩ | fail
              exact Rf
            · have w1 : 0 < k + 1 → ¬ (x ≠ [] ∧ x = q0) := by
                intro _ h
                rcases hy with ⟨rfl, rfl⟩ | ⟨rfl, rfl⟩
                · exact hxy h.2
                · exact g0 (by omega) h
              have w2 : 1 < k + 1 → ¬ (x ≠ [] ∧ x = q1) := by
                intro h1 h
                rcases hy with ⟨rfl, rfl⟩ | ⟨rfl, rfl⟩
                · omega
                · exact hxy h.2
              repeat' first | refine Ra ⟨?_⟩ | ((first | refine ⟨(rfl : ([_] : List D).length = _), ?_⟩ | (refine bd (fun h => ?_) (fun h => ?_) <;> (try simp only [List.length_map] at h)) | refine bsplit.mk (fun h => ?_) (fun h => ?_)) <;> conv => whnf) | refine Rb ⟨?_⟩ | fail
              refine .here ⟨mq - 1, by omega, ?_⟩
              refine la [5, 6, 7, 8] ?_
              conv => whnf
              refine ⟨rfl, rfl, k + 1, (by omega), rfl, rfl, rfl, by omega, w1, w2⟩
        · have w1 : 0 < i + 1 → ¬ (p0 ≠ [] ∧ (p0 = q0 ∨ p0 = q1)) := by
            intro _ h
            rcases hx with ⟨rfl, rfl⟩ | ⟨rfl, rfl⟩
            · rcases h.2 with h2 | h2
              · exact g0 (by omega) ⟨h.1, h2⟩
              · exact g1 (by omega) ⟨h.1, h2⟩
            · exact h0 (by omega) h
          have w2 : 1 < i + 1 → ¬ (p1 ≠ [] ∧ (p1 = q0 ∨ p1 = q1)) := by
            intro h3 h
            rcases hx with ⟨rfl, rfl⟩ | ⟨rfl, rfl⟩
            · omega
            · rcases h.2 with h2 | h2
              · exact g0 (by omega) ⟨h.1, h2⟩
              · exact g1 (by omega) ⟨h.1, h2⟩
          repeat' first | refine Ra ⟨?_⟩ | ((first | (refine bd (fun h => ?_) (fun h => ?_) <;> (try simp only [List.length_map] at h)) | refine bsplit.mk (fun h => ?_) (fun h => ?_)) <;> conv => whnf) | refine Rb ⟨?_⟩ | fail
          refine .here ⟨mo - 1, by omega, ?_⟩
          refine la [5, 6, 7] ?_
          conv => whnf
          refine ⟨rfl, rfl, i + 1, (by omega), rfl, rfl, rfl, by omega, w1, w2⟩
    · have k0 := h0 (by omega)
      have k1 := h1 (by omega)
      have hz : (!((decide (p0 ≠ []) && (decide (p0 = q0) || decide (p0 = q1))) || (decide (p1 ≠ []) && (decide (p1 = q0) || decide (p1 = q1)))) && decide (p0 ≠ []) && decide (q0 ≠ [])) = (decide (p0 ≠ []) && decide (q0 ≠ [])) := by
        have e1 : (decide (p0 ≠ []) && (decide (p0 = q0) || decide (p0 = q1))) = false := by
          rw [← Bool.not_eq_true]; simpa using k0
        have e2 : (decide (p1 ≠ []) && (decide (p1 = q0) || decide (p1 = q1))) = false := by
          rw [← Bool.not_eq_true]; simpa using k1
        rw [e1, e2]
        simp
      rw [hz]
      by_cases hp0 : p0 = []
      · have hd0 : (decide (p0 ≠ []) && decide (q0 ≠ [])) = false := by simp [hp0]
        rw [hd0]
        repeat' first | refine Ra ⟨?_⟩ | ((first | (refine bd (fun h => ?_) (fun h => ?_) <;> (try simp only [List.length_map] at h)) | refine bsplit.mk (fun h => ?_) (fun h => ?_)) <;> conv => whnf) | refine Rb ⟨?_⟩ | fail
        exact Rf
      · by_cases hq0 : q0 = []
        · have hd0 : (decide (p0 ≠ []) && decide (q0 ≠ [])) = false := by simp [hq0]
          rw [hd0]
          repeat' first | refine Ra ⟨?_⟩ | ((first | (refine bd (fun h => ?_) (fun h => ?_) <;> (try simp only [List.length_map] at h)) | refine bsplit.mk (fun h => ?_) (fun h => ?_)) <;> conv => whnf) | refine Rb ⟨?_⟩ | fail
          exact Rf
        · have hd0 : (decide (p0 ≠ []) && decide (q0 ≠ [])) = true := by simp [hp0, hq0]
          rw [hd0]
          repeat' first | refine Ra ⟨?_⟩ | ((first | (refine bd (fun h => ?_) (fun h => ?_) <;> (try simp only [List.length_map] at h)) | refine bsplit.mk (fun h => ?_) (fun h => ?_)) <;> conv => whnf) | refine Rb ⟨?_⟩ | fail
          exact Rf
end Go.Proofs.YtoaiplobfellaaaGreatDoor
