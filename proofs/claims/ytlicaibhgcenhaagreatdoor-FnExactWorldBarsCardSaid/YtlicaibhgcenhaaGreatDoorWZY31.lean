/- Texts of this claim, set close: lemmas and contracts. -/
import Derived.Test.YtlicaibhgcenhaaGreatDoorWZY22
import Derived.Test.YtlicaibhgcenhaaGreatDoorWZY13
set_option linter.unusedSimpArgs false
set_option linter.unusedVariables false
set_option maxHeartbeats 1000000
set_option maxRecDepth 10000
namespace Go.Proofs.YtlicaibhgcenhaaGreatDoor
open Go Go.RowKit Go.Ab Go.Par
variable {m : Int}
theorem dir_up {t : List Ent} {p : Bs} : dirAt t (pathUp p) = true ↔ upCode t p = 0 := by
 rw [upCode_zero, dirAt, Bool.or_eq_true, decide_eq_true_eq]
 refine or_congr Iff.rfl ?_
 cases entAt t (pathUp p) with
 | none => simp [isDirO]
 | some e => simp [isDirO]
theorem sHides_con (l : List Mrk) (p : Bs) (hl : l.length ≤ 1073741824) (hp : p.length ≤ 1073741823) (hb : ∀ x ∈ l, x.path.length ≤ 1073741823) : Con (E m) 254 0 [.sl (l.map Mrk.c), .s p] [] (.b (hides l p)) [] := by
 have e1 : (l.map Mrk.c).length = l.length := List.length_map ..
 refine con_of_cd tyOk mix Tryz.func254 rfl rfl rfl (Nat.le_of_ble_eq_true rfl) ?_
 repeat' first | refine Ra ⟨?_⟩ | refine Rd (fun h => ⟨?_⟩) fun h => ⟨?_⟩ | refine Rb ⟨?_⟩ | fail
 refine Cd.loop2 (fun mq tm S nx => ∃ (i : Nat), mq = (l.length - i) ∧ tm = [(0, .sl (l.map Mrk.c)), (1, .s p), (5, .k .i64 i)] ∧ S = [] ∧ nx = 0 ∧ (i ≤ l.length) ∧ (hides l p = hides (l.drop i) p)) ?_ ?_
 · refine la [0, 1, 5] ?_
   conv => whnf
   refine ⟨rfl, rfl, _, 0, rfl, rfl, rfl, rfl, by omega, rfl⟩
 · rintro mq tm S nx ⟨i, hn, rfl, rfl, rfl, hi, ha⟩
   rcases drop_or l i hi with ⟨rfl, hd⟩ | ⟨x, r, hx, hd, hr, hlt⟩
   · rw [hd] at ha
     rw [ha]
     repeat' first | refine Ra ⟨?_⟩ | refine Rd (fun h => ⟨?_⟩) fun h => ⟨?_⟩ | refine Rb ⟨?_⟩ | fail
     exact Rf
   · rw [hd] at ha
     have c1 := sl1Under_con (m := m) p x.path (by omega) (by have := hb x (List.mem_of_getElem? hx); omega)
     by_cases h2 : x.kind = 2
     · have hs : hides l p = hides (l.drop (i + 1)) p := by rw [ha, hr]; simp [hides, h2]
       by_cases h3 : x.path = p
       all_goals
        repeat' first | refine Ra ⟨?_⟩ | refine Rd (fun h => ⟨?_⟩) fun h => ⟨?_⟩ | refine Rb ⟨?_⟩ | fail
        refine .here ⟨mq - 1, by omega, ?_⟩
        refine la [0, 1, 5] ?_
        conv => whnf
        refine ⟨rfl, rfl, i + 1, (by omega), rfl, rfl, rfl, by omega, hs⟩
     · by_cases h3 : x.path = p
       · have hs : hides l p = true := by rw [ha]; simp [hides, h2, h3, inP]
         rw [hs]
         repeat' first | refine Ra ⟨?_⟩ | refine Rd (fun h => ⟨?_⟩) fun h => ⟨?_⟩ | refine Rb ⟨?_⟩ | fail
         exact Rf
       · have h5 : ¬ p = x.path := fun h => h3 h.symm
         cases h4 : under p x.path with
         | true =>
           rw [h4] at c1
           have hs : hides l p = true := by rw [ha]; simp [hides, h2, h4, inP]
           rw [hs]
           repeat' first | refine Ra ⟨?_⟩ | refine R0 c1 ⟨?_⟩ | refine Rd (fun h => ⟨?_⟩) fun h => ⟨?_⟩ | refine Rb ⟨?_⟩ | fail
           exact Rf
         | false =>
           rw [h4] at c1
           have hs : hides l p = hides (l.drop (i + 1)) p := by rw [ha, hr]; simp [hides, h2, h4, h5, inP]
           repeat' first | refine Ra ⟨?_⟩ | refine R0 c1 ⟨?_⟩ | refine Rd (fun h => ⟨?_⟩) fun h => ⟨?_⟩ | refine Rb ⟨?_⟩ | fail
           refine .here ⟨mq - 1, by omega, ?_⟩
           refine la [0, 1, 5] ?_
           conv => whnf
           refine ⟨rfl, rfl, i + 1, (by omega), rfl, rfl, rfl, by omega, hs⟩
theorem putAll_len : ∀ (es t : List Ent), (putAll t es).length ≤ t.length + es.length
 | [], t => by simp [putAll]
 | e :: es, t => by
   have h := putAll_len es (putE t e)
   have := (putE_len t e).2
   simp only [putAll, List.foldl_cons, List.length_cons] at h ⊢
   omega
theorem sOn_con (l : List Mrk) (t : List Ent) (hl : layerOk l = true) (ht : treeOk t = true) : Con (E m) 193 0 [.sl (l.map Mrk.c), .sl (t.map Ent.c)] [] (.sl ((onL l t).map Ent.c)) [] := by
 have hll := layer_len hl
 have htl := treeOk_len ht
 have hlb := layer_bnd hl
 have hmk : ∀ x ∈ l, markOk x = true := fun x hx => ((layerOk_iff.1 hl).2.2 x hx).1
 have e1 : (l.map Mrk.c).length = l.length := List.length_map ..
 have e2 : (t.map Ent.c).length = t.length := List.length_map ..
 have hon : onL l t = putAll (t.filter fun e => !hides l e.path) (l.filterMap markEnt) := rfl
 have hFl := List.length_filter_le (fun e : Ent => !hides l e.path) t
 refine con_of_cd tyOk mix Tryz.func193 rfl rfl rfl (Nat.le_of_ble_eq_true rfl) ?_
 repeat' first | refine Ra ⟨?_⟩ | refine Rd (fun h => ⟨?_⟩) fun h => ⟨?_⟩ | refine Rb ⟨?_⟩ | fail
 refine Cd.loop2 (fun mq tm S nx => ∃ (i : Nat) (A : List Ent), mq = (t.length - i) ∧ tm = [(0, .sl (l.map Mrk.c)), (1, .sl (t.map Ent.c)), (5, .own 0), (6, .k .i64 i)] ∧ S = [(0, .own 150 (A.map Ent.c))] ∧ nx = 1 ∧ (i ≤ t.length) ∧ (A = (t.take i).filter fun e => !hides l e.path) ∧ (A.length ≤ i)) ?_ ?_
 · refine la [0, 1, 5, 6] ?_
   conv => whnf
   refine ⟨rfl, rfl, _, 0, [], rfl, rfl, rfl, rfl, by omega, (by simp), by simp⟩
 · rintro mq tm S nx ⟨i, A, hn, rfl, rfl, rfl, hi, hA, hAl⟩
   have e3 : (A.map Ent.c).length = A.length := List.length_map ..
   rcases drop_or t i hi with ⟨rfl, hd⟩ | ⟨x, r, hx', hd, hr, hlt⟩
   · rw [List.take_length] at hA
     rw [← hA] at hon hFl
     repeat' first | refine Ra ⟨?_⟩ | refine Rd (fun h => ⟨?_⟩) fun h => ⟨?_⟩ | refine Rb ⟨?_⟩ | fail
     refine Cd.loop2 (fun mq tm S nx => ∃ (j : Nat) (B : List Ent), mq = (l.length - j) ∧ tm = [(0, .sl (l.map Mrk.c)), (5, .sl (B.map Ent.c)), (7, .k .i64 j)] ∧ S = [] ∧ nx = 0 ∧ (j ≤ l.length) ∧ (B = putAll A ((l.take j).filterMap markEnt)) ∧ (B.length ≤ 16 + j)) ?_ ?_
     · refine li [5] [0, 5, 7] ?_
       conv => whnf
       refine ⟨rfl, rfl, _, 0, A, rfl, rfl, rfl, rfl, by omega, (by simp [putAll]), by omega⟩
     · rintro mq tm S nx ⟨j, B, hn, rfl, rfl, rfl, hj, hB, hBl⟩
       rcases drop_or l j hj with ⟨rfl, hd⟩ | ⟨y, s, hy', hd, hr, hlt⟩
       · rw [List.take_length] at hB
         rw [hon, ← hB]
         repeat' first | refine Ra ⟨?_⟩ | refine Rd (fun h => ⟨?_⟩) fun h => ⟨?_⟩ | refine Rb ⟨?_⟩ | fail
         exact Rf
       · have g1 := bind_step (f := markEnt) hy'
         obtain ⟨hk, _, _, hd0⟩ := markOk_parts (hmk y (List.mem_of_getElem? hy'))
         rcases hk with hk | hk | hk | hk
         · have g2 : markEnt y = some ⟨y.path, false, y.data⟩ := by rw [markEnt, if_neg (by omega)]; simp [isDirM, hk]
           rw [g2] at g1
           have c1 := sPut_con (m := m) B ⟨y.path, false, y.data⟩ (by omega)
           have hp := (putE_len B ⟨y.path, false, y.data⟩).2
           repeat' first | refine Ra ⟨?_⟩ | refine Rk [] 1 c1 ⟨?_⟩ | refine Rd (fun h => ⟨?_⟩) fun h => ⟨?_⟩ | refine Rb ⟨?_⟩ | fail
           refine .here ⟨mq - 1, by omega, ?_⟩
           refine li [5] [0, 5, 7] ?_
           conv => whnf
           refine ⟨rfl, rfl, j + 1, putE B ⟨y.path, false, y.data⟩, (by omega), rfl, rfl, rfl, by omega, (by rw [hB, g1]; simp [putAll]), by omega⟩
         · have g2 : markEnt y = some ⟨y.path, true, []⟩ := by rw [markEnt, if_neg (by omega), hd0 (by omega)]; simp [isDirM, hk]
           rw [g2] at g1
           have c1 := sPut_con (m := m) B ⟨y.path, true, []⟩ (by omega)
           have hp := (putE_len B ⟨y.path, true, []⟩).2
           repeat' first | refine Ra ⟨?_⟩ | refine Rk [] 1 c1 ⟨?_⟩ | refine Rd (fun h => ⟨?_⟩) fun h => ⟨?_⟩ | refine Rb ⟨?_⟩ | fail
           refine .here ⟨mq - 1, by omega, ?_⟩
           refine li [5] [0, 5, 7] ?_
           conv => whnf
           refine ⟨rfl, rfl, j + 1, putE B ⟨y.path, true, []⟩, (by omega), rfl, rfl, rfl, by omega, (by rw [hB, g1]; simp [putAll]), by omega⟩
         · have g2 : markEnt y = none := by rw [markEnt, if_pos hk]
           rw [g2, List.append_nil] at g1
           repeat' first | refine Ra ⟨?_⟩ | refine Rd (fun h => ⟨?_⟩) fun h => ⟨?_⟩ | refine Rb ⟨?_⟩ | fail
           refine .here ⟨mq - 1, by omega, ?_⟩
           refine la [0, 5, 7] ?_
           conv => whnf
           refine ⟨rfl, rfl, j + 1, B, (by omega), rfl, rfl, rfl, by omega, (by rw [hB, g1]), by omega⟩
         · have g2 : markEnt y = some ⟨y.path, true, []⟩ := by rw [markEnt, if_neg (by omega), hd0 (by omega)]; simp [isDirM, hk]
           rw [g2] at g1
           have c1 := sPut_con (m := m) B ⟨y.path, true, []⟩ (by omega)
           have hp := (putE_len B ⟨y.path, true, []⟩).2
           repeat' first | refine Ra ⟨?_⟩ | refine Rk [] 1 c1 ⟨?_⟩ | refine Rd (fun h => ⟨?_⟩) fun h => ⟨?_⟩ | refine Rb ⟨?_⟩ | fail
           refine .here ⟨mq - 1, by omega, ?_⟩
           refine li [5] [0, 5, 7] ?_
           conv => whnf
           refine ⟨rfl, rfl, j + 1, putE B ⟨y.path, true, []⟩, (by omega), rfl, rfl, rfl, by omega, (by rw [hB, g1]; simp [putAll]), by omega⟩
   · have g1 := filter_step (f := fun e : Ent => !hides l e.path) hx'
     have hxp := (tree_mem ht (List.mem_of_getElem? hx')).2.1
     have hxl := (pathOk_pos hxp).2
     have c4 := sHides_con (m := m) l x.path (by omega) (by omega) (fun y hy => by have := (hlb y hy).1; omega)
     cases hh : hides l x.path with
     | true =>
       rw [hh] at c4
       simp only [hh, Bool.not_true, cond_false, List.append_nil] at g1
       repeat' first | refine Ra ⟨?_⟩ | refine R0 c4 ⟨?_⟩ | refine Rd (fun h => ⟨?_⟩) fun h => ⟨?_⟩ | refine Rb ⟨?_⟩ | fail
       refine .here ⟨mq - 1, by omega, ?_⟩
       refine la [0, 1, 5, 6] ?_
       conv => whnf
       refine ⟨rfl, rfl, i + 1, A, (by omega), rfl, rfl, rfl, by omega, (by rw [hA, g1]), by omega⟩
     | false =>
       rw [hh] at c4
       simp only [hh, Bool.not_false, cond_true] at g1
       repeat' first | refine Ra ⟨?_⟩ | refine R0 c4 ⟨?_⟩ | refine Rd (fun h => ⟨?_⟩) fun h => ⟨?_⟩ | refine Rb ⟨?_⟩ | fail
       refine .here ⟨mq - 1, by omega, ?_⟩
       refine la [0, 1, 5, 6] ?_
       conv => whnf
       refine ⟨rfl, rfl, i + 1, A ++ [x], (by omega), rfl, ?_, rfl, by omega, (by rw [hA, g1]), (by simp; omega)⟩
       rw [List.map_append]
       rfl
def onD : Option (List Ent) → D
 | some t => .tup [.sl (t.map Ent.c), .b true]
 | none => .tup [.sl [], .b false]
theorem sLayerOn_con (l : List Mrk) (t : List Ent) (hl : l.length ≤ 1073741824) (hb : ∀ e ∈ l, e.path.length ≤ 1073741823 ∧ e.data.length ≤ 1073741823) (ht : ∀ e ∈ t, e.path.length ≤ 1073741824 ∧ e.data.length ≤ 1073741824) :
   Con (E m) 129 0 [.sl (l.map Mrk.c), .sl (t.map Ent.c)] [] (onD (layerOn l t)) [] := by
 have c1 := sLayerOk_con (m := m) l hl hb
 have c2 := sTreeOk_con (m := m) t ht
 cases h1 : layerOk l with
 | false =>
   rw [h1] at c1
   have hx : layerOn l t = none := by simp [layerOn, h1]
   rw [hx]
   refine con_of_cd tyOk mix Tryz.func129 rfl rfl rfl (Nat.le_of_ble_eq_true rfl) ?_
   repeat' first | refine Ra ⟨?_⟩ | refine R0 c1 ⟨?_⟩ | refine Rd (fun h => ⟨?_⟩) fun h => ⟨?_⟩ | refine Rb ⟨?_⟩ | fail
   exact Rz
 | true =>
   rw [h1] at c1
   cases h2 : treeOk t with
   | false =>
     rw [h2] at c2
     have hx : layerOn l t = none := by simp [layerOn, h2]
     rw [hx]
     refine con_of_cd tyOk mix Tryz.func129 rfl rfl rfl (Nat.le_of_ble_eq_true rfl) ?_
     repeat' first | refine Ra ⟨?_⟩ | refine R0 c1 ⟨?_⟩ | refine R0 c2 ⟨?_⟩ | refine Rd (fun h => ⟨?_⟩) fun h => ⟨?_⟩ | refine Rb ⟨?_⟩ | fail
     exact Rz
   | true =>
     rw [h2] at c2
     have c3 := sOn_con (m := m) l t h1 h2
     have hx : layerOn l t = if (onL l t).length ≤ 16 then some (onL l t) else none := by simp [layerOn, h1, h2]
     have hol : (onL l t).length ≤ 48 := by have := onI_len h1 h2; omega
     rw [hx]
     generalize onL l t = R at c3 hol ⊢
     have e1 : (R.map Ent.c).length = R.length := List.length_map ..
     by_cases hn : R.length ≤ 16
     · rw [if_pos hn]
       refine con_of_cd tyOk mix Tryz.func129 rfl rfl rfl (Nat.le_of_ble_eq_true rfl) ?_
       repeat' first | refine Ra ⟨?_⟩ | refine R0 c1 ⟨?_⟩ | refine R0 c2 ⟨?_⟩ | refine R0 c3 ⟨?_⟩ | refine Rd (fun h => ⟨?_⟩) fun h => ⟨?_⟩ | refine Rb ⟨?_⟩ | fail
       exact Rz
     · rw [if_neg hn]
       refine con_of_cd tyOk mix Tryz.func129 rfl rfl rfl (Nat.le_of_ble_eq_true rfl) ?_
       repeat' first | refine Ra ⟨?_⟩ | refine R0 c1 ⟨?_⟩ | refine R0 c2 ⟨?_⟩ | refine R0 c3 ⟨?_⟩ | refine Rd (fun h => ⟨?_⟩) fun h => ⟨?_⟩ | refine Rb ⟨?_⟩ | fail
       exact Rz
theorem sTurned_con (a b : List Ent) (ha : treeOk a = true) (hb : treeOk b = true) : Con (E m) 166 0 [.sl (a.map Ent.c), .sl (b.map Ent.c)] [] (.sl (strs (turnedL a b))) [] := by
 have hal := treeOk_len ha
 have hbl := treeOk_len hb
 have e1 : (a.map Ent.c).length = a.length := List.length_map ..
 have e2 : (b.map Ent.c).length = b.length := List.length_map ..
 have hx : turnedL a b = (pathsE (putAll a b)).filter fun p => decide (entGet a p ≠ entGet b p) := by rw [turnedL, ha, hb]; rfl
 refine con_of_cd tyOk mix Tryz.func166 rfl rfl rfl (Nat.le_of_ble_eq_true rfl) ?_
 repeat' first | refine Ra ⟨?_⟩ | refine Rd (fun h => ⟨?_⟩) fun h => ⟨?_⟩ | refine Rb ⟨?_⟩ | fail
 refine Cd.loop2 (fun mq tm S nx => ∃ (i : Nat) (X : List Ent), mq = (b.length - i) ∧ tm = [(0, .sl (a.map Ent.c)), (1, .sl (b.map Ent.c)), (5, .sl (X.map Ent.c)), (6, .k .i64 i)] ∧ S = [] ∧ nx = 0 ∧ (i ≤ b.length) ∧ (X = putAll a (b.take i)) ∧ (X.length ≤ 16 + i)) ?_ ?_
 · refine li [5] [0, 1, 5, 6] ?_
   conv => whnf
   refine ⟨rfl, rfl, _, 0, a, rfl, rfl, rfl, rfl, by omega, by simp [putAll], by omega⟩
 · rintro mq tm S nx ⟨i, X, hn, rfl, rfl, rfl, hi, hX, hXl⟩
   by_cases hlt : i < b.length
   · have g1 : b[i]? = some b[i] := List.getElem?_eq_getElem hlt
     generalize b[i] = x at g1
     have c1 := sPut_con (m := m) X x (by omega)
     have hl := (putE_len X x).2
     repeat' first | refine Ra ⟨?_⟩ | refine Rk [] 1 c1 ⟨?_⟩ | refine Rd (fun h => ⟨?_⟩) fun h => ⟨?_⟩ | refine Rb ⟨?_⟩ | fail
     refine .here ⟨mq - 1, by omega, ?_⟩
     refine li [5] [0, 1, 5, 6] ?_
     conv => whnf
     refine ⟨rfl, rfl, i + 1, putE X x, (by omega), rfl, rfl, rfl, by omega, (by rw [hX, putAll_step g1]), by omega⟩
   · rw [List.take_of_length_le (by omega)] at hX
     rw [← hX] at hx
     have e3 : (X.map Ent.c).length = X.length := List.length_map ..
     repeat' first | refine Ra ⟨?_⟩ | refine Rd (fun h => ⟨?_⟩) fun h => ⟨?_⟩ | refine Rb ⟨?_⟩ | fail
     refine Cd.loop2 (fun mq tm S nx => ∃ (k : Nat) (A : List Bs), mq = (X.length - k) ∧ tm = [(0, .sl (a.map Ent.c)), (1, .sl (b.map Ent.c)), (5, .sl (X.map Ent.c)), (7, .own 0), (8, .k .i64 k)] ∧ S = [(0, .own 9 (strs A))] ∧ nx = 1 ∧ (k ≤ X.length) ∧ (A = (pathsE (X.take k)).filter (fun p => decide (entGet a p ≠ entGet b p))) ∧ (A.length ≤ k)) ?_ ?_
     · refine la [0, 1, 5, 7, 8] ?_
       conv => whnf
       refine ⟨rfl, rfl, _, 0, [], rfl, rfl, rfl, rfl, by omega, by simp, by simp⟩
     · rintro mq tm S nx ⟨k, A, hn, rfl, rfl, rfl, hk, hA, hAl⟩
       have e4 : (strs A).length = A.length := List.length_map ..
       by_cases hlt2 : k < X.length
       · have g3 : X[k]? = some X[k] := List.getElem?_eq_getElem hlt2
         generalize X[k] = x at g3
         have c2 := sGet_con (m := m) a x.path (by omega)
         have c3 := sGet_con (m := m) b x.path (by omega)
         rw [entD_eq] at c2 c3
         have g4 := pathsE_step g3
         by_cases hq : entGet a x.path = entGet b x.path
         · have g5 : A = (pathsE (X.take (k + 1))).filter (fun p => decide (entGet a p ≠ entGet b p)) := by rw [hA, g4, List.filter_append]; simp [hq]
           rw [← hq] at c3
           generalize entGet a x.path = O at c2 c3
           have f1 := fe_eq (rfl : O = O)
           repeat' first | refine Ra ⟨?_⟩ | refine R0 c2 ⟨?_⟩ | refine R0 c3 ⟨?_⟩ | refine Rd (fun h => ⟨?_⟩) fun h => ⟨?_⟩ | refine Rb ⟨?_⟩ | fail
           refine .here ⟨mq - 1, by omega, ?_⟩
           refine la [0, 1, 5, 7, 8] ?_
           conv => whnf
           refine ⟨rfl, rfl, k + 1, A, (by omega), rfl, rfl, rfl, by omega, g5, by omega⟩
         · have g5 : A ++ [x.path] = (pathsE (X.take (k + 1))).filter (fun p => decide (entGet a p ≠ entGet b p)) := by rw [hA, g4, List.filter_append]; simp [hq]
           have f1 := fe_or hq
           generalize entGet a x.path = O at c2 f1
           generalize entGet b x.path = O2 at c3 f1
           rcases f1 with f1 | ⟨f1, f2⟩
           · unfold fs at f1
             repeat' first | refine Ra ⟨?_⟩ | refine R0 c2 ⟨?_⟩ | refine R0 c3 ⟨?_⟩ | refine Rd (fun h => ⟨?_⟩) fun h => ⟨?_⟩ | refine Rb ⟨?_⟩ | fail
             refine .here ⟨mq - 1, by omega, ?_⟩
             refine la [0, 1, 5, 7, 8] ?_
             conv => whnf
             refine ⟨rfl, rfl, k + 1, A ++ [x.path], (by omega), rfl, ?_, rfl, by omega, g5, (by simp; omega)⟩
             rw [← strs_snoc]
             rfl
           · unfold fs at f1
             repeat' first | refine Ra ⟨?_⟩ | refine R0 c2 ⟨?_⟩ | refine R0 c3 ⟨?_⟩ | refine Rd (fun h => ⟨?_⟩) fun h => ⟨?_⟩ | refine Rb ⟨?_⟩ | fail
             refine .here ⟨mq - 1, by omega, ?_⟩
             refine la [0, 1, 5, 7, 8] ?_
             conv => whnf
             refine ⟨rfl, rfl, k + 1, A ++ [x.path], (by omega), rfl, ?_, rfl, by omega, g5, (by simp; omega)⟩
             rw [← strs_snoc]
             rfl
       · rw [List.take_of_length_le (by omega)] at hA
         rw [hx, ← hA]
         repeat' first | refine Ra ⟨?_⟩ | refine Rd (fun h => ⟨?_⟩) fun h => ⟨?_⟩ | refine Rb ⟨?_⟩ | fail
         exact Rz
end Go.Proofs.YtlicaibhgcenhaaGreatDoor
