/- Texts of this claim, set close: lemmas and contracts. -/
import Derived.Test.YtlicaibhgcenhaaGreatDoorWZY10
import Derived.Test.YtlicaibhgcenhaaGreatDoorWZY13
import Derived.Test.YtlicaibhgcenhaaGreatDoorWZY6
import Derived.Test.YtlicaibhgcenhaaGreatDoorWZY18
import Derived.Test.YtlicaibhgcenhaaGreatDoorWZY3
import Derived.Test.YtlicaibhgcenhaaGreatDoorWZY14
import Derived.Test.YtlicaibhgcenhaaGreatDoorWZY15
import Derived.Shelf.SlicesQ.Reverse
set_option linter.unusedSimpArgs false
set_option linter.unusedVariables false
set_option maxHeartbeats 1000000
set_option maxRecDepth 10000
namespace Go.Proofs.YtlicaibhgcenhaaGreatDoor
open Go Go.RowKit Go.Ab Go.Par
variable {m : Int}
abbrev strs (w : List Bs) : List (List D) := w.map fun l => [.s l]
abbrev ee (x y : Ent) : Bool := decide (x.path = y.path) && ((x.dir == y.dir) && (decide (x.data = y.data) && true))
theorem ee_eq (x : Ent) : ee x x = true := by simp [ee]
theorem ee_ne {x y : Ent} (h : x ≠ y) : ee x y = false := by
 rw [← Bool.not_eq_true]
 intro hf
 apply h
 obtain ⟨p, d, q⟩ := x
 obtain ⟨p', d', q'⟩ := y
 simp [ee] at hf
 simp [hf]
abbrev em (x y : Mrk) : Bool := decide (x.path = y.path) && (decide (x.kind = y.kind) && (decide (x.data = y.data) && true))
theorem em_eq (x : Mrk) : em x x = true := by simp [em]
theorem em_ne {x y : Mrk} (h : x ≠ y) : em x y = false := by
 rw [← Bool.not_eq_true]
 intro hf
 apply h
 obtain ⟨p, d, q⟩ := x
 obtain ⟨p', d', q'⟩ := y
 simp [em] at hf
 simp [hf]
theorem ne_at {α : Type} {t u : List α} {i : Nat} {x y : α} (h1 : t[i]? = some x) (h2 : u[i]? = some y) (h : x ≠ y) : t ≠ u := by
 rintro rfl
 rw [h1] at h2
 exact h (Option.some.inj h2)
theorem take_step {α : Type} {t u : List α} {i : Nat} {x : α} (h1 : t[i]? = some x) (h2 : u[i]? = some x) (h : t.take i = u.take i) : t.take (i + 1) = u.take (i + 1) := by
 rw [List.take_add_one, List.take_add_one, h1, h2, h]
theorem take_all {α : Type} {t u : List α} {i : Nat} (hl : t.length = u.length) (hi : t.length ≤ i) (h : t.take i = u.take i) : t = u := by
 rw [List.take_of_length_le hi, List.take_of_length_le (by omega)] at h
 exact h
theorem marksEq_con (t u : List Mrk) (ht : t.length ≤ 1048576) (hu : u.length ≤ 1048576) : Con (E m) 283 0 [.sl (t.map Mrk.c), .sl (u.map Mrk.c)] [] (.b (decide (t = u))) [] := by
 have e1 : (t.map Mrk.c).length = t.length := List.length_map ..
 have e2 : (u.map Mrk.c).length = u.length := List.length_map ..
 by_cases hl : t.length = u.length
 · refine con_of_cd tyOk mix Tryz.func283 rfl rfl rfl (Nat.le_of_ble_eq_true rfl) ?_
   repeat' first | refine Ra ⟨?_⟩ | refine Rd (fun h => ⟨?_⟩) fun h => ⟨?_⟩ | refine Rb ⟨?_⟩ | fail
   refine Cd.loop2 (fun mq tm S nx => ∃ (i : Nat), mq = (t.length - i) ∧ tm = [(0, .sl (t.map Mrk.c)), (1, .sl (u.map Mrk.c)), (12, .k .i64 ((t.map Mrk.c).length : Int)), (13, .k .i64 i)] ∧ S = [] ∧ nx = 0 ∧ (i ≤ t.length) ∧ (t.take i = u.take i)) ?_ ?_
   · refine la [0, 1, 12, 13] ?_
     conv => whnf
     refine ⟨rfl, rfl, _, 0, rfl, rfl, rfl, rfl, by omega, rfl⟩
   · rintro mq tm S nx ⟨i, hn, rfl, rfl, rfl, hi, ha⟩
     by_cases hlt : i < t.length
     · have g1 : t[i]? = some t[i] := List.getElem?_eq_getElem hlt
       have g2 : u[i]? = some (u[i]'(by omega)) := List.getElem?_eq_getElem (by omega)
       generalize t[i] = x at g1
       generalize u[i]'(by omega) = y at g2
       by_cases hxy : x = y
       · subst hxy
         have e3 := em_eq x
         repeat' first | refine Ra ⟨?_⟩ | refine Rd (fun h => ⟨?_⟩) fun h => ⟨?_⟩ | refine Rb ⟨?_⟩ | fail
         refine .here ⟨mq - 1, by omega, ?_⟩
         refine la [0, 1, 12, 13] ?_
         conv => whnf
         refine ⟨rfl, rfl, i + 1, (by omega), rfl, rfl, rfl, by omega, take_step g1 g2 ha⟩
       · have e3 := em_ne hxy
         have e4 : decide (t = u) = false := decide_eq_false (ne_at g1 g2 hxy)
         rw [e4]
         repeat' first | refine Ra ⟨?_⟩ | refine Rd (fun h => ⟨?_⟩) fun h => ⟨?_⟩ | refine Rb ⟨?_⟩ | fail
         exact Rf
     · have e4 : decide (t = u) = true := decide_eq_true (take_all hl (by omega) ha)
       rw [e4]
       repeat' first | refine Ra ⟨?_⟩ | refine Rd (fun h => ⟨?_⟩) fun h => ⟨?_⟩ | refine Rb ⟨?_⟩ | fail
       exact Rf
 · have e4 : decide (t = u) = false := decide_eq_false (fun h => hl (by rw [h]))
   rw [e4]
   refine con_of_cd tyOk mix Tryz.func283 rfl rfl rfl (Nat.le_of_ble_eq_true rfl) ?_
   repeat' first | refine Ra ⟨?_⟩ | refine Rd (fun h => ⟨?_⟩) fun h => ⟨?_⟩ | refine Rb ⟨?_⟩ | fail
   exact Rf
theorem layerSame_con (t u : List Mrk) (ht : t.length ≤ 1048576) (hu : u.length ≤ 1048576) : Con (E m) 230 0 [.sl (t.map Mrk.c), .sl (u.map Mrk.c)] [] (.b (decide (t = u))) [] := by
 have c1 := marksEq_con (m := m) t u ht hu
 refine con_of_cd tyOk mix Tryz.func230 rfl rfl rfl (Nat.le_of_ble_eq_true rfl) ?_
 repeat' first | refine Ra ⟨?_⟩ | refine R0 c1 ⟨?_⟩ | refine Rd (fun h => ⟨?_⟩) fun h => ⟨?_⟩ | refine Rb ⟨?_⟩ | fail
 exact Rf
theorem strs_snoc (A : List Bs) (x : Bs) : strs A ++ [[.s x]] = strs (A ++ [x]) := by simp [strs]
theorem pathsE_step {t : List Ent} {j : Nat} {x : Ent} (h : t[j]? = some x) : pathsE (t.take (j + 1)) = pathsE (t.take j) ++ [x.path] := by
 rw [List.take_add_one, h]
 simp
theorem putAll_step {t es : List Ent} {i : Nat} {x : Ent} (h : es[i]? = some x) : putAll t (es.take (i + 1)) = putE (putAll t (es.take i)) x := by
 rw [List.take_add_one, h]
 simp [putAll, List.foldl_append]
theorem turnW_nil (r : List Ent) : turnW r [] = pathsE r := by
 cases r <;> simp [turnW]
theorem turnW_a {x : Ent} {r u : List Ent} (h : u = [] ∨ ∃ y s, u = y :: s ∧ lt x.path y.path = true) : turnW (x :: r) u = x.path :: turnW r u := by
 rcases h with rfl | ⟨y, s, rfl, h⟩
 · rw [turnW_nil, turnW_nil]; rfl
 · rw [turnW, if_pos h]
theorem turnW_b {y : Ent} {t s : List Ent} (h : t = [] ∨ ∃ x r, t = x :: r ∧ lt x.path y.path = false ∧ lt y.path x.path = true) : turnW t (y :: s) = y.path :: turnW t s := by
 rcases h with rfl | ⟨x, r, rfl, h1, h2⟩
 · simp [turnW]
 · rw [turnW, if_neg (by rw [h1]; simp), if_pos h2]
theorem turnW_c {x y : Ent} {r s : List Ent} (h1 : lt x.path y.path = false) (h2 : lt y.path x.path = false) : turnW (x :: r) (y :: s) = if x = y then turnW r s else x.path :: turnW r s := by
 rw [turnW, if_neg (by rw [h1]; simp), if_neg (by rw [h2]; simp)]
theorem iTurned_con (t u : List Ent) (ht : ∀ e ∈ t, e.path.length ≤ 1073741824 ∧ e.data.length ≤ 1073741824) (hu : ∀ e ∈ u, e.path.length ≤ 1073741824 ∧ e.data.length ≤ 1073741824) : Con (E m) 110 0 [.sl (t.map Ent.c), .sl (u.map Ent.c)] [] (.own 0) [(0, .own 9 (strs (turnedL t u)))] := by
 have c1 := iTreeOk_con (m := m) t ht
 have c2 := iTreeOk_con (m := m) u hu
 cases h1 : treeOk t with
 | false =>
   rw [h1] at c1
   have hx : turnedL t u = [] := by rw [turnedL, h1]; rfl
   rw [hx]
   refine con_of_cd tyOk mix Tryz.func110 rfl rfl rfl (Nat.le_of_ble_eq_true rfl) ?_
   repeat' first | refine Ra ⟨?_⟩ | refine R0 c1 ⟨?_⟩ | refine Rd (fun h => ⟨?_⟩) fun h => ⟨?_⟩ | refine Rb ⟨?_⟩ | fail
   exact Rf
 | true =>
   rw [h1] at c1
   cases h2 : treeOk u with
   | false =>
     rw [h2] at c2
     have hx : turnedL t u = [] := by rw [turnedL, h1, h2]; rfl
     rw [hx]
     refine con_of_cd tyOk mix Tryz.func110 rfl rfl rfl (Nat.le_of_ble_eq_true rfl) ?_
     repeat' first | refine Ra ⟨?_⟩ | refine R0 c1 ⟨?_⟩ | refine R0 c2 ⟨?_⟩ | refine Rd (fun h => ⟨?_⟩) fun h => ⟨?_⟩ | refine Rb ⟨?_⟩ | fail
     exact Rf
   | true =>
     rw [h2] at c2
     have l1 := treeOk_len h1
     have l2 := treeOk_len h2
     rw [← turnW_eq h1 h2]
     have e1 : (t.map Ent.c).length = t.length := List.length_map ..
     have e2 : (u.map Ent.c).length = u.length := List.length_map ..
     refine con_of_cd tyOk mix Tryz.func110 rfl rfl rfl (Nat.le_of_ble_eq_true rfl) ?_
     repeat' first | refine Ra ⟨?_⟩ | refine R0 c1 ⟨?_⟩ | refine R0 c2 ⟨?_⟩ | refine Rd (fun h => ⟨?_⟩) fun h => ⟨?_⟩ | refine Rb ⟨?_⟩ | fail
     refine Cd.loop2 (fun mq tm S nx => ∃ (i : Nat) (j : Nat) (A : List Bs), mq = (t.length + u.length - i - j) ∧ tm = [(0, .sl (t.map Ent.c)), (1, .sl (u.map Ent.c)), (5, .own 0), (6, .k .i64 i), (7, .k .i64 j)] ∧ S = [(0, .own 9 (strs A))] ∧ nx = 1 ∧ (i ≤ t.length) ∧ (j ≤ u.length) ∧ (turnW t u = A ++ turnW (t.drop i) (u.drop j)) ∧ (A.length ≤ i + j)) ?_ ?_
     · refine la [0, 1, 5, 6, 7] ?_
       conv => whnf
       refine ⟨rfl, rfl, _, 0, 0, [], rfl, rfl, rfl, rfl, by omega, by omega, by simp, by simp⟩
     · rintro mq tm S nx ⟨i, j, A, hn, rfl, rfl, rfl, hi, hj, hA, hAl⟩
       have e3 : (strs A).length = A.length := List.length_map ..
       rcases drop_or t i hi with ⟨k1, k2⟩ | ⟨x, r, g1, k1, k2, k3⟩
       · rcases drop_or u j hj with ⟨k4, k5⟩ | ⟨y, s, g2, k4, k5, k6⟩
         · rw [k2, k5] at hA
           have hA' : A = turnW t u := by rw [hA]; simp [turnW]
           rw [← hA']
           repeat' first | refine Ra ⟨?_⟩ | refine Rd (fun h => ⟨?_⟩) fun h => ⟨?_⟩ | refine Rb ⟨?_⟩ | fail
           exact Rf
         · rw [k2, k4, turnW_b (.inl rfl), ← k5, ← k2] at hA
           repeat' first | refine Ra ⟨?_⟩ | refine Rd (fun h => ⟨?_⟩) fun h => ⟨?_⟩ | refine Rb ⟨?_⟩ | fail
           refine .here ⟨mq - 1, by omega, ?_⟩
           refine la [0, 1, 5, 6, 7] ?_
           conv => whnf
           refine ⟨rfl, rfl, i, j + 1, A ++ [y.path], (by omega), rfl, ?_, rfl, by omega, by omega, (by rw [hA]; simp), (by simp; omega)⟩
           rw [← strs_snoc]
           rfl
       · rcases drop_or u j hj with ⟨k4, k5⟩ | ⟨y, s, g2, k4, k5, k6⟩
         · rw [k1, k5, turnW_a (.inl rfl), ← k2, ← k5] at hA
           repeat' first | refine Ra ⟨?_⟩ | refine Rd (fun h => ⟨?_⟩) fun h => ⟨?_⟩ | refine Rb ⟨?_⟩ | fail
           refine .here ⟨mq - 1, by omega, ?_⟩
           refine la [0, 1, 5, 6, 7] ?_
           conv => whnf
           refine ⟨rfl, rfl, i + 1, j, A ++ [x.path], (by omega), rfl, ?_, rfl, by omega, by omega, (by rw [hA]; simp), (by simp; omega)⟩
           rw [← strs_snoc]
           rfl
         · cases q1 : lt x.path y.path with
           | true =>
             rw [k1, k4, turnW_a (.inr ⟨y, s, rfl, q1⟩), ← k2, ← k4] at hA
             repeat' first | refine Ra ⟨?_⟩ | refine Rd (fun h => ⟨?_⟩) fun h => ⟨?_⟩ | refine Rb ⟨?_⟩ | fail
             refine .here ⟨mq - 1, by omega, ?_⟩
             refine la [0, 1, 5, 6, 7] ?_
             conv => whnf
             refine ⟨rfl, rfl, i + 1, j, A ++ [x.path], (by omega), rfl, ?_, rfl, by omega, by omega, (by rw [hA]; simp), (by simp; omega)⟩
             rw [← strs_snoc]
             rfl
           | false =>
             cases q2 : lt y.path x.path with
             | true =>
               rw [k1, k4, turnW_b (.inr ⟨x, r, rfl, q1, q2⟩), ← k1, ← k5] at hA
               repeat' first | refine Ra ⟨?_⟩ | refine Rd (fun h => ⟨?_⟩) fun h => ⟨?_⟩ | refine Rb ⟨?_⟩ | fail
               refine .here ⟨mq - 1, by omega, ?_⟩
               refine la [0, 1, 5, 6, 7] ?_
               conv => whnf
               refine ⟨rfl, rfl, i, j + 1, A ++ [y.path], (by omega), rfl, ?_, rfl, by omega, by omega, (by rw [hA]; simp), (by simp; omega)⟩
               rw [← strs_snoc]
               rfl
             | false =>
               rw [k1, k4, turnW_c q1 q2] at hA
               by_cases hxy : x = y
               · have q3 := ee_eq x
                 subst hxy
                 rw [if_pos rfl, ← k2, ← k5] at hA
                 repeat' first | refine Ra ⟨?_⟩ | refine Rd (fun h => ⟨?_⟩) fun h => ⟨?_⟩ | refine Rb ⟨?_⟩ | fail
                 refine .here ⟨mq - 2, by omega, ?_⟩
                 refine la [0, 1, 5, 6, 7] ?_
                 conv => whnf
                 refine ⟨rfl, rfl, i + 1, j + 1, A, (by omega), rfl, rfl, rfl, by omega, by omega, hA, by omega⟩
               · have q3 := ee_ne hxy
                 rw [if_neg hxy, ← k2, ← k5] at hA
                 repeat' first | refine Ra ⟨?_⟩ | refine Rd (fun h => ⟨?_⟩) fun h => ⟨?_⟩ | refine Rb ⟨?_⟩ | fail
                 refine .here ⟨mq - 2, by omega, ?_⟩
                 refine la [0, 1, 5, 6, 7] ?_
                 conv => whnf
                 refine ⟨rfl, rfl, i + 1, j + 1, A ++ [x.path], (by omega), rfl, ?_, rfl, by omega, by omega, (by rw [hA]; simp), (by simp; omega)⟩
                 rw [← strs_snoc]
                 rfl
abbrev ints (l : List Int) : List (List D) := l.map fun n => [.k .i64 n]
theorem bE0 {t : List Ent} (h : treeOk t = true) : ∀ e ∈ t, e.path.length ≤ 1073741824 ∧ e.data.length ≤ 1073741824 := fun e he => by
 have := entOk_len (treeOk_ent h e he); omega
abbrev bndO (n : Nat) (o : Opn) : Prop := o.path.length ≤ n ∧ o.tgt.length ≤ n ∧ o.data.length ≤ n
theorem eqIntS_con (t : List Int) (hl : t.length ≤ 1048576) : Con (E m) 54 0 [.sl (ints t), .sl (ints t)] [] (.b true) [] := by
 have e1 : (ints t).length = t.length := List.length_map ..
 refine con_of_cd tyOk mix Tryz.func54 rfl rfl rfl (Nat.le_of_ble_eq_true rfl) ?_
 repeat' first | refine Ra ⟨?_⟩ | refine Rd (fun h => ⟨?_⟩) fun h => ⟨?_⟩ | refine Rb ⟨?_⟩ | fail
 refine Cd.loop2 (fun mq tm S nx => ∃ (i : Nat), mq = (t.length - i) ∧ tm = [(0, .sl (ints t)), (1, .sl (ints t)), (5, .k .i64 i)] ∧ S = [] ∧ nx = 0 ∧ (i ≤ t.length)) ?_ ?_
 · refine la [0, 1, 5] ?_
   conv => whnf
   refine ⟨rfl, rfl, _, 0, rfl, rfl, rfl, rfl, by omega⟩
 · rintro mq tm S nx ⟨i, hn, rfl, rfl, rfl, hi⟩
   by_cases hlt : i < t.length
   · have g1 : t[i]? = some t[i] := List.getElem?_eq_getElem hlt
     generalize t[i] = x at g1
     repeat' first | refine Ra ⟨?_⟩ | refine Rd (fun h => ⟨?_⟩) fun h => ⟨?_⟩ | refine Rb ⟨?_⟩ | fail
     refine .here ⟨mq - 1, by omega, ?_⟩
     refine la [0, 1, 5] ?_
     conv => whnf
     refine ⟨rfl, rfl, i + 1, (by omega), rfl, rfl, rfl, by omega⟩
   · repeat' first | refine Ra ⟨?_⟩ | refine Rd (fun h => ⟨?_⟩) fun h => ⟨?_⟩ | refine Rb ⟨?_⟩ | fail
     exact Rf
end Go.Proofs.YtlicaibhgcenhaaGreatDoor
