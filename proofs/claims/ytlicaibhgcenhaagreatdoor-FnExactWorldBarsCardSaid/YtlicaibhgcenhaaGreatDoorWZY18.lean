/- Texts of this claim, set close: lemmas and contracts. -/
import Derived.Test.YtlicaibhgcenhaaGreatDoorWZY13
import Derived.Test.YtlicaibhgcenhaaGreatDoorWZY11
import Derived.Test.YtlicaibhgcenhaaGreatDoorWZY17
import Derived.Test.YtlicaibhgcenhaaGreatDoorWZY10
import Derived.Test.YtlicaibhgcenhaaGreatDoorWZY12
import Derived.Test.YtlicaibhgcenhaaGreatDoorWZY14
import Derived.Lib.SlicesCompact
set_option linter.unusedSimpArgs false
set_option linter.unusedVariables false
set_option maxHeartbeats 1000000
set_option maxRecDepth 10000
namespace Go.Proofs.YtlicaibhgcenhaaGreatDoor
open Go Go.RowKit Go.Ab Go.Par
variable {m : Int}
theorem iPathMove_con (s a b : Bs) (hs : s.length ≤ 1073741823) (ha : a.length ≤ 1073741823) (hb : b.length ≤ 1073741823) : Con (E m) 176 0 [.s s, .s a, .s b] [] (moveD (pathMove s a b)) [] := by
 have c1 := iPathOk_con (m := m) s (by omega)
 have c2 := iPathOk_con (m := m) a (by omega)
 have c3 := iPathOk_con (m := m) b (by omega)
 have c4 := iUnder_con (m := m) s a (by omega) (by omega)
 cases h1 : pathOk s with
 | false =>
   have hx : pathMove s a b = none := by simp [pathMove, h1]
   rw [hx]
   rw [h1] at c1
   refine con_of_cd tyOk mix Tryz.func176 rfl rfl rfl (Nat.le_of_ble_eq_true rfl) ?_
   repeat' first | refine Ra ⟨?_⟩ | refine R0 c1 ⟨?_⟩ | refine Rd (fun h => ⟨?_⟩) fun h => ⟨?_⟩ | refine Rb ⟨?_⟩ | fail
   exact Rf
 | true =>
   cases h2 : pathOk a with
   | false =>
     have hx : pathMove s a b = none := by simp [pathMove, h2]
     rw [hx]
     rw [h1] at c1
     rw [h2] at c2
     refine con_of_cd tyOk mix Tryz.func176 rfl rfl rfl (Nat.le_of_ble_eq_true rfl) ?_
     repeat' first | refine Ra ⟨?_⟩ | refine R0 c1 ⟨?_⟩ | refine R0 c2 ⟨?_⟩ | refine Rd (fun h => ⟨?_⟩) fun h => ⟨?_⟩ | refine Rb ⟨?_⟩ | fail
     exact Rf
   | true =>
     have hpu : pathUnder s a = under s a := by simp [pathUnder, h1, h2]
     rw [hpu] at c4
     cases h3 : pathOk b with
     | false =>
       have hx : pathMove s a b = none := by simp [pathMove, h3]
       rw [hx]
       rw [h1] at c1
       rw [h2] at c2
       rw [h3] at c3
       refine con_of_cd tyOk mix Tryz.func176 rfl rfl rfl (Nat.le_of_ble_eq_true rfl) ?_
       repeat' first | refine Ra ⟨?_⟩ | refine R0 c1 ⟨?_⟩ | refine R0 c2 ⟨?_⟩ | refine R0 c3 ⟨?_⟩ | refine Rd (fun h => ⟨?_⟩) fun h => ⟨?_⟩ | refine Rb ⟨?_⟩ | fail
       exact Rf
     | true =>
       rw [h1] at c1
       rw [h2] at c2
       rw [h3] at c3
       have hrt := pathOk_ne h2
       by_cases hc : s ≠ a ∧ under s a = false
       · have hx : pathMove s a b = some s := by simp [pathMove, h1, h2, h3, hc.1, hc.2]
         obtain ⟨hc1, hc2⟩ := hc
         rw [hx]
         rw [hc2] at c4
         refine con_of_cd tyOk mix Tryz.func176 rfl rfl rfl (Nat.le_of_ble_eq_true rfl) ?_
         repeat' first | refine Ra ⟨?_⟩ | refine R0 c1 ⟨?_⟩ | refine R0 c2 ⟨?_⟩ | refine R0 c3 ⟨?_⟩ | refine R0 c4 ⟨?_⟩ | refine Rd (fun h => ⟨?_⟩) fun h => ⟨?_⟩ | refine Rb ⟨?_⟩ | fail
         exact Rf
       · have hlen : a.length ≤ s.length := by
           by_cases he : s = a
           · rw [he]; exact Nat.le_refl _
           · have hu : under s a = true := by
               cases hu : under s a with
               | true => rfl
               | false => exact absurd ⟨he, hu⟩ hc
             have := under_len hu hrt
             omega
         have c5 := iPathOk_con (m := m) (b ++ (s.take s.length).drop a.length) (by
          have := (pathOk_pos h1).2
          have := (pathOk_pos h3).2
          simp; omega)
         have hx : pathMove s a b = if pathOk (b ++ (s.take s.length).drop a.length) then some (b ++ (s.take s.length).drop a.length) else none := by
          unfold pathMove
          rw [h1, h2, h3, List.take_length]
          simp only [Bool.and_self, if_true]
          rw [if_neg hc]
         rw [hx]
         by_cases he : s = a
         all_goals
          cases h5 : pathOk (b ++ (s.take s.length).drop a.length)
          all_goals
           rw [h5] at c5
           have hu : s = a ∨ under s a = true := by
            by_cases he : s = a
            · exact .inl he
            · right
              cases hu : under s a with
              | true => rfl
              | false => exact absurd ⟨he, hu⟩ hc
           try rw [hu.resolve_left he] at c4
           simp only [if_true, if_false, Bool.false_eq_true]
           refine con_of_cd tyOk mix Tryz.func176 rfl rfl rfl (Nat.le_of_ble_eq_true rfl) ?_
           repeat' first | refine Ra ⟨?_⟩ | refine R0 c1 ⟨?_⟩ | refine R0 c2 ⟨?_⟩ | refine R0 c3 ⟨?_⟩ | refine R0 c4 ⟨?_⟩ | refine R0 c5 ⟨?_⟩ | refine Rd (fun h => ⟨?_⟩) fun h => ⟨?_⟩ | refine Rb ⟨?_⟩ | fail
           exact Rf
theorem iMakeCode_con (t : List Ent) (o : Opn) (ht : t.length ≤ 1073741824) (hp : pathOk o.path = true) : Con (E m) 239 0 [.sl (t.map Ent.c), .agg o.c] [] (.k .i64 (newCode t o.path)) [] := by
 have hl := (pathOk_pos hp).2
 have c1 := iUpCode_con (m := m) t o.path ht (by omega)
 have c2 := iAt_con (m := m) t o.path ht
 have hc := newCode_i (t := t) hp
 rw [hc]
 by_cases hu : upCode t o.path = 0
 · rw [hu] at c1
   simp only [hu, ne_eq, not_true_eq_false, if_false]
   cases he : entAt t o.path with
   | some e =>
     rw [he] at c2
     refine con_of_cd tyOk mix Tryz.func239 rfl rfl rfl (Nat.le_of_ble_eq_true rfl) ?_
     repeat' first | refine Ra ⟨?_⟩ | refine R0 c1 ⟨?_⟩ | refine R0 c2 ⟨?_⟩ | refine Rd (fun h => ⟨?_⟩) fun h => ⟨?_⟩ | refine Rb ⟨?_⟩ | fail
     exact Rf
   | none =>
     rw [he] at c2
     by_cases hlen : 16 ≤ t.length
     · simp only [Option.isSome_none, Bool.false_eq_true, if_false, hlen, if_true]
       refine con_of_cd tyOk mix Tryz.func239 rfl rfl rfl (Nat.le_of_ble_eq_true rfl) ?_
       repeat' first | refine Ra ⟨?_⟩ | refine R0 c1 ⟨?_⟩ | refine R0 c2 ⟨?_⟩ | refine Rd (fun h => ⟨?_⟩) fun h => ⟨?_⟩ | refine Rb ⟨?_⟩ | fail
       exact Rf
     · simp only [Option.isSome_none, Bool.false_eq_true, if_false, hlen]
       refine con_of_cd tyOk mix Tryz.func239 rfl rfl rfl (Nat.le_of_ble_eq_true rfl) ?_
       repeat' first | refine Ra ⟨?_⟩ | refine R0 c1 ⟨?_⟩ | refine R0 c2 ⟨?_⟩ | refine Rd (fun h => ⟨?_⟩) fun h => ⟨?_⟩ | refine Rb ⟨?_⟩ | fail
       exact Rf
 · simp only [hu, ne_eq, not_false_eq_true, if_true]
   refine con_of_cd tyOk mix Tryz.func239 rfl rfl rfl (Nat.le_of_ble_eq_true rfl) ?_
   repeat' first | refine Ra ⟨?_⟩ | refine R0 c1 ⟨?_⟩ | refine Rd (fun h => ⟨?_⟩) fun h => ⟨?_⟩ | refine Rb ⟨?_⟩ | fail
   exact Rf
theorem iPutCode_con (t : List Ent) (o : Opn) (ht : t.length ≤ 1073741824) (hp : pathOk o.path = true) : Con (E m) 240 0 [.sl (t.map Ent.c), .agg o.c] [] (.k .i64 (putCode t o.path)) [] := by
 have hl := (pathOk_pos hp).2
 have c1 := iUpCode_con (m := m) t o.path ht (by omega)
 have c2 := iAt_con (m := m) t o.path ht
 have hc := putCode_i (t := t) hp
 rw [hc]
 by_cases hu : upCode t o.path = 0
 · rw [hu] at c1
   simp only [hu, ne_eq, not_true_eq_false, if_false]
   cases he : entAt t o.path with
   | some e =>
     rw [he] at c2
     cases hd : e.dir
     all_goals
      simp only [Ent.c, entD, hd] at c2
      simp only [Option.isSome_some, Option.getD_some, hd, Bool.false_eq_true, and_false, and_true, if_true, if_false, Option.isNone_some, false_and]
      refine con_of_cd tyOk mix Tryz.func240 rfl rfl rfl (Nat.le_of_ble_eq_true rfl) ?_
      repeat' first | refine Ra ⟨?_⟩ | refine R0 c1 ⟨?_⟩ | refine R0 c2 ⟨?_⟩ | refine Rd (fun h => ⟨?_⟩) fun h => ⟨?_⟩ | refine Rb ⟨?_⟩ | fail
      exact Rf
   | none =>
     rw [he] at c2
     by_cases hlen : 16 ≤ t.length
     · simp only [Option.isSome_none, Bool.false_eq_true, false_and, if_false, Option.isNone_none, true_and, hlen, if_true]
       refine con_of_cd tyOk mix Tryz.func240 rfl rfl rfl (Nat.le_of_ble_eq_true rfl) ?_
       repeat' first | refine Ra ⟨?_⟩ | refine R0 c1 ⟨?_⟩ | refine R0 c2 ⟨?_⟩ | refine Rd (fun h => ⟨?_⟩) fun h => ⟨?_⟩ | refine Rb ⟨?_⟩ | fail
       exact Rf
     · simp only [Option.isSome_none, Bool.false_eq_true, false_and, if_false, Option.isNone_none, true_and, hlen]
       refine con_of_cd tyOk mix Tryz.func240 rfl rfl rfl (Nat.le_of_ble_eq_true rfl) ?_
       repeat' first | refine Ra ⟨?_⟩ | refine R0 c1 ⟨?_⟩ | refine R0 c2 ⟨?_⟩ | refine Rd (fun h => ⟨?_⟩) fun h => ⟨?_⟩ | refine Rb ⟨?_⟩ | fail
       exact Rf
 · simp only [hu, ne_eq, not_false_eq_true, if_true]
   refine con_of_cd tyOk mix Tryz.func240 rfl rfl rfl (Nat.le_of_ble_eq_true rfl) ?_
   repeat' first | refine Ra ⟨?_⟩ | refine R0 c1 ⟨?_⟩ | refine Rd (fun h => ⟨?_⟩) fun h => ⟨?_⟩ | refine Rb ⟨?_⟩ | fail
   exact Rf
theorem iRmCode_con (t : List Ent) (o : Opn) (ht : treeOk t = true) (hp : pathOk o.path = true) (hk : o.kind = 3) : Con (E m) 241 0 [.sl (t.map Ent.c), .agg o.c] [] (.k .i64 (offCode t o)) [] := by
 have hl := treeOk_len ht
 have c2 := iAt_con (m := m) t o.path (by omega)
 have hc := rmCode_i (o := o) ht hp hk
 rw [hc]
 cases he : entAt t o.path with
 | none =>
   rw [he] at c2
   refine con_of_cd tyOk mix Tryz.func241 rfl rfl rfl (Nat.le_of_ble_eq_true rfl) ?_
   repeat' first | refine Ra ⟨?_⟩ | refine R0 c2 ⟨?_⟩ | refine Rd (fun h => ⟨?_⟩) fun h => ⟨?_⟩ | refine Rb ⟨?_⟩ | fail
   exact Rf
 | some e =>
   rw [he] at c2
   cases hd : e.dir
   all_goals
    simp only [Ent.c, entD, hd] at c2
    simp only [Option.getD_some, hd, Bool.false_eq_true, if_true, if_false, Option.isNone_some]
    refine con_of_cd tyOk mix Tryz.func241 rfl rfl rfl (Nat.le_of_ble_eq_true rfl) ?_
    repeat' first | refine Ra ⟨?_⟩ | refine R0 c2 ⟨?_⟩ | refine Rd (fun h => ⟨?_⟩) fun h => ⟨?_⟩ | refine Rb ⟨?_⟩ | fail
    exact Rf
theorem any_take_succ {α : Type} {l : List α} {p : α → Bool} {i : Nat} {x : α} (h : (l.take i).any p = false) (hx : l[i]? = some x) (hp : p x = false) : (l.take (i + 1)).any p = false := by
 rw [List.take_add_one, hx, List.any_append, h]
 simp [hp]
theorem any_hit {α : Type} {l : List α} {p : α → Bool} {i : Nat} {x : α} (hx : l[i]? = some x) (hp : p x = true) : l.any p = true := List.any_eq_true.2 ⟨x, List.mem_of_getElem? hx, hp⟩
theorem iRmdirCode_con (t : List Ent) (o : Opn) (ht : treeOk t = true) (hp : pathOk o.path = true) (hk : o.kind = 4) : Con (E m) 242 0 [.sl (t.map Ent.c), .agg o.c] [] (.k .i64 (offCode t o)) [] := by
 have hl := treeOk_len ht
 have hpl := (pathOk_pos hp).2
 have c2 := iAt_con (m := m) t o.path (by omega)
 have hc := rmdirCode_i (o := o) ht hp hk
 rw [hc]
 cases he : entAt t o.path with
 | none =>
   rw [he] at c2
   refine con_of_cd tyOk mix Tryz.func242 rfl rfl rfl (Nat.le_of_ble_eq_true rfl) ?_
   repeat' first | refine Ra ⟨?_⟩ | refine R0 c2 ⟨?_⟩ | refine Rd (fun h => ⟨?_⟩) fun h => ⟨?_⟩ | refine Rb ⟨?_⟩ | fail
   exact Rf
 | some e =>
   rw [he] at c2
   cases hd : e.dir with
   | false =>
     simp only [Ent.c, entD, hd] at c2
     simp only [Option.getD_some, hd, if_true, Bool.false_eq_true, if_false, Option.isNone_some]
     refine con_of_cd tyOk mix Tryz.func242 rfl rfl rfl (Nat.le_of_ble_eq_true rfl) ?_
     repeat' first | refine Ra ⟨?_⟩ | refine R0 c2 ⟨?_⟩ | refine Rd (fun h => ⟨?_⟩) fun h => ⟨?_⟩ | refine Rb ⟨?_⟩ | fail
     exact Rf
   | true =>
     simp only [Ent.c, entD, hd] at c2
     simp only [Option.getD_some, hd, Bool.true_eq_false, Bool.false_eq_true, if_false, Option.isNone_some]
     have e1 : (t.map Ent.c).length = t.length := List.length_map ..
     refine con_of_cd tyOk mix Tryz.func242 rfl rfl rfl (Nat.le_of_ble_eq_true rfl) ?_
     repeat' first | refine Ra ⟨?_⟩ | refine R0 c2 ⟨?_⟩ | refine Rd (fun h => ⟨?_⟩) fun h => ⟨?_⟩ | refine Rb ⟨?_⟩ | fail
     refine Cd.loop2 (fun mq tm S nx => ∃ (i : Nat), mq = (t.length - i) ∧ tm = [(3, .bp 0 0), (21, .sl (t.map Ent.c)), (22, .k .i64 ((t.map Ent.c).length : Int)), (23, .k .i64 i)] ∧ S = [(0, .box 52 o.c)] ∧ nx = 1 ∧ (i ≤ t.length) ∧ ((t.take i).any (fun e => under e.path o.path) = false)) ?_ ?_
     · refine la [3, 21, 22, 23] ?_
       conv => whnf
       refine ⟨rfl, rfl, _, 0, rfl, rfl, rfl, rfl, by omega, by simp⟩
     · rintro mq tm S nx ⟨i, hn, rfl, rfl, rfl, hi, ha⟩
       rcases drop_or t i hi with ⟨rfl, hd⟩ | ⟨x, r, hx', hd, hr, hlt⟩
       · rw [List.take_length] at ha
         rw [ha]
         repeat' first | refine Ra ⟨?_⟩ | refine Rd (fun h => ⟨?_⟩) fun h => ⟨?_⟩ | refine Rb ⟨?_⟩ | fail
         exact Rf
       · have hxp := (tree_mem ht (List.mem_of_getElem? hx')).2.1
         have hxl := (pathOk_pos hxp).2
         have c5 := iUnder_con (m := m) x.path o.path (by omega) (by omega)
         have hpu : pathUnder x.path o.path = under x.path o.path := by simp [pathUnder, hxp, hp]
         rw [hpu] at c5
         cases hm : under x.path o.path with
         | true =>
           rw [hm] at c5
           have hf : t.any (fun e => under e.path o.path) = true := any_hit hx' hm
           rw [hf]
           repeat' first | refine Ra ⟨?_⟩ | refine R0 c5 ⟨?_⟩ | refine Rd (fun h => ⟨?_⟩) fun h => ⟨?_⟩ | refine Rb ⟨?_⟩ | fail
           exact Rf
         | false =>
           rw [hm] at c5
           repeat' first | refine Ra ⟨?_⟩ | refine R0 c5 ⟨?_⟩ | refine Rd (fun h => ⟨?_⟩) fun h => ⟨?_⟩ | refine Rb ⟨?_⟩ | fail
           refine .here ⟨mq - 1, by omega, ?_⟩
           refine la [3, 21, 22, 23] ?_
           conv => whnf
           refine ⟨rfl, rfl, i + 1, (by omega), rfl, rfl, rfl, by omega, (any_take_succ ha hx' hm)⟩
theorem iMoveCode_con (t : List Ent) (o : Opn) (ht : treeOk t = true) (hp : pathOk o.path = true) (hq : pathOk o.tgt = true) : Con (E m) 243 0 [.sl (t.map Ent.c), .agg o.c] [] (.k .i64 (moveCode t o)) [] := by
 have hl := treeOk_len ht
 have hpl := (pathOk_pos hp).2
 have hql := (pathOk_pos hq).2
 have c1 := iAt_con (m := m) t o.path (by omega)
 have c2 := iUpCode_con (m := m) t o.tgt (by omega) (by omega)
 have c3 := iAt_con (m := m) t o.tgt (by omega)
 have c4 := iUnder_con (m := m) o.tgt o.path (by omega) (by omega)
 have hpu : pathUnder o.tgt o.path = under o.tgt o.path := by simp [pathUnder, hq, hp]
 rw [hpu] at c4
 have hc := moveCode_i (t := t) hp hq
 rw [hc]
 cases he : entAt t o.path with
 | none =>
   rw [he] at c1
   refine con_of_cd tyOk mix Tryz.func243 rfl rfl rfl (Nat.le_of_ble_eq_true rfl) ?_
   repeat' first | refine Ra ⟨?_⟩ | refine R0 c1 ⟨?_⟩ | refine Rd (fun h => ⟨?_⟩) fun h => ⟨?_⟩ | refine Rb ⟨?_⟩ | fail
   exact Rf
 | some e =>
   rw [he] at c1
   simp only [Option.isNone_some, Bool.false_eq_true, if_false]
   by_cases hu : upCode t o.tgt = 0
   · rw [hu] at c2
     simp only [hu, ne_eq, not_true_eq_false, if_false]
     cases hf : entAt t o.tgt with
     | some f =>
       rw [hf] at c3
       refine con_of_cd tyOk mix Tryz.func243 rfl rfl rfl (Nat.le_of_ble_eq_true rfl) ?_
       repeat' first | refine Ra ⟨?_⟩ | refine R0 c1 ⟨?_⟩ | refine R0 c2 ⟨?_⟩ | refine R0 c3 ⟨?_⟩ | refine Rd (fun h => ⟨?_⟩) fun h => ⟨?_⟩ | refine Rb ⟨?_⟩ | fail
       exact Rf
     | none =>
       rw [hf] at c3
       simp only [Option.isSome_none, Bool.false_eq_true, if_false]
       cases hv : under o.tgt o.path with
       | true =>
         rw [hv] at c4
         refine con_of_cd tyOk mix Tryz.func243 rfl rfl rfl (Nat.le_of_ble_eq_true rfl) ?_
         repeat' first | refine Ra ⟨?_⟩ | refine R0 c1 ⟨?_⟩ | refine R0 c2 ⟨?_⟩ | refine R0 c3 ⟨?_⟩ | refine R0 c4 ⟨?_⟩ | refine Rd (fun h => ⟨?_⟩) fun h => ⟨?_⟩ | refine Rb ⟨?_⟩ | fail
         exact Rf
       | false =>
         rw [hv] at c4
         simp only [Bool.false_eq_true, if_false]
         have e1 : (t.map Ent.c).length = t.length := List.length_map ..
         refine con_of_cd tyOk mix Tryz.func243 rfl rfl rfl (Nat.le_of_ble_eq_true rfl) ?_
         repeat' first | refine Ra ⟨?_⟩ | refine R0 c1 ⟨?_⟩ | refine R0 c2 ⟨?_⟩ | refine R0 c3 ⟨?_⟩ | refine R0 c4 ⟨?_⟩ | refine Rd (fun h => ⟨?_⟩) fun h => ⟨?_⟩ | refine Rb ⟨?_⟩ | fail
         refine Cd.loop2 (fun mq tm S nx => ∃ (i : Nat), mq = (t.length - i) ∧ tm = [(3, .bp 0 0), (43, .sl (t.map Ent.c)), (44, .k .i64 ((t.map Ent.c).length : Int)), (45, .k .i64 i)] ∧ S = [(0, .box 52 o.c)] ∧ nx = 1 ∧ (i ≤ t.length) ∧ ((t.take i).all (fun e => (pathMove e.path o.path o.tgt).isSome) = true)) ?_ ?_
         · refine la [3, 43, 44, 45] ?_
           conv => whnf
           refine ⟨rfl, rfl, _, 0, rfl, rfl, rfl, rfl, by omega, rfl⟩
         · rintro mq tm S nx ⟨i, hn, rfl, rfl, rfl, hi, ha⟩
           rcases drop_or t i hi with ⟨rfl, hd⟩ | ⟨x, r, hx', hd, hr, hlt⟩
           · rw [List.take_length] at ha
             rw [ha]
             repeat' first | refine Ra ⟨?_⟩ | refine Rd (fun h => ⟨?_⟩) fun h => ⟨?_⟩ | refine Rb ⟨?_⟩ | fail
             exact Rf
           · have hxp := (tree_mem ht (List.mem_of_getElem? hx')).2.1
             have hxl := (pathOk_pos hxp).2
             have c5 := iPathMove_con (m := m) x.path o.path o.tgt (by omega) (by omega) (by omega)
             cases hm : pathMove x.path o.path o.tgt with
             | none =>
               rw [hm] at c5
               have hf : t.all (fun e => (pathMove e.path o.path o.tgt).isSome) = false := all_false hx' (by simp [hm])
               rw [hf]
               repeat' first | refine Ra ⟨?_⟩ | refine R0 c5 ⟨?_⟩ | refine Rd (fun h => ⟨?_⟩) fun h => ⟨?_⟩ | refine Rb ⟨?_⟩ | fail
               exact Rf
             | some y =>
               rw [hm] at c5
               repeat' first | refine Ra ⟨?_⟩ | refine R0 c5 ⟨?_⟩ | refine Rd (fun h => ⟨?_⟩) fun h => ⟨?_⟩ | refine Rb ⟨?_⟩ | fail
               refine .here ⟨mq - 1, by omega, ?_⟩
               refine la [3, 43, 44, 45] ?_
               conv => whnf
               refine ⟨rfl, rfl, i + 1, (by omega), rfl, rfl, rfl, by omega, (all_take_succ ha hx' (by simp [hm]))⟩
   · simp only [hu, ne_eq, not_false_eq_true, if_true]
     refine con_of_cd tyOk mix Tryz.func243 rfl rfl rfl (Nat.le_of_ble_eq_true rfl) ?_
     repeat' first | refine Ra ⟨?_⟩ | refine R0 c1 ⟨?_⟩ | refine R0 c2 ⟨?_⟩ | refine Rd (fun h => ⟨?_⟩) fun h => ⟨?_⟩ | refine Rb ⟨?_⟩ | fail
     exact Rf
def codeI (t : List Ent) (o : Opn) : Int := if opOk o then opCode t o else 1
theorem iOpCode_con (t : List Ent) (o : Opn) (ht : treeOk t = true) (h1 : o.path.length ≤ 1073741823) (h2 : o.tgt.length ≤ 1073741823) (h3 : o.data.length ≤ 1073741823) : Con (E m) 175 0 [.sl (t.map Ent.c), .agg o.c] [] (.k .i64 (codeI t o)) [] := by
 have hl := treeOk_len ht
 have c0 := iOpOk_con (m := m) o (by omega) (by omega) (by omega)
 unfold codeI
 cases hok : opOk o with
 | false =>
   rw [hok] at c0
   refine con_of_cd tyOk mix Tryz.func175 rfl rfl rfl (Nat.le_of_ble_eq_true rfl) ?_
   repeat' first | refine Ra ⟨?_⟩ | refine R0 c0 ⟨?_⟩ | refine Rd (fun h => ⟨?_⟩) fun h => ⟨?_⟩ | refine Rb ⟨?_⟩ | fail
   exact Rf
 | true =>
   rw [hok] at c0
   have hp := opOk_path hok
   simp only [if_true]
   rcases kinds hok with hk | hk | hk | hk | hk
   · have c1 := iMakeCode_con (m := m) t o (by omega) hp
     have hx : opCode t o = newCode t o.path := by simp [opCode, hk]
     rw [hx]
     refine con_of_cd tyOk mix Tryz.func175 rfl rfl rfl (Nat.le_of_ble_eq_true rfl) ?_
     repeat' first | refine Ra ⟨?_⟩ | refine R0 c0 ⟨?_⟩ | refine R0 c1 ⟨?_⟩ | refine Rd (fun h => ⟨?_⟩) fun h => ⟨?_⟩ | refine Rb ⟨?_⟩ | fail
     exact Rf
   · have c1 := iPutCode_con (m := m) t o (by omega) hp
     have hx : opCode t o = putCode t o.path := by simp [opCode, hk]
     rw [hx]
     refine con_of_cd tyOk mix Tryz.func175 rfl rfl rfl (Nat.le_of_ble_eq_true rfl) ?_
     repeat' first | refine Ra ⟨?_⟩ | refine R0 c0 ⟨?_⟩ | refine R0 c1 ⟨?_⟩ | refine Rd (fun h => ⟨?_⟩) fun h => ⟨?_⟩ | refine Rb ⟨?_⟩ | fail
     exact Rf
   · have c1 := iRmCode_con (m := m) t o ht hp hk
     have hx : opCode t o = offCode t o := by simp [opCode, hk]
     rw [hx]
     refine con_of_cd tyOk mix Tryz.func175 rfl rfl rfl (Nat.le_of_ble_eq_true rfl) ?_
     repeat' first | refine Ra ⟨?_⟩ | refine R0 c0 ⟨?_⟩ | refine R0 c1 ⟨?_⟩ | refine Rd (fun h => ⟨?_⟩) fun h => ⟨?_⟩ | refine Rb ⟨?_⟩ | fail
     exact Rf
   · have c1 := iRmdirCode_con (m := m) t o ht hp hk
     have hx : opCode t o = offCode t o := by simp [opCode, hk]
     rw [hx]
     refine con_of_cd tyOk mix Tryz.func175 rfl rfl rfl (Nat.le_of_ble_eq_true rfl) ?_
     repeat' first | refine Ra ⟨?_⟩ | refine R0 c0 ⟨?_⟩ | refine R0 c1 ⟨?_⟩ | refine Rd (fun h => ⟨?_⟩) fun h => ⟨?_⟩ | refine Rb ⟨?_⟩ | fail
     exact Rf
   · have c1 := iMoveCode_con (m := m) t o ht hp (opOk_to hok hk).1
     have hx : opCode t o = moveCode t o := by simp [opCode, hk]
     rw [hx]
     refine con_of_cd tyOk mix Tryz.func175 rfl rfl rfl (Nat.le_of_ble_eq_true rfl) ?_
     repeat' first | refine Ra ⟨?_⟩ | refine R0 c0 ⟨?_⟩ | refine R0 c1 ⟨?_⟩ | refine Rd (fun h => ⟨?_⟩) fun h => ⟨?_⟩ | refine Rb ⟨?_⟩ | fail
     exact Rf
theorem copyEnts_con (t : List Ent) (ht : t.length ≤ 1073741824) : Con (E m) 136 0 [.sl (t.map Ent.c)] [] (.own 0) [(0, .own 150 (t.map Ent.c))] := by
 have e1 : (t.map Ent.c).length = t.length := List.length_map ..
 refine con_of_cd tyOk mix Tryz.func136 rfl rfl rfl (Nat.le_of_ble_eq_true rfl) ?_
 repeat' first | refine Ra ⟨?_⟩ | refine Rd (fun h => ⟨?_⟩) fun h => ⟨?_⟩ | refine Rb ⟨?_⟩ | fail
 exact Rf
def toldB (t : List Ent) (o : Opn) : List Ent := if o.kind = 5 then t.map (moveE o.path o.tgt) else offT t o.path
theorem toldB_len (t : List Ent) (o : Opn) : (toldB t o).length ≤ t.length := by
 unfold toldB
 split
 · simp
 · exact List.length_filter_le _ _
theorem toldB_step {t : List Ent} {o : Opn} {i : Nat} {x : Ent} (h : t[i]? = some x) : toldB (t.take (i + 1)) o = toldB (t.take i) o ++ (if o.kind = 5 then [moveE o.path o.tgt x] else if x.path = o.path then [] else [x]) := by
 unfold toldB offT
 rw [List.take_add_one, h]
 split
 · simp
 · rw [List.filter_append]
   congr 1
   by_cases hp : x.path = o.path <;> simp [hp]
theorem iTreeDo_con (t : List Ent) (o : Opn) (hb : ∀ e ∈ t, e.path.length ≤ 1073741824 ∧ e.data.length ≤ 1073741824) (h1 : o.path.length ≤ 1073741823) (h2 : o.tgt.length ≤ 1073741823) (h3 : o.data.length ≤ 1073741823) : Con (E m) 109 0 [.sl (t.map Ent.c), .agg o.c] [] (.tup [.own 0, .k .i64 (treeDo t o).2]) [(0, .own 150 ((treeDo t o).1.map Ent.c))] := by
 have c1 := iTreeOk_con (m := m) t hb
 cases k1 : treeOk t with
 | false =>
   have hx : treeDo t o = ([], 1) := by simp [treeDo, k1]
   rw [hx]
   rw [k1] at c1
   refine con_of_cd tyOk mix Tryz.func109 rfl rfl rfl (Nat.le_of_ble_eq_true rfl) ?_
   repeat' first | refine Ra ⟨?_⟩ | refine R0 c1 ⟨?_⟩ | refine Rd (fun h => ⟨?_⟩) fun h => ⟨?_⟩ | refine Rb ⟨?_⟩ | fail
   exact Rf
 | true =>
   rw [k1] at c1
   have hl := treeOk_len k1
   have c2 := iOpCode_con (m := m) t o k1 h1 h2 h3
   have c3 := copyEnts_con (m := m) t (by omega)
   by_cases k3 : codeI t o = 0
   · have k2 : opOk o = true := by
       unfold codeI at k3
       split at k3
       · assumption
       · cases k3
     have k4 : opCode t o = 0 := by
      unfold codeI at k3
      rw [if_pos k2] at k3
      exact k3
     have hx : treeDo t o = (doT t o, 0) := by simp [treeDo, k1, k2, k4]
     rw [hx]
     rw [k3] at c2
     have hp := opOk_path k2
     have c9 := sortEnts_con (m := m) (toldL t o) (doT t o) (fun S g1 g2 => told_one k1 k2 k4 g1 g2) (by have := toldL_len (t := t) (o := o) k1; omega)
     have hbl := toldB_len t o
     have e1 : (t.map Ent.c).length = t.length := List.length_map ..
     have hst := fun i x h => toldB_step (t := t) (o := o) (i := i) (x := x) h
     have hfin : toldL t o = toldB t o ++ (if o.kind = 1 ∨ o.kind = 2 then [⟨o.path, decide (o.kind = 1), o.data⟩] else []) := rfl
     generalize toldL t o = L at c9 hfin
     refine con_of_cd tyOk mix Tryz.func109 rfl rfl rfl (Nat.le_of_ble_eq_true rfl) ?_
     repeat' first | refine Ra ⟨?_⟩ | refine R0 c1 ⟨?_⟩ | refine R0 c2 ⟨?_⟩ | refine Rd (fun h => ⟨?_⟩) fun h => ⟨?_⟩ | refine Rb ⟨?_⟩ | fail
     refine Cd.loop2 (fun mq tm S nx => ∃ (i : Nat) (A : List Ent), mq = (t.length - i) ∧ tm = [(3, .bp 0 0), (7, .own 1), (21, .sl (t.map Ent.c)), (22, .k .i64 ((t.map Ent.c).length : Int)), (23, .k .i64 i)] ∧ S = [(0, .box 52 o.c), (1, .own 150 (A.map Ent.c))] ∧ nx = 2 ∧ (i ≤ t.length) ∧ (A = toldB (t.take i) o) ∧ (A.length ≤ i)) ?_ ?_
     · refine la [3, 7, 21, 22, 23] ?_
       conv => whnf
       refine ⟨rfl, rfl, _, 0, [], rfl, rfl, rfl, rfl, by omega, (by simp [toldB, offT]), by simp⟩
     · rintro mq tm S nx ⟨i, A, hn, rfl, rfl, rfl, hi, hA, hAl⟩
       have e2 : (A.map Ent.c).length = A.length := List.length_map ..
       rcases drop_or t i hi with ⟨rfl, hd⟩ | ⟨x, r, hx', hd, hr, hlt⟩
       · rw [List.take_length] at hA
         rw [← hA] at hfin
         rcases kinds k2 with hk | hk | hk | hk | hk
         · rw [if_pos (.inl hk)] at hfin
           rw [hfin, List.map_append] at c9
           have c9' : Con (E m) 177 1 [.own 0] [(0, .own 150 (A.map Ent.c ++ [[.s o.path, .b (decide (o.kind = 1)), .s o.data]]))] (.tup []) [(0, .own 150 ((doT t o).map Ent.c))] := c9
           repeat' first | refine Ra ⟨?_⟩ | refine Rk [3] 0 c9' ⟨?_⟩ | refine Rd (fun h => ⟨?_⟩) fun h => ⟨?_⟩ | refine Rb ⟨?_⟩ | fail
           exact Rf
         · rw [if_pos (.inr hk)] at hfin
           rw [hfin, List.map_append] at c9
           have c9' : Con (E m) 177 1 [.own 0] [(0, .own 150 (A.map Ent.c ++ [[.s o.path, .b (decide (o.kind = 1)), .s o.data]]))] (.tup []) [(0, .own 150 ((doT t o).map Ent.c))] := c9
           repeat' first | refine Ra ⟨?_⟩ | refine Rk [3] 0 c9' ⟨?_⟩ | refine Rd (fun h => ⟨?_⟩) fun h => ⟨?_⟩ | refine Rb ⟨?_⟩ | fail
           exact Rf
         all_goals
          rw [if_neg (by omega), List.append_nil] at hfin
          rw [hfin] at c9
          repeat' first | refine Ra ⟨?_⟩ | refine Rk [1] 0 c9 ⟨?_⟩ | refine Rd (fun h => ⟨?_⟩) fun h => ⟨?_⟩ | refine Rb ⟨?_⟩ | fail
          exact Rf
       · have g2 := hst i x hx'
         have hxp := (tree_mem k1 (List.mem_of_getElem? hx')).2.1
         have hxl := (pathOk_pos hxp).2
         by_cases hk : o.kind = 5
         · rw [if_pos hk] at g2
           have c5 := iPathMove_con (m := m) x.path o.path o.tgt (by omega) (by omega) (by omega)
           have hme : moveE o.path o.tgt x = ⟨(pathMove x.path o.path o.tgt).getD [], x.dir, x.data⟩ := rfl
           cases hm : pathMove x.path o.path o.tgt
           all_goals
            rw [hm] at c5 hme
            repeat' first | refine Ra ⟨?_⟩ | refine R0 c5 ⟨?_⟩ | refine Rd (fun h => ⟨?_⟩) fun h => ⟨?_⟩ | refine Rb ⟨?_⟩ | fail
            refine .here ⟨mq - 1, by omega, ?_⟩
            refine la [3, 7, 21, 22, 23] ?_
            conv => whnf
            refine ⟨rfl, rfl, i + 1, A ++ [moveE o.path o.tgt x], (by omega), rfl, ?_, rfl, by omega, (by rw [hA, g2]), (by simp; omega)⟩
            rw [hme, List.map_append]
            rfl
         · rw [if_neg hk] at g2
           by_cases hxo : x.path = o.path
           · rw [if_pos hxo, List.append_nil] at g2
             repeat' first | refine Ra ⟨?_⟩ | refine Rd (fun h => ⟨?_⟩) fun h => ⟨?_⟩ | refine Rb ⟨?_⟩ | fail
             refine .here ⟨mq - 1, by omega, ?_⟩
             refine la [3, 7, 21, 22, 23] ?_
             conv => whnf
             refine ⟨rfl, rfl, i + 1, A, (by omega), rfl, rfl, rfl, by omega, (by rw [hA, g2]), by omega⟩
           · rw [if_neg hxo] at g2
             repeat' first | refine Ra ⟨?_⟩ | refine Rd (fun h => ⟨?_⟩) fun h => ⟨?_⟩ | refine Rb ⟨?_⟩ | fail
             refine .here ⟨mq - 1, by omega, ?_⟩
             refine la [3, 7, 21, 22, 23] ?_
             conv => whnf
             refine ⟨rfl, rfl, i + 1, A ++ [x], (by omega), rfl, ?_, rfl, by omega, (by rw [hA, g2]), (by simp; omega)⟩
             rw [List.map_append]
             rfl
   · have hx : treeDo t o = (t, codeI t o) := by
       unfold codeI at k3 ⊢
       cases k2 : opOk o with
       | false => simp [treeDo, k1, k2]
       | true =>
         rw [k2] at k3
         simp only [if_true] at k3
         simp [treeDo, k1, k2, k3]
     rw [hx]
     refine con_of_cd tyOk mix Tryz.func109 rfl rfl rfl (Nat.le_of_ble_eq_true rfl) ?_
     repeat' first | refine Ra ⟨?_⟩ | refine R0 c1 ⟨?_⟩ | refine R0 c2 ⟨?_⟩ | refine Rk [] 1 c3 ⟨?_⟩ | refine Rd (fun h => ⟨?_⟩) fun h => ⟨?_⟩ | refine Rb ⟨?_⟩ | fail
     exact Rf
theorem entD_eq (o : Option Ent) : entD o = .tup [.agg (o.getD ent0).c, .b o.isSome] := by cases o <;> rfl
abbrev fe (X Y : Option Ent) : Bool := decide ((X.getD ent0).path = (Y.getD ent0).path) && (((X.getD ent0).dir == (Y.getD ent0).dir) && (decide ((X.getD ent0).data = (Y.getD ent0).data) && true))
abbrev fs (X Y : Option Ent) : Bool := X.isSome == Y.isSome
theorem fe_eq {X Y : Option Ent} (h : X = Y) : fe X Y = true := by subst h; simp [fe]
theorem fe_or {X Y : Option Ent} (h : X ≠ Y) : fs X Y = false ∨ (fs X Y = true ∧ fe X Y = false) := by
 cases X with
 | none =>
   cases Y with
   | none => exact absurd rfl h
   | some y => left; rfl
 | some x =>
   cases Y with
   | none => left; rfl
   | some y =>
     right
     refine ⟨rfl, ?_⟩
     rw [← Bool.not_eq_true]
     intro hf
     apply h
     obtain ⟨p, d, q⟩ := x
     obtain ⟨p', d', q'⟩ := y
     simp [fe] at hf
     simp [hf]
theorem iGet_con (t : List Ent) (p : Bs) (hb : ∀ e ∈ t, e.path.length ≤ 1073741824 ∧ e.data.length ≤ 1073741824) : Con (E m) 236 0 [.sl (t.map Ent.c), .s p] [] (entD (if treeOk t then entGet t p else none)) [] := by
 have c1 := iTreeOk_con (m := m) t hb
 cases hok : treeOk t with
 | false =>
   rw [hok] at c1
   refine con_of_cd tyOk mix Tryz.func236 rfl rfl rfl (Nat.le_of_ble_eq_true rfl) ?_
   repeat' first | refine Ra ⟨?_⟩ | refine R0 c1 ⟨?_⟩ | refine Rd (fun h => ⟨?_⟩) fun h => ⟨?_⟩ | refine Rb ⟨?_⟩ | fail
   exact Rf
 | true =>
   rw [hok] at c1
   have hl := treeOk_len hok
   have c2 := iAt_con (m := m) t p (by omega)
   simp only [if_true]
   unfold entGet
   by_cases hr : p = [47]
   · subst hr
     refine con_of_cd tyOk mix Tryz.func236 rfl rfl rfl (Nat.le_of_ble_eq_true rfl) ?_
     repeat' first | refine Ra ⟨?_⟩ | refine R0 c1 ⟨?_⟩ | refine Rd (fun h => ⟨?_⟩) fun h => ⟨?_⟩ | refine Rb ⟨?_⟩ | fail
     exact Rf
   · rw [if_neg hr]
     rw [entD_eq] at c2 ⊢
     refine con_of_cd tyOk mix Tryz.func236 rfl rfl rfl (Nat.le_of_ble_eq_true rfl) ?_
     repeat' first | refine Ra ⟨?_⟩ | refine R0 c1 ⟨?_⟩ | refine R0 c2 ⟨?_⟩ | refine Rd (fun h => ⟨?_⟩) fun h => ⟨?_⟩ | refine Rb ⟨?_⟩ | fail
     exact Rf
end Go.Proofs.YtlicaibhgcenhaaGreatDoor
namespace Go.Par
open Go.Ab
theorem turned_len (a b : List Ent) : (turnedL a b).length ≤ 32 := by
 unfold turnedL
 split
 · rename_i h
   rw [Bool.and_eq_true] at h
   refine Nat.le_trans (List.length_filter_le _ _) ?_
   rw [List.length_map]
   have h1 := putAll_len b a
   have := treeOk_len h.1
   have := treeOk_len h.2
   omega
 · simp
theorem filter_step {l : List Bs} {i : Nat} {x : Bs} (p : Bs → Bool) (h : l[i]? = some x) : ((l.take (i + 1)).filter p).length = ((l.take i).filter p).length + if p x then 1 else 0 := by
 rw [List.take_add_one, h, List.filter_append, List.length_append]
 congr 1
 cases hp : p x <;> simp [hp]
end Go.Par
