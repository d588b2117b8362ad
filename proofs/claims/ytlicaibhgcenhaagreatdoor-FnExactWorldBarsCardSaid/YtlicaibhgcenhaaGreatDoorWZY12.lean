/- Texts of this claim, set close: lemmas and contracts. -/
import Derived.Test.YtlicaibhgcenhaaGreatDoorWZY11
import Derived.Test.YtlicaibhgcenhaaGreatDoorWZY6
set_option linter.unusedSimpArgs false
set_option linter.unusedVariables false
set_option maxHeartbeats 1000000
set_option maxRecDepth 10000
namespace Go.Proofs.YtlicaibhgcenhaaGreatDoor
open Go Go.RowKit Go.Ab Go.Par
variable {m : Int}
def moveD : Option Bs → D
 | some o => .tup [.s o, .b true]
 | none => .tup [.s [], .b false]
theorem sPathMove_con (s a b : Bs) (hs : s.length ≤ 1073741823) (ha : a.length ≤ 1073741823) (hb : b.length ≤ 1073741823) : Con (E m) 310 0 [.s s, .s a, .s b] [] (moveD (pathMove s a b)) [] := by
 have c1 := sPathOk_con (m := m) s (by omega)
 have c2 := sPathOk_con (m := m) a (by omega)
 have c3 := sPathOk_con (m := m) b (by omega)
 have c4 := sl1Under_con (m := m) s a (by omega) (by omega)
 cases h1 : pathOk s with
 | false =>
   have hx : pathMove s a b = none := by simp [pathMove, h1]
   rw [hx]
   rw [h1] at c1
   refine con_of_cd tyOk mix Tryz.func310 rfl rfl rfl (Nat.le_of_ble_eq_true rfl) ?_
   repeat' first | refine Ra ⟨?_⟩ | refine R0 c1 ⟨?_⟩ | refine Rd (fun h => ⟨?_⟩) fun h => ⟨?_⟩ | refine Rb ⟨?_⟩ | fail
   exact Rf
 | true =>
   cases h2 : pathOk a with
   | false =>
     have hx : pathMove s a b = none := by simp [pathMove, h2]
     rw [hx]
     rw [h1] at c1
     rw [h2] at c2
     refine con_of_cd tyOk mix Tryz.func310 rfl rfl rfl (Nat.le_of_ble_eq_true rfl) ?_
     repeat' first | refine Ra ⟨?_⟩ | refine R0 c1 ⟨?_⟩ | refine R0 c2 ⟨?_⟩ | refine Rd (fun h => ⟨?_⟩) fun h => ⟨?_⟩ | refine Rb ⟨?_⟩ | fail
     exact Rf
   | true =>
     cases h3 : pathOk b with
     | false =>
       have hx : pathMove s a b = none := by simp [pathMove, h3]
       rw [hx]
       rw [h1] at c1
       rw [h2] at c2
       rw [h3] at c3
       refine con_of_cd tyOk mix Tryz.func310 rfl rfl rfl (Nat.le_of_ble_eq_true rfl) ?_
       repeat' first | refine Ra ⟨?_⟩ | refine R0 c1 ⟨?_⟩ | refine R0 c2 ⟨?_⟩ | refine R0 c3 ⟨?_⟩ | refine Rd (fun h => ⟨?_⟩) fun h => ⟨?_⟩ | refine Rb ⟨?_⟩ | fail
       exact Rf
     | true =>
       rw [h1] at c1
       rw [h2] at c2
       rw [h3] at c3
       have hrt := pathOk_ne h2
       by_cases hc : s ≠ a ∧ under s a = false
       · have hx : pathMove s a b = some s := by simp [pathMove, h1, h2, h3, hc.1, hc.2]
         obtain ⟨hc1, hc2⟩ := hc
         rw [hx]
         rw [hc2] at c4
         refine con_of_cd tyOk mix Tryz.func310 rfl rfl rfl (Nat.le_of_ble_eq_true rfl) ?_
         repeat' first | refine Ra ⟨?_⟩ | refine R0 c1 ⟨?_⟩ | refine R0 c2 ⟨?_⟩ | refine R0 c3 ⟨?_⟩ | refine R0 c4 ⟨?_⟩ | refine Rd (fun h => ⟨?_⟩) fun h => ⟨?_⟩ | refine Rb ⟨?_⟩ | fail
         exact Rf
       · have hlen : a.length ≤ s.length := by
           by_cases he : s = a
           · rw [he]; exact Nat.le_refl _
           · have hu : under s a = true := by
               cases hu : under s a with
               | true => rfl
               | false => exact absurd ⟨he, hu⟩ hc
             have := under_len hu hrt
             omega
         have c5 := sPathOk_con (m := m) (b ++ (s.take s.length).drop a.length) (by
          have := (pathOk_pos h1).2
          have := (pathOk_pos h3).2
          simp; omega)
         have hx : pathMove s a b = if pathOk (b ++ (s.take s.length).drop a.length) then some (b ++ (s.take s.length).drop a.length) else none := by
          unfold pathMove
          rw [h1, h2, h3, List.take_length]
          simp only [Bool.and_self, if_true]
          rw [if_neg hc]
         rw [hx]
         by_cases he : s = a
         all_goals
          cases h5 : pathOk (b ++ (s.take s.length).drop a.length)
          all_goals
           rw [h5] at c5
           have hu : s = a ∨ under s a = true := by
            by_cases he : s = a
            · exact .inl he
            · right
              cases hu : under s a with
              | true => rfl
              | false => exact absurd ⟨he, hu⟩ hc
           try rw [hu.resolve_left he] at c4
           simp only [if_true, if_false, Bool.false_eq_true]
           refine con_of_cd tyOk mix Tryz.func310 rfl rfl rfl (Nat.le_of_ble_eq_true rfl) ?_
           repeat' first | refine Ra ⟨?_⟩ | refine R0 c1 ⟨?_⟩ | refine R0 c2 ⟨?_⟩ | refine R0 c3 ⟨?_⟩ | refine R0 c4 ⟨?_⟩ | refine R0 c5 ⟨?_⟩ | refine Rd (fun h => ⟨?_⟩) fun h => ⟨?_⟩ | refine Rb ⟨?_⟩ | fail
           exact Rf
theorem sPathName_con (s : Bs) (hs : s.length ≤ 1073741823) : Con (E m) 199 0 [.s s] [] (.s (Par.pathName s)) [] := by
 have h1 := sPathOk_con (m := m) s (by omega)
 have hl := slash_le s
 cases hok : pathOk s with
 | false =>
   have hx : Par.pathName s = [] := by simp [Par.pathName, hok]
   rw [hx]
   rw [hok] at h1
   refine con_of_cd tyOk mix Tryz.func199 rfl rfl rfl (Nat.le_of_ble_eq_true rfl) ?_
   repeat' first | refine Ra ⟨?_⟩ | refine R0 h1 ⟨?_⟩ | refine Rd (fun h => ⟨?_⟩) fun h => ⟨?_⟩ | refine Rb ⟨?_⟩ | fail
   exact Rf
 | true =>
   rw [hok] at h1
   have hp := pathOk_pos hok
   have hsl : slash s + 1 ≤ s.length := by
    have := slashAt_le s (s.length - 1)
    unfold slash
    omega
   have hx : Par.pathName s = (s.take s.length).drop (slash s + 1) := by rw [Par.pathName, if_pos hok, List.take_length]
   rw [hx]
   refine con_of_cd tyOk mix Tryz.func199 rfl rfl rfl (Nat.le_of_ble_eq_true rfl) ?_
   repeat' first | refine Ra ⟨?_⟩ | refine R0 h1 ⟨?_⟩ | refine R0 (sSlash_con s hp.1 (by omega)) ⟨?_⟩ | (refine ⟨slash s + 1, rfl, ?_⟩ <;> conv => whnf) | refine Rd (fun h => ⟨?_⟩) fun h => ⟨?_⟩ | refine Rb ⟨?_⟩ | fail
   exact Rf
theorem sGet_con (t : List Ent) (p : Bs) (ht : t.length ≤ 1073741824) : Con (E m) 132 0 [.sl (t.map Ent.c), .s p] [] (entD (entGet t p)) [] := by
 by_cases hr : p = [47]
 · subst hr
   have hx : entGet t [47] = some rootE := by simp [entGet]
   rw [hx]
   refine con_of_cd tyOk mix Tryz.func132 rfl rfl rfl (Nat.le_of_ble_eq_true rfl) ?_
   repeat' first | refine Ra ⟨?_⟩ | refine Rd (fun h => ⟨?_⟩) fun h => ⟨?_⟩ | refine Rb ⟨?_⟩ | fail
   exact Rf
 · have hx : entGet t p = entAt t p := by simp [entGet, hr]
   rw [hx]
   have c1 := sFind_con (m := m) t p ht
   rcases entIx_or t p with ⟨i, hi, hlt, he⟩ | ⟨hi, he⟩
   · rw [hi] at c1
     rw [he]
     refine con_of_cd tyOk mix Tryz.func132 rfl rfl rfl (Nat.le_of_ble_eq_true rfl) ?_
     repeat' first | refine Ra ⟨?_⟩ | refine R0 c1 ⟨?_⟩ | refine Rd (fun h => ⟨?_⟩) fun h => ⟨?_⟩ | refine Rb ⟨?_⟩ | fail
     exact Rf
   · rw [hi] at c1
     rw [he]
     refine con_of_cd tyOk mix Tryz.func132 rfl rfl rfl (Nat.le_of_ble_eq_true rfl) ?_
     repeat' first | refine Ra ⟨?_⟩ | refine R0 c1 ⟨?_⟩ | refine Rd (fun h => ⟨?_⟩) fun h => ⟨?_⟩ | refine Rb ⟨?_⟩ | fail
     exact Rf
theorem kids_step (t : List Ent) (p : Bs) {i : Nat} {x : Ent} (h : t[i]? = some x) : kids (t.take (i + 1)) p = kids (t.take i) p ++ if pathUp x.path = p then [Par.pathName x.path] else [] := by
 unfold kids
 rw [filter_take_succ h, List.map_append]
 congr 1
 by_cases hp : pathUp x.path = p <;> simp [hp]
theorem sKids_con (t : List Ent) (p : Bs) (ht : t.length ≤ 1073741824) (hb : bndE 1073741823 t) : Con (E m) 133 0 [.sl (t.map Ent.c), .s p] [] (.own 0) [(0, .own 9 ((kids t p).map fun l => [.s l]))] := by
 refine con_of_cd tyOk mix Tryz.func133 rfl rfl rfl (Nat.le_of_ble_eq_true rfl) ?_
 repeat' first | refine Ra ⟨?_⟩ | refine Rd (fun h => ⟨?_⟩) fun h => ⟨?_⟩ | refine Rb ⟨?_⟩ | fail
 refine Cd.loop2 (fun mq tm S nx => ∃ (i : Nat) (xs : List (List D)), mq = (t.length - i) ∧ tm = [(0, .sl (t.map Ent.c)), (1, .s p), (5, .own 0), (6, .k .i64 i)] ∧ S = [(0, .own 9 xs)] ∧ nx = 1 ∧ (i ≤ t.length) ∧ (xs = (kids (t.take i) p).map fun l => [.s l])) ?_ ?_
 · refine la [0, 1, 5, 6] ?_
   conv => whnf
   refine ⟨rfl, rfl, _, 0, [], rfl, rfl, rfl, rfl, Nat.zero_le _, rfl⟩
 · rintro mq tm S nx ⟨i, xs, hn, rfl, rfl, rfl, hi, hx⟩
   have hxl : xs.length ≤ i := by rw [hx, List.length_map]; have := kids_len (t.take i) p; rw [List.length_take] at this; omega
   rcases drop_or t i hi with ⟨rfl, hd⟩ | ⟨x, r, hx', hd, hr, hlt⟩
   · rw [List.take_length] at hx
     rw [← hx]
     repeat' first | refine Ra ⟨?_⟩ | refine Rd (fun h => ⟨?_⟩) fun h => ⟨?_⟩ | refine Rb ⟨?_⟩ | fail
     exact Rf
   · have hbx := hb x (List.mem_of_getElem? hx')
     have c1 := sUp_con (m := m) x.path (by omega)
     have c2 := sPathName_con (m := m) x.path (by omega)
     have hs := kids_step t p hx'
     by_cases hp : pathUp x.path = p
     · rw [if_pos hp] at hs
       repeat' first | refine Ra ⟨?_⟩ | refine R0 c1 ⟨?_⟩ | refine R0 c2 ⟨?_⟩ | refine Rd (fun h => ⟨?_⟩) fun h => ⟨?_⟩ | refine Rb ⟨?_⟩ | fail
       refine .here ⟨mq - 1, by omega, ?_⟩
       refine la [0, 1, 5, 6] ?_
       conv => whnf
       refine ⟨rfl, rfl, i + 1, _, (by omega), rfl, rfl, rfl, by omega, (by rw [hs, hx, List.map_append]; rfl)⟩
     · rw [if_neg hp, List.append_nil] at hs
       repeat' first | refine Ra ⟨?_⟩ | refine R0 c1 ⟨?_⟩ | refine R0 c2 ⟨?_⟩ | refine Rd (fun h => ⟨?_⟩) fun h => ⟨?_⟩ | refine Rb ⟨?_⟩ | fail
       refine .here ⟨mq - 1, by omega, ?_⟩
       refine la [0, 1, 5, 6] ?_
       conv => whnf
       refine ⟨rfl, rfl, i + 1, _, (by omega), rfl, rfl, rfl, by omega, (by rw [hs, hx])⟩
theorem sUpCode_con (t : List Ent) (p : Bs) (ht : t.length ≤ 1073741824) (hp : p.length ≤ 1073741824) : Con (E m) 309 0 [.sl (t.map Ent.c), .s p] [] (.k .i64 (upCode t p)) [] := by
 have c1 := sUp_con (m := m) p hp
 have c2 := sGet_con (m := m) t (pathUp p) ht
 rw [upCode_get]
 cases he : entGet t (pathUp p) with
 | none =>
   rw [he] at c2
   refine con_of_cd tyOk mix Tryz.func309 rfl rfl rfl (Nat.le_of_ble_eq_true rfl) ?_
   repeat' first | refine Ra ⟨?_⟩ | refine R0 c1 ⟨?_⟩ | refine R0 c2 ⟨?_⟩ | refine Rd (fun h => ⟨?_⟩) fun h => ⟨?_⟩ | refine Rb ⟨?_⟩ | fail
   exact Rf
 | some e =>
   rw [he] at c2
   cases hd : e.dir
   all_goals
    simp only [Ent.c, entD, hd] at c2
    simp only [hd, if_true, if_false, Bool.false_eq_true]
    refine con_of_cd tyOk mix Tryz.func309 rfl rfl rfl (Nat.le_of_ble_eq_true rfl) ?_
    repeat' first | refine Ra ⟨?_⟩ | refine R0 c1 ⟨?_⟩ | refine R0 c2 ⟨?_⟩ | refine Rd (fun h => ⟨?_⟩) fun h => ⟨?_⟩ | refine Rb ⟨?_⟩ | fail
    exact Rf
theorem sNew_con (t : List Ent) (p : Bs) (ht : t.length ≤ 1073741824) (hp : p.length ≤ 1073741824) : Con (E m) 274 0 [.sl (t.map Ent.c), .s p] [] (.k .i64 (newCode t p)) [] := by
 have c1 := sUpCode_con (m := m) t p ht hp
 have c2 := sGet_con (m := m) t p ht
 cases he : entGet t p
 all_goals
  rw [he] at c2
  refine con_of_cd tyOk mix Tryz.func274 rfl rfl rfl (Nat.le_of_ble_eq_true rfl) ?_
  repeat' first | refine Ra ⟨?_⟩ | refine R0 c1 ⟨?_⟩ | refine R0 c2 ⟨?_⟩ | refine Rd (fun h => ⟨?_⟩) fun h => ⟨?_⟩ | refine Rb ⟨?_⟩ | fail
  all_goals
   refine Rg ⟨?_⟩
   first | rfl | (simp_all [newCode, he]; done) | (simp [newCode, he] <;> (repeat' split) <;> omega) | (simp only [newCode, he]; repeat' split) <;> first | omega | (simp_all; done) | (simp_all; omega) | (rw [Bool.eq_iff_iff]; simp [*, newCode, he] <;> omega)
theorem sPutCode_con (t : List Ent) (p : Bs) (ht : t.length ≤ 1073741824) (hp : p.length ≤ 1073741824) : Con (E m) 275 0 [.sl (t.map Ent.c), .s p] [] (.k .i64 (putCode t p)) [] := by
 have c1 := sNew_con (m := m) t p ht hp
 have c2 := sGet_con (m := m) t p ht
 cases he : entGet t p with
 | none =>
   rw [he] at c2
   refine con_of_cd tyOk mix Tryz.func275 rfl rfl rfl (Nat.le_of_ble_eq_true rfl) ?_
   repeat' first | refine Ra ⟨?_⟩ | refine R0 c1 ⟨?_⟩ | refine R0 c2 ⟨?_⟩ | refine Rd (fun h => ⟨?_⟩) fun h => ⟨?_⟩ | refine Rb ⟨?_⟩ | fail
   all_goals
    refine Rg ⟨?_⟩
    first | rfl | (simp_all [putCode, isDirO]; done) | (simp [putCode, isDirO] <;> (repeat' split) <;> omega) | (simp only [putCode, isDirO]; repeat' split) <;> first | omega | (simp_all; done) | (simp_all; omega) | (rw [Bool.eq_iff_iff]; simp [*, putCode, isDirO] <;> omega)
 | some e =>
   rw [he] at c2
   cases hd : e.dir
   all_goals
    simp only [Ent.c, entD, hd] at c2
    refine con_of_cd tyOk mix Tryz.func275 rfl rfl rfl (Nat.le_of_ble_eq_true rfl) ?_
    repeat' first | refine Ra ⟨?_⟩ | refine R0 c1 ⟨?_⟩ | refine R0 c2 ⟨?_⟩ | refine Rd (fun h => ⟨?_⟩) fun h => ⟨?_⟩ | refine Rb ⟨?_⟩ | fail
    all_goals
     refine Rg ⟨?_⟩
     first | rfl | (simp_all [putCode, isDirO]; done) | (simp [putCode, isDirO] <;> (repeat' split) <;> omega) | (simp only [putCode, isDirO]; repeat' split) <;> first | omega | (simp_all; done) | (simp_all; omega) | (rw [Bool.eq_iff_iff]; simp [*, putCode, isDirO] <;> omega)
theorem sOffCode_con (t : List Ent) (o : Opn) (ht : t.length ≤ 1073741824) (hb : bndE 1073741823 t) : Con (E m) 277 0 [.sl (t.map Ent.c), .agg o.c] [] (.k .i64 (offCode t o)) [] := by
 have c1 := sGet_con (m := m) t o.path ht
 have c2 := sKids_con (m := m) t o.path ht hb
 unfold offCode
 cases he : entGet t o.path with
 | none =>
   rw [he] at c1
   refine con_of_cd tyOk mix Tryz.func277 rfl rfl rfl (Nat.le_of_ble_eq_true rfl) ?_
   repeat' first | refine Ra ⟨?_⟩ | refine R0 c1 ⟨?_⟩ | refine Rd (fun h => ⟨?_⟩) fun h => ⟨?_⟩ | refine Rb ⟨?_⟩ | fail
   exact Rf
 | some e =>
   rw [he] at c1
   cases hd : e.dir
   all_goals
    simp only [Ent.c, entD, hd] at c1
    refine con_of_cd tyOk mix Tryz.func277 rfl rfl rfl (Nat.le_of_ble_eq_true rfl) ?_
    repeat' first | refine Ra ⟨?_⟩ | refine R0 c1 ⟨?_⟩ | refine Rk [] 1 c2 ⟨?_⟩ | refine Rd (fun h => ⟨?_⟩) fun h => ⟨?_⟩ | refine Rb ⟨?_⟩ | fail
    all_goals
     exact Rf
theorem sMoveCode_con (t : List Ent) (o : Opn) (ht : t.length ≤ 1073741824) (hb : bndE 1073741823 t) (h1 : o.path.length ≤ 1073741823) (h2 : o.tgt.length ≤ 1073741823) : Con (E m) 276 0 [.sl (t.map Ent.c), .agg o.c] [] (.k .i64 (moveCode t o)) [] := by
 have c1 := sGet_con (m := m) t o.path ht
 have c2 := sUpCode_con (m := m) t o.tgt ht (by omega)
 have c3 := sGet_con (m := m) t o.tgt ht
 have c4 := sl1Under_con (m := m) o.tgt o.path (by omega) (by omega)
 cases he : entGet t o.path with
 | none =>
   rw [he] at c1
   have hx : moveCode t o = 2 := by simp [moveCode, he]
   rw [hx]
   cases hf : entGet t o.tgt
   all_goals
    rw [hf] at c3
    refine con_of_cd tyOk mix Tryz.func276 rfl rfl rfl (Nat.le_of_ble_eq_true rfl) ?_
    repeat' first | refine Ra ⟨?_⟩ | refine R0 c1 ⟨?_⟩ | refine R0 c2 ⟨?_⟩ | refine R0 c3 ⟨?_⟩ | refine Rd (fun h => ⟨?_⟩) fun h => ⟨?_⟩ | refine Rb ⟨?_⟩ | fail
    exact Rf
 | some e =>
   rw [he] at c1
   by_cases hu : upCode t o.tgt = 0
   · rw [hu] at c2
     cases hf : entGet t o.tgt with
     | some f =>
       rw [hf] at c3
       have hx : moveCode t o = 4 := by simp [moveCode, he, hu, hf]
       rw [hx]
       refine con_of_cd tyOk mix Tryz.func276 rfl rfl rfl (Nat.le_of_ble_eq_true rfl) ?_
       repeat' first | refine Ra ⟨?_⟩ | refine R0 c1 ⟨?_⟩ | refine R0 c2 ⟨?_⟩ | refine R0 c3 ⟨?_⟩ | refine Rd (fun h => ⟨?_⟩) fun h => ⟨?_⟩ | refine Rb ⟨?_⟩ | fail
       exact Rf
     | none =>
       rw [hf] at c3
       cases hv : under o.tgt o.path with
       | true =>
         rw [hv] at c4
         have hx : moveCode t o = 7 := by simp [moveCode, he, hu, hf, hv]
         rw [hx]
         refine con_of_cd tyOk mix Tryz.func276 rfl rfl rfl (Nat.le_of_ble_eq_true rfl) ?_
         repeat' first | refine Ra ⟨?_⟩ | refine R0 c1 ⟨?_⟩ | refine R0 c2 ⟨?_⟩ | refine R0 c3 ⟨?_⟩ | refine R0 c4 ⟨?_⟩ | refine Rd (fun h => ⟨?_⟩) fun h => ⟨?_⟩ | refine Rb ⟨?_⟩ | fail
         exact Rf
       | false =>
         rw [hv] at c4
         have hx : moveCode t o = if t.all (fun e => (pathMove e.path o.path o.tgt).isSome) then 0 else 8 := by simp [moveCode, he, hu, hf, hv]
         rw [hx]
         refine con_of_cd tyOk mix Tryz.func276 rfl rfl rfl (Nat.le_of_ble_eq_true rfl) ?_
         repeat' first | refine Ra ⟨?_⟩ | refine R0 c1 ⟨?_⟩ | refine R0 c2 ⟨?_⟩ | refine R0 c3 ⟨?_⟩ | refine R0 c4 ⟨?_⟩ | refine Rd (fun h => ⟨?_⟩) fun h => ⟨?_⟩ | refine Rb ⟨?_⟩ | fail
         refine Cd.loop2 (fun mq tm S nx => ∃ (i : Nat), mq = (t.length - i) ∧ tm = [(0, .sl (t.map Ent.c)), (3, .bp 0 0), (10, .k .i64 i)] ∧ S = [(0, .box 52 o.c)] ∧ nx = 1 ∧ (i ≤ t.length) ∧ ((t.take i).all (fun e => (pathMove e.path o.path o.tgt).isSome) = true)) ?_ ?_
         · refine la [0, 3, 10] ?_
           conv => whnf
           refine ⟨rfl, rfl, _, 0, rfl, rfl, rfl, rfl, Nat.zero_le _, rfl⟩
         · rintro mq tm S nx ⟨i, hn, rfl, rfl, rfl, hi, ha⟩
           rcases drop_or t i hi with ⟨rfl, hd⟩ | ⟨x, r, hx', hd, hr, hlt⟩
           · rw [List.take_length] at ha
             rw [ha]
             repeat' first | refine Ra ⟨?_⟩ | refine Rd (fun h => ⟨?_⟩) fun h => ⟨?_⟩ | refine Rb ⟨?_⟩ | fail
             exact Rf
           · have hbx := hb x (List.mem_of_getElem? hx')
             have c5 := sPathMove_con (m := m) x.path o.path o.tgt (by omega) (by omega) (by omega)
             cases hm : pathMove x.path o.path o.tgt with
             | none =>
               rw [hm] at c5
               have hf : t.all (fun e => (pathMove e.path o.path o.tgt).isSome) = false := all_false hx' (by simp [hm])
               rw [hf]
               repeat' first | refine Ra ⟨?_⟩ | refine R0 c5 ⟨?_⟩ | refine Rd (fun h => ⟨?_⟩) fun h => ⟨?_⟩ | refine Rb ⟨?_⟩ | fail
               exact Rf
             | some y =>
               rw [hm] at c5
               repeat' first | refine Ra ⟨?_⟩ | refine R0 c5 ⟨?_⟩ | refine Rd (fun h => ⟨?_⟩) fun h => ⟨?_⟩ | refine Rb ⟨?_⟩ | fail
               refine .here ⟨mq - 1, by omega, ?_⟩
               refine la [0, 3, 10] ?_
               conv => whnf
               refine ⟨rfl, rfl, i + 1, (by omega), rfl, rfl, rfl, by omega, (all_take_succ ha hx' (by simp [hm]))⟩
   · have hx : moveCode t o = upCode t o.tgt := by simp [moveCode, he, hu]
     rw [hx]
     cases hf : entGet t o.tgt
     all_goals
      rw [hf] at c3
      refine con_of_cd tyOk mix Tryz.func276 rfl rfl rfl (Nat.le_of_ble_eq_true rfl) ?_
      repeat' first | refine Ra ⟨?_⟩ | refine R0 c1 ⟨?_⟩ | refine R0 c2 ⟨?_⟩ | refine R0 c3 ⟨?_⟩ | refine Rd (fun h => ⟨?_⟩) fun h => ⟨?_⟩ | refine Rb ⟨?_⟩ | fail
      exact Rf
theorem sCode_con (t : List Ent) (o : Opn) (ht : t.length ≤ 1073741824) (hb : bndE 1073741823 t) (h1 : o.path.length ≤ 1073741823) (h2 : o.tgt.length ≤ 1073741823) : Con (E m) 225 0 [.sl (t.map Ent.c), .agg o.c] [] (.k .i64 (opCode t o)) [] := by
 have c1 := sNew_con (m := m) t o.path ht (by omega)
 have c2 := sPutCode_con (m := m) t o.path ht (by omega)
 have c3 := sMoveCode_con (m := m) t o ht hb h1 h2
 have c4 := sOffCode_con (m := m) t o ht hb
 refine con_of_cd tyOk mix Tryz.func225 rfl rfl rfl (Nat.le_of_ble_eq_true rfl) ?_
 repeat' first | refine Ra ⟨?_⟩ | refine R0 c1 ⟨?_⟩ | refine R0 c2 ⟨?_⟩ | refine R0 c3 ⟨?_⟩ | refine R0 c4 ⟨?_⟩ | refine Rd (fun h => ⟨?_⟩) fun h => ⟨?_⟩ | refine Rb ⟨?_⟩ | fail
 all_goals
  refine Rg ⟨?_⟩
  first | rfl | (simp_all [opCode]; done) | (simp [opCode] <;> (repeat' split) <;> omega) | (simp only [opCode]; repeat' split) <;> first | omega | (simp_all; done) | (simp_all; omega) | (rw [Bool.eq_iff_iff]; simp [*, opCode] <;> omega)
noncomputable abbrev rd (l : Bs) (p : Int) : Blk := .box 131 [.sl (bytesOf l), .k .i64 p]
noncomputable def pickV (m : Int) (l : Bs) (p n : Int) : Int :=
 open Classical in if h : ∃ r : Int, 0 ≤ r ∧ (r < n ∨ r = 0) ∧ Con (E m) 33 1 [.bp 0 0, .k .i64 n] [(0, rd l p)] (.k .i64 r) [(0, rd l (p + 1))] then h.choose else 0
noncomputable def ofV (m : Int) (l : Bs) (p : Int) (ls : List Bs) : Bs := ls.getD (pickV m l p ls.length).toNat []
end Go.Proofs.YtlicaibhgcenhaaGreatDoor
