/- Texts of this claim, set close: lemmas and contracts. -/
import Derived.Test.YtlicaibhgcenhaaGreatDoorWZY31
set_option linter.unusedSimpArgs false
set_option linter.unusedVariables false
set_option maxHeartbeats 1000000
set_option maxRecDepth 10000
namespace Go.Proofs.YtlicaibhgcenhaaGreatDoor
open Go Go.RowKit Go.Ab Go.Par
variable {m : Int}
theorem sLayerSame_con (t u : List Mrk) (ht : t.length ≤ 1048576) (hu : u.length ≤ 1048576) : Con (E m) 223 0 [.sl (t.map Mrk.c), .sl (u.map Mrk.c)] [] (.b (decide (t = u))) [] := by
 have e1 : (t.map Mrk.c).length = t.length := List.length_map ..
 have e2 : (u.map Mrk.c).length = u.length := List.length_map ..
 by_cases hl : t.length = u.length
 · refine con_of_cd tyOk mix Tryz.func223 rfl rfl rfl (Nat.le_of_ble_eq_true rfl) ?_
   repeat' first | refine Ra ⟨?_⟩ | refine Rd (fun h => ⟨?_⟩) fun h => ⟨?_⟩ | refine Rb ⟨?_⟩ | fail
   refine Cd.loop2 (fun mq tm S nx => ∃ (i : Nat), mq = (t.length - i) ∧ tm = [(0, .sl (t.map Mrk.c)), (1, .sl (u.map Mrk.c)), (5, .k .i64 i)] ∧ S = [] ∧ nx = 0 ∧ (i ≤ t.length) ∧ (t.take i = u.take i)) ?_ ?_
   · refine la [0, 1, 5] ?_
     conv => whnf
     refine ⟨rfl, rfl, _, 0, rfl, rfl, rfl, rfl, by omega, rfl⟩
   · rintro mq tm S nx ⟨i, hn, rfl, rfl, rfl, hi, ha⟩
     by_cases hlt : i < t.length
     · have g1 : t[i]? = some t[i] := List.getElem?_eq_getElem hlt
       have g2 : u[i]? = some (u[i]'(by omega)) := List.getElem?_eq_getElem (by omega)
       generalize t[i] = x at g1
       generalize u[i]'(by omega) = y at g2
       by_cases hxy : x = y
       · subst hxy
         have e3 := em_eq x
         repeat' first | refine Ra ⟨?_⟩ | refine Rd (fun h => ⟨?_⟩) fun h => ⟨?_⟩ | refine Rb ⟨?_⟩ | fail
         refine .here ⟨mq - 1, by omega, ?_⟩
         refine la [0, 1, 5] ?_
         conv => whnf
         refine ⟨rfl, rfl, i + 1, (by omega), rfl, rfl, rfl, by omega, take_step g1 g2 ha⟩
       · have e3 := em_ne hxy
         have e4 : decide (t = u) = false := decide_eq_false (ne_at g1 g2 hxy)
         rw [e4]
         repeat' first | refine Ra ⟨?_⟩ | refine Rd (fun h => ⟨?_⟩) fun h => ⟨?_⟩ | refine Rb ⟨?_⟩ | fail
         exact Rf
     · have e4 : decide (t = u) = true := decide_eq_true (take_all hl (by omega) ha)
       rw [e4]
       repeat' first | refine Ra ⟨?_⟩ | refine Rd (fun h => ⟨?_⟩) fun h => ⟨?_⟩ | refine Rb ⟨?_⟩ | fail
       exact Rf
 · have e4 : decide (t = u) = false := decide_eq_false (fun h => hl (by rw [h]))
   rw [e4]
   refine con_of_cd tyOk mix Tryz.func223 rfl rfl rfl (Nat.le_of_ble_eq_true rfl) ?_
   repeat' first | refine Ra ⟨?_⟩ | refine Rd (fun h => ⟨?_⟩) fun h => ⟨?_⟩ | refine Rb ⟨?_⟩ | fail
   exact Rf
theorem diffS_step {a b : List Ent} {W : List Bs} {i : Nat} {p : Bs} (h : W[i]? = some p) : (W.take (i + 1)).foldl (diffS a b) [] = diffS a b ((W.take i).foldl (diffS a b) []) p := by
 rw [List.take_add_one, h, List.foldl_append]
 rfl
theorem sDiff_con (a b : List Ent) (ha : treeOk a = true) (hb : treeOk b = true) : Con (E m) 224 0 [.sl (a.map Ent.c), .sl (b.map Ent.c)] [] (.sl ((diffL a b).map Mrk.c)) [] := by
 have c1 := sTurned_con (m := m) a b ha hb
 have hbl := treeOk_len hb
 have hWl := turned_len a b
 have hW := fun p (hp : p ∈ turnedL a b) => turned_ok ha hb hp
 have hne := fun p (hp : p ∈ turnedL a b) => (turned_mem ha hb).1 hp
 have hD : diffL a b = (turnedL a b).foldl (diffS a b) [] := rfl
 rw [hD]
 generalize turnedL a b = W at c1 hWl hW hne
 have e1 : (strs W).length = W.length := List.length_map ..
 refine con_of_cd tyOk mix Tryz.func224 rfl rfl rfl (Nat.le_of_ble_eq_true rfl) ?_
 repeat' first | refine Ra ⟨?_⟩ | refine R0 c1 ⟨?_⟩ | refine Rd (fun h => ⟨?_⟩) fun h => ⟨?_⟩ | refine Rb ⟨?_⟩ | fail
 refine Cd.loop2 (fun mq tm S nx => ∃ (i : Nat) (R : List Mrk), mq = (W.length - i) ∧ tm = [(1, .sl (b.map Ent.c)), (5, .sl (R.map Mrk.c)), (6, .sl (strs W)), (7, .k .i64 i)] ∧ S = [] ∧ nx = 0 ∧ (i ≤ W.length) ∧ (R = (W.take i).foldl (diffS a b) []) ∧ (R.length ≤ 13 * i)) ?_ ?_
 · refine li [5] [1, 5, 6, 7] ?_
   conv => whnf
   refine ⟨rfl, rfl, _, 0, [], rfl, rfl, rfl, rfl, by omega, (by simp), by simp⟩
 · rintro mq tm S nx ⟨i, R, hn, rfl, rfl, rfl, hi, hR, hRl⟩
   rcases drop_or W i hi with ⟨rfl, hd⟩ | ⟨p, r, hp', hd, hr, hlt⟩
   · rw [List.take_length] at hR
     rw [← hR]
     repeat' first | refine Ra ⟨?_⟩ | refine Rd (fun h => ⟨?_⟩) fun h => ⟨?_⟩ | refine Rb ⟨?_⟩ | fail
     exact Rf
   · have g1 := diffS_step (a := a) (b := b) hp'
     rw [← hR] at g1
     have hpk := hW p (List.mem_of_getElem? hp')
     have hpn := hne p (List.mem_of_getElem? hp')
     have hpl := (pathOk_pos hpk).2
     have hpr : p ≠ [47] := pathOk_ne hpk
     have c2 := sGet_con (m := m) b p (by omega)
     rw [entGet_ne hpr] at c2
     have c3 := sUp_con (m := m) p (by omega)
     have c4 := sDir_con (m := m) b (pathUp p) (by omega)
     have cP := fun (x : Mrk) => sPutM_con (m := m) R x (by omega)
     have cU := fun (x : Mrk) => sUps_con (m := m) 12 (putM R x) p hpl hpk (by have := (putM_len R x).2; omega)
     have hL := fun (x : Mrk) => Nat.le_trans (upsM_len 12 (putM R x) p) (Nat.add_le_add_right (putM_len R x).2 12)
     cases he : entAt b p with
     | some e =>
       rw [he] at c2
       cases hd : e.dir with
       | true =>
         have hq := dir_eta hb he hd
         have kx : baseM a b p = some ⟨p, 2, []⟩ := by rw [baseM, if_neg hpn, he]; simp [hd]
         simp only [diffS, kx] at g1
         subst hq
         have c5 := cP ⟨p, 2, []⟩
         have c6 := cU ⟨p, 2, []⟩
         have hl := hL ⟨p, 2, []⟩
         repeat' first | refine Ra ⟨?_⟩ | refine R0 c2 ⟨?_⟩ | refine Rk [] 1 c5 ⟨?_⟩ | refine R0 c6 ⟨?_⟩ | refine Rd (fun h => ⟨?_⟩) fun h => ⟨?_⟩ | refine Rb ⟨?_⟩ | fail
         refine .here ⟨mq - 1, by omega, ?_⟩
         refine li [5] [1, 5, 6, 7] ?_
         conv => whnf
         refine ⟨rfl, rfl, i + 1, upsM 12 (putM R ⟨p, 2, []⟩) p, (by omega), rfl, rfl, rfl, by omega, g1.symm, by omega⟩
       | false =>
         have kx : baseM a b p = some ⟨p, 1, e.data⟩ := by rw [baseM, if_neg hpn, he]; simp [hd]
         simp only [diffS, kx] at g1
         have c5 := cP ⟨p, 1, e.data⟩
         have c6 := cU ⟨p, 1, e.data⟩
         have hl := hL ⟨p, 1, e.data⟩
         repeat' first | refine Ra ⟨?_⟩ | refine R0 c2 ⟨?_⟩ | refine Rk [] 1 c5 ⟨?_⟩ | refine R0 c6 ⟨?_⟩ | refine Rd (fun h => ⟨?_⟩) fun h => ⟨?_⟩ | refine Rb ⟨?_⟩ | fail
         refine .here ⟨mq - 1, by omega, ?_⟩
         refine li [5] [1, 5, 6, 7] ?_
         conv => whnf
         refine ⟨rfl, rfl, i + 1, upsM 12 (putM R ⟨p, 1, e.data⟩) p, (by omega), rfl, rfl, rfl, by omega, g1.symm, by omega⟩
     | none =>
       rw [he] at c2
       cases hu : dirAt b (pathUp p) with
       | true =>
         have hz := dir_up.1 hu
         have kx : baseM a b p = some ⟨p, 3, []⟩ := by rw [baseM, if_neg hpn, he]; simp [hz]
         simp only [diffS, kx] at g1
         rw [hu] at c4
         have c5 := cP ⟨p, 3, []⟩
         have c6 := cU ⟨p, 3, []⟩
         have hl := hL ⟨p, 3, []⟩
         repeat' first | refine Ra ⟨?_⟩ | refine R0 c2 ⟨?_⟩ | refine R0 c3 ⟨?_⟩ | refine R0 c4 ⟨?_⟩ | refine Rk [] 1 c5 ⟨?_⟩ | refine R0 c6 ⟨?_⟩ | refine Rd (fun h => ⟨?_⟩) fun h => ⟨?_⟩ | refine Rb ⟨?_⟩ | fail
         refine .here ⟨mq - 1, by omega, ?_⟩
         refine li [5] [1, 5, 6, 7] ?_
         conv => whnf
         refine ⟨rfl, rfl, i + 1, upsM 12 (putM R ⟨p, 3, []⟩) p, (by omega), rfl, rfl, rfl, by omega, g1.symm, by omega⟩
       | false =>
         have hz : ¬ upCode b p = 0 := fun h => by rw [dir_up.2 h] at hu; cases hu
         have kx : baseM a b p = none := by rw [baseM, if_neg hpn, he]; simp [hz]
         simp only [diffS, kx] at g1
         rw [hu] at c4
         repeat' first | refine Ra ⟨?_⟩ | refine R0 c2 ⟨?_⟩ | refine R0 c3 ⟨?_⟩ | refine R0 c4 ⟨?_⟩ | refine Rd (fun h => ⟨?_⟩) fun h => ⟨?_⟩ | refine Rb ⟨?_⟩ | fail
         refine .here ⟨mq - 1, by omega, ?_⟩
         refine la [1, 5, 6, 7] ?_
         conv => whnf
         refine ⟨rfl, rfl, i + 1, R, (by omega), rfl, rfl, rfl, by omega, g1.symm, by omega⟩
theorem sLower_con (o : Ovr) (hb : BndV o) : Con (E m) 128 0 [.agg o.c] [] (onD (lowerT o)) [] := by
 have hbl := hb.bl
 have hll := hb.ll
 have e1 : (o.layers.map layC).length = o.layers.length := List.length_map ..
 have c1 := sTreeOk_con (m := m) o.base hb.b4
 cases h1 : treeOk o.base with
 | false =>
   rw [h1] at c1
   have hx : lowerT o = none := by simp [lowerT, h1]
   rw [hx]
   refine con_of_cd tyOk mix Tryz.func128 rfl rfl rfl (Nat.le_of_ble_eq_true rfl) ?_
   repeat' first | refine Ra ⟨?_⟩ | refine R0 c1 ⟨?_⟩ | refine Rd (fun h => ⟨?_⟩) fun h => ⟨?_⟩ | refine Rb ⟨?_⟩ | fail
   exact Rz
 | true =>
   rw [h1] at c1
   by_cases h2 : o.layers.length ≤ 4
   · have hx : lowerT o = stackT o.base o.layers := by rw [lowerT, if_pos ⟨h1, h2⟩]
     refine con_of_cd tyOk mix Tryz.func128 rfl rfl rfl (Nat.le_of_ble_eq_true rfl) ?_
     repeat' first | refine Ra ⟨?_⟩ | refine R0 c1 ⟨?_⟩ | refine Rd (fun h => ⟨?_⟩) fun h => ⟨?_⟩ | refine Rb ⟨?_⟩ | fail
     refine Cd.loop2 (fun mq tm S nx => ∃ (i : Nat) (now : List Ent), mq = (o.layers.length - i) ∧ tm = [(1, .bp 0 0), (4, .sl (now.map Ent.c)), (5, .k .i64 i)] ∧ S = [(0, .box 49 o.c)] ∧ nx = 1 ∧ (i ≤ o.layers.length) ∧ (stackT o.base o.layers = stackT now (o.layers.drop i)) ∧ (treeOk now = true)) ?_ ?_
     · refine li [4] [1, 4, 5] ?_
       conv => whnf
       refine ⟨rfl, rfl, _, 0, o.base, rfl, rfl, rfl, rfl, by omega, rfl, h1⟩
     · rintro mq tm S nx ⟨i, now, hn, rfl, rfl, rfl, hi, hS, hok⟩
       have hnl := treeOk_len hok
       have e2 : (now.map Ent.c).length = now.length := List.length_map ..
       rcases drop_or o.layers i hi with ⟨rfl, hd⟩ | ⟨l, r, hl', hd, hr, hlt⟩
       · rw [hd] at hS
         rw [hx, hS]
         simp only [stackT]
         repeat' first | refine Ra ⟨?_⟩ | refine Rd (fun h => ⟨?_⟩) fun h => ⟨?_⟩ | refine Rb ⟨?_⟩ | fail
         exact Rz
       · rw [hd, stack_cons] at hS
         have hbb := hb.lay l (List.mem_of_getElem? hl')
         have c3 := sLayerOn_con (m := m) l now (by omega) hbb.1 (bE0 hok)
         cases hv : layerOn l now with
         | none =>
           rw [hv] at c3 hS
           simp only at hS
           rw [hx, hS]
           repeat' first | refine Ra ⟨?_⟩ | refine R0 c3 ⟨?_⟩ | refine Rd (fun h => ⟨?_⟩) fun h => ⟨?_⟩ | refine Rb ⟨?_⟩ | fail
           exact Rz
         | some v =>
           rw [hv] at c3 hS
           simp only at hS
           have k1 := layerOn_some hv
           repeat' first | refine Ra ⟨?_⟩ | refine R0 c3 ⟨?_⟩ | refine Rd (fun h => ⟨?_⟩) fun h => ⟨?_⟩ | refine Rb ⟨?_⟩ | fail
           refine .here ⟨mq - 1, by omega, ?_⟩
           refine li [4] [1, 4, 5] ?_
           conv => whnf
           refine ⟨rfl, rfl, i + 1, v, (by omega), rfl, rfl, rfl, by omega, (by rw [hS, hr]), k1.2.2.1⟩
   · have hx : lowerT o = none := by simp [lowerT, h2]
     rw [hx]
     refine con_of_cd tyOk mix Tryz.func128 rfl rfl rfl (Nat.le_of_ble_eq_true rfl) ?_
     repeat' first | refine Ra ⟨?_⟩ | refine R0 c1 ⟨?_⟩ | refine Rd (fun h => ⟨?_⟩) fun h => ⟨?_⟩ | refine Rb ⟨?_⟩ | fail
     exact Rz
theorem sView_con (o : Ovr) (hb : BndV o) : Con (E m) 66 0 [.agg o.c] [] (onD (viewT o)) [] := by
 have c1 := sLower_con (m := m) o hb
 have hul := hb.ul
 unfold viewT
 cases h : lowerT o with
 | none =>
   rw [h] at c1
   refine con_of_cd tyOk mix Tryz.func66 rfl rfl rfl (Nat.le_of_ble_eq_true rfl) ?_
   repeat' first | refine Ra ⟨?_⟩ | refine R0 c1 ⟨?_⟩ | refine Rd (fun h => ⟨?_⟩) fun h => ⟨?_⟩ | refine Rb ⟨?_⟩ | fail
   exact Rz
 | some t =>
   rw [h] at c1
   have c2 := sLayerOn_con (m := m) o.upper t (by omega) hb.upper (bE0 (lower_ok h).2.2.2)
   simp only
   cases hv : layerOn o.upper t
   all_goals
    rw [hv] at c2
    refine con_of_cd tyOk mix Tryz.func66 rfl rfl rfl (Nat.le_of_ble_eq_true rfl) ?_
    repeat' first | refine Ra ⟨?_⟩ | refine R0 c1 ⟨?_⟩ | refine R0 c2 ⟨?_⟩ | refine Rd (fun h => ⟨?_⟩) fun h => ⟨?_⟩ | refine Rb ⟨?_⟩ | fail
    exact Rz
theorem sOverOk_con (o : Ovr) (hb : BndV o) : Con (E m) 161 0 [.agg o.c] [] (.b (overOk o)) [] := by
 have c1 := sLower_con (m := m) o hb
 have c2 := sView_con (m := m) o hb
 have hul := hb.ul
 unfold viewT at c2
 unfold overOk overT
 cases h : lowerT o with
 | none =>
   rw [h] at c1 c2
   refine con_of_cd tyOk mix Tryz.func161 rfl rfl rfl (Nat.le_of_ble_eq_true rfl) ?_
   repeat' first | refine Ra ⟨?_⟩ | refine R0 c1 ⟨?_⟩ | refine R0 c2 ⟨?_⟩ | refine Rd (fun h => ⟨?_⟩) fun h => ⟨?_⟩ | refine Rb ⟨?_⟩ | fail
   exact Rf
 | some t =>
   rw [h] at c1 c2
   simp only at c2 ⊢
   have k0 := (lower_ok h).2.2.2
   cases hv : layerOn o.upper t with
   | none =>
     rw [hv] at c2
     refine con_of_cd tyOk mix Tryz.func161 rfl rfl rfl (Nat.le_of_ble_eq_true rfl) ?_
     repeat' first | refine Ra ⟨?_⟩ | refine R0 c1 ⟨?_⟩ | refine R0 c2 ⟨?_⟩ | refine Rd (fun h => ⟨?_⟩) fun h => ⟨?_⟩ | refine Rb ⟨?_⟩ | fail
     exact Rf
   | some v =>
     rw [hv] at c2
     have k1 := (layerOn_some hv).2.2.1
     have c3 := sDiff_con (m := m) t v k0 k1
     have kd := layer_len (diff_ok k0 k1)
     have c4 := sLayerSame_con (m := m) o.upper (diffL t v) hul (by omega)
     simp only
     by_cases hu : o.upper = diffL t v
     · rw [if_pos hu]
       rw [decide_eq_true hu] at c4
       refine con_of_cd tyOk mix Tryz.func161 rfl rfl rfl (Nat.le_of_ble_eq_true rfl) ?_
       repeat' first | refine Ra ⟨?_⟩ | refine R0 c1 ⟨?_⟩ | refine R0 c2 ⟨?_⟩ | refine R0 c3 ⟨?_⟩ | refine R0 c4 ⟨?_⟩ | refine Rd (fun h => ⟨?_⟩) fun h => ⟨?_⟩ | refine Rb ⟨?_⟩ | fail
       exact Rf
     · rw [if_neg hu]
       rw [decide_eq_false hu] at c4
       refine con_of_cd tyOk mix Tryz.func161 rfl rfl rfl (Nat.le_of_ble_eq_true rfl) ?_
       repeat' first | refine Ra ⟨?_⟩ | refine R0 c1 ⟨?_⟩ | refine R0 c2 ⟨?_⟩ | refine R0 c3 ⟨?_⟩ | refine R0 c4 ⟨?_⟩ | refine Rd (fun h => ⟨?_⟩) fun h => ⟨?_⟩ | refine Rb ⟨?_⟩ | fail
       exact Rf
end Go.Proofs.YtlicaibhgcenhaaGreatDoor
