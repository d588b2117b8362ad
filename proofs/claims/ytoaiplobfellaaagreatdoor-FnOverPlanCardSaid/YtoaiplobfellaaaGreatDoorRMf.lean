/- Contracts: the program's trees on layers. -/
import Derived.Test.YtoaiplobfellaaaGreatDoorRMd
import Derived.Test.YtoaiplobfellaaaGreatDoorRPy
import Derived.Test.YtoaiplobfellaaaGreatDoorRX4
set_option linter.unusedSimpArgs false
set_option linter.unusedVariables false
set_option maxHeartbeats 1000000
set_option maxRecDepth 10000
namespace Go.Proofs.YtoaiplobfellaaaGreatDoor
open Go Go.RowKit Go.Ab Go.Par
variable {m : Int}
def layC (l : List Mrk) : List D := [.sl (l.map Mrk.c)]
end Go.Proofs.YtoaiplobfellaaaGreatDoor
namespace Go.Par
open Go.Ab Go.Proofs.YtoaiplobfellaaaGreatDoor
def Ovr.c (o : Ovr) : List D := [.sl (o.base.map Ent.c), .sl (o.layers.map layC), .sl (o.upper.map Mrk.c)]
end Go.Par
namespace Go.Proofs.YtoaiplobfellaaaGreatDoor
open Go Go.RowKit Go.Ab Go.Par
variable {m : Int}
structure BndV (o : Ovr) : Prop where
  base : ∀ e ∈ o.base, e.path.length ≤ 1073741823 ∧ e.data.length ≤ 1073741823
  lay : ∀ l ∈ o.layers, (∀ e ∈ l, e.path.length ≤ 1073741823 ∧ e.data.length ≤ 1073741823) ∧ l.length ≤ 1048576
  upper : ∀ e ∈ o.upper, e.path.length ≤ 1073741823 ∧ e.data.length ≤ 1073741823
  bl : o.base.length ≤ 1048576
  ll : o.layers.length ≤ 1048576
  ul : o.upper.length ≤ 1048576
theorem BndV.b4 {o : Ovr} (h : BndV o) : ∀ e ∈ o.base, e.path.length ≤ 1073741824 ∧ e.data.length ≤ 1073741824 := fun e he => by have := h.base e he; omega
def trD : Option (List Ent × List Ent) → D
  | some x => .tup [.sl (x.1.map Ent.c), .sl (x.2.map Ent.c), .b true]
  | none => .tup [.sl [], .sl [], .b false]
theorem stack_cons (t : List Ent) (l : List Mrk) (r : List (List Mrk)) : stackT t (l :: r) = match layerOn l t with | some u => stackT u r | none => none := rfl
theorem iOverTrees_con (o : Ovr) (hb : BndV o) : Con (E m) 148 0 [.agg o.c] [] (trD (overT o)) [] := by
  have hbl := hb.bl
  have hll := hb.ll
  have hul := hb.ul
  have e1 : (o.layers.map layC).length = o.layers.length := List.length_map ..
  have c1 := iTreeOk_con (m := m) o.base hb.b4
  have c2 := copyEnts_con (m := m) o.base (by omega)
  cases h1 : treeOk o.base with
  | false =>
    rw [h1] at c1
    have hx : overT o = none := by simp [overT, lowerT, h1]
    rw [hx]
    refine con_of_cd tyOk mix Tryz.func148 rfl rfl rfl (Nat.le_of_ble_eq_true rfl) ?_
    repeat' first | refine Ra ⟨?_⟩ | ((first | refine Rc [] 0 rfl rfl (c1) ?_ | (refine bd (fun h => ?_) (fun h => ?_) <;> (try simp only [List.length_map] at h)) | refine bsplit.mk (fun h => ?_) (fun h => ?_)) <;> conv => whnf) | refine Rb ⟨?_⟩ | fail
    first | refine CallEnd.here (fz ?_) | refine fz ?_
    conv => whnf
    first | exact ⟨rfl, rfl, rfl, rfl⟩ | refine ⟨rfl, rfl, congrArg some (congrArg D.s ?_), rfl⟩ | refine ⟨rfl, rfl, congrArg some (congrArg D.b ?_), rfl⟩ | refine ⟨rfl, rfl, congrArg some (congrArg (D.k _) ?_), rfl⟩ | refine ⟨rfl, rfl, congrArg some (congrArg D.agg ?_), rfl⟩ | refine ⟨rfl, rfl, rfl, ?_⟩
    all_goals first | rfl | (simp_all []; done) | (simp [] <;> (repeat' split) <;> omega) | (rw [Bool.eq_iff_iff]; simp [*] <;> omega)
  | true =>
    rw [h1] at c1
    by_cases h2 : o.layers.length ≤ 4
    · have hx : overT o = match stackT o.base o.layers with | some t => (match layerOn o.upper t with | some v => if o.upper = diffL t v then some (t, v) else none | none => none) | none => none := by
        unfold overT lowerT
        rw [if_pos ⟨h1, h2⟩]
        cases stackT o.base o.layers <;> rfl
      refine con_of_cd tyOk mix Tryz.func148 rfl rfl rfl (Nat.le_of_ble_eq_true rfl) ?_
      repeat' first | refine Ra ⟨?_⟩ | ((first | refine Rc [] 0 rfl rfl (c1) ?_ | refine Rc [] 1 rfl rfl (c2) ?_ | (refine bd (fun h => ?_) (fun h => ?_) <;> (try simp only [List.length_map] at h)) | refine bsplit.mk (fun h => ?_) (fun h => ?_)) <;> conv => whnf) | refine Rb ⟨?_⟩ | fail
      refine Cd.loop2 (fun mq tm S nx => ∃ (i : Nat) (now : List Ent), mq = (o.layers.length - i) ∧ tm = [(1, .bp 0 0), (5, .sl (now.map Ent.c)), (26, .sl (o.layers.map layC)), (27, .k .i64 ((o.layers.map layC).length : Int)), (28, .k .i64 i)] ∧ S = [(0, .box 83 o.c)] ∧ nx = 1 ∧ (i ≤ o.layers.length) ∧ (stackT o.base o.layers = stackT now (o.layers.drop i)) ∧ (treeOk now = true)) ?_ ?_
      · refine li [5] [1, 5, 26, 27, 28] ?_
        conv => whnf
        refine ⟨rfl, rfl, _, 0, o.base, rfl, rfl, rfl, rfl, by omega, rfl, h1⟩
      · rintro mq tm S nx ⟨i, now, hn, rfl, rfl, rfl, hi, hS, hok⟩
        have hnl := treeOk_len hok
        rcases drop_or o.layers i hi with ⟨rfl, hd⟩ | ⟨l, r, hl', hd, hr, hlt⟩
        · rw [hd] at hS
          have c3 := iLayerOn_con (m := m) o.upper now hb.upper (bE0 hok)
          rw [hx, hS]
          simp only [stackT]
          cases hv : layerOn o.upper now with
          | none =>
            rw [hv] at c3
            simp only [Option.getD_none, Option.isSome_none] at c3
            repeat' first | refine Ra ⟨?_⟩ | ((first | refine Rc [] 1 rfl rfl (c3) ?_ | (refine bd (fun h => ?_) (fun h => ?_) <;> (try simp only [List.length_map] at h)) | refine bsplit.mk (fun h => ?_) (fun h => ?_)) <;> conv => whnf) | refine Rb ⟨?_⟩ | fail
            first | refine CallEnd.here (fz ?_) | refine fz ?_
            conv => whnf
            first | exact ⟨rfl, rfl, rfl, rfl⟩ | refine ⟨rfl, rfl, congrArg some (congrArg D.s ?_), rfl⟩ | refine ⟨rfl, rfl, congrArg some (congrArg D.b ?_), rfl⟩ | refine ⟨rfl, rfl, congrArg some (congrArg (D.k _) ?_), rfl⟩ | refine ⟨rfl, rfl, congrArg some (congrArg D.agg ?_), rfl⟩ | refine ⟨rfl, rfl, rfl, ?_⟩
            all_goals first | rfl | (simp_all []; done) | (simp [] <;> (repeat' split) <;> omega) | (rw [Bool.eq_iff_iff]; simp [*] <;> omega)
          | some v =>
            rw [hv] at c3
            simp only [Option.getD_some, Option.isSome_some] at c3
            have k1 := layerOn_some hv
            have c4 := iLayerDiff_con (m := m) now v hok k1.2.2.1
            have kd := layer_len (diff_ok hok k1.2.2.1)
            have c5 := layerSame_con (m := m) o.upper (diffL now v) hul (by omega)
            by_cases hu : o.upper = diffL now v
            · rw [decide_eq_true hu] at c5
              simp only [if_pos hu]
              repeat' first | refine Ra ⟨?_⟩ | ((first | refine Rc [] 1 rfl rfl (c3) ?_ | refine Rc [] 1 rfl rfl (c4) ?_ | refine Rc [] 0 rfl rfl (c5) ?_ | (refine bd (fun h => ?_) (fun h => ?_) <;> (try simp only [List.length_map] at h)) | refine bsplit.mk (fun h => ?_) (fun h => ?_)) <;> conv => whnf) | refine Rb ⟨?_⟩ | fail
              first | refine CallEnd.here (fz ?_) | refine fz ?_
              conv => whnf
              first | exact ⟨rfl, rfl, rfl, rfl⟩ | refine ⟨rfl, rfl, congrArg some (congrArg D.s ?_), rfl⟩ | refine ⟨rfl, rfl, congrArg some (congrArg D.b ?_), rfl⟩ | refine ⟨rfl, rfl, congrArg some (congrArg (D.k _) ?_), rfl⟩ | refine ⟨rfl, rfl, congrArg some (congrArg D.agg ?_), rfl⟩ | refine ⟨rfl, rfl, rfl, ?_⟩
              all_goals first | rfl | (simp_all []; done) | (simp [] <;> (repeat' split) <;> omega) | (rw [Bool.eq_iff_iff]; simp [*] <;> omega)
            · rw [decide_eq_false hu] at c5
              simp only [if_neg hu]
              repeat' first | refine Ra ⟨?_⟩ | ((first | refine Rc [] 1 rfl rfl (c3) ?_ | refine Rc [] 1 rfl rfl (c4) ?_ | refine Rc [] 0 rfl rfl (c5) ?_ | (refine bd (fun h => ?_) (fun h => ?_) <;> (try simp only [List.length_map] at h)) | refine bsplit.mk (fun h => ?_) (fun h => ?_)) <;> conv => whnf) | refine Rb ⟨?_⟩ | fail
              first | refine CallEnd.here (fz ?_) | refine fz ?_
              conv => whnf
              first | exact ⟨rfl, rfl, rfl, rfl⟩ | refine ⟨rfl, rfl, congrArg some (congrArg D.s ?_), rfl⟩ | refine ⟨rfl, rfl, congrArg some (congrArg D.b ?_), rfl⟩ | refine ⟨rfl, rfl, congrArg some (congrArg (D.k _) ?_), rfl⟩ | refine ⟨rfl, rfl, congrArg some (congrArg D.agg ?_), rfl⟩ | refine ⟨rfl, rfl, rfl, ?_⟩
              all_goals first | rfl | (simp_all []; done) | (simp [] <;> (repeat' split) <;> omega) | (rw [Bool.eq_iff_iff]; simp [*] <;> omega)
        · rw [hd, stack_cons] at hS
          have c3 := iLayerOn_con (m := m) l now (hb.lay l (List.mem_of_getElem? hl')).1 (bE0 hok)
          cases hv : layerOn l now with
          | none =>
            rw [hv] at c3 hS
            simp only [Option.getD_none, Option.isSome_none] at c3
            simp only at hS
            rw [hx, hS]
            repeat' first | refine Ra ⟨?_⟩ | ((first | refine Rc [] 1 rfl rfl (c3) ?_ | (refine bd (fun h => ?_) (fun h => ?_) <;> (try simp only [List.length_map] at h)) | refine bsplit.mk (fun h => ?_) (fun h => ?_)) <;> conv => whnf) | refine Rb ⟨?_⟩ | fail
            first | refine CallEnd.here (fz ?_) | refine fz ?_
            conv => whnf
            first | exact ⟨rfl, rfl, rfl, rfl⟩ | refine ⟨rfl, rfl, congrArg some (congrArg D.s ?_), rfl⟩ | refine ⟨rfl, rfl, congrArg some (congrArg D.b ?_), rfl⟩ | refine ⟨rfl, rfl, congrArg some (congrArg (D.k _) ?_), rfl⟩ | refine ⟨rfl, rfl, congrArg some (congrArg D.agg ?_), rfl⟩ | refine ⟨rfl, rfl, rfl, ?_⟩
            all_goals first | rfl | (simp_all []; done) | (simp [] <;> (repeat' split) <;> omega) | (rw [Bool.eq_iff_iff]; simp [*] <;> omega)
          | some v =>
            rw [hv] at c3 hS
            simp only [Option.getD_some, Option.isSome_some] at c3
            simp only at hS
            have k1 := layerOn_some hv
            repeat' first | refine Ra ⟨?_⟩ | ((first | refine Rc [] 1 rfl rfl (c3) ?_ | (refine bd (fun h => ?_) (fun h => ?_) <;> (try simp only [List.length_map] at h)) | refine bsplit.mk (fun h => ?_) (fun h => ?_)) <;> conv => whnf) | refine Rb ⟨?_⟩ | fail
            refine .here ⟨mq - 1, by omega, ?_⟩
            refine li [5] [1, 5, 26, 27, 28] ?_
            conv => whnf
            refine ⟨rfl, rfl, i + 1, v, (by omega), rfl, rfl, rfl, by omega, (by rw [hS, hr]), k1.2.2.1⟩
    · have hx : overT o = none := by simp [overT, lowerT, h2]
      rw [hx]
      refine con_of_cd tyOk mix Tryz.func148 rfl rfl rfl (Nat.le_of_ble_eq_true rfl) ?_
      repeat' first | refine Ra ⟨?_⟩ | ((first | refine Rc [] 0 rfl rfl (c1) ?_ | (refine bd (fun h => ?_) (fun h => ?_) <;> (try simp only [List.length_map] at h)) | refine bsplit.mk (fun h => ?_) (fun h => ?_)) <;> conv => whnf) | refine Rb ⟨?_⟩ | fail
      first | refine CallEnd.here (fz ?_) | refine fz ?_
      conv => whnf
      first | exact ⟨rfl, rfl, rfl, rfl⟩ | refine ⟨rfl, rfl, congrArg some (congrArg D.s ?_), rfl⟩ | refine ⟨rfl, rfl, congrArg some (congrArg D.b ?_), rfl⟩ | refine ⟨rfl, rfl, congrArg some (congrArg (D.k _) ?_), rfl⟩ | refine ⟨rfl, rfl, congrArg some (congrArg D.agg ?_), rfl⟩ | refine ⟨rfl, rfl, rfl, ?_⟩
      all_goals first | rfl | (simp_all []; done) | (simp [] <;> (repeat' split) <;> omega) | (rw [Bool.eq_iff_iff]; simp [*] <;> omega)
theorem copyMarksF_con (t : List Mrk) (ht : t.length ≤ 1073741824) : Con (E m) 149 0 [.sl (t.map Mrk.c)] [] (.sl (t.map Mrk.c)) [] := by
  have e1 : (t.map Mrk.c).length = t.length := List.length_map ..
  refine con_of_cd tyOk mix Tryz.func149 rfl rfl rfl (Nat.le_of_ble_eq_true rfl) ?_
  repeat' first | refine Ra ⟨?_⟩ | ((first | (refine bd (fun h => ?_) (fun h => ?_) <;> (try simp only [List.length_map] at h)) | refine bsplit.mk (fun h => ?_) (fun h => ?_)) <;> conv => whnf) | refine Rb ⟨?_⟩ | fail
  first | refine CallEnd.here (fz ?_) | refine fz ?_
  conv => whnf
  first | exact ⟨rfl, rfl, rfl, rfl⟩ | refine ⟨rfl, rfl, congrArg some (congrArg D.s ?_), rfl⟩ | refine ⟨rfl, rfl, congrArg some (congrArg D.b ?_), rfl⟩ | refine ⟨rfl, rfl, congrArg some (congrArg (D.k _) ?_), rfl⟩ | refine ⟨rfl, rfl, congrArg some (congrArg D.agg ?_), rfl⟩ | refine ⟨rfl, rfl, rfl, ?_⟩
  all_goals first | rfl | (simp_all []; done) | (simp [] <;> (repeat' split) <;> omega) | (rw [Bool.eq_iff_iff]; simp [*] <;> omega)
theorem copyEntsF_con (t : List Ent) (ht : t.length ≤ 1073741824) : Con (E m) 94 0 [.sl (t.map Ent.c)] [] (.sl (t.map Ent.c)) [] := by
  have e1 : (t.map Ent.c).length = t.length := List.length_map ..
  refine con_of_cd tyOk mix Tryz.func94 rfl rfl rfl (Nat.le_of_ble_eq_true rfl) ?_
  repeat' first | refine Ra ⟨?_⟩ | ((first | (refine bd (fun h => ?_) (fun h => ?_) <;> (try simp only [List.length_map] at h)) | refine bsplit.mk (fun h => ?_) (fun h => ?_)) <;> conv => whnf) | refine Rb ⟨?_⟩ | fail
  first | refine CallEnd.here (fz ?_) | refine fz ?_
  conv => whnf
  first | exact ⟨rfl, rfl, rfl, rfl⟩ | refine ⟨rfl, rfl, congrArg some (congrArg D.s ?_), rfl⟩ | refine ⟨rfl, rfl, congrArg some (congrArg D.b ?_), rfl⟩ | refine ⟨rfl, rfl, congrArg some (congrArg (D.k _) ?_), rfl⟩ | refine ⟨rfl, rfl, congrArg some (congrArg D.agg ?_), rfl⟩ | refine ⟨rfl, rfl, rfl, ?_⟩
  all_goals first | rfl | (simp_all []; done) | (simp [] <;> (repeat' split) <;> omega) | (rw [Bool.eq_iff_iff]; simp [*] <;> omega)
theorem copyOver_con (o : Ovr) (hb : BndV o) : Con (E m) 137 0 [.agg o.c] [] (.agg o.c) [] := by
  have hbl := hb.bl
  have hll := hb.ll
  have hul := hb.ul
  have e1 : (o.layers.map layC).length = o.layers.length := List.length_map ..
  have c1 := copyEntsF_con (m := m) o.base (by omega)
  have c2 := copyMarksF_con (m := m) o.upper (by omega)
  refine con_of_cd tyOk mix Tryz.func137 rfl rfl rfl (Nat.le_of_ble_eq_true rfl) ?_
  repeat' first | refine Ra ⟨?_⟩ | ((first | (refine bd (fun h => ?_) (fun h => ?_) <;> (try simp only [List.length_map] at h)) | refine bsplit.mk (fun h => ?_) (fun h => ?_)) <;> conv => whnf) | refine Rb ⟨?_⟩ | fail
  refine Cd.loop2 (fun mq tm S nx => ∃ (i : Nat) (A : List (List Mrk)), mq = (o.layers.length - i) ∧ tm = [(1, .bp 0 0), (2, .bp 1 0), (3, .own 2), (7, .sl (o.layers.map layC)), (8, .k .i64 ((o.layers.map layC).length : Int)), (9, .k .i64 i)] ∧ S = [(0, .box 83 o.c), (1, .box 83 [.nil, .nil, .nil]), (2, .own 73 (A.map layC))] ∧ nx = 3 ∧ (i ≤ o.layers.length) ∧ (A = o.layers.take i) ∧ (A.length ≤ i)) ?_ ?_
  · refine la [1, 2, 3, 7, 8, 9] ?_
    conv => whnf
    refine ⟨rfl, rfl, _, 0, [], rfl, rfl, rfl, rfl, by omega, (by simp), by simp⟩
  · rintro mq tm S nx ⟨i, A, hn, rfl, rfl, rfl, hi, hA, hAl⟩
    have e2 : (A.map layC).length = A.length := List.length_map ..
    rcases drop_or o.layers i hi with ⟨rfl, hd⟩ | ⟨l, r, hl', hd, hr, hlt⟩
    · rw [List.take_length] at hA
      subst hA
      repeat' first | refine Ra ⟨?_⟩ | ((first | refine Rc [] 0 rfl rfl (c1) ?_ | refine Rc [] 0 rfl rfl (c2) ?_ | (refine bd (fun h => ?_) (fun h => ?_) <;> (try simp only [List.length_map] at h)) | refine bsplit.mk (fun h => ?_) (fun h => ?_)) <;> conv => whnf) | refine Rb ⟨?_⟩ | fail
      first | refine CallEnd.here (fz ?_) | refine fz ?_
      conv => whnf
      first | exact ⟨rfl, rfl, rfl, rfl⟩ | refine ⟨rfl, rfl, congrArg some (congrArg D.s ?_), rfl⟩ | refine ⟨rfl, rfl, congrArg some (congrArg D.b ?_), rfl⟩ | refine ⟨rfl, rfl, congrArg some (congrArg (D.k _) ?_), rfl⟩ | refine ⟨rfl, rfl, congrArg some (congrArg D.agg ?_), rfl⟩ | refine ⟨rfl, rfl, rfl, ?_⟩
      all_goals first | rfl | (simp_all []; done) | (simp [] <;> (repeat' split) <;> omega) | (rw [Bool.eq_iff_iff]; simp [*] <;> omega)
    · have g1 : o.layers.take (i + 1) = o.layers.take i ++ [l] := by rw [List.take_add_one, hl']; rfl
      have c3 := copyMarksF_con (m := m) l (by have := (hb.lay l (List.mem_of_getElem? hl')).2; omega)
      repeat' first | refine Ra ⟨?_⟩ | ((first | refine Rc [] 0 rfl rfl (c3) ?_ | (refine bd (fun h => ?_) (fun h => ?_) <;> (try simp only [List.length_map] at h)) | refine bsplit.mk (fun h => ?_) (fun h => ?_)) <;> conv => whnf) | refine Rb ⟨?_⟩ | fail
      refine .here ⟨mq - 1, by omega, ?_⟩
      refine la [1, 2, 3, 7, 8, 9] ?_
      conv => whnf
      refine ⟨rfl, rfl, i + 1, A ++ [l], (by omega), rfl, ?_, rfl, by omega, (by rw [hA, g1]), (by simp; omega)⟩
      rw [List.map_append]
      rfl
theorem copyOverL_con (o : Ovr) (hb : BndV o) : Con (E m) 137 0 [.agg o.c] [] (.agg [.sl (o.base.map Ent.c), .own 0, .sl (o.upper.map Mrk.c)]) [(0, .own 73 (o.layers.map layC))] := by
  have hbl := hb.bl
  have hll := hb.ll
  have hul := hb.ul
  have e1 : (o.layers.map layC).length = o.layers.length := List.length_map ..
  have c1 := copyEntsF_con (m := m) o.base (by omega)
  have c2 := copyMarksF_con (m := m) o.upper (by omega)
  refine con_of_cd tyOk mix Tryz.func137 rfl rfl rfl (Nat.le_of_ble_eq_true rfl) ?_
  repeat' first | refine Ra ⟨?_⟩ | ((first | (refine bd (fun h => ?_) (fun h => ?_) <;> (try simp only [List.length_map] at h)) | refine bsplit.mk (fun h => ?_) (fun h => ?_)) <;> conv => whnf) | refine Rb ⟨?_⟩ | fail
  refine Cd.loop2 (fun mq tm S nx => ∃ (i : Nat) (A : List (List Mrk)), mq = (o.layers.length - i) ∧ tm = [(1, .bp 0 0), (2, .bp 1 0), (3, .own 2), (7, .sl (o.layers.map layC)), (8, .k .i64 ((o.layers.map layC).length : Int)), (9, .k .i64 i)] ∧ S = [(0, .box 83 o.c), (1, .box 83 [.nil, .nil, .nil]), (2, .own 73 (A.map layC))] ∧ nx = 3 ∧ (i ≤ o.layers.length) ∧ (A = o.layers.take i) ∧ (A.length ≤ i)) ?_ ?_
  · refine la [1, 2, 3, 7, 8, 9] ?_
    conv => whnf
    refine ⟨rfl, rfl, _, 0, [], rfl, rfl, rfl, rfl, by omega, (by simp), by simp⟩
  · rintro mq tm S nx ⟨i, A, hn, rfl, rfl, rfl, hi, hA, hAl⟩
    have e2 : (A.map layC).length = A.length := List.length_map ..
    rcases drop_or o.layers i hi with ⟨rfl, hd⟩ | ⟨l, r, hl', hd, hr, hlt⟩
    · rw [List.take_length] at hA
      subst hA
      repeat' first | refine Ra ⟨?_⟩ | ((first | refine Rc [] 0 rfl rfl (c1) ?_ | refine Rc [] 0 rfl rfl (c2) ?_ | (refine bd (fun h => ?_) (fun h => ?_) <;> (try simp only [List.length_map] at h)) | refine bsplit.mk (fun h => ?_) (fun h => ?_)) <;> conv => whnf) | refine Rb ⟨?_⟩ | fail
      exact Rf
    · have g1 : o.layers.take (i + 1) = o.layers.take i ++ [l] := by rw [List.take_add_one, hl']; rfl
      have c3 := copyMarksF_con (m := m) l (by have := (hb.lay l (List.mem_of_getElem? hl')).2; omega)
      repeat' first | refine Ra ⟨?_⟩ | ((first | refine Rc [] 0 rfl rfl (c3) ?_ | (refine bd (fun h => ?_) (fun h => ?_) <;> (try simp only [List.length_map] at h)) | refine bsplit.mk (fun h => ?_) (fun h => ?_)) <;> conv => whnf) | refine Rb ⟨?_⟩ | fail
      refine .here ⟨mq - 1, by omega, ?_⟩
      refine la [1, 2, 3, 7, 8, 9] ?_
      conv => whnf
      refine ⟨rfl, rfl, i + 1, A ++ [l], (by omega), rfl, ?_, rfl, by omega, (by rw [hA, g1]), (by simp; omega)⟩
      rw [List.map_append]
      rfl
theorem iOverOk_con (o : Ovr) (hb : BndV o) : Con (E m) 136 0 [.agg o.c] [] (.b (overOk o)) [] := by
  have c1 := iOverTrees_con (m := m) o hb
  unfold overOk
  cases h : overT o
  all_goals
    rw [h] at c1
    refine con_of_cd tyOk mix Tryz.func136 rfl rfl rfl (Nat.le_of_ble_eq_true rfl) ?_
    repeat' first | refine Ra ⟨?_⟩ | ((first | refine Rc [] 0 rfl rfl (c1) ?_ | (refine bd (fun h => ?_) (fun h => ?_) <;> (try simp only [List.length_map] at h)) | refine bsplit.mk (fun h => ?_) (fun h => ?_)) <;> conv => whnf) | refine Rb ⟨?_⟩ | fail
    exact Rf
def vwD : Option (List Ent × List Ent) → D
  | some x => .tup [.sl (x.2.map Ent.c), .b true]
  | none => .tup [.sl [], .b false]
theorem iOverView_con (o : Ovr) (hb : BndV o) : Con (E m) 78 0 [.agg o.c] [] (vwD (overT o)) [] := by
  have c1 := iOverTrees_con (m := m) o hb
  cases h : overT o
  all_goals
    rw [h] at c1
    refine con_of_cd tyOk mix Tryz.func78 rfl rfl rfl (Nat.le_of_ble_eq_true rfl) ?_
    repeat' first | refine Ra ⟨?_⟩ | ((first | refine Rc [] 0 rfl rfl (c1) ?_ | (refine bd (fun h => ?_) (fun h => ?_) <;> (try simp only [List.length_map] at h)) | refine bsplit.mk (fun h => ?_) (fun h => ?_)) <;> conv => whnf) | refine Rb ⟨?_⟩ | fail
    exact Rf
theorem iOverSink_con (o : Ovr) (hb : BndV o) : Con (E m) 82 0 [.agg o.c] [] (.agg (overSink o).c) [] := by
  have hul := hb.ul
  have c1 := iOverTrees_con (m := m) o hb
  have c2 := copyMarksF_con (m := m) o.upper (by omega)
  unfold overSink
  cases h : overT o
  all_goals
    rw [h] at c1
    refine con_of_cd tyOk mix Tryz.func82 rfl rfl rfl (Nat.le_of_ble_eq_true rfl) ?_
    repeat' first | refine Ra ⟨?_⟩ | ((first | refine Rc [] 0 rfl rfl (c1) ?_ | refine Rc [] 0 rfl rfl (c2) ?_ | (refine bd (fun h => ?_) (fun h => ?_) <;> (try simp only [List.length_map] at h)) | refine bsplit.mk (fun h => ?_) (fun h => ?_)) <;> conv => whnf) | refine Rb ⟨?_⟩ | fail
    first | refine CallEnd.here (fz ?_) | refine fz ?_
    conv => whnf
    first | exact ⟨rfl, rfl, rfl, rfl⟩ | refine ⟨rfl, rfl, congrArg some (congrArg D.s ?_), rfl⟩ | refine ⟨rfl, rfl, congrArg some (congrArg D.b ?_), rfl⟩ | refine ⟨rfl, rfl, congrArg some (congrArg (D.k _) ?_), rfl⟩ | refine ⟨rfl, rfl, congrArg some (congrArg D.agg ?_), rfl⟩ | refine ⟨rfl, rfl, rfl, ?_⟩
    all_goals first | rfl | (simp_all []; done) | (simp [] <;> (repeat' split) <;> omega) | (rw [Bool.eq_iff_iff]; simp [*] <;> omega)
theorem iOverPush_con (o : Ovr) (hb : BndV o) : Con (E m) 80 0 [.agg o.c] [] (.tup [.agg (overPush o).1.c, .b (overPush o).2]) [] := by
  have c1 := iOverOk_con (m := m) o hb
  have c2 := copyOver_con (m := m) o hb
  have c3 := copyOverL_con (m := m) o hb
  have e1 : (o.layers.map layC).length = o.layers.length := List.length_map ..
  unfold overOk at c1
  unfold overPush
  cases h : overT o with
  | none =>
    rw [h] at c1
    refine con_of_cd tyOk mix Tryz.func80 rfl rfl rfl (Nat.le_of_ble_eq_true rfl) ?_
    repeat' first | refine Ra ⟨?_⟩ | ((first | refine Rc [] 0 rfl rfl (c1) ?_ | (refine bd (fun h => ?_) (fun h => ?_) <;> (try simp only [List.length_map] at h)) | refine bsplit.mk (fun h => ?_) (fun h => ?_)) <;> conv => whnf) | refine Rb ⟨?_⟩ | fail
    first | refine CallEnd.here (fz ?_) | refine fz ?_
    conv => whnf
    first | exact ⟨rfl, rfl, rfl, rfl⟩ | refine ⟨rfl, rfl, congrArg some (congrArg D.s ?_), rfl⟩ | refine ⟨rfl, rfl, congrArg some (congrArg D.b ?_), rfl⟩ | refine ⟨rfl, rfl, congrArg some (congrArg (D.k _) ?_), rfl⟩ | refine ⟨rfl, rfl, congrArg some (congrArg D.agg ?_), rfl⟩ | refine ⟨rfl, rfl, rfl, ?_⟩
    all_goals first | rfl | (simp_all []; done) | (simp [] <;> (repeat' split) <;> omega) | (rw [Bool.eq_iff_iff]; simp [*] <;> omega)
  | some x =>
    rw [h] at c1
    have hl := (overT_ok (t := x.1) (v := x.2) h).2.1
    simp only
    by_cases h4 : o.layers.length = 4
    · rw [if_pos h4]
      refine con_of_cd tyOk mix Tryz.func80 rfl rfl rfl (Nat.le_of_ble_eq_true rfl) ?_
      repeat' first | refine Ra ⟨?_⟩ | ((first | refine Rc [] 0 rfl rfl (c1) ?_ | refine Rc [] 0 rfl rfl (c2) ?_ | (refine bd (fun h => ?_) (fun h => ?_) <;> (try simp only [List.length_map] at h)) | refine bsplit.mk (fun h => ?_) (fun h => ?_)) <;> conv => whnf) | refine Rb ⟨?_⟩ | fail
      first | refine CallEnd.here (fz ?_) | refine fz ?_
      conv => whnf
      first | exact ⟨rfl, rfl, rfl, rfl⟩ | refine ⟨rfl, rfl, congrArg some (congrArg D.s ?_), rfl⟩ | refine ⟨rfl, rfl, congrArg some (congrArg D.b ?_), rfl⟩ | refine ⟨rfl, rfl, congrArg some (congrArg (D.k _) ?_), rfl⟩ | refine ⟨rfl, rfl, congrArg some (congrArg D.agg ?_), rfl⟩ | refine ⟨rfl, rfl, rfl, ?_⟩
      all_goals first | rfl | (simp_all []; done) | (simp [] <;> (repeat' split) <;> omega) | (rw [Bool.eq_iff_iff]; simp [*] <;> omega)
    · rw [if_neg h4]
      have g1 : (o.layers ++ [o.upper]).map layC = o.layers.map layC ++ [[.sl (o.upper.map Mrk.c)]] := by rw [List.map_append]; rfl
      unfold Ovr.c
      rw [g1]
      refine con_of_cd tyOk mix Tryz.func80 rfl rfl rfl (Nat.le_of_ble_eq_true rfl) ?_
      repeat' first | refine Ra ⟨?_⟩ | ((first | refine Rc [] 0 rfl rfl (c1) ?_ | refine Rc [] 1 rfl rfl (c3) ?_ | (refine bd (fun h => ?_) (fun h => ?_) <;> (try simp only [List.length_map] at h)) | refine bsplit.mk (fun h => ?_) (fun h => ?_)) <;> conv => whnf) | refine Rb ⟨?_⟩ | fail
      first | refine CallEnd.here (fz ?_) | refine fz ?_
      conv => whnf
      first | exact ⟨rfl, rfl, rfl, rfl⟩ | refine ⟨rfl, rfl, congrArg some (congrArg D.s ?_), rfl⟩ | refine ⟨rfl, rfl, congrArg some (congrArg D.b ?_), rfl⟩ | refine ⟨rfl, rfl, congrArg some (congrArg (D.k _) ?_), rfl⟩ | refine ⟨rfl, rfl, congrArg some (congrArg D.agg ?_), rfl⟩ | refine ⟨rfl, rfl, rfl, ?_⟩
      all_goals first | rfl | (simp_all []; done) | (simp [] <;> (repeat' split) <;> omega) | (rw [Bool.eq_iff_iff]; simp [*] <;> omega)
theorem iOverDo_con (o : Ovr) (p : Opn) (hb : BndV o) (hp : bndO 1073741823 p) : Con (E m) 79 0 [.agg o.c, .agg p.c] [] (.tup [.agg (overDo o p).1.c, .k .i64 (overDo o p).2]) [] := by
  have c1 := iOverTrees_con (m := m) o hb
  have c2 := copyOver_con (m := m) o hb
  unfold overDo
  cases h : overT o with
  | none =>
    rw [h] at c1
    refine con_of_cd tyOk mix Tryz.func79 rfl rfl rfl (Nat.le_of_ble_eq_true rfl) ?_
    repeat' first | refine Ra ⟨?_⟩ | ((first | refine Rc [] 0 rfl rfl (c1) ?_ | (refine bd (fun h => ?_) (fun h => ?_) <;> (try simp only [List.length_map] at h)) | refine bsplit.mk (fun h => ?_) (fun h => ?_)) <;> conv => whnf) | refine Rb ⟨?_⟩ | fail
    first | refine CallEnd.here (fz ?_) | refine fz ?_
    conv => whnf
    first | exact ⟨rfl, rfl, rfl, rfl⟩ | refine ⟨rfl, rfl, congrArg some (congrArg D.s ?_), rfl⟩ | refine ⟨rfl, rfl, congrArg some (congrArg D.b ?_), rfl⟩ | refine ⟨rfl, rfl, congrArg some (congrArg (D.k _) ?_), rfl⟩ | refine ⟨rfl, rfl, congrArg some (congrArg D.agg ?_), rfl⟩ | refine ⟨rfl, rfl, rfl, ?_⟩
    all_goals first | rfl | (simp_all []; done) | (simp [] <;> (repeat' split) <;> omega) | (rw [Bool.eq_iff_iff]; simp [*] <;> omega)
  | some x =>
    obtain ⟨t, v⟩ := x
    rw [h] at c1
    obtain ⟨_, _, k3, k4⟩ := overT_ok h
    have c3 := iTreeDo_con (m := m) v p (bE0 k4) hp.1 hp.2.1 hp.2.2
    have c4 := iLayerDiff_con (m := m) t (treeDo v p).1 k3 (treeDo_ok k4 p)
    simp only
    by_cases h0 : (treeDo v p).2 = 0
    · rw [if_pos h0]
      rw [h0] at c3 ⊢
      generalize (treeDo v p).1 = y at c3 c4 ⊢
      refine con_of_cd tyOk mix Tryz.func79 rfl rfl rfl (Nat.le_of_ble_eq_true rfl) ?_
      repeat' first | refine Ra ⟨?_⟩ | ((first | refine Rc [] 0 rfl rfl (c1) ?_ | refine Rc [] 0 rfl rfl (c2) ?_ | refine Rc [] 1 rfl rfl (c3) ?_ | refine Rc [] 1 rfl rfl (c4) ?_ | (refine bd (fun h => ?_) (fun h => ?_) <;> (try simp only [List.length_map] at h)) | refine bsplit.mk (fun h => ?_) (fun h => ?_)) <;> conv => whnf) | refine Rb ⟨?_⟩ | fail
      first | refine CallEnd.here (fz ?_) | refine fz ?_
      conv => whnf
      first | exact ⟨rfl, rfl, rfl, rfl⟩ | refine ⟨rfl, rfl, congrArg some (congrArg D.s ?_), rfl⟩ | refine ⟨rfl, rfl, congrArg some (congrArg D.b ?_), rfl⟩ | refine ⟨rfl, rfl, congrArg some (congrArg (D.k _) ?_), rfl⟩ | refine ⟨rfl, rfl, congrArg some (congrArg D.agg ?_), rfl⟩ | refine ⟨rfl, rfl, rfl, ?_⟩
      all_goals first | rfl | (simp_all []; done) | (simp [] <;> (repeat' split) <;> omega) | (rw [Bool.eq_iff_iff]; simp [*] <;> omega)
    · rw [if_neg h0]
      generalize treeDo v p = Y at c3 c4 h0 ⊢
      refine con_of_cd tyOk mix Tryz.func79 rfl rfl rfl (Nat.le_of_ble_eq_true rfl) ?_
      repeat' first | refine Ra ⟨?_⟩ | ((first | refine Rc [] 0 rfl rfl (c1) ?_ | refine Rc [] 0 rfl rfl (c2) ?_ | refine Rc [] 1 rfl rfl (c3) ?_ | (refine bd (fun h => ?_) (fun h => ?_) <;> (try simp only [List.length_map] at h)) | refine bsplit.mk (fun h => ?_) (fun h => ?_)) <;> conv => whnf) | refine Rb ⟨?_⟩ | fail
      first | refine CallEnd.here (fz ?_) | refine fz ?_
      conv => whnf
      first | exact ⟨rfl, rfl, rfl, rfl⟩ | refine ⟨rfl, rfl, congrArg some (congrArg D.s ?_), rfl⟩ | refine ⟨rfl, rfl, congrArg some (congrArg D.b ?_), rfl⟩ | refine ⟨rfl, rfl, congrArg some (congrArg (D.k _) ?_), rfl⟩ | refine ⟨rfl, rfl, congrArg some (congrArg D.agg ?_), rfl⟩ | refine ⟨rfl, rfl, rfl, ?_⟩
      all_goals first | rfl | (simp_all []; done) | (simp [] <;> (repeat' split) <;> omega) | (rw [Bool.eq_iff_iff]; simp [*] <;> omega)
end Go.Proofs.YtoaiplobfellaaaGreatDoor
