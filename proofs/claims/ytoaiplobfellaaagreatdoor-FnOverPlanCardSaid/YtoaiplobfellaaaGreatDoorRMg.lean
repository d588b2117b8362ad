/- Contracts: trees on layers: which are one; things done one behind the other. -/
import Derived.Test.YtoaiplobfellaaaGreatDoorRMf
set_option linter.unusedSimpArgs false
set_option linter.unusedVariables false
set_option maxHeartbeats 1000000
set_option maxRecDepth 10000
namespace Go.Proofs.YtoaiplobfellaaaGreatDoor
open Go Go.RowKit Go.Ab Go.Par
variable {m : Int}
theorem stack_layers : ∀ (ls : List (List Mrk)) {t u : List Ent}, stackT t ls = some u → ∀ l ∈ ls, layerOk l = true
  | [], t, u, h => by simp
  | k :: r, t, u, h => by
    rw [stack_cons] at h
    cases hl : layerOn k t with
    | none => rw [hl] at h; cases h
    | some x =>
      rw [hl] at h
      intro l hm
      rcases List.mem_cons.1 hm with rfl | hm
      · exact (layerOn_some hl).1
      · exact stack_layers r h l hm
theorem bndV_ok {o : Ovr} {t v : List Ent} (h : overT o = some (t, v)) : BndV o := by
  obtain ⟨h1, h2, h3, h4⟩ := overT_ok h
  obtain ⟨g1, g2, g3⟩ := overT_iff.1 h
  obtain ⟨k1, k2, k3, k4⟩ := lower_ok g1
  have hu := diff_ok h3 h4
  rw [← g3] at hu
  refine ⟨fun e he => by have := entOk_len (treeOk_ent h1 e he); omega, fun l hl => ?_, fun e he => by have := layer_bnd hu e he; omega, by have := treeOk_len h1; omega, by omega, by have := layer_len hu; omega⟩
  have hk := stack_layers _ k3 l hl
  exact ⟨fun e he => by have := layer_bnd hk e he; omega, by have := layer_len hk; omega⟩
theorem bndV_0 : BndV ov0 := ⟨by simp [ov0], by simp [ov0], by simp [ov0], by simp [ov0], by simp [ov0], by simp [ov0]⟩
theorem overRun_cons (o : Ovr) (p : Opn) (r : List Opn) : overRun o (p :: r) = ((overRun (overDo o p).1 r).1, (overDo o p).2 :: (overRun (overDo o p).1 r).2) := rfl
theorem over_cases (o : Ovr) (ops : List Opn) : (∃ t v, overBad o ops = false ∧ overOk o = true ∧ overT o = some (t, v) ∧ ops.length ≤ 30) ∨ (overBad o ops = true ∧ (overOk o = false ∨ (overOk o = true ∧ ¬ ops.length ≤ 30))) := by
  unfold overBad overOk
  cases h : overT o with
  | none => simp
  | some x =>
    by_cases hl : ops.length ≤ 30
    · exact .inl ⟨x.1, x.2, by simp; omega, rfl, rfl, hl⟩
    · exact .inr ⟨by simp; omega, .inr ⟨rfl, hl⟩⟩
theorem eqFunc_con (A B : List (List Mrk)) (hA : ∀ l ∈ A, l.length ≤ 1048576) (hB : ∀ l ∈ B, l.length ≤ 1048576) (lA : A.length ≤ 1048576) (lB : B.length ≤ 1048576) :
    Con (E m) 140 0 [.sl (A.map layC), .sl (B.map layC), .fn 75 []] [] (.b (decide (A = B))) [] := by
  have e1 : (A.map layC).length = A.length := List.length_map ..
  have e2 : (B.map layC).length = B.length := List.length_map ..
  by_cases hl : A.length = B.length
  · refine con_of_cd tyOk mix Tryz.func140 rfl rfl rfl (Nat.le_of_ble_eq_true rfl) ?_
    repeat' first | refine Ra ⟨?_⟩ | ((first | (refine bd (fun h => ?_) (fun h => ?_) <;> (try simp only [List.length_map] at h)) | refine bsplit.mk (fun h => ?_) (fun h => ?_)) <;> conv => whnf) | refine Rb ⟨?_⟩ | fail
    refine Cd.loop2 (fun mq tm S nx => ∃ (i : Nat), mq = (A.length - i) ∧ tm = [(1, .sl (B.map layC)), (2, .fn 75 []), (15, .sl (A.map layC)), (16, .k .i64 ((A.map layC).length : Int)), (17, .k .i64 i)] ∧ S = [] ∧ nx = 0 ∧ (i ≤ A.length) ∧ (A.take i = B.take i)) ?_ ?_
    · refine la [1, 2, 15, 16, 17] ?_
      conv => whnf
      refine ⟨rfl, rfl, _, 0, rfl, rfl, rfl, rfl, by omega, rfl⟩
    · rintro mq tm S nx ⟨i, hn, rfl, rfl, rfl, hi, ha⟩
      by_cases hlt : i < A.length
      · have g1 : A[i]? = some A[i] := List.getElem?_eq_getElem hlt
        have g2 : B[i]? = some (B[i]'(by omega)) := List.getElem?_eq_getElem (by omega)
        have h1 := hA _ (List.getElem_mem hlt)
        have h2 := hB _ (List.getElem_mem (by omega : i < B.length))
        generalize A[i] = x at g1 h1
        generalize B[i]'(by omega) = y at g2 h2
        have c1 := layerSame_con (m := m) x y h1 h2
        by_cases hxy : x = y
        · subst hxy
          rw [decide_eq_true rfl] at c1
          repeat' first | refine Ra ⟨?_⟩ | ((first | refine Rc [] 0 rfl rfl (c1) ?_ | (refine bd (fun h => ?_) (fun h => ?_) <;> (try simp only [List.length_map] at h)) | refine bsplit.mk (fun h => ?_) (fun h => ?_)) <;> conv => whnf) | refine Rb ⟨?_⟩ | fail
          refine .here ⟨mq - 1, by omega, ?_⟩
          refine la [1, 2, 15, 16, 17] ?_
          conv => whnf
          refine ⟨rfl, rfl, i + 1, (by omega), rfl, rfl, rfl, by omega, take_step g1 g2 ha⟩
        · have e4 : decide (A = B) = false := decide_eq_false (ne_at g1 g2 hxy)
          rw [e4]
          rw [decide_eq_false hxy] at c1
          repeat' first | refine Ra ⟨?_⟩ | ((first | refine Rc [] 0 rfl rfl (c1) ?_ | (refine bd (fun h => ?_) (fun h => ?_) <;> (try simp only [List.length_map] at h)) | refine bsplit.mk (fun h => ?_) (fun h => ?_)) <;> conv => whnf) | refine Rb ⟨?_⟩ | fail
          exact Rf
      · have e4 : decide (A = B) = true := decide_eq_true (take_all hl (by omega) ha)
        rw [e4]
        repeat' first | refine Ra ⟨?_⟩ | ((first | (refine bd (fun h => ?_) (fun h => ?_) <;> (try simp only [List.length_map] at h)) | refine bsplit.mk (fun h => ?_) (fun h => ?_)) <;> conv => whnf) | refine Rb ⟨?_⟩ | fail
        exact Rf
  · have e4 : decide (A = B) = false := decide_eq_false (fun h => hl (by rw [h]))
    rw [e4]
    refine con_of_cd tyOk mix Tryz.func140 rfl rfl rfl (Nat.le_of_ble_eq_true rfl) ?_
    repeat' first | refine Ra ⟨?_⟩ | ((first | (refine bd (fun h => ?_) (fun h => ?_) <;> (try simp only [List.length_map] at h)) | refine bsplit.mk (fun h => ?_) (fun h => ?_)) <;> conv => whnf) | refine Rb ⟨?_⟩ | fail
    exact Rf
theorem ovr_eq {a b : Ovr} : a = b ↔ a.base = b.base ∧ a.layers = b.layers ∧ a.upper = b.upper := by
  cases a; cases b; simp
theorem overSame_con (a b : Ovr) (ha : BndV a) (hb : BndV b) : Con (E m) 74 0 [.agg a.c, .agg b.c] [] (.b (decide (a = b))) [] := by
  have c1 := treeSame_con (m := m) a.base b.base ha.bl hb.bl
  have c2 := eqFunc_con (m := m) a.layers b.layers (fun l h => (ha.lay l h).2) (fun l h => (hb.lay l h).2) ha.ll hb.ll
  have c3 := layerSame_con (m := m) a.upper b.upper ha.ul hb.ul
  by_cases h1 : a.base = b.base
  · rw [decide_eq_true h1] at c1
    by_cases h2 : a.layers = b.layers
    · rw [decide_eq_true h2] at c2
      have hx : decide (a = b) = decide (a.upper = b.upper) := by rw [Bool.eq_iff_iff, decide_eq_true_eq, decide_eq_true_eq, ovr_eq]; simp [h1, h2]
      rw [hx]
      refine con_of_cd tyOk mix Tryz.func74 rfl rfl rfl (Nat.le_of_ble_eq_true rfl) ?_
      repeat' first | refine Ra ⟨?_⟩ | ((first | refine Rc [] 0 rfl rfl (c1) ?_ | refine Rc [] 0 rfl rfl (c2) ?_ | refine Rc [] 0 rfl rfl (c3) ?_ | (refine bd (fun h => ?_) (fun h => ?_) <;> (try simp only [List.length_map] at h)) | refine bsplit.mk (fun h => ?_) (fun h => ?_)) <;> conv => whnf) | refine Rb ⟨?_⟩ | fail
      exact Rf
    · rw [decide_eq_false h2] at c2
      have hx : decide (a = b) = false := decide_eq_false fun h => h2 (ovr_eq.1 h).2.1
      rw [hx]
      refine con_of_cd tyOk mix Tryz.func74 rfl rfl rfl (Nat.le_of_ble_eq_true rfl) ?_
      repeat' first | refine Ra ⟨?_⟩ | ((first | refine Rc [] 0 rfl rfl (c1) ?_ | refine Rc [] 0 rfl rfl (c2) ?_ | (refine bd (fun h => ?_) (fun h => ?_) <;> (try simp only [List.length_map] at h)) | refine bsplit.mk (fun h => ?_) (fun h => ?_)) <;> conv => whnf) | refine Rb ⟨?_⟩ | fail
      exact Rf
  · rw [decide_eq_false h1] at c1
    have hx : decide (a = b) = false := decide_eq_false fun h => h1 (ovr_eq.1 h).1
    rw [hx]
    refine con_of_cd tyOk mix Tryz.func74 rfl rfl rfl (Nat.le_of_ble_eq_true rfl) ?_
    repeat' first | refine Ra ⟨?_⟩ | ((first | refine Rc [] 0 rfl rfl (c1) ?_ | (refine bd (fun h => ?_) (fun h => ?_) <;> (try simp only [List.length_map] at h)) | refine bsplit.mk (fun h => ?_) (fun h => ?_)) <;> conv => whnf) | refine Rb ⟨?_⟩ | fail
    exact Rf
theorem iLogOver_con (o : Ovr) (ops : List Opn) (hb : BndV o) (ho : ∀ p ∈ ops, bndO 1073741823 p) (hl : ops.length ≤ 1048576) :
    Con (E m) 72 0 [.agg o.c, .sl (ops.map Opn.c)] [] (.tup [.agg (logOver o ops).1.c, .sl (ints (logOver o ops).2)]) [] := by
  have e1 : (ops.map Opn.c).length = ops.length := List.length_map ..
  have c1 := iOverOk_con (m := m) o hb
  have c2 := copyOver_con (m := m) o hb
  rcases over_cases o ops with ⟨t, v, hg, h1, h2, h3⟩ | ⟨hg, hbad⟩
  · have hx : logOver o ops = overRun o ops := by rw [logOver, hg]; rfl
    rw [hx]
    rw [h1] at c1
    refine con_of_cd tyOk mix Tryz.func72 rfl rfl rfl (Nat.le_of_ble_eq_true rfl) ?_
    repeat' first | refine Ra ⟨?_⟩ | ((first | refine Rc [] 0 rfl rfl (c1) ?_ | refine Rc [] 0 rfl rfl (c2) ?_ | (refine bd (fun h => ?_) (fun h => ?_) <;> (try simp only [List.length_map] at h)) | refine bsplit.mk (fun h => ?_) (fun h => ?_)) <;> conv => whnf) | refine Rb ⟨?_⟩ | fail
    refine Cd.loop2 (fun mq tm S nx => ∃ (i : Nat) (x : Ovr) (v : List Ent) (cs : List Int), mq = (ops.length - i) ∧ tm = [(4, .bp 0 0), (6, .bp 1 0), (7, .own 2), (23, .sl (ops.map Opn.c)), (24, .k .i64 ((ops.map Opn.c).length : Int)), (25, .k .i64 i)] ∧ S = [(0, .box 83 [.nil, .nil, .nil]), (1, .box 83 x.c), (2, .own 3 (ints cs))] ∧ nx = 3 ∧ (i ≤ ops.length) ∧ (overT x = some (t, v)) ∧ (overRun o ops = ((overRun x (ops.drop i)).1, cs ++ (overRun x (ops.drop i)).2)) ∧ (cs.length = i)) ?_ ?_
    · refine la [4, 6, 7, 23, 24, 25] ?_
      conv => whnf
      refine ⟨rfl, rfl, _, 0, o, v, [], rfl, rfl, rfl, rfl, by omega, h2, (by simp), by simp⟩
    · rintro mq tm S nx ⟨i, x, v, cs, hn, rfl, rfl, rfl, hi, hok, hrun, hcl⟩
      have e2 : (ints cs).length = cs.length := List.length_map ..
      rcases drop_or ops i hi with ⟨rfl, hd⟩ | ⟨p, r, hp', hd, hr, hlt⟩
      · rw [hd] at hrun
        have hq : overRun o ops = (x, cs) := by rw [hrun]; simp [overRun]
        rw [hq]
        repeat' first | refine Ra ⟨?_⟩ | ((first | (refine bd (fun h => ?_) (fun h => ?_) <;> (try simp only [List.length_map] at h)) | refine bsplit.mk (fun h => ?_) (fun h => ?_)) <;> conv => whnf) | refine Rb ⟨?_⟩ | fail
        first | refine CallEnd.here (fz ?_) | refine fz ?_
        conv => whnf
        first | exact ⟨rfl, rfl, rfl, rfl⟩ | refine ⟨rfl, rfl, congrArg some (congrArg D.s ?_), rfl⟩ | refine ⟨rfl, rfl, congrArg some (congrArg D.b ?_), rfl⟩ | refine ⟨rfl, rfl, congrArg some (congrArg (D.k _) ?_), rfl⟩ | refine ⟨rfl, rfl, congrArg some (congrArg D.agg ?_), rfl⟩ | refine ⟨rfl, rfl, rfl, ?_⟩
        all_goals first | rfl | (simp_all []; done) | (simp [] <;> (repeat' split) <;> omega) | (rw [Bool.eq_iff_iff]; simp [*] <;> omega)
      · rw [hd, overRun_cons] at hrun
        obtain ⟨d1, _, _, _⟩ := over_do hok p
        have c3 := iOverDo_con (m := m) x p (bndV_ok hok) (ho p (List.mem_of_getElem? hp'))
        generalize overDo x p = Y at c3 hrun d1
        repeat' first | refine Ra ⟨?_⟩ | ((first | refine Rc [] 0 rfl rfl (c3) ?_ | (refine bd (fun h => ?_) (fun h => ?_) <;> (try simp only [List.length_map] at h)) | refine bsplit.mk (fun h => ?_) (fun h => ?_)) <;> conv => whnf) | refine Rb ⟨?_⟩ | fail
        refine .here ⟨mq - 1, by omega, ?_⟩
        refine la [4, 6, 7, 23, 24, 25] ?_
        conv => whnf
        refine ⟨rfl, rfl, i + 1, Y.1, (treeDo v p).1, cs ++ [Y.2], (by omega), rfl, ?_, rfl, by omega, d1, (by rw [hrun, hr]; simp), (by simp; omega)⟩
        rw [← ints_snoc]
        rfl
  · have hx : logOver o ops = (ov0, []) := by rw [logOver, hg]; rfl
    rw [hx]
    rcases hbad with h1 | ⟨h1, h2⟩
    · rw [h1] at c1
      refine con_of_cd tyOk mix Tryz.func72 rfl rfl rfl (Nat.le_of_ble_eq_true rfl) ?_
      repeat' first | refine Ra ⟨?_⟩ | ((first | refine Rc [] 0 rfl rfl (c1) ?_ | (refine bd (fun h => ?_) (fun h => ?_) <;> (try simp only [List.length_map] at h)) | refine bsplit.mk (fun h => ?_) (fun h => ?_)) <;> conv => whnf) | refine Rb ⟨?_⟩ | fail
      first | refine CallEnd.here (fz ?_) | refine fz ?_
      conv => whnf
      first | exact ⟨rfl, rfl, rfl, rfl⟩ | refine ⟨rfl, rfl, congrArg some (congrArg D.s ?_), rfl⟩ | refine ⟨rfl, rfl, congrArg some (congrArg D.b ?_), rfl⟩ | refine ⟨rfl, rfl, congrArg some (congrArg (D.k _) ?_), rfl⟩ | refine ⟨rfl, rfl, congrArg some (congrArg D.agg ?_), rfl⟩ | refine ⟨rfl, rfl, rfl, ?_⟩
      all_goals first | rfl | (simp_all []; done) | (simp [] <;> (repeat' split) <;> omega) | (rw [Bool.eq_iff_iff]; simp [*] <;> omega)
    · rw [h1] at c1
      refine con_of_cd tyOk mix Tryz.func72 rfl rfl rfl (Nat.le_of_ble_eq_true rfl) ?_
      repeat' first | refine Ra ⟨?_⟩ | ((first | refine Rc [] 0 rfl rfl (c1) ?_ | (refine bd (fun h => ?_) (fun h => ?_) <;> (try simp only [List.length_map] at h)) | refine bsplit.mk (fun h => ?_) (fun h => ?_)) <;> conv => whnf) | refine Rb ⟨?_⟩ | fail
      first | refine CallEnd.here (fz ?_) | refine fz ?_
      conv => whnf
      first | exact ⟨rfl, rfl, rfl, rfl⟩ | refine ⟨rfl, rfl, congrArg some (congrArg D.s ?_), rfl⟩ | refine ⟨rfl, rfl, congrArg some (congrArg D.b ?_), rfl⟩ | refine ⟨rfl, rfl, congrArg some (congrArg (D.k _) ?_), rfl⟩ | refine ⟨rfl, rfl, congrArg some (congrArg D.agg ?_), rfl⟩ | refine ⟨rfl, rfl, rfl, ?_⟩
      all_goals first | rfl | (simp_all []; done) | (simp [] <;> (repeat' split) <;> omega) | (rw [Bool.eq_iff_iff]; simp [*] <;> omega)
end Go.Proofs.YtoaiplobfellaaaGreatDoor
