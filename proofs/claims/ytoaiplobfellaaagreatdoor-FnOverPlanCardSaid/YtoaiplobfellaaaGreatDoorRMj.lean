/- Contracts: what the document does to trees on layers. -/
import Derived.Test.YtoaiplobfellaaaGreatDoorRMi
set_option linter.unusedSimpArgs false
set_option linter.unusedVariables false
set_option maxHeartbeats 1000000
set_option maxRecDepth 10000
namespace Go.Proofs.YtoaiplobfellaaaGreatDoor
open Go Go.RowKit Go.Ab Go.Par
variable {m : Int}
theorem sWith_con (o : Ovr) (t x : List Ent) (hb : BndV o) (ht : lowerT o = some t) (hx : treeOk x = true) : Con (E m) 200 0 [.agg o.c, .sl (x.map Ent.c)] [] (.agg (⟨o.base, o.layers, diffL t x⟩ : Ovr).c) [] := by
  have c1 := sLower_con (m := m) o hb
  rw [ht] at c1
  have c2 := sDiff_con (m := m) t x (lower_ok ht).2.2.2 hx
  refine con_of_cd tyOk mix Tryz.func200 rfl rfl rfl (Nat.le_of_ble_eq_true rfl) ?_
  repeat' first | refine Ra ⟨?_⟩ | ((first | refine Rc [] 0 rfl rfl (c1) ?_ | refine Rc [] 0 rfl rfl (c2) ?_ | (refine bd (fun h => ?_) (fun h => ?_) <;> (try simp only [List.length_map] at h)) | refine bsplit.mk (fun h => ?_) (fun h => ?_)) <;> conv => whnf) | refine Rb ⟨?_⟩ | fail
  first | refine CallEnd.here (fz ?_) | refine fz ?_
  conv => whnf
  first | exact ⟨rfl, rfl, rfl, rfl⟩ | refine ⟨rfl, rfl, congrArg some (congrArg D.s ?_), rfl⟩ | refine ⟨rfl, rfl, congrArg some (congrArg D.b ?_), rfl⟩ | refine ⟨rfl, rfl, congrArg some (congrArg (D.k _) ?_), rfl⟩ | refine ⟨rfl, rfl, congrArg some (congrArg D.agg ?_), rfl⟩ | refine ⟨rfl, rfl, rfl, ?_⟩
  all_goals first | rfl | (simp_all []; done) | (simp [] <;> (repeat' split) <;> omega) | (rw [Bool.eq_iff_iff]; simp [*] <;> omega)
theorem sOverDo_con (o : Ovr) (p : Opn) (hb : BndV o) (hp : bndO 1073741823 p) : Con (E m) 139 0 [.agg o.c, .agg p.c] [] (.tup [.agg (overDo o p).1.c, .k .i64 (overDo o p).2]) [] := by
  have c1 := sOverOk_con (m := m) o hb
  have c2 := sView_con (m := m) o hb
  have c3 := sCopy_con (m := m) o hb
  unfold overDo
  unfold overOk at c1
  cases h : overT o with
  | none =>
    rw [h] at c1
    refine con_of_cd tyOk mix Tryz.func139 rfl rfl rfl (Nat.le_of_ble_eq_true rfl) ?_
    repeat' first | refine Ra ⟨?_⟩ | ((first | refine Rc [] 0 rfl rfl (c1) ?_ | (refine bd (fun h => ?_) (fun h => ?_) <;> (try simp only [List.length_map] at h)) | refine bsplit.mk (fun h => ?_) (fun h => ?_)) <;> conv => whnf) | refine Rb ⟨?_⟩ | fail
    first | refine CallEnd.here (fz ?_) | refine fz ?_
    conv => whnf
    first | exact ⟨rfl, rfl, rfl, rfl⟩ | refine ⟨rfl, rfl, congrArg some (congrArg D.s ?_), rfl⟩ | refine ⟨rfl, rfl, congrArg some (congrArg D.b ?_), rfl⟩ | refine ⟨rfl, rfl, congrArg some (congrArg (D.k _) ?_), rfl⟩ | refine ⟨rfl, rfl, congrArg some (congrArg D.agg ?_), rfl⟩ | refine ⟨rfl, rfl, rfl, ?_⟩
    all_goals first | rfl | (simp_all []; done) | (simp [] <;> (repeat' split) <;> omega) | (rw [Bool.eq_iff_iff]; simp [*] <;> omega)
  | some x =>
    obtain ⟨t, v⟩ := x
    rw [h] at c1
    obtain ⟨_, _, k3, k4⟩ := overT_ok h
    obtain ⟨g1, g2, _⟩ := overT_iff.1 h
    have hv : viewT o = some v := by unfold viewT; rw [g1]; exact g2
    rw [hv] at c2
    have hvl := treeOk_len k4
    have c4 := sTreeDo_con (m := m) v p (by omega) (fun e he => by have := entOk_len (treeOk_ent k4 e he); omega) hp.1 hp.2.1 hp.2.2
    have c5 := sWith_con (m := m) o t (treeDo v p).1 hb g1 (treeDo_ok k4 p)
    simp only
    by_cases h0 : (treeDo v p).2 = 0
    · rw [if_pos h0]
      rw [h0] at c4 ⊢
      generalize (treeDo v p).1 = y at c4 c5 ⊢
      refine con_of_cd tyOk mix Tryz.func139 rfl rfl rfl (Nat.le_of_ble_eq_true rfl) ?_
      repeat' first | refine Ra ⟨?_⟩ | ((first | refine Rc [] 0 rfl rfl (c1) ?_ | refine Rc [] 0 rfl rfl (c2) ?_ | refine Rc [] 0 rfl rfl (c3) ?_ | refine Rc [] 1 rfl rfl (c4) ?_ | refine Rc [] 0 rfl rfl (c5) ?_ | (refine bd (fun h => ?_) (fun h => ?_) <;> (try simp only [List.length_map] at h)) | refine bsplit.mk (fun h => ?_) (fun h => ?_)) <;> conv => whnf) | refine Rb ⟨?_⟩ | fail
      first | refine CallEnd.here (fz ?_) | refine fz ?_
      conv => whnf
      first | exact ⟨rfl, rfl, rfl, rfl⟩ | refine ⟨rfl, rfl, congrArg some (congrArg D.s ?_), rfl⟩ | refine ⟨rfl, rfl, congrArg some (congrArg D.b ?_), rfl⟩ | refine ⟨rfl, rfl, congrArg some (congrArg (D.k _) ?_), rfl⟩ | refine ⟨rfl, rfl, congrArg some (congrArg D.agg ?_), rfl⟩ | refine ⟨rfl, rfl, rfl, ?_⟩
      all_goals first | rfl | (simp_all []; done) | (simp [] <;> (repeat' split) <;> omega) | (rw [Bool.eq_iff_iff]; simp [*] <;> omega)
    · rw [if_neg h0]
      generalize treeDo v p = Y at c4 h0 ⊢
      refine con_of_cd tyOk mix Tryz.func139 rfl rfl rfl (Nat.le_of_ble_eq_true rfl) ?_
      repeat' first | refine Ra ⟨?_⟩ | ((first | refine Rc [] 0 rfl rfl (c1) ?_ | refine Rc [] 0 rfl rfl (c2) ?_ | refine Rc [] 0 rfl rfl (c3) ?_ | refine Rc [] 1 rfl rfl (c4) ?_ | (refine bd (fun h => ?_) (fun h => ?_) <;> (try simp only [List.length_map] at h)) | refine bsplit.mk (fun h => ?_) (fun h => ?_)) <;> conv => whnf) | refine Rb ⟨?_⟩ | fail
      first | refine CallEnd.here (fz ?_) | refine fz ?_
      conv => whnf
      first | exact ⟨rfl, rfl, rfl, rfl⟩ | refine ⟨rfl, rfl, congrArg some (congrArg D.s ?_), rfl⟩ | refine ⟨rfl, rfl, congrArg some (congrArg D.b ?_), rfl⟩ | refine ⟨rfl, rfl, congrArg some (congrArg (D.k _) ?_), rfl⟩ | refine ⟨rfl, rfl, congrArg some (congrArg D.agg ?_), rfl⟩ | refine ⟨rfl, rfl, rfl, ?_⟩
      all_goals first | rfl | (simp_all []; done) | (simp [] <;> (repeat' split) <;> omega) | (rw [Bool.eq_iff_iff]; simp [*] <;> omega)
theorem sLogOver_con (o : Ovr) (ops : List Opn) (hb : BndV o) (ho : ∀ p ∈ ops, bndO 1073741823 p) (hl : ops.length ≤ 1048576) :
    Con (E m) 73 0 [.agg o.c, .sl (ops.map Opn.c)] [] (.tup [.agg (logOver o ops).1.c, .sl (ints (logOver o ops).2)]) [] := by
  have e1 : (ops.map Opn.c).length = ops.length := List.length_map ..
  have c1 := sOverOk_con (m := m) o hb
  have c2 := sCopy_con (m := m) o hb
  rcases over_cases o ops with ⟨t, v, hg, h1, h2, h3⟩ | ⟨hg, hbad⟩
  · have hx : logOver o ops = overRun o ops := by rw [logOver, hg]; rfl
    rw [hx]
    rw [h1] at c1
    refine con_of_cd tyOk mix Tryz.func73 rfl rfl rfl (Nat.le_of_ble_eq_true rfl) ?_
    repeat' first | refine Ra ⟨?_⟩ | ((first | refine Rc [] 0 rfl rfl (c1) ?_ | refine Rc [] 0 rfl rfl (c2) ?_ | (refine bd (fun h => ?_) (fun h => ?_) <;> (try simp only [List.length_map] at h)) | refine bsplit.mk (fun h => ?_) (fun h => ?_)) <;> conv => whnf) | refine Rb ⟨?_⟩ | fail
    refine Cd.loop2 (fun mq tm S nx => ∃ (i : Nat) (x : Ovr) (v : List Ent) (cs : List Int), mq = (ops.length - i) ∧ tm = [(1, .sl (ops.map Opn.c)), (4, .bp 0 0), (6, .own 1), (7, .bp 2 0), (8, .k .i64 i)] ∧ S = [(0, .box 83 [.nil, .nil, .nil]), (1, .own 3 (ints cs)), (2, .box 83 x.c)] ∧ nx = 3 ∧ (i ≤ ops.length) ∧ (overT x = some (t, v)) ∧ (overRun o ops = ((overRun x (ops.drop i)).1, cs ++ (overRun x (ops.drop i)).2)) ∧ (cs.length = i)) ?_ ?_
    · refine la [1, 4, 6, 7, 8] ?_
      conv => whnf
      refine ⟨rfl, rfl, _, 0, o, v, [], rfl, rfl, rfl, rfl, by omega, h2, (by simp), by simp⟩
    · rintro mq tm S nx ⟨i, x, v, cs, hn, rfl, rfl, rfl, hi, hok, hrun, hcl⟩
      have e2 : (ints cs).length = cs.length := List.length_map ..
      rcases drop_or ops i hi with ⟨rfl, hd⟩ | ⟨p, r, hp', hd, hr, hlt⟩
      · rw [hd] at hrun
        have hq : overRun o ops = (x, cs) := by rw [hrun]; simp [overRun]
        rw [hq]
        repeat' first | refine Ra ⟨?_⟩ | ((first | (refine bd (fun h => ?_) (fun h => ?_) <;> (try simp only [List.length_map] at h)) | refine bsplit.mk (fun h => ?_) (fun h => ?_)) <;> conv => whnf) | refine Rb ⟨?_⟩ | fail
        first | refine CallEnd.here (fz ?_) | refine fz ?_
        conv => whnf
        first | exact ⟨rfl, rfl, rfl, rfl⟩ | refine ⟨rfl, rfl, congrArg some (congrArg D.s ?_), rfl⟩ | refine ⟨rfl, rfl, congrArg some (congrArg D.b ?_), rfl⟩ | refine ⟨rfl, rfl, congrArg some (congrArg (D.k _) ?_), rfl⟩ | refine ⟨rfl, rfl, congrArg some (congrArg D.agg ?_), rfl⟩ | refine ⟨rfl, rfl, rfl, ?_⟩
        all_goals first | rfl | (simp_all []; done) | (simp [] <;> (repeat' split) <;> omega) | (rw [Bool.eq_iff_iff]; simp [*] <;> omega)
      · rw [hd, overRun_cons] at hrun
        obtain ⟨d1, _, _, _⟩ := over_do hok p
        have c3 := sOverDo_con (m := m) x p (bndV_ok hok) (ho p (List.mem_of_getElem? hp'))
        generalize overDo x p = Y at c3 hrun d1
        repeat' first | refine Ra ⟨?_⟩ | ((first | refine Rc [] 0 rfl rfl (c3) ?_ | (refine bd (fun h => ?_) (fun h => ?_) <;> (try simp only [List.length_map] at h)) | refine bsplit.mk (fun h => ?_) (fun h => ?_)) <;> conv => whnf) | refine Rb ⟨?_⟩ | fail
        refine .here ⟨mq - 1, by omega, ?_⟩
        refine la [1, 4, 6, 7, 8] ?_
        conv => whnf
        refine ⟨rfl, rfl, i + 1, Y.1, (treeDo v p).1, cs ++ [Y.2], (by omega), rfl, ?_, rfl, by omega, d1, (by rw [hrun, hr]; simp), (by simp; omega)⟩
        rw [← ints_snoc]
        rfl
  · have hx : logOver o ops = (ov0, []) := by rw [logOver, hg]; rfl
    rw [hx]
    rcases hbad with h1 | ⟨h1, h2⟩
    · rw [h1] at c1
      refine con_of_cd tyOk mix Tryz.func73 rfl rfl rfl (Nat.le_of_ble_eq_true rfl) ?_
      repeat' first | refine Ra ⟨?_⟩ | ((first | refine Rc [] 0 rfl rfl (c1) ?_ | (refine bd (fun h => ?_) (fun h => ?_) <;> (try simp only [List.length_map] at h)) | refine bsplit.mk (fun h => ?_) (fun h => ?_)) <;> conv => whnf) | refine Rb ⟨?_⟩ | fail
      first | refine CallEnd.here (fz ?_) | refine fz ?_
      conv => whnf
      first | exact ⟨rfl, rfl, rfl, rfl⟩ | refine ⟨rfl, rfl, congrArg some (congrArg D.s ?_), rfl⟩ | refine ⟨rfl, rfl, congrArg some (congrArg D.b ?_), rfl⟩ | refine ⟨rfl, rfl, congrArg some (congrArg (D.k _) ?_), rfl⟩ | refine ⟨rfl, rfl, congrArg some (congrArg D.agg ?_), rfl⟩ | refine ⟨rfl, rfl, rfl, ?_⟩
      all_goals first | rfl | (simp_all []; done) | (simp [] <;> (repeat' split) <;> omega) | (rw [Bool.eq_iff_iff]; simp [*] <;> omega)
    · rw [h1] at c1
      refine con_of_cd tyOk mix Tryz.func73 rfl rfl rfl (Nat.le_of_ble_eq_true rfl) ?_
      repeat' first | refine Ra ⟨?_⟩ | ((first | refine Rc [] 0 rfl rfl (c1) ?_ | (refine bd (fun h => ?_) (fun h => ?_) <;> (try simp only [List.length_map] at h)) | refine bsplit.mk (fun h => ?_) (fun h => ?_)) <;> conv => whnf) | refine Rb ⟨?_⟩ | fail
      first | refine CallEnd.here (fz ?_) | refine fz ?_
      conv => whnf
      first | exact ⟨rfl, rfl, rfl, rfl⟩ | refine ⟨rfl, rfl, congrArg some (congrArg D.s ?_), rfl⟩ | refine ⟨rfl, rfl, congrArg some (congrArg D.b ?_), rfl⟩ | refine ⟨rfl, rfl, congrArg some (congrArg (D.k _) ?_), rfl⟩ | refine ⟨rfl, rfl, congrArg some (congrArg D.agg ?_), rfl⟩ | refine ⟨rfl, rfl, rfl, ?_⟩
      all_goals first | rfl | (simp_all []; done) | (simp [] <;> (repeat' split) <;> omega) | (rw [Bool.eq_iff_iff]; simp [*] <;> omega)
end Go.Proofs.YtoaiplobfellaaaGreatDoor
