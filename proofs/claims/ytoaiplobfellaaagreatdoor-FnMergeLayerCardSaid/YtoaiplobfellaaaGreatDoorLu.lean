/- Contracts: the trees that the merges' laws draw. -/
import Derived.Test.YtoaiplobfellaaaGreatDoorLt
set_option linter.unusedSimpArgs false
set_option linter.unusedVariables false
set_option maxHeartbeats 1000000
set_option maxRecDepth 10000
namespace Go.Proofs.YtoaiplobfellaaaGreatDoor
open Go Go.RowKit Go.Ab Go.Par
variable {m : Int}
/-- small -/
structure Sm (t : List Ent) : Prop where
  len : t.length ≤ 20
  bnd : bndE 100 t
theorem l8Near_any (l : Bs) (p : Int) (t : List Ent) (hp : 0 ≤ p ∧ p ≤ 990000) (hl : l.length ≤ 2000) (ht : t.length ≤ 17) (hb : bndE 100 t) :
    ∃ (t' : List Ent) (q : Int), t'.length ≤ 17 ∧ bndE 100 t' ∧ (p ≤ q ∧ q ≤ p + 60) ∧ Con (E m) 194 1 [.bp 0 0, .sl (t.map Ent.c)] [(0, rd l p)] (.sl (t'.map Ent.c)) [(0, rd l q)] := by
  have key : ∃ d S', (∃ (t' : List Ent) (q : Int), t'.length ≤ 17 ∧ bndE 100 t' ∧ (p ≤ q ∧ q ≤ p + 60) ∧ d = .sl (t'.map Ent.c) ∧ S' = [(0, rd l q)]) ∧ Con (E m) 194 1 [.bp 0 0, .sl (t.map Ent.c)] [(0, rd l p)] d S' := by
    have c0 := pick_con (m := m) l p 4 (by omega) (by omega) hl
    obtain ⟨k, hk, hk2⟩ := drew (m := m) l p 4 (by omega)
    rw [hk] at c0
    refine any_of_cd tyOk mix Tryz.func194 rfl rfl rfl (Nat.le_of_ble_eq_true rfl) ?_
    repeat' first | refine Ra ⟨?_⟩ | ((first | refine Rc [0] 0 rfl rfl (c0) ?_ | (refine bd (fun h => ?_) (fun h => ?_) <;> (try simp only [List.length_map] at h)) | refine bsplit.mk (fun h => ?_) (fun h => ?_)) <;> conv => whnf) | refine Rb ⟨?_⟩ | fail
    refine Cd.loop2 (fun mq tm S nx => ∃ (i : Int) (q : Int) (t : List Ent), mq = (i.toNat) ∧ tm = [(0, .bp 0 0), (1, .sl (t.map Ent.c)), (5, .k .i64 i)] ∧ S = [(0, rd l q)] ∧ nx = 1 ∧ (0 ≤ i ∧ i ≤ 3) ∧ (p + 1 ≤ q ∧ q ≤ p + 1 + 12 * (3 - i)) ∧ (t.length ≤ 17) ∧ (bndE 100 t)) ?_ ?_
    · refine li [1] [0, 1, 5] ?_
      conv => whnf
      refine ⟨rfl, rfl, _, _, _, t, rfl, rfl, rfl, rfl, by omega, by omega, ht, hb⟩
    · rintro mq tm S nx ⟨i, q, t, hn, rfl, rfl, rfl, hi, hq, ht, hb⟩
      by_cases hi0 : 0 < i
      · have hop := l2OpV_bd (m := m) l q t
        have c1 := l2Op_con (m := m) l q t (by omega) hl (by omega) hb
        have c2 := sTreeDo_con (m := m) t (l2OpV m l q t).1 (by omega) (fun e he => by have := hb e he; omega) (by omega) (by omega) (by omega)
        have hl2 := treeDo_len t (l2OpV m l q t).1
        have hb2 : bndE 100 (treeDo t (l2OpV m l q t).1).1 := treeDo_bnd (by omega) hb hop.1.1 hop.1.2.2
        repeat' first | refine Ra ⟨?_⟩ | ((first | refine Rc [0] 0 rfl rfl (c1) ?_ | refine Rc [] 1 rfl rfl (c2) ?_ | (refine bd (fun h => ?_) (fun h => ?_) <;> (try simp only [List.length_map] at h)) | refine bsplit.mk (fun h => ?_) (fun h => ?_)) <;> conv => whnf) | refine Rb ⟨?_⟩ | fail
        refine .here ⟨mq - 1, by omega, ?_⟩
        refine li [1] [0, 1, 5] ?_
        conv => whnf
        refine ⟨rfl, rfl, i - 1, _, _, (by omega), rfl, rfl, rfl, by omega, by omega, hl2, hb2⟩
      · repeat' first | refine Ra ⟨?_⟩ | ((first | (refine bd (fun h => ?_) (fun h => ?_) <;> (try simp only [List.length_map] at h)) | refine bsplit.mk (fun h => ?_) (fun h => ?_)) <;> conv => whnf) | refine Rb ⟨?_⟩ | fail
        refine AnyEnd.here (ai ?_)
        conv => whnf
        refine ⟨rfl, rfl, _, rfl, ⟨t, q, ht, hb, by omega, rfl, rfl⟩⟩
  obtain ⟨d, S', ⟨t', q, h1, h2, h3, rfl, rfl⟩, hc⟩ := key
  exact ⟨t', q, h1, h2, h3, hc⟩
theorem l8Some_any (l : Bs) (hl : l.length ≤ 2000) :
    ∃ (t a b : List Ent) (q : Int), (Sm t ∧ Sm a ∧ Sm b) ∧ (0 ≤ q ∧ q ≤ 10000) ∧ Con (E m) 125 1 [.bp 0 0] [(0, rd l 0)] (.tup [.sl (t.map Ent.c), .sl (a.map Ent.c), .sl (b.map Ent.c)]) [(0, rd l q)] := by
  have h1 := l2TreeV_bd (m := m) l 0
  have c1 := l2Tree_con (m := m) l 0 (by omega) hl
  generalize l2TreeV m l 0 = T at h1 c1
  obtain ⟨t, p⟩ := T
  simp only at h1 c1
  obtain ⟨a, p1, ha1, ha2, ha3, c2⟩ := l8Near_any (m := m) l p t (by omega) hl h1.1 h1.2.1
  obtain ⟨b, p2, hb1, hb2, hb3, c3⟩ := l8Near_any (m := m) l p1 t (by omega) hl h1.1 h1.2.1
  have c4 := pick_con (m := m) l p2 24 (by omega) (by omega) hl
  obtain ⟨k, hk, hk2⟩ := drew (m := m) l p2 24 (by omega)
  rw [hk] at c4
  by_cases k0 : k = 0
  · subst k0
    refine ⟨t, b, b, p2 + 1, ⟨⟨by omega, h1.2.1⟩, ⟨by omega, hb2⟩, ⟨by omega, hb2⟩⟩, by omega, ?_⟩
    refine con_of_cd tyOk mix Tryz.func125 rfl rfl rfl (Nat.le_of_ble_eq_true rfl) ?_
    repeat' first | refine Ra ⟨?_⟩ | ((first | refine Rc [0] 1 rfl rfl (c1) ?_ | refine Rc [0] 0 rfl rfl (c2) ?_ | refine Rc [0] 0 rfl rfl (c3) ?_ | refine Rc [0] 0 rfl rfl (c4) ?_ | (refine bd (fun h => ?_) (fun h => ?_) <;> (try simp only [List.length_map] at h)) | refine bsplit.mk (fun h => ?_) (fun h => ?_)) <;> conv => whnf) | refine Rb ⟨?_⟩ | fail
    first | refine CallEnd.here (fi ?_) | refine fi ?_
    conv => whnf
    first | exact ⟨rfl, rfl, rfl, rfl⟩ | refine ⟨rfl, rfl, congrArg some (congrArg D.s ?_), rfl⟩ | refine ⟨rfl, rfl, congrArg some (congrArg D.b ?_), rfl⟩ | refine ⟨rfl, rfl, congrArg some (congrArg (D.k _) ?_), rfl⟩ | refine ⟨rfl, rfl, congrArg some (congrArg D.agg ?_), rfl⟩ | refine ⟨rfl, rfl, rfl, ?_⟩
    all_goals first | rfl | (simp_all []; done) | (simp [] <;> (repeat' split) <;> omega) | (rw [Bool.eq_iff_iff]; simp [*] <;> omega)
  by_cases k1 : k = 1
  · subst k1
    have h5 := l2TreeV_bd (m := m) l (p2 + 1)
    have c5 := l2Tree_con (m := m) l (p2 + 1) (by omega) hl
    generalize l2TreeV m l (p2 + 1) = T at h5 c5
    refine ⟨t, a, T.1, T.2, ⟨⟨by omega, h1.2.1⟩, ⟨by omega, ha2⟩, ⟨by omega, h5.2.1⟩⟩, by omega, ?_⟩
    refine con_of_cd tyOk mix Tryz.func125 rfl rfl rfl (Nat.le_of_ble_eq_true rfl) ?_
    repeat' first | refine Ra ⟨?_⟩ | ((first | refine Rc [0] 1 rfl rfl (c1) ?_ | refine Rc [0] 0 rfl rfl (c2) ?_ | refine Rc [0] 0 rfl rfl (c3) ?_ | refine Rc [0] 0 rfl rfl (c4) ?_ | refine Rc [0] 1 rfl rfl (c5) ?_ | (refine bd (fun h => ?_) (fun h => ?_) <;> (try simp only [List.length_map] at h)) | refine bsplit.mk (fun h => ?_) (fun h => ?_)) <;> conv => whnf) | refine Rb ⟨?_⟩ | fail
    first | refine CallEnd.here (fi ?_) | refine fi ?_
    conv => whnf
    first | exact ⟨rfl, rfl, rfl, rfl⟩ | refine ⟨rfl, rfl, congrArg some (congrArg D.s ?_), rfl⟩ | refine ⟨rfl, rfl, congrArg some (congrArg D.b ?_), rfl⟩ | refine ⟨rfl, rfl, congrArg some (congrArg (D.k _) ?_), rfl⟩ | refine ⟨rfl, rfl, congrArg some (congrArg D.agg ?_), rfl⟩ | refine ⟨rfl, rfl, rfl, ?_⟩
    all_goals first | rfl | (simp_all []; done) | (simp [] <;> (repeat' split) <;> omega) | (rw [Bool.eq_iff_iff]; simp [*] <;> omega)
  by_cases k2 : k = 2
  · subst k2
    have h5 := l2BentV_bd (m := m) l (p2 + 1) b
    have c5 := l2Bent_con (m := m) l (p2 + 1) b (by omega) hl (by omega) hb2
    generalize l2BentV m l (p2 + 1) b = T at h5 c5
    have h6 := l2BentV_bd (m := m) l T.2 T.1
    have c6 := l2Bent_con (m := m) l T.2 T.1 (by omega) hl (by omega) h5.2.1
    generalize l2BentV m l T.2 T.1 = U at h6 c6
    have h7 := l2BentV_bd (m := m) l U.2 U.1
    have c7 := l2Bent_con (m := m) l U.2 U.1 (by omega) hl (by omega) h6.2.1
    generalize l2BentV m l U.2 U.1 = V at h7 c7
    refine ⟨t, a, V.1, V.2, ⟨⟨by omega, h1.2.1⟩, ⟨by omega, ha2⟩, ⟨by omega, h7.2.1⟩⟩, by omega, ?_⟩
    refine con_of_cd tyOk mix Tryz.func125 rfl rfl rfl (Nat.le_of_ble_eq_true rfl) ?_
    repeat' first | refine Ra ⟨?_⟩ | ((first | refine Rc [0] 1 rfl rfl (c1) ?_ | refine Rc [0] 0 rfl rfl (c2) ?_ | refine Rc [0] 0 rfl rfl (c3) ?_ | refine Rc [0] 0 rfl rfl (c4) ?_ | refine Rc [0] 0 rfl rfl (c5) ?_ | refine Rc [0] 0 rfl rfl (c6) ?_ | refine Rc [0] 0 rfl rfl (c7) ?_ | (refine bd (fun h => ?_) (fun h => ?_) <;> (try simp only [List.length_map] at h)) | refine bsplit.mk (fun h => ?_) (fun h => ?_)) <;> conv => whnf) | refine Rb ⟨?_⟩ | fail
    first | refine CallEnd.here (fi ?_) | refine fi ?_
    conv => whnf
    first | exact ⟨rfl, rfl, rfl, rfl⟩ | refine ⟨rfl, rfl, congrArg some (congrArg D.s ?_), rfl⟩ | refine ⟨rfl, rfl, congrArg some (congrArg D.b ?_), rfl⟩ | refine ⟨rfl, rfl, congrArg some (congrArg (D.k _) ?_), rfl⟩ | refine ⟨rfl, rfl, congrArg some (congrArg D.agg ?_), rfl⟩ | refine ⟨rfl, rfl, rfl, ?_⟩
    all_goals first | rfl | (simp_all []; done) | (simp [] <;> (repeat' split) <;> omega) | (rw [Bool.eq_iff_iff]; simp [*] <;> omega)
  by_cases k3 : k ≤ 10
  · have kk : k = 3 ∨ k = 4 ∨ k = 5 ∨ k = 6 ∨ k = 7 ∨ k = 8 ∨ k = 9 ∨ k = 10 := by omega
    by_cases hte : t = []
    · have h5 := (by decide : ∀ x ∈ ([2, 2, 3] : List Int), 0 ≤ x ∧ x ≤ 3) _ (numV_mem (m := m) l (p2 + 1) (ls := [2, 2, 3]) (by decide))
      have c5 := num_con (m := m) l (p2 + 1) [2, 2, 3] (by omega) hl (by decide) (by decide)
      generalize numV m l (p2 + 1) [2, 2, 3] = kd at h5 c5
      have c6 := sTreeDo_con (m := m) a ⟨2, [47, 99], [], [49]⟩ (by omega) (fun e he => by have := ha2 e he; omega) (by simp) (by simp) (by simp)
      have c7 := sTreeDo_con (m := m) b ⟨kd, [47, 99], [], []⟩ (by omega) (fun e he => by have := hb2 e he; omega) (by simp) (by simp) (by simp)
      have g6 := treeDo_len a ⟨2, [47, 99], [], [49]⟩
      have g7 := treeDo_len b ⟨kd, [47, 99], [], []⟩
      have e6 : bndE 100 (treeDo a ⟨2, [47, 99], [], [49]⟩).1 := treeDo_bnd (by omega) ha2 (by simp) (by simp)
      have e7 : bndE 100 (treeDo b ⟨kd, [47, 99], [], []⟩).1 := treeDo_bnd (by omega) hb2 (by simp) (by simp)
      have hz : t.length = 0 := by rw [hte]; rfl
      refine ⟨t, (treeDo a ⟨2, [47, 99], [], [49]⟩).1, (treeDo b ⟨kd, [47, 99], [], []⟩).1, p2 + 1 + 1, ⟨⟨by omega, h1.2.1⟩, ⟨by omega, e6⟩, ⟨by omega, e7⟩⟩, by omega, ?_⟩
      generalize treeDo a ⟨2, [47, 99], [], [49]⟩ = A at c6
      generalize treeDo b ⟨kd, [47, 99], [], []⟩ = B at c7
      rcases kk with rfl | rfl | rfl | rfl | rfl | rfl | rfl | rfl
      all_goals
        refine con_of_cd tyOk mix Tryz.func125 rfl rfl rfl (Nat.le_of_ble_eq_true rfl) ?_
        repeat' first | refine Ra ⟨?_⟩ | ((first | refine Rc [0] 1 rfl rfl (c1) ?_ | refine Rc [0] 0 rfl rfl (c2) ?_ | refine Rc [0] 0 rfl rfl (c3) ?_ | refine Rc [0] 0 rfl rfl (c4) ?_ | refine Rc [0] 0 rfl rfl (c5) ?_ | refine Rc [] 1 rfl rfl (c6) ?_ | refine Rc [] 1 rfl rfl (c7) ?_ | (refine bd (fun h => ?_) (fun h => ?_) <;> (try simp only [List.length_map] at h)) | refine bsplit.mk (fun h => ?_) (fun h => ?_)) <;> conv => whnf) | refine Rb ⟨?_⟩ | fail
        first | refine CallEnd.here (fi ?_) | refine fi ?_
        conv => whnf
        first | exact ⟨rfl, rfl, rfl, rfl⟩ | refine ⟨rfl, rfl, congrArg some (congrArg D.s ?_), rfl⟩ | refine ⟨rfl, rfl, congrArg some (congrArg D.b ?_), rfl⟩ | refine ⟨rfl, rfl, congrArg some (congrArg (D.k _) ?_), rfl⟩ | refine ⟨rfl, rfl, congrArg some (congrArg D.agg ?_), rfl⟩ | refine ⟨rfl, rfl, rfl, ?_⟩
        all_goals first | rfl | (simp_all []; done) | (simp [] <;> (repeat' split) <;> omega) | (rw [Bool.eq_iff_iff]; simp [*] <;> omega)
    · have hpos : 0 < t.length := List.length_pos_iff.2 hte
      have c8 := pick_con (m := m) l (p2 + 1) ((t.map Ent.c).length : Int) (by omega) (by rw [List.length_map]; omega) hl
      obtain ⟨j, hj, hj2⟩ := drew (m := m) l (p2 + 1) ((t.map Ent.c).length : Int) (by rw [List.length_map]; omega)
      rw [hj] at c8
      rw [List.length_map] at hj2
      have hjl : j < t.length := by omega
      obtain ⟨x, hx⟩ : ∃ x, t[j]? = some x := ⟨_, List.getElem?_eq_getElem hjl⟩
      have hxb := h1.2.1 x (List.mem_of_getElem? hx)
      have h5 := (by decide : ∀ x ∈ ([2, 2, 3] : List Int), 0 ≤ x ∧ x ≤ 3) _ (numV_mem (m := m) l (p2 + 1 + 1) (ls := [2, 2, 3]) (by decide))
      have c5 := num_con (m := m) l (p2 + 1 + 1) [2, 2, 3] (by omega) hl (by decide) (by decide)
      generalize numV m l (p2 + 1 + 1) [2, 2, 3] = kd at h5 c5
      have c6 := sTreeDo_con (m := m) a ⟨2, x.path, [], [49]⟩ (by omega) (fun e he => by have := ha2 e he; omega) (by simp; omega) (by simp) (by simp)
      have c7 := sTreeDo_con (m := m) b ⟨kd, x.path, [], []⟩ (by omega) (fun e he => by have := hb2 e he; omega) (by simp; omega) (by simp) (by simp)
      have g6 := treeDo_len a ⟨2, x.path, [], [49]⟩
      have g7 := treeDo_len b ⟨kd, x.path, [], []⟩
      have e6 : bndE 100 (treeDo a ⟨2, x.path, [], [49]⟩).1 := treeDo_bnd (by omega) ha2 hxb.1 (by simp)
      have e7 : bndE 100 (treeDo b ⟨kd, x.path, [], []⟩).1 := treeDo_bnd (by omega) hb2 hxb.1 (by simp)
      refine ⟨t, (treeDo a ⟨2, x.path, [], [49]⟩).1, (treeDo b ⟨kd, x.path, [], []⟩).1, p2 + 1 + 1 + 1, ⟨⟨by omega, h1.2.1⟩, ⟨by omega, e6⟩, ⟨by omega, e7⟩⟩, by omega, ?_⟩
      generalize treeDo a ⟨2, x.path, [], [49]⟩ = A at c6
      generalize treeDo b ⟨kd, x.path, [], []⟩ = B at c7
      rcases kk with rfl | rfl | rfl | rfl | rfl | rfl | rfl | rfl
      all_goals
        refine con_of_cd tyOk mix Tryz.func125 rfl rfl rfl (Nat.le_of_ble_eq_true rfl) ?_
        repeat' first | refine Ra ⟨?_⟩ | ((first | refine Rc [0] 1 rfl rfl (c1) ?_ | refine Rc [0] 0 rfl rfl (c2) ?_ | refine Rc [0] 0 rfl rfl (c3) ?_ | refine Rc [0] 0 rfl rfl (c4) ?_ | refine Rc [0] 0 rfl rfl (c8) ?_ | refine Rc [0] 0 rfl rfl (c5) ?_ | refine Rc [] 1 rfl rfl (c6) ?_ | refine Rc [] 1 rfl rfl (c7) ?_ | (refine bd (fun h => ?_) (fun h => ?_) <;> (try simp only [List.length_map] at h)) | refine bsplit.mk (fun h => ?_) (fun h => ?_)) <;> conv => whnf) | refine Rb ⟨?_⟩ | fail
        first | refine CallEnd.here (fi ?_) | refine fi ?_
        conv => whnf
        first | exact ⟨rfl, rfl, rfl, rfl⟩ | refine ⟨rfl, rfl, congrArg some (congrArg D.s ?_), rfl⟩ | refine ⟨rfl, rfl, congrArg some (congrArg D.b ?_), rfl⟩ | refine ⟨rfl, rfl, congrArg some (congrArg (D.k _) ?_), rfl⟩ | refine ⟨rfl, rfl, congrArg some (congrArg D.agg ?_), rfl⟩ | refine ⟨rfl, rfl, rfl, ?_⟩
        all_goals first | rfl | (simp_all []; done) | (simp [] <;> (repeat' split) <;> omega) | (rw [Bool.eq_iff_iff]; simp [*] <;> omega)
  · refine ⟨t, a, b, p2 + 1, ⟨⟨by omega, h1.2.1⟩, ⟨by omega, ha2⟩, ⟨by omega, hb2⟩⟩, by omega, ?_⟩
    refine con_of_cd tyOk mix Tryz.func125 rfl rfl rfl (Nat.le_of_ble_eq_true rfl) ?_
    repeat' first | refine Ra ⟨?_⟩ | ((first | refine Rc [0] 1 rfl rfl (c1) ?_ | refine Rc [0] 0 rfl rfl (c2) ?_ | refine Rc [0] 0 rfl rfl (c3) ?_ | refine Rc [0] 0 rfl rfl (c4) ?_ | (refine bd (fun h => ?_) (fun h => ?_) <;> (try simp only [List.length_map] at h)) | refine bsplit.mk (fun h => ?_) (fun h => ?_)) <;> conv => whnf) | refine Rb ⟨?_⟩ | fail
    first | refine CallEnd.here (fi ?_) | refine fi ?_
    conv => whnf
    first | exact ⟨rfl, rfl, rfl, rfl⟩ | refine ⟨rfl, rfl, congrArg some (congrArg D.s ?_), rfl⟩ | refine ⟨rfl, rfl, congrArg some (congrArg D.b ?_), rfl⟩ | refine ⟨rfl, rfl, congrArg some (congrArg (D.k _) ?_), rfl⟩ | refine ⟨rfl, rfl, congrArg some (congrArg D.agg ?_), rfl⟩ | refine ⟨rfl, rfl, rfl, ?_⟩
    all_goals first | rfl | (simp_all []; done) | (simp [] <;> (repeat' split) <;> omega) | (rw [Bool.eq_iff_iff]; simp [*] <;> omega)
theorem drawMerge_any (l : Bs) (hl : l.length ≤ 1048576) : ∃ (t a b : List Ent), (Sm t ∧ Sm a ∧ Sm b) ∧ Con (E m) 67 0 [.sl (bytesOf l)] [] (.tup [.sl (t.map Ent.c), .sl (a.map Ent.c), .sl (b.map Ent.c)]) [] := by
  have hl2 : (l.take 2000).length ≤ 2000 := by rw [List.length_take]; omega
  have c0 := open_con (m := m) l hl
  obtain ⟨t, a, b, q, h1, h2, c1⟩ := l8Some_any (m := m) (l.take 2000) hl2
  refine ⟨t, a, b, h1, ?_⟩
  refine con_of_cd tyOk mix Tryz.func67 rfl rfl rfl (Nat.le_of_ble_eq_true rfl) ?_
  repeat' first | refine Ra ⟨?_⟩ | ((first | refine Rc [] 1 rfl rfl (c0) ?_ | refine Rc [3] 0 rfl rfl (c1) ?_ | (refine bd (fun h => ?_) (fun h => ?_) <;> (try simp only [List.length_map] at h)) | refine bsplit.mk (fun h => ?_) (fun h => ?_)) <;> conv => whnf) | refine Rb ⟨?_⟩ | fail
  exact Rf
end Go.Proofs.YtoaiplobfellaaaGreatDoor
