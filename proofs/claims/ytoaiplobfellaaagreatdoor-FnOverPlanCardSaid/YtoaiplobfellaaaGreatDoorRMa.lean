/- Contracts: what the logs' laws draw. -/
import Derived.Test.YtoaiplobfellaaaGreatDoorRLt
import Derived.Test.YtoaiplobfellaaaGreatDoorRLz
set_option linter.unusedSimpArgs false
set_option linter.unusedVariables false
set_option maxHeartbeats 1000000
set_option maxRecDepth 10000
namespace Go.Proofs.YtoaiplobfellaaaGreatDoor
open Go Go.RowKit Go.Ab Go.Par
variable {m : Int}
/-- small -/
structure Smt (t : List Ent) : Prop where
  len : t.length ≤ 20
  bnd : bndE 100 t
theorem Smt.bE {t : List Ent} (h : Smt t) : ∀ e ∈ t, e.path.length ≤ 1073741824 ∧ e.data.length ≤ 1073741824 := fun e he => by have := h.bnd e he; omega
theorem Smt.bB {t : List Ent} (h : Smt t) : bndE 1073741823 t := fun e he => by have := h.bnd e he; omega
theorem bndO.big {o : Opn} (h : bndO 100 o) : bndO 1073741823 o := ⟨by have := h.1; omega, by have := h.2.1; omega, by have := h.2.2; omega⟩
theorem drawTreeDo_any (l : Bs) (hl : l.length ≤ 1048576) : ∃ (t : List Ent) (o : Opn), Smt t ∧ bndO 100 o ∧ Con (E m) 47 0 [.sl (bytesOf l)] [] (.tup [.sl (t.map Ent.c), .agg o.c]) [] := by
  have hl2 : (l.take 2000).length ≤ 2000 := by rw [List.length_take]; omega
  have c0 := open_con (m := m) l hl
  generalize l.take 2000 = l' at hl2 c0
  have h1 := l2TreeV_bd (m := m) l' 0
  have c1 := l2Tree_con (m := m) l' 0 (by omega) hl2
  generalize l2TreeV m l' 0 = T at h1 c1
  have h2 := l2BentV_bd (m := m) l' T.2 T.1
  have c2 := l2Bent_con (m := m) l' T.2 T.1 (by omega) hl2 (by omega) h1.2.1
  generalize l2BentV m l' T.2 T.1 = U at h2 c2
  have h3 := l2OpV_bd (m := m) l' U.2 U.1
  have c3 := l2Op_con (m := m) l' U.2 U.1 (by omega) hl2 (by omega) h2.2.1
  generalize l2OpV m l' U.2 U.1 = V at h3 c3
  refine ⟨U.1, V.1, ⟨by omega, h2.2.1⟩, h3.1, ?_⟩
  refine con_of_cd tyOk mix Tryz.func47 rfl rfl rfl (Nat.le_of_ble_eq_true rfl) ?_
  repeat' first | refine Ra ⟨?_⟩ | ((first | refine Rc [] 1 rfl rfl (c0) ?_ | refine Rc [2] 1 rfl rfl (c1) ?_ | refine Rc [2] 0 rfl rfl (c2) ?_ | refine Rc [2] 0 rfl rfl (c3) ?_ | (refine bd (fun h => ?_) (fun h => ?_) <;> (try simp only [List.length_map] at h)) | refine bsplit.mk (fun h => ?_) (fun h => ?_)) <;> conv => whnf) | refine Rb ⟨?_⟩ | fail
  exact Rf
theorem l7Ops_any (l : Bs) (p : Int) (t : List Ent) (hp : 0 ≤ p ∧ p ≤ 900000) (hl : l.length ≤ 2000) (ht : t.length ≤ 17) (hb : bndE 100 t) :
    ∃ (ops : List Opn) (q : Int), ops.length ≤ 31 ∧ (∀ o ∈ ops, bndO 100 o) ∧ (p ≤ q ∧ q ≤ p + 500) ∧ Con (E m) 144 1 [.bp 0 0, .sl (t.map Ent.c)] [(0, rd l p)] (.own 1) [(0, rd l q), (1, .own 27 (ops.map Opn.c))] := by
  have key : ∃ d S', (∃ (ops : List Opn) (q : Int), ops.length ≤ 31 ∧ (∀ o ∈ ops, bndO 100 o) ∧ (p ≤ q ∧ q ≤ p + 500) ∧ d = .own 1 ∧ S' = [(0, rd l q), (1, .own 27 (ops.map Opn.c))]) ∧ Con (E m) 144 1 [.bp 0 0, .sl (t.map Ent.c)] [(0, rd l p)] d S' := by
    have c0 := pick_con (m := m) l p 2 (by omega) (by omega) hl
    obtain ⟨k, hk, hk2⟩ := drew (m := m) l p 2 (by omega)
    rw [hk] at c0
    have c9 : ∃ n : Int, (0 ≤ n ∧ n ≤ 31) ∧ Con (E m) 179 1 [.bp 0 0, .sl [[.k .i64 4], [.k .i64 8], [.k .i64 12], [.k .i64 18], [.k .i64 2], [.k .i64 0], [.k .i64 (30 + (k : Int))]]] [(0, rd l (p + 1))] (.k .i64 n) [(0, rd l (p + 1 + 1))] := by
      have h5 := numV_mem (m := m) l (p + 1) (ls := [4, 8, 12, 18, 2, 0, 30 + (k : Int)]) (by simp)
      have c5 := num_con (m := m) l (p + 1) [4, 8, 12, 18, 2, 0, 30 + (k : Int)] (by omega) hl (by simp) (by simp)
      refine ⟨_, ?_, c5⟩
      generalize numV m l (p + 1) [4, 8, 12, 18, 2, 0, 30 + (k : Int)] = n at h5
      simp at h5
      omega
    obtain ⟨n, hn, c5⟩ := c9
    refine any_of_cd tyOk mix Tryz.func144 rfl rfl rfl (Nat.le_of_ble_eq_true rfl) ?_
    repeat' first | refine Ra ⟨?_⟩ | ((first | refine Rc [0] 0 rfl rfl (c0) ?_ | refine Rc [0] 0 rfl rfl (c5) ?_ | (refine bd (fun h => ?_) (fun h => ?_) <;> (try simp only [List.length_map] at h)) | refine bsplit.mk (fun h => ?_) (fun h => ?_)) <;> conv => whnf) | refine Rb ⟨?_⟩ | fail
    refine Cd.loop2 (fun mq tm S nx => ∃ (i : Int) (q : Int) (t : List Ent) (A : List Opn), mq = (i.toNat) ∧ tm = [(0, .bp 0 0), (1, .sl (t.map Ent.c)), (5, .own 1), (6, .k .i64 i)] ∧ S = [(0, rd l q), (1, .own 27 (A.map Opn.c))] ∧ nx = 2 ∧ (0 ≤ i ∧ i ≤ n) ∧ (p + 2 ≤ q ∧ q ≤ p + 2 + 12 * (n - i)) ∧ (t.length ≤ 17) ∧ (bndE 100 t) ∧ ((A.length : Int) = n - i) ∧ (∀ o ∈ A, bndO 100 o)) ?_ ?_
    · refine li [1] [0, 1, 5, 6] ?_
      conv => whnf
      refine ⟨rfl, rfl, _, _, _, t, [], rfl, rfl, rfl, rfl, by omega, by omega, ht, hb, by simp, by simp⟩
    · rintro mq tm S nx ⟨i, q, t, A, hn, rfl, rfl, rfl, hi, hq, ht, hb, hA, hAb⟩
      have e2 : (A.map Opn.c).length = A.length := List.length_map ..
      by_cases hi0 : 0 < i
      · have hop := l2OpV_bd (m := m) l q t
        have c1 := l2Op_con (m := m) l q t (by omega) hl (by omega) hb
        have c2 := sTreeDo_con (m := m) t (l2OpV m l q t).1 (by omega) (fun e he => by have := hb e he; omega) (by omega) (by omega) (by omega)
        have hl2 := treeDo_len t (l2OpV m l q t).1
        have hb2 : bndE 100 (treeDo t (l2OpV m l q t).1).1 := treeDo_bnd (by omega) hb hop.1.1 hop.1.2.2
        generalize l2OpV m l q t = V at hop c1 c2 hl2 hb2
        have hAb2 : ∀ o ∈ A ++ [V.1], bndO 100 o := by
          intro o ho
          rcases List.mem_append.1 ho with ho | ho
          · exact hAb o ho
          · rw [List.mem_singleton.1 ho]; exact hop.1
        repeat' first | refine Ra ⟨?_⟩ | ((first | refine Rc [0] 0 rfl rfl (c1) ?_ | refine Rc [] 1 rfl rfl (c2) ?_ | (refine bd (fun h => ?_) (fun h => ?_) <;> (try simp only [List.length_map] at h)) | refine bsplit.mk (fun h => ?_) (fun h => ?_)) <;> conv => whnf) | refine Rb ⟨?_⟩ | fail
        refine .here ⟨mq - 1, by omega, ?_⟩
        refine li [1] [0, 1, 5, 6] ?_
        conv => whnf
        refine ⟨rfl, rfl, i - 1, V.2, (treeDo t V.1).1, A ++ [V.1], (by omega), rfl, ?_, rfl, by omega, by omega, hl2, hb2, (by simp; omega), hAb2⟩
        rw [← ops_snoc]
        rfl
      · repeat' first | refine Ra ⟨?_⟩ | ((first | (refine bd (fun h => ?_) (fun h => ?_) <;> (try simp only [List.length_map] at h)) | refine bsplit.mk (fun h => ?_) (fun h => ?_)) <;> conv => whnf) | refine Rb ⟨?_⟩ | fail
        refine AnyEnd.here (aa ?_)
        conv => whnf
        refine ⟨rfl, rfl, _, rfl, ⟨A, q, by omega, hAb, by omega, rfl, rfl⟩⟩
  obtain ⟨d, S', ⟨ops, q, h1, h2, h3, rfl, rfl⟩, hc⟩ := key
  exact ⟨ops, q, h1, h2, h3, hc⟩
theorem l7Some_any (l : Bs) (hl : l.length ≤ 2000) :
    ∃ (t : List Ent) (ops : List Opn) (q : Int), (Smt t ∧ ops.length ≤ 31 ∧ ∀ o ∈ ops, bndO 100 o) ∧ Con (E m) 92 1 [.bp 0 0] [(0, rd l 0)] (.tup [.sl (t.map Ent.c), .own 1]) [(0, rd l q), (1, .own 27 (ops.map Opn.c))] := by
  have h1 := l2TreeV_bd (m := m) l 0
  have c1 := l2Tree_con (m := m) l 0 (by omega) hl
  generalize l2TreeV m l 0 = T at h1 c1
  obtain ⟨ops, q, g1, g2, g3, c2⟩ := l7Ops_any (m := m) l T.2 T.1 (by omega) hl h1.1 h1.2.1
  have h3 := l2BentV_bd (m := m) l q T.1
  have c3 := l2Bent_con (m := m) l q T.1 (by omega) hl (by omega) h1.2.1
  generalize l2BentV m l q T.1 = U at h3 c3
  refine ⟨U.1, ops, U.2, ⟨⟨by omega, h3.2.1⟩, g1, g2⟩, ?_⟩
  refine con_of_cd tyOk mix Tryz.func92 rfl rfl rfl (Nat.le_of_ble_eq_true rfl) ?_
  repeat' first | refine Ra ⟨?_⟩ | ((first | refine Rc [0] 1 rfl rfl (c1) ?_ | refine Rc [0] 1 rfl rfl (c2) ?_ | refine Rc [0] 0 rfl rfl (c3) ?_ | (refine bd (fun h => ?_) (fun h => ?_) <;> (try simp only [List.length_map] at h)) | refine bsplit.mk (fun h => ?_) (fun h => ?_)) <;> conv => whnf) | refine Rb ⟨?_⟩ | fail
  exact Rf
theorem drawLogDo_any (l : Bs) (hl : l.length ≤ 1048576) : ∃ (t : List Ent) (ops : List Opn), (Smt t ∧ ops.length ≤ 31 ∧ ∀ o ∈ ops, bndO 100 o) ∧ Con (E m) 29 0 [.sl (bytesOf l)] [] (.tup [.sl (t.map Ent.c), .sl (ops.map Opn.c)]) [] := by
  have hl2 : (l.take 2000).length ≤ 2000 := by rw [List.length_take]; omega
  have c0 := open_con (m := m) l hl
  obtain ⟨t, ops, q, h1, c1⟩ := l7Some_any (m := m) (l.take 2000) hl2
  refine ⟨t, ops, h1, ?_⟩
  refine con_of_cd tyOk mix Tryz.func29 rfl rfl rfl (Nat.le_of_ble_eq_true rfl) ?_
  repeat' first | refine Ra ⟨?_⟩ | ((first | refine Rc [] 1 rfl rfl (c0) ?_ | refine Rc [2] 1 rfl rfl (c1) ?_ | (refine bd (fun h => ?_) (fun h => ?_) <;> (try simp only [List.length_map] at h)) | refine bsplit.mk (fun h => ?_) (fun h => ?_)) <;> conv => whnf) | refine Rb ⟨?_⟩ | fail
  first | refine CallEnd.here (fi ?_) | refine fi ?_
  conv => whnf
  first | exact ⟨rfl, rfl, rfl, rfl⟩ | refine ⟨rfl, rfl, congrArg some (congrArg D.s ?_), rfl⟩ | refine ⟨rfl, rfl, congrArg some (congrArg D.b ?_), rfl⟩ | refine ⟨rfl, rfl, congrArg some (congrArg (D.k _) ?_), rfl⟩ | refine ⟨rfl, rfl, congrArg some (congrArg D.agg ?_), rfl⟩ | refine ⟨rfl, rfl, rfl, ?_⟩
  all_goals first | rfl | (simp_all []; done) | (simp [] <;> (repeat' split) <;> omega) | (rw [Bool.eq_iff_iff]; simp [*] <;> omega)
end Go.Proofs.YtoaiplobfellaaaGreatDoor
