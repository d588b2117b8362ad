/- Contracts: the texts and operations that the laws draw. -/
import Derived.Test.YtmnjlhjpeebfdaaDoorLo
import Derived.Test.YtmnjlhjpeebfdaaDoorLp
import Derived.Test.YtmnjlhjpeebfdaaDoorPn
set_option linter.unusedSimpArgs false
set_option linter.unusedVariables false
set_option maxHeartbeats 1000000
set_option maxRecDepth 10000
namespace Go.Proofs.YtmnjlhjpeebfdaaDoor
open Go Go.RowKit Go.Ab Go.Par
variable {m : Int}
def l1Odd : List Bs := [[47], [], [97], [47, 65], [47, 97, 47], [47, 47, 97], [47, 97, 98, 99, 100], [47, 97, 47, 98, 47, 99, 47, 100], [47, 97, 98, 99, 47, 97, 98, 99, 47, 97, 98, 99], [47, 97, 32, 98], [47, 97, 49]]
theorem l1Odd_len : ∀ x ∈ l1Odd, x.length ≤ 100 := by decide
theorem drew (l : Bs) (p n : Int) (hn : 0 < n) : ∃ j : Nat, pickV m l p n = (j : Int) ∧ (j : Int) < n := by
  have h := pickV_bd (m := m) l p n
  exact ⟨_, pick_nn l p n, by have := pick_nn (m := m) l p n; omega⟩
theorem l1Text_any (l : Bs) (p : Int) (hp : 0 ≤ p ∧ p ≤ 1000000) (hl : l.length ≤ 2000) : ∃ x : Bs, x.length ≤ 100 ∧ Con (E m) 92 1 [.bp 0 0] [(0, rd l p)] (.s x) [(0, rd l (p + 1 + 1))] := by
  have h1 : (ofV m l (p + 1) l1Paths).length ≤ 100 := l1Paths_len _ (ofV_mem l _ (by decide))
  have h2 : (ofV m l (p + 1) l1Odd).length ≤ 100 := l1Odd_len _ (ofV_mem l _ (by decide))
  have c0 := pick_con (m := m) l p 4 (by omega) (by omega) hl
  have c1 := l1Path_con (m := m) l (p + 1) (by omega) hl
  have c2 := of_con (m := m) l (p + 1) l1Odd (by omega) hl (by decide) (by decide)
  generalize pickV m l p 4 = k at c0
  by_cases h : 0 < k
  · refine ⟨_, h1, ?_⟩
    refine con_of_cd tyOk mix Tryd.func92 rfl rfl rfl (Nat.le_of_ble_eq_true rfl) ?_
    repeat' first | refine Ra ⟨?_⟩ | ((first | refine Rc [0] 0 rfl rfl (c0) ?_ | refine Rc [0] 0 rfl rfl (c1) ?_ | (refine bd (fun h => ?_) (fun h => ?_) <;> (try simp only [List.length_map] at h)) | refine bsplit.mk (fun h => ?_) (fun h => ?_)) <;> conv => whnf) | refine Rb ⟨?_⟩ | fail
    exact Rf
  · refine ⟨_, h2, ?_⟩
    refine con_of_cd tyOk mix Tryd.func92 rfl rfl rfl (Nat.le_of_ble_eq_true rfl) ?_
    repeat' first | refine Ra ⟨?_⟩ | ((first | refine Rc [0] 0 rfl rfl (c0) ?_ | refine Rc [0] 0 rfl rfl (c2) ?_ | (refine bd (fun h => ?_) (fun h => ?_) <;> (try simp only [List.length_map] at h)) | refine bsplit.mk (fun h => ?_) (fun h => ?_)) <;> conv => whnf) | refine Rb ⟨?_⟩ | fail
    exact Rf
def l6Bits : List Bs := [[], [100], [32], [47], [97], [10], [120]]
theorem l6Bits_len : ∀ x ∈ l6Bits, x.length ≤ 1 := by decide
theorem l6Torn_any (l : Bs) (p : Int) (s : Bs) (hp : 0 ≤ p ∧ p ≤ 1000000) (hl : l.length ≤ 2000) (hs : s.length ≤ 1000000) : ∃ (x : Bs) (q : Int), x.length ≤ s.length + 1 ∧ Con (E m) 62 1 [.bp 0 0, .s s] [(0, rd l p)] (.s x) [(0, rd l q)] := by
  by_cases h0 : s = []
  · refine ⟨s, p, by omega, ?_⟩
    refine con_of_cd tyOk mix Tryd.func62 rfl rfl rfl (Nat.le_of_ble_eq_true rfl) ?_
    repeat' first | refine Ra ⟨?_⟩ | ((first | (refine bd (fun h => ?_) (fun h => ?_) <;> (try simp only [List.length_map] at h)) | refine bsplit.mk (fun h => ?_) (fun h => ?_)) <;> conv => whnf) | refine Rb ⟨?_⟩ | fail
    exact Rf
  · have c0 := pick_con (m := m) l p 2 (by omega) (by omega) hl
    obtain ⟨k, hk, hk2⟩ := drew (m := m) l p 2 (by omega)
    rw [hk] at c0
    by_cases h1 : (k : Int) = 0
    · refine ⟨s, p + 1, by omega, ?_⟩
      refine con_of_cd tyOk mix Tryd.func62 rfl rfl rfl (Nat.le_of_ble_eq_true rfl) ?_
      repeat' first | refine Ra ⟨?_⟩ | ((first | refine Rc [0] 0 rfl rfl (c0) ?_ | (refine bd (fun h => ?_) (fun h => ?_) <;> (try simp only [List.length_map] at h)) | refine bsplit.mk (fun h => ?_) (fun h => ?_)) <;> conv => whnf) | refine Rb ⟨?_⟩ | fail
      exact Rf
    · have hlen : 0 < s.length := List.length_pos_iff.2 h0
      have c1 := pick_con (m := m) l (p + 1) (s.length : Int) (by omega) (by omega) hl
      obtain ⟨j, hj, hj2⟩ := drew (m := m) l (p + 1) (s.length : Int) (by omega)
      rw [hj] at c1
      have c2 := of_con (m := m) l (p + 1 + 1) l6Bits (by omega) hl (by decide) (by decide)
      have hy : (ofV m l (p + 1 + 1) l6Bits).length ≤ 1 := l6Bits_len _ (ofV_mem l _ (by decide))
      generalize ofV m l (p + 1 + 1) l6Bits = y at c2 hy
      have c3 := pick_con (m := m) l (p + 1 + 1 + 1) 2 (by omega) (by omega) hl
      obtain ⟨e, he, he2⟩ := drew (m := m) l (p + 1 + 1 + 1) 2 (by omega)
      rw [he] at c3
      refine ⟨s.take j ++ y ++ s.drop (j + e), p + 1 + 1 + 1 + 1, by simp; omega, ?_⟩
      refine con_of_cd tyOk mix Tryd.func62 rfl rfl rfl (Nat.le_of_ble_eq_true rfl) ?_
      repeat' first | refine Ra ⟨?_⟩ | ((first | refine Rc [0] 0 rfl rfl (c0) ?_ | refine Rc [0] 0 rfl rfl (c1) ?_ | refine Rc [0] 0 rfl rfl (c2) ?_ | refine Rc [0] 0 rfl rfl (c3) ?_ | (refine bd (fun h => ?_) (fun h => ?_) <;> (try simp only [List.length_map] at h)) | refine bsplit.mk (fun h => ?_) (fun h => ?_)) <;> conv => whnf) | refine Rb ⟨?_⟩ | fail
      exact Rf
theorem drawTreeRead_any (l : Bs) (hl : l.length ≤ 1048576) : ∃ x : Bs, x.length ≤ 1048576 ∧ Con (E m) 43 0 [.sl (bytesOf l)] [] (.s x) [] := by
  have hl2 : (l.take 2000).length ≤ 2000 := by rw [List.length_take]; omega
  have h1 := l2TreeV_bd (m := m) (l.take 2000) 0
  have c0 := open_con (m := m) l hl
  have c1 := l2Tree_con (m := m) (l.take 2000) 0 (by omega) hl2
  generalize l2TreeV m (l.take 2000) 0 = t at h1 c1
  have c2 := sTreeText_con (m := m) t.1 (fun e he => by have := h1.2.1 e he; omega) (by omega)
  have h2 := treeText_len t.1
  obtain ⟨x, q, hx, c3⟩ := l6Torn_any (m := m) (l.take 2000) t.2 (treeText t.1) (by omega) hl2 (by omega)
  refine ⟨x, by omega, ?_⟩
  refine con_of_cd tyOk mix Tryd.func43 rfl rfl rfl (Nat.le_of_ble_eq_true rfl) ?_
  repeat' first | refine Ra ⟨?_⟩ | ((first | refine Rc [] 1 rfl rfl (c0) ?_ | refine Rc [0] 1 rfl rfl (c1) ?_ | refine Rc [] 0 rfl rfl (c2) ?_ | refine Rc [0] 0 rfl rfl (c3) ?_ | (refine bd (fun h => ?_) (fun h => ?_) <;> (try simp only [List.length_map] at h)) | refine bsplit.mk (fun h => ?_) (fun h => ?_)) <;> conv => whnf) | refine Rb ⟨?_⟩ | fail
  exact Rf
theorem drawLayerRead_any (l : Bs) (hl : l.length ≤ 1048576) : ∃ x : Bs, x.length ≤ 1048576 ∧ Con (E m) 33 0 [.sl (bytesOf l)] [] (.s x) [] := by
  have hl2 : (l.take 2000).length ≤ 2000 := by rw [List.length_take]; omega
  have h1 := l3LayerV_bd (m := m) (l.take 2000) 0
  have c0 := open_con (m := m) l hl
  have c1 := l3Layer_con (m := m) (l.take 2000) 0 (by omega) hl2
  generalize l3LayerV m (l.take 2000) 0 = t at h1 c1
  have c2 := sLayerText_con (m := m) t.1 (fun e he => by have := h1.2.1 e he; omega) (by omega)
  have h2 := layerText_len t.1
  obtain ⟨x, q, hx, c3⟩ := l6Torn_any (m := m) (l.take 2000) t.2 (layerText t.1) (by omega) hl2 (by omega)
  refine ⟨x, by omega, ?_⟩
  refine con_of_cd tyOk mix Tryd.func33 rfl rfl rfl (Nat.le_of_ble_eq_true rfl) ?_
  repeat' first | refine Ra ⟨?_⟩ | ((first | refine Rc [] 1 rfl rfl (c0) ?_ | refine Rc [0] 0 rfl rfl (c1) ?_ | refine Rc [] 0 rfl rfl (c2) ?_ | refine Rc [0] 0 rfl rfl (c3) ?_ | (refine bd (fun h => ?_) (fun h => ?_) <;> (try simp only [List.length_map] at h)) | refine bsplit.mk (fun h => ?_) (fun h => ?_)) <;> conv => whnf) | refine Rb ⟨?_⟩ | fail
  exact Rf
theorem drawOp_any (l : Bs) (hl : l.length ≤ 1048576) : ∃ o : Opn, (o.path.length ≤ 100 ∧ o.to.length ≤ 100 ∧ o.data.length ≤ 100) ∧ Con (E m) 54 0 [.sl (bytesOf l)] [] (.agg o.c) [] := by
  have hl2 : (l.take 2000).length ≤ 2000 := by rw [List.length_take]; omega
  have c0 := open_con (m := m) l hl
  have h1 := l2OpV_bd (m := m) (l.take 2000) 0 []
  have c1 := l2Op_con (m := m) (l.take 2000) 0 [] (by omega) hl2 (by simp) (fun _ h => by cases h)
  refine ⟨_, h1.1, ?_⟩
  generalize l2OpV m (l.take 2000) 0 [] = o at h1 c1
  refine con_of_cd tyOk mix Tryd.func54 rfl rfl rfl (Nat.le_of_ble_eq_true rfl) ?_
  repeat' first | refine Ra ⟨?_⟩ | ((first | refine Rc [] 1 rfl rfl (c0) ?_ | refine Rc [1] 0 rfl rfl (c1) ?_ | (refine bd (fun h => ?_) (fun h => ?_) <;> (try simp only [List.length_map] at h)) | refine bsplit.mk (fun h => ?_) (fun h => ?_)) <;> conv => whnf) | refine Rb ⟨?_⟩ | fail
  exact Rf
theorem drawOpText_any (l : Bs) (hl : l.length ≤ 1048576) : ∃ o : Opn, (o.path.length ≤ 100 ∧ o.to.length ≤ 100 ∧ o.data.length ≤ 100) ∧ Con (E m) 12 0 [.sl (bytesOf l)] [] (.agg o.c) [] := by
  obtain ⟨o, ho, c⟩ := drawOp_any (m := m) l hl
  refine ⟨o, ho, ?_⟩
  refine con_of_cd tyOk mix Tryd.func12 rfl rfl rfl (Nat.le_of_ble_eq_true rfl) ?_
  repeat' first | refine Ra ⟨?_⟩ | ((first | refine Rc [] 0 rfl rfl (c) ?_ | (refine bd (fun h => ?_) (fun h => ?_) <;> (try simp only [List.length_map] at h)) | refine bsplit.mk (fun h => ?_) (fun h => ?_)) <;> conv => whnf) | refine Rb ⟨?_⟩ | fail
  exact Rf
theorem drawOpRead_any (l : Bs) (hl : l.length ≤ 1048576) : ∃ x : Bs, x.length ≤ 1048576 ∧ Con (E m) 17 0 [.sl (bytesOf l)] [] (.s x) [] := by
  have hl2 : (l.take 2000).length ≤ 2000 := by rw [List.length_take]; omega
  have c0 := open_con (m := m) l hl
  have h1 := l2OpV_bd (m := m) (l.take 2000) 0 []
  have c1 := l2Op_con (m := m) (l.take 2000) 0 [] (by omega) hl2 (by simp) (fun _ h => by cases h)
  generalize l2OpV m (l.take 2000) 0 [] = o at h1 c1
  obtain ⟨⟨k, p, t, d⟩, q⟩ := o
  simp only at h1 c1
  have c2 := sOpText_con (m := m) k p t d (by omega) (by omega) (by omega)
  have h2 : (opText ⟨k, p, t, d⟩).length ≤ 40 := by
    cases h : opOk ⟨k, p, t, d⟩ with
    | true => exact opOk_max h
    | false => simp [opText, h]
  obtain ⟨x, q2, hx, c3⟩ := l6Torn_any (m := m) (l.take 2000) q (opText ⟨k, p, t, d⟩) (by omega) hl2 (by omega)
  refine ⟨x, by omega, ?_⟩
  refine con_of_cd tyOk mix Tryd.func17 rfl rfl rfl (Nat.le_of_ble_eq_true rfl) ?_
  repeat' first | refine Ra ⟨?_⟩ | ((first | refine Rc [] 1 rfl rfl (c0) ?_ | refine Rc [0] 0 rfl rfl (c1) ?_ | refine Rc [] 0 rfl rfl (c2) ?_ | refine Rc [0] 0 rfl rfl (c3) ?_ | (refine bd (fun h => ?_) (fun h => ?_) <;> (try simp only [List.length_map] at h)) | refine bsplit.mk (fun h => ?_) (fun h => ?_)) <;> conv => whnf) | refine Rb ⟨?_⟩ | fail
  exact Rf
end Go.Proofs.YtmnjlhjpeebfdaaDoor
