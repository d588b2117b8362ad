/- What the document draws: an entry, a mark. (Written for row 6; not built yet: no seat of session 5 had these functions.) -/
import Derived.Test.YtplhgbcpeohpgaaLt
set_option linter.unusedSimpArgs false
set_option linter.unusedVariables false
set_option maxHeartbeats 1000000
set_option maxRecDepth 10000
namespace Go.Proofs.Ytplhgbcpeohpgaa
open Go Go.RowKit Go.Ab Go.Par
variable {m : Int}
theorem drawEntText_any (l : Bs) (hl : l.length ≤ 1048576) : ∃ e : Ent, (e.path.length ≤ 100 ∧ e.data.length ≤ 100) ∧ Con (E m) 4 0 [.sl (bytesOf l)] [] (.agg e.c) [] := by
  have hl2 : (l.take 2000).length ≤ 2000 := by rw [List.length_take]; omega
  have c0 := open_con (m := m) l hl
  have h1 := l2TreeV_bd (m := m) (l.take 2000) 0
  have c1 := l2Tree_con (m := m) (l.take 2000) 0 (by omega) hl2
  generalize l2TreeV m (l.take 2000) 0 = T at h1 c1
  have h2 := l2BentV_bd (m := m) (l.take 2000) T.2 T.1
  have c2 := l2Bent_con (m := m) (l.take 2000) T.2 T.1 (by omega) hl2 (by omega) h1.2.1
  generalize l2BentV m (l.take 2000) T.2 T.1 = U at h2 c2
  obtain ⟨t, q⟩ := U
  simp only at h2 c2
  have e1 : (t.map Ent.c).length = t.length := List.length_map ..
  by_cases h0 : t.length = 0
  · refine ⟨⟨[47, 97], false, [120]⟩, by simp, ?_⟩
    refine con_of_cd tyOk mix Try.func4 rfl rfl rfl (Nat.le_of_ble_eq_true rfl) ?_
    repeat' first | refine Ra ⟨?_⟩ | ((first | refine Rc [] 1 rfl rfl (c0) ?_ | refine Rc [1] 1 rfl rfl (c1) ?_ | refine Rc [1] 0 rfl rfl (c2) ?_ | (refine bd (fun h => ?_) (fun h => ?_) <;> (try simp only [List.length_map] at h)) | refine bsplit.mk (fun h => ?_) (fun h => ?_)) <;> conv => whnf) | refine Rb ⟨?_⟩ | fail
    exact Rf
  · have c3 := pick_con (m := m) (l.take 2000) q (t.length : Int) (by omega) (by omega) hl2
    obtain ⟨j, hj, hj2⟩ := drew (m := m) (l.take 2000) q (t.length : Int) (by omega)
    rw [hj, ← e1] at c3
    have hjl : j < t.length := by omega
    have r1 : t[j]? = some t[j] := List.getElem?_eq_getElem hjl
    have r2 := h2.2.1 _ (List.getElem_mem hjl)
    refine ⟨t[j], r2, ?_⟩
    generalize t[j] = e at r1
    refine con_of_cd tyOk mix Try.func4 rfl rfl rfl (Nat.le_of_ble_eq_true rfl) ?_
    repeat' first | refine Ra ⟨?_⟩ | ((first | refine Rc [] 1 rfl rfl (c0) ?_ | refine Rc [1] 1 rfl rfl (c1) ?_ | refine Rc [1] 0 rfl rfl (c2) ?_ | refine Rc [1] 0 rfl rfl (c3) ?_ | (refine bd (fun h => ?_) (fun h => ?_) <;> (try simp only [List.length_map] at h)) | refine bsplit.mk (fun h => ?_) (fun h => ?_)) <;> conv => whnf) | refine Rb ⟨?_⟩ | fail
    exact Rf
theorem drawMarkText_any (l : Bs) (hl : l.length ≤ 1048576) : ∃ e : Mrk, (e.path.length ≤ 100 ∧ e.data.length ≤ 100) ∧ Con (E m) 5 0 [.sl (bytesOf l)] [] (.agg e.c) [] := by
  have hl2 : (l.take 2000).length ≤ 2000 := by rw [List.length_take]; omega
  have c0 := open_con (m := m) l hl
  have h1 := l3LayerV_bd (m := m) (l.take 2000) 0
  have c1 := l3Layer_con (m := m) (l.take 2000) 0 (by omega) hl2
  generalize l3LayerV m (l.take 2000) 0 = T at h1 c1
  have h2 := l3BentV_bd (m := m) (l.take 2000) T.2 T.1
  have c2 := l3Bent_con (m := m) (l.take 2000) T.2 T.1 (by omega) hl2 (by omega) h1.2.1
  generalize l3BentV m (l.take 2000) T.2 T.1 = U at h2 c2
  obtain ⟨t, q⟩ := U
  simp only at h2 c2
  have e1 : (t.map Mrk.c).length = t.length := List.length_map ..
  by_cases h0 : t.length = 0
  · refine ⟨⟨[47, 97], 1, []⟩, by simp, ?_⟩
    refine con_of_cd tyOk mix Try.func5 rfl rfl rfl (Nat.le_of_ble_eq_true rfl) ?_
    repeat' first | refine Ra ⟨?_⟩ | ((first | refine Rc [] 1 rfl rfl (c0) ?_ | refine Rc [1] 0 rfl rfl (c1) ?_ | refine Rc [1] 0 rfl rfl (c2) ?_ | (refine bd (fun h => ?_) (fun h => ?_) <;> (try simp only [List.length_map] at h)) | refine bsplit.mk (fun h => ?_) (fun h => ?_)) <;> conv => whnf) | refine Rb ⟨?_⟩ | fail
    exact Rf
  · have c3 := pick_con (m := m) (l.take 2000) q (t.length : Int) (by omega) (by omega) hl2
    obtain ⟨j, hj, hj2⟩ := drew (m := m) (l.take 2000) q (t.length : Int) (by omega)
    rw [hj, ← e1] at c3
    have hjl : j < t.length := by omega
    have r1 : t[j]? = some t[j] := List.getElem?_eq_getElem hjl
    have r2 := h2.2.1 _ (List.getElem_mem hjl)
    refine ⟨t[j], r2, ?_⟩
    generalize t[j] = e at r1
    refine con_of_cd tyOk mix Try.func5 rfl rfl rfl (Nat.le_of_ble_eq_true rfl) ?_
    repeat' first | refine Ra ⟨?_⟩ | ((first | refine Rc [] 1 rfl rfl (c0) ?_ | refine Rc [1] 0 rfl rfl (c1) ?_ | refine Rc [1] 0 rfl rfl (c2) ?_ | refine Rc [1] 0 rfl rfl (c3) ?_ | (refine bd (fun h => ?_) (fun h => ?_) <;> (try simp only [List.length_map] at h)) | refine bsplit.mk (fun h => ?_) (fun h => ?_)) <;> conv => whnf) | refine Rb ⟨?_⟩ | fail
    exact Rf
end Go.Proofs.Ytplhgbcpeohpgaa
