/- Contracts: right layers and their texts, as the document has them; the laws' own helpers for lists of marks. -/
import Derived.Test.YtplhgbcpeohpgaaLh
set_option linter.unusedSimpArgs false
set_option linter.unusedVariables false
set_option maxHeartbeats 1000000
set_option maxRecDepth 10000
namespace Go.Proofs.Ytplhgbcpeohpgaa
open Go Go.RowKit Go.Ab Go.Par
variable {m : Int}
set_option maxHeartbeats 1000000 in
theorem sLayerOk_con (l : List Mrk) (hl : l.length ≤ 1073741824) (hb : ∀ e ∈ l, e.path.length ≤ 1073741823 ∧ e.data.length ≤ 1073741823) : Con (E m) 23 0 [.sl (l.map Mrk.c)] [] (.b (layerOk l)) [] := by
  refine con_of_cd tyOk mix Try.func23 rfl rfl rfl (Nat.le_of_ble_eq_true rfl) ?_
  repeat' first | refine Ra ⟨?_⟩ | ((first | (refine bd (fun h => ?_) (fun h => ?_) <;> (try simp only [List.length_map] at h)) | refine bsplit.mk (fun h => ?_) (fun h => ?_)) <;> conv => whnf) | refine Rb ⟨?_⟩ | fail
  refine Cd.loop2 (fun mq tm S nx => ∃ (i : Nat), mq = (l.length - i) ∧ tm = [(0, .sl (l.map Mrk.c)), (3, .k .i64 i)] ∧ S = [] ∧ nx = 0 ∧ (i ≤ l.length) ∧ (∀ k, k < i → okLS l k = true)) ?_ ?_
  · refine la [0, 3] ?_
    conv => whnf
    refine ⟨rfl, rfl, _, 0, rfl, rfl, rfl, rfl, Nat.zero_le _, fun k h => absurd h (Nat.not_lt_zero _)⟩
  · rintro mq tm S nx ⟨i, hn, rfl, rfl, rfl, hi, ha⟩
    by_cases hlt : i < l.length
    · have hq := hb l[i] (List.getElem_mem hlt)
      have h1 := sPathOk_con (m := m) l[i].path (by omega)
      have h2 := sData_con (m := m) l[i].data (by omega)
      have h3 := sl3In_con (m := m) (l.take i) l[i].path (by rw [List.length_take]; omega) (by omega)
      have h4 := sl3Bare_con (m := m) (l.take i) l[i].path (by rw [List.length_take]; omega) (by omega) (fun x hx => (hb x (List.mem_of_mem_take hx)).1)
      rw [List.map_take] at h3 h4
      repeat' first | refine Ra ⟨?_⟩ | ((first | refine Rc [] 0 rfl rfl (h1) ?_ | refine Rc [] 0 rfl rfl (h2) ?_ | refine Rc [] 0 rfl rfl (h3) ?_ | refine Rc [] 0 rfl rfl (h4) ?_ | refine ⟨i - 1, _, by omega, map_get (by omega), rfl, ?_⟩ | (refine bd (fun h => ?_) (fun h => ?_) <;> (try simp only [List.length_map] at h)) | refine bsplit.mk (fun h => ?_) (fun h => ?_)) <;> conv => whnf) | refine Rb ⟨?_⟩ | fail
      all_goals first
        | (have hf : okLS l i = false := by
             clear h1 h2 h3 h4 hb ha hn
             rw [okLS_at hlt]
             try have hi0 : 0 < i := by omega
             try have hi0 : i = 0 := by omega
             first | (rw [markOk_bad ‹_›]; simp; done) | (unfold markOk; simp_all [lt]; done) | (unfold markOk; simp_all [lt]; omega)
           have hg := layerOk_false hlt hf
           rw [hg]
           refine CallEnd.here (fa ?_)
           conv => whnf
           exact ⟨rfl, rfl, rfl, rfl⟩)
        | (have hf : okLS l i = true := by
             clear h1 h2 h3 h4 hb ha hn
             rw [okLS_at hlt]
             unfold markOk
             try have hi0 : 0 < i := by omega
             try have hi0 : i = 0 := by omega
             first | (simp_all [lt]; done) | (simp_all [lt]; omega)
           refine .here ⟨mq - 1, by omega, ?_⟩
           refine la [0, 3] ?_
           conv => whnf
           refine ⟨rfl, rfl, i + 1, (by omega), rfl, rfl, rfl, by omega, all_lt ha hf⟩)
    · repeat' first | refine Ra ⟨?_⟩ | ((first | (refine bd (fun h => ?_) (fun h => ?_) <;> (try simp only [List.length_map] at h)) | refine bsplit.mk (fun h => ?_) (fun h => ?_)) <;> conv => whnf) | refine Rb ⟨?_⟩ | fail
      have hi2 : i = l.length := by omega
      subst hi2
      by_cases h32 : l.length ≤ 32
      · have hf : layerOk l = true := layerOk_true h32 ha
        rw [hf]
        exact Rf
      · have hf : layerOk l = false := by simp [layerOk, h32]
        rw [hf]
        exact Rf
end Go.Proofs.Ytplhgbcpeohpgaa
