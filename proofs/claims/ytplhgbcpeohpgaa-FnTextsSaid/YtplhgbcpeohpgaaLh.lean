/- Contracts: layers, as the document has them; texts of layers. -/
import Derived.Test.YtplhgbcpeohpgaaLg
set_option linter.unusedSimpArgs false
set_option linter.unusedVariables false
set_option maxHeartbeats 1000000
set_option maxRecDepth 10000
namespace Go.Proofs.Ytplhgbcpeohpgaa
open Go Go.RowKit Go.Ab Go.Par
variable {m : Int}
theorem sl1Under_con (s d : Bs) (hs : s.length ≤ 1073741824) (hd : d.length ≤ 1073741824) : Con (E m) 45 0 [.s s, .s d] [] (.b (under s d)) [] := by
  cases hx : s[d.length]? with
  | none =>
    have hn := List.getElem?_eq_none_iff.1 hx
    refine con_of_cd tyOk mix Try.func45 rfl rfl rfl (Nat.le_of_ble_eq_true rfl) ?_
    repeat' first | refine Ra ⟨?_⟩ | ((first | (refine bd (fun h => ?_) (fun h => ?_) <;> (try simp only [List.length_map] at h)) | refine bsplit.mk (fun h => ?_) (fun h => ?_)) <;> conv => whnf) | refine Rb ⟨?_⟩ | fail
    all_goals
      first | refine CallEnd.here (fa ?_) | refine fa ?_
      conv => whnf
      first | exact ⟨rfl, rfl, rfl, rfl⟩ | refine ⟨rfl, rfl, congrArg some (congrArg D.s ?_), rfl⟩ | refine ⟨rfl, rfl, congrArg some (congrArg D.b ?_), rfl⟩ | refine ⟨rfl, rfl, congrArg some (congrArg (D.k _) ?_), rfl⟩ | refine ⟨rfl, rfl, congrArg some (congrArg D.agg ?_), rfl⟩ | refine ⟨rfl, rfl, rfl, ?_⟩
      all_goals first | rfl | (simp_all [under]; done) | (simp [under] <;> (repeat' split) <;> omega) | (simp only [under]; repeat' split) <;> first | omega | (simp_all; done) | (simp_all; omega) | (rw [Bool.eq_iff_iff]; simp [*, under] <;> omega)
  | some c =>
    have hn := (List.getElem?_eq_some_iff.1 hx).1
    refine con_of_cd tyOk mix Try.func45 rfl rfl rfl (Nat.le_of_ble_eq_true rfl) ?_
    repeat' first | refine Ra ⟨?_⟩ | ((first | (refine bd (fun h => ?_) (fun h => ?_) <;> (try simp only [List.length_map] at h)) | refine bsplit.mk (fun h => ?_) (fun h => ?_)) <;> conv => whnf) | refine Rb ⟨?_⟩ | fail
    all_goals
      first | refine CallEnd.here (fa ?_) | refine fa ?_
      conv => whnf
      first | exact ⟨rfl, rfl, rfl, rfl⟩ | refine ⟨rfl, rfl, congrArg some (congrArg D.s ?_), rfl⟩ | refine ⟨rfl, rfl, congrArg some (congrArg D.b ?_), rfl⟩ | refine ⟨rfl, rfl, congrArg some (congrArg (D.k _) ?_), rfl⟩ | refine ⟨rfl, rfl, congrArg some (congrArg D.agg ?_), rfl⟩ | refine ⟨rfl, rfl, rfl, ?_⟩
      all_goals first | rfl | (simp_all [under, c47]; done) | (simp [under, c47] <;> (repeat' split) <;> omega) | (simp only [under, c47]; repeat' split) <;> first | omega | (simp_all; done) | (simp_all; omega) | (rw [Bool.eq_iff_iff]; simp [*, under, c47] <;> omega)
theorem sl3Find_con (l : List Mrk) (p : Bs) (hl : l.length ≤ 1073741824) : Con (E m) 47 0 [.sl (l.map Mrk.c), .s p] [] (.k .i64 (markIx l p)) [] := by
  refine con_of_cd tyOk mix Try.func47 rfl rfl rfl (Nat.le_of_ble_eq_true rfl) ?_
  repeat' first | refine Ra ⟨?_⟩ | ((first | (refine bd (fun h => ?_) (fun h => ?_) <;> (try simp only [List.length_map] at h)) | refine bsplit.mk (fun h => ?_) (fun h => ?_)) <;> conv => whnf) | refine Rb ⟨?_⟩ | fail
  refine Cd.loop2 (fun mq tm S nx => ∃ (i : Nat), mq = (l.length - i) ∧ tm = [(0, .sl (l.map Mrk.c)), (1, .s p), (5, .k .i64 i)] ∧ S = [] ∧ nx = 0 ∧ (i ≤ l.length) ∧ (∀ k, k < i → ∀ e, l[k]? = some e → e.path ≠ p)) ?_ ?_
  · refine la [0, 1, 5] ?_
    conv => whnf
    refine ⟨rfl, rfl, _, 0, rfl, rfl, rfl, rfl, Nat.zero_le _, fun k h => absurd h (Nat.not_lt_zero _)⟩
  · rintro mq tm S nx ⟨i, hn, rfl, rfl, rfl, hi, ha⟩
    rcases drop_or l i hi with ⟨rfl, hd⟩ | ⟨x, r, hx, hd, hr, hlt⟩
    · repeat' first | refine Ra ⟨?_⟩ | ((first | (refine bd (fun h => ?_) (fun h => ?_) <;> (try simp only [List.length_map] at h)) | refine bsplit.mk (fun h => ?_) (fun h => ?_)) <;> conv => whnf) | refine Rb ⟨?_⟩ | fail
      have he : markIx l p = -1 := markIx_none fun k e h => ha k (List.getElem?_eq_some_iff.1 h).1 e h
      rw [he]
      exact Rf
    · repeat' first | refine Ra ⟨?_⟩ | ((first | (refine bd (fun h => ?_) (fun h => ?_) <;> (try simp only [List.length_map] at h)) | refine bsplit.mk (fun h => ?_) (fun h => ?_)) <;> conv => whnf) | refine Rb ⟨?_⟩ | fail
      · have he : markIx l p = i := markIx_at hx ‹_› fun k e h1 h2 => ha k h1 e h2
        rw [he]
        exact Rf
      · refine .here ⟨mq - 1, by omega, ?_⟩
        refine la [0, 1, 5] ?_
        conv => whnf
        refine ⟨rfl, rfl, i + 1, (by omega), rfl, rfl, rfl, by omega, all_lt ha (fun e h => by rw [hx] at h; cases h; assumption)⟩
theorem sl3Kind_con (l : List Mrk) (p : Bs) (hl : l.length ≤ 1073741824) : Con (E m) 34 0 [.sl (l.map Mrk.c), .s p] [] (.k .i64 (kindAt l p)) [] := by
  have h1 := sl3Find_con (m := m) l p hl
  rcases markIx_or l p with ⟨i, hx, hi, he⟩ | ⟨hx, he⟩
  · rw [hx] at h1
    have hk : kindAt l p = l[i].kind := by simp [kindAt, he]
    rw [hk]
    refine con_of_cd tyOk mix Try.func34 rfl rfl rfl (Nat.le_of_ble_eq_true rfl) ?_
    repeat' first | refine Ra ⟨?_⟩ | ((first | refine Rc [] 0 rfl rfl (h1) ?_ | (refine bd (fun h => ?_) (fun h => ?_) <;> (try simp only [List.length_map] at h)) | refine bsplit.mk (fun h => ?_) (fun h => ?_)) <;> conv => whnf) | refine Rb ⟨?_⟩ | fail
    exact Rf
  · rw [hx] at h1
    have hk : kindAt l p = 0 := by simp [kindAt, he]
    rw [hk]
    refine con_of_cd tyOk mix Try.func34 rfl rfl rfl (Nat.le_of_ble_eq_true rfl) ?_
    repeat' first | refine Ra ⟨?_⟩ | ((first | refine Rc [] 0 rfl rfl (h1) ?_ | (refine bd (fun h => ?_) (fun h => ?_) <;> (try simp only [List.length_map] at h)) | refine bsplit.mk (fun h => ?_) (fun h => ?_)) <;> conv => whnf) | refine Rb ⟨?_⟩ | fail
    exact Rf
theorem sl3Bare_con (l : List Mrk) (p : Bs) (hl : l.length ≤ 1073741824) (hp : p.length ≤ 1073741823) (hb : ∀ x ∈ l, x.path.length ≤ 1073741823) : Con (E m) 32 0 [.sl (l.map Mrk.c), .s p] [] (.b (bare l p)) [] := by
  refine con_of_cd tyOk mix Try.func32 rfl rfl rfl (Nat.le_of_ble_eq_true rfl) ?_
  repeat' first | refine Ra ⟨?_⟩ | ((first | (refine bd (fun h => ?_) (fun h => ?_) <;> (try simp only [List.length_map] at h)) | refine bsplit.mk (fun h => ?_) (fun h => ?_)) <;> conv => whnf) | refine Rb ⟨?_⟩ | fail
  refine Cd.loop2 (fun mq tm S nx => ∃ (i : Nat), mq = (l.length - i) ∧ tm = [(0, .sl (l.map Mrk.c)), (1, .s p), (5, .k .i64 i)] ∧ S = [] ∧ nx = 0 ∧ (i ≤ l.length) ∧ (bare l p = bare (l.drop i) p)) ?_ ?_
  · refine la [0, 1, 5] ?_
    conv => whnf
    refine ⟨rfl, rfl, _, 0, rfl, rfl, rfl, rfl, Nat.zero_le _, rfl⟩
  · rintro mq tm S nx ⟨i, hn, rfl, rfl, rfl, hi, ha⟩
    rcases drop_or l i hi with ⟨rfl, hd⟩ | ⟨x, r, hx, hd, hr, hlt⟩
    · rw [hd] at ha
      rw [ha]
      repeat' first | refine Ra ⟨?_⟩ | ((first | (refine bd (fun h => ?_) (fun h => ?_) <;> (try simp only [List.length_map] at h)) | refine bsplit.mk (fun h => ?_) (fun h => ?_)) <;> conv => whnf) | refine Rb ⟨?_⟩ | fail
      exact Rf
    · rw [hd] at ha
      have hbx := hb x (List.mem_of_getElem? hx)
      have c1 := sl1Under_con (m := m) p x.path (by omega) (by omega)
      repeat' first | refine Ra ⟨?_⟩ | ((first | refine Rc [] 0 rfl rfl (c1) ?_ | (refine bd (fun h => ?_) (fun h => ?_) <;> (try simp only [List.length_map] at h)) | refine bsplit.mk (fun h => ?_) (fun h => ?_)) <;> conv => whnf) | refine Rb ⟨?_⟩ | fail
      all_goals first
        | (refine RoundEnd.here ⟨mq - 1, by omega, ?_⟩
           refine la [0, 1, 5] ?_
           conv => whnf
           refine ⟨rfl, rfl, i + 1, (by omega), rfl, rfl, rfl, by omega, (by rw [ha, hr]; simp [bare, *])⟩)
        | (refine CallEnd.here (fa ?_)
           conv => whnf
           (try rw [ha])
           first | exact ⟨rfl, rfl, rfl, rfl⟩ | refine ⟨rfl, rfl, congrArg some (congrArg D.s ?_), rfl⟩ | refine ⟨rfl, rfl, congrArg some (congrArg D.b ?_), rfl⟩ | refine ⟨rfl, rfl, congrArg some (congrArg (D.k _) ?_), rfl⟩ | refine ⟨rfl, rfl, congrArg some ?_, rfl⟩
           all_goals first | rfl | (simp_all [bare]; done) | (simp [bare] <;> (repeat' split) <;> omega))
theorem sl3In_con (l : List Mrk) (p : Bs) (hl : l.length ≤ 1073741824) (hp : p.length ≤ 1073741823) : Con (E m) 31 0 [.sl (l.map Mrk.c), .s p] [] (.b (inM l p)) [] := by
  have c1 := sUp_con (m := m) p (by omega)
  have c2 := sl3Kind_con (m := m) l (pathUp p) hl
  have hx : inM l p = (decide (pathUp p = [47]) || (decide (kindAt l (pathUp p) = 2) || decide (kindAt l (pathUp p) = 4))) := by
    unfold inM kindAt
    cases markAt l (pathUp p) <;> simp [isDirMO, isDirM]
  rw [hx]
  refine con_of_cd tyOk mix Try.func31 rfl rfl rfl (Nat.le_of_ble_eq_true rfl) ?_
  repeat' first | refine Ra ⟨?_⟩ | ((first | refine Rc [] 0 rfl rfl (c1) ?_ | refine Rc [] 0 rfl rfl (c2) ?_ | (refine bd (fun h => ?_) (fun h => ?_) <;> (try simp only [List.length_map] at h)) | refine bsplit.mk (fun h => ?_) (fun h => ?_)) <;> conv => whnf) | refine Rb ⟨?_⟩ | fail
  all_goals
    exact Rf
end Go.Proofs.Ytplhgbcpeohpgaa
