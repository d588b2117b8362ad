/- Contracts: layers, put together and drawn, as the document has them. -/
import Derived.Test.YtoaiplobfellaaaGreatDoorQLn
import Derived.Test.YtoaiplobfellaaaGreatDoorQX3
import Derived.Test.YtoaiplobfellaaaGreatDoorQLi
set_option linter.unusedSimpArgs false
set_option linter.unusedVariables false
set_option maxHeartbeats 1000000
set_option maxRecDepth 10000
namespace Go.Proofs.YtoaiplobfellaaaGreatDoor
open Go Go.RowKit Go.Ab Go.Par
variable {m : Int}
theorem sPutM_con (t : List Mrk) (e : Mrk) (ht : t.length ≤ 1073741824) : Con (E m) 206 0 [.sl (t.map Mrk.c), .agg e.c] [] (.own 0) [(0, .own 80 ((putM t e).map Mrk.c))] := by
  refine con_of_cd tyOk mix Tryz.func206 rfl rfl rfl (Nat.le_of_ble_eq_true rfl) ?_
  repeat' first | refine Ra ⟨?_⟩ | ((first | (refine bd (fun h => ?_) (fun h => ?_) <;> (try simp only [List.length_map] at h)) | refine bsplit.mk (fun h => ?_) (fun h => ?_)) <;> conv => whnf) | refine Rb ⟨?_⟩ | fail
  refine Cd.loop2 (fun mq tm S nx => ∃ (k : Nat) (xs : List (List D)), mq = (t.length - k) ∧ tm = [(0, .sl (t.map Mrk.c)), (3, .bp 0 0), (5, .own 1), (6, .k .i64 k)] ∧ S = [(0, .box 80 e.c), (1, .own 80 xs)] ∧ nx = 2 ∧ (k ≤ t.length) ∧ (xs = (t.take k).map Mrk.c) ∧ (putM t e = t.take k ++ putM (t.drop k) e)) ?_ ?_
  · refine la [0, 3, 5, 6] ?_
    conv => whnf
    refine ⟨rfl, rfl, _, 0, [], rfl, rfl, rfl, rfl, Nat.zero_le _, rfl, rfl⟩
  · rintro mq tm S nx ⟨k, xs, hn, rfl, rfl, rfl, hk, hx, ha⟩
    have hxl : xs.length = k := by rw [hx]; simp; omega
    rcases drop_or t k hk with ⟨rfl, hd⟩ | ⟨x, r, hx', hd, hr, hlt⟩
    · have hf : (putM t e).map Mrk.c = (xs ++ [e.c]) ++ (((t.map Mrk.c).take (t.map Mrk.c).length).drop t.length) := by
        rw [ha, hx, hd, List.take_length]; simp [putM, List.drop_of_length_le]
      rw [hf]
      repeat' first | refine Ra ⟨?_⟩ | ((first | (refine bd (fun h => ?_) (fun h => ?_) <;> (try simp only [List.length_map] at h)) | refine bsplit.mk (fun h => ?_) (fun h => ?_)) <;> conv => whnf) | refine Rb ⟨?_⟩ | fail
      exact Rf
    · rw [hd] at ha
      cases hl : lt x.path e.path with
      | true =>
        have hn : putM t e = t.take (k + 1) ++ putM r e := by rw [ha, putM, if_pos hl, take_succ hx']; simp
        rw [← hr] at hn
        repeat' first | refine Ra ⟨?_⟩ | ((first | (refine bd (fun h => ?_) (fun h => ?_) <;> (try simp only [List.length_map] at h)) | refine bsplit.mk (fun h => ?_) (fun h => ?_)) <;> conv => whnf) | refine Rb ⟨?_⟩ | fail
        refine .here ⟨mq - 1, by omega, ?_⟩
        refine la [0, 3, 5, 6] ?_
        conv => whnf
        refine ⟨rfl, rfl, k + 1, _, (by omega), rfl, rfl, rfl, by omega, (by rw [hx]; exact take_map_succ hx'), hn⟩
      | false =>
        by_cases hp : x.path = e.path
        · have hf : (putM t e).map Mrk.c = (xs ++ [e.c]) ++ (((t.map Mrk.c).take (t.map Mrk.c).length).drop (k + 1)) := by
            rw [ha, hx, putM, hl, if_neg (by simp), if_pos hp, List.take_length, ← List.map_drop, hr]; simp
          rw [hf]
          repeat' first | refine Ra ⟨?_⟩ | ((first | refine ⟨k + 1, rfl, ?_⟩ | (refine bd (fun h => ?_) (fun h => ?_) <;> (try simp only [List.length_map] at h)) | refine bsplit.mk (fun h => ?_) (fun h => ?_)) <;> conv => whnf) | refine Rb ⟨?_⟩ | fail
          exact Rf
        · have hf : (putM t e).map Mrk.c = (xs ++ [e.c]) ++ (((t.map Mrk.c).take (t.map Mrk.c).length).drop k) := by
            rw [ha, hx, putM, hl, if_neg (by simp), if_neg hp, List.take_length, ← List.map_drop, hd]; simp
          rw [hf]
          repeat' first | refine Ra ⟨?_⟩ | ((first | (refine bd (fun h => ?_) (fun h => ?_) <;> (try simp only [List.length_map] at h)) | refine bsplit.mk (fun h => ?_) (fun h => ?_)) <;> conv => whnf) | refine Rb ⟨?_⟩ | fail
          exact Rf
theorem sUps_con : ∀ (n : Nat) (l : List Mrk) (p : Bs), p.length ≤ n → pathOk p = true → l.length + n ≤ 1000000 → Con (E m) 205 0 [.sl (l.map Mrk.c), .s p] [] (.sl ((upsM n l p).map Mrk.c)) [] := by
  intro n
  induction n with
  | zero => intro l p hp hok _; have := (pathOk_pos hok).1; omega
  | succ n ih =>
    intro l p hp hok hln
    have c1 := sUp_con (m := m) p (by omega)
    by_cases hr : pathUp p = [47]
    · have hx : upsM (n + 1) l p = l := by simp [upsM, hr]
      rw [hx]
      rw [hr] at c1
      refine con_of_cd tyOk mix Tryz.func205 rfl rfl rfl (Nat.le_of_ble_eq_true rfl) ?_
      repeat' first | refine Ra ⟨?_⟩ | ((first | refine Rc [] 0 rfl rfl (c1) ?_ | (refine bd (fun h => ?_) (fun h => ?_) <;> (try simp only [List.length_map] at h)) | refine bsplit.mk (fun h => ?_) (fun h => ?_)) <;> conv => whnf) | refine Rb ⟨?_⟩ | fail
      exact Rf
    · have hup := (pathUp_less hok).resolve_left hr
      have hlt := pathUp_short hok hr
      have c2 := sl3Kind_con (m := m) l (pathUp p) (by omega)
      by_cases hk : kindAt l (pathUp p) = 0
      · have hx : upsM (n + 1) l p = upsM n (putM l ⟨pathUp p, 2, []⟩) (pathUp p) := by simp [upsM, hr, hk]
        rw [hx]
        rw [hk] at c2
        have c3 := sPutM_con (m := m) l ⟨pathUp p, 2, []⟩ (by omega)
        have hl3 := (putM_len l ⟨pathUp p, 2, []⟩).2
        have c4 := ih (putM l ⟨pathUp p, 2, []⟩) (pathUp p) (by omega) hup.1 (by omega)
        refine con_of_cd tyOk mix Tryz.func205 rfl rfl rfl (Nat.le_of_ble_eq_true rfl) ?_
        repeat' first | refine Ra ⟨?_⟩ | ((first | refine Rc [] 0 rfl rfl (c1) ?_ | refine Rc [] 0 rfl rfl (c2) ?_ | refine Rc [] 1 rfl rfl (c3) ?_ | refine Rc [] 0 rfl rfl (c4) ?_ | (refine bd (fun h => ?_) (fun h => ?_) <;> (try simp only [List.length_map] at h)) | refine bsplit.mk (fun h => ?_) (fun h => ?_)) <;> conv => whnf) | refine Rb ⟨?_⟩ | fail
        exact Rf
      · have hx : upsM (n + 1) l p = upsM n l (pathUp p) := by simp [upsM, hr, hk]
        rw [hx]
        have c4 := ih l (pathUp p) (by omega) hup.1 (by omega)
        refine con_of_cd tyOk mix Tryz.func205 rfl rfl rfl (Nat.le_of_ble_eq_true rfl) ?_
        repeat' first | refine Ra ⟨?_⟩ | ((first | refine Rc [] 0 rfl rfl (c1) ?_ | refine Rc [] 0 rfl rfl (c2) ?_ | refine Rc [] 0 rfl rfl (c4) ?_ | (refine bd (fun h => ?_) (fun h => ?_) <;> (try simp only [List.length_map] at h)) | refine bsplit.mk (fun h => ?_) (fun h => ?_)) <;> conv => whnf) | refine Rb ⟨?_⟩ | fail
        exact Rf
noncomputable def l3LayerV (m : Int) (l : Bs) (p : Int) : List Mrk × Int :=
  open Classical in if h : ∃ x : List Mrk × Int, x.1.length ≤ 32 ∧ bndM 100 x.1 ∧ p ≤ x.2 ∧ x.2 ≤ p + 50 ∧ Con (E m) 230 1 [.bp 0 0] [(0, rd l p)] (.sl (x.1.map Mrk.c)) [(0, rd l x.2)] then h.choose else ([], p)
noncomputable def l3BentV (m : Int) (l : Bs) (p : Int) (t : List Mrk) : List Mrk × Int :=
  open Classical in if h : ∃ x : List Mrk × Int, x.1.length ≤ t.length + 1 ∧ bndM 100 x.1 ∧ p ≤ x.2 ∧ x.2 ≤ p + 4 ∧ Con (E m) 229 1 [.bp 0 0, .sl (t.map Mrk.c)] [(0, rd l p)] (.sl (x.1.map Mrk.c)) [(0, rd l x.2)] then h.choose else ([], p)
end Go.Proofs.YtoaiplobfellaaaGreatDoor
