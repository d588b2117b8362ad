/- Contracts: layers, put together and drawn, as the document has them. -/
import Derived.Test.YtplhgbcpeohpgaaLn
import Derived.Test.YtplhgbcpeohpgaaX3
import Derived.Test.YtplhgbcpeohpgaaLi
set_option linter.unusedSimpArgs false
set_option linter.unusedVariables false
set_option maxHeartbeats 1000000
set_option maxRecDepth 10000
namespace Go.Proofs.Ytplhgbcpeohpgaa
open Go Go.RowKit Go.Ab Go.Par
variable {m : Int}
theorem sPutM_con (t : List Mrk) (e : Mrk) (ht : t.length ≤ 1073741824) : Con (E m) 22 0 [.sl (t.map Mrk.c), .agg e.c] [] (.own 0) [(0, .own 27 ((putM t e).map Mrk.c))] := by
  refine con_of_cd tyOk mix Try.func22 rfl rfl rfl (Nat.le_of_ble_eq_true rfl) ?_
  repeat' first | refine Ra ⟨?_⟩ | ((first | (refine bd (fun h => ?_) (fun h => ?_) <;> (try simp only [List.length_map] at h)) | refine bsplit.mk (fun h => ?_) (fun h => ?_)) <;> conv => whnf) | refine Rb ⟨?_⟩ | fail
  refine Cd.loop2 (fun mq tm S nx => ∃ (k : Nat) (xs : List (List D)), mq = (t.length - k) ∧ tm = [(0, .sl (t.map Mrk.c)), (3, .bp 0 0), (5, .own 1), (6, .k .i64 k)] ∧ S = [(0, .box 27 e.c), (1, .own 27 xs)] ∧ nx = 2 ∧ (k ≤ t.length) ∧ (xs = (t.take k).map Mrk.c) ∧ (putM t e = t.take k ++ putM (t.drop k) e)) ?_ ?_
  · refine la [0, 3, 5, 6] ?_
    conv => whnf
    refine ⟨rfl, rfl, _, 0, [], rfl, rfl, rfl, rfl, Nat.zero_le _, rfl, rfl⟩
  · rintro mq tm S nx ⟨k, xs, hn, rfl, rfl, rfl, hk, hx, ha⟩
    have hxl : xs.length = k := by rw [hx]; simp; omega
    rcases drop_or t k hk with ⟨rfl, hd⟩ | ⟨x, r, hx', hd, hr, hlt⟩
    · have hf : (putM t e).map Mrk.c = (xs ++ [e.c]) ++ (((t.map Mrk.c).take (t.map Mrk.c).length).drop t.length) := by
        rw [ha, hx, hd, List.take_length]; simp [putM, List.drop_of_length_le]
      rw [hf]
      repeat' first | refine Ra ⟨?_⟩ | ((first | (refine bd (fun h => ?_) (fun h => ?_) <;> (try simp only [List.length_map] at h)) | refine bsplit.mk (fun h => ?_) (fun h => ?_)) <;> conv => whnf) | refine Rb ⟨?_⟩ | fail
      exact Rf
    · rw [hd] at ha
      cases hl : lt x.path e.path with
      | true =>
        have hn : putM t e = t.take (k + 1) ++ putM r e := by rw [ha, putM, if_pos hl, take_succ hx']; simp
        rw [← hr] at hn
        repeat' first | refine Ra ⟨?_⟩ | ((first | (refine bd (fun h => ?_) (fun h => ?_) <;> (try simp only [List.length_map] at h)) | refine bsplit.mk (fun h => ?_) (fun h => ?_)) <;> conv => whnf) | refine Rb ⟨?_⟩ | fail
        refine .here ⟨mq - 1, by omega, ?_⟩
        refine la [0, 3, 5, 6] ?_
        conv => whnf
        refine ⟨rfl, rfl, k + 1, _, (by omega), rfl, rfl, rfl, by omega, (by rw [hx]; exact take_map_succ hx'), hn⟩
      | false =>
        by_cases hp : x.path = e.path
        · have hf : (putM t e).map Mrk.c = (xs ++ [e.c]) ++ (((t.map Mrk.c).take (t.map Mrk.c).length).drop (k + 1)) := by
            rw [ha, hx, putM, hl, if_neg (by simp), if_pos hp, List.take_length, ← List.map_drop, hr]; simp
          rw [hf]
          repeat' first | refine Ra ⟨?_⟩ | ((first | refine ⟨k + 1, rfl, ?_⟩ | (refine bd (fun h => ?_) (fun h => ?_) <;> (try simp only [List.length_map] at h)) | refine bsplit.mk (fun h => ?_) (fun h => ?_)) <;> conv => whnf) | refine Rb ⟨?_⟩ | fail
          exact Rf
        · have hf : (putM t e).map Mrk.c = (xs ++ [e.c]) ++ (((t.map Mrk.c).take (t.map Mrk.c).length).drop k) := by
            rw [ha, hx, putM, hl, if_neg (by simp), if_neg hp, List.take_length, ← List.map_drop, hd]; simp
          rw [hf]
          repeat' first | refine Ra ⟨?_⟩ | ((first | (refine bd (fun h => ?_) (fun h => ?_) <;> (try simp only [List.length_map] at h)) | refine bsplit.mk (fun h => ?_) (fun h => ?_)) <;> conv => whnf) | refine Rb ⟨?_⟩ | fail
          exact Rf
theorem sUps_con : ∀ (n : Nat) (l : List Mrk) (p : Bs), p.length ≤ n → pathOk p = true → l.length + n ≤ 1000000 → Con (E m) 24 0 [.sl (l.map Mrk.c), .s p] [] (.sl ((upsM n l p).map Mrk.c)) [] := by
  intro n
  induction n with
  | zero => intro l p hp hok _; have := (pathOk_pos hok).1; omega
  | succ n ih =>
    intro l p hp hok hln
    have c1 := sUp_con (m := m) p (by omega)
    by_cases hr : pathUp p = [47]
    · have hx : upsM (n + 1) l p = l := by simp [upsM, hr]
      rw [hx]
      rw [hr] at c1
      refine con_of_cd tyOk mix Try.func24 rfl rfl rfl (Nat.le_of_ble_eq_true rfl) ?_
      repeat' first | refine Ra ⟨?_⟩ | ((first | refine Rc [] 0 rfl rfl (c1) ?_ | (refine bd (fun h => ?_) (fun h => ?_) <;> (try simp only [List.length_map] at h)) | refine bsplit.mk (fun h => ?_) (fun h => ?_)) <;> conv => whnf) | refine Rb ⟨?_⟩ | fail
      exact Rf
    · have hup := (pathUp_less hok).resolve_left hr
      have hlt := pathUp_short hok hr
      have c2 := sl3Kind_con (m := m) l (pathUp p) (by omega)
      by_cases hk : kindAt l (pathUp p) = 0
      · have hx : upsM (n + 1) l p = upsM n (putM l ⟨pathUp p, 2, []⟩) (pathUp p) := by simp [upsM, hr, hk]
        rw [hx]
        rw [hk] at c2
        have c3 := sPutM_con (m := m) l ⟨pathUp p, 2, []⟩ (by omega)
        have hl3 := (putM_len l ⟨pathUp p, 2, []⟩).2
        have c4 := ih (putM l ⟨pathUp p, 2, []⟩) (pathUp p) (by omega) hup.1 (by omega)
        refine con_of_cd tyOk mix Try.func24 rfl rfl rfl (Nat.le_of_ble_eq_true rfl) ?_
        repeat' first | refine Ra ⟨?_⟩ | ((first | refine Rc [] 0 rfl rfl (c1) ?_ | refine Rc [] 0 rfl rfl (c2) ?_ | refine Rc [] 1 rfl rfl (c3) ?_ | refine Rc [] 0 rfl rfl (c4) ?_ | (refine bd (fun h => ?_) (fun h => ?_) <;> (try simp only [List.length_map] at h)) | refine bsplit.mk (fun h => ?_) (fun h => ?_)) <;> conv => whnf) | refine Rb ⟨?_⟩ | fail
        exact Rf
      · have hx : upsM (n + 1) l p = upsM n l (pathUp p) := by simp [upsM, hr, hk]
        rw [hx]
        have c4 := ih l (pathUp p) (by omega) hup.1 (by omega)
        refine con_of_cd tyOk mix Try.func24 rfl rfl rfl (Nat.le_of_ble_eq_true rfl) ?_
        repeat' first | refine Ra ⟨?_⟩ | ((first | refine Rc [] 0 rfl rfl (c1) ?_ | refine Rc [] 0 rfl rfl (c2) ?_ | refine Rc [] 0 rfl rfl (c4) ?_ | (refine bd (fun h => ?_) (fun h => ?_) <;> (try simp only [List.length_map] at h)) | refine bsplit.mk (fun h => ?_) (fun h => ?_)) <;> conv => whnf) | refine Rb ⟨?_⟩ | fail
        exact Rf
theorem l3Layer_raw (l : Bs) (p : Int) (hp : 0 ≤ p ∧ p ≤ 900000) (hl : l.length ≤ 2000) :
    ∃ d S', (∃ (t : List Mrk) (p' : Int), t.length ≤ 32 ∧ bndM 100 t ∧ p ≤ p' ∧ p' ≤ p + 50 ∧ d = .sl (t.map Mrk.c) ∧ S' = [(0, rd l p')]) ∧ Con (E m) 15 1 [.bp 0 0] [(0, rd l p)] d S' := by
  have hk := numV_mem (m := m) l p (ls := [3, 5, 8, 2, 1, 0, 12]) (by decide)
  have hk2 := (by decide : ∀ x ∈ ([3, 5, 8, 2, 1, 0, 12] : List Int), 0 ≤ x ∧ x ≤ 12) _ hk
  refine any_of_cd tyOk mix Try.func15 rfl rfl rfl (Nat.le_of_ble_eq_true rfl) ?_
  repeat' first | refine Ra ⟨?_⟩ | ((first | refine Rc [0] 0 rfl rfl (num_con l _ [3, 5, 8, 2, 1, 0, 12] (by omega) hl (by decide) (by decide)) ?_ | (refine bd (fun h => ?_) (fun h => ?_) <;> (try simp only [List.length_map] at h)) | refine bsplit.mk (fun h => ?_) (fun h => ?_)) <;> conv => whnf) | refine Rb ⟨?_⟩ | fail
  refine Cd.loop2 (fun mq tm S nx => ∃ (i : Int) (q : Int) (t : List Mrk), mq = (i.toNat) ∧ tm = [(0, .bp 0 0), (3, .sl (t.map Mrk.c)), (4, .k .i64 i)] ∧ S = [(0, rd l q)] ∧ nx = 1 ∧ (0 ≤ i ∧ i ≤ 12) ∧ (p + 1 ≤ q ∧ q ≤ p + 1 + 4 * (12 - i)) ∧ (t.length ≤ 32) ∧ (bndM 100 t)) ?_ ?_
  · refine li [3] [0, 3, 4] ?_
    conv => whnf
    refine ⟨rfl, rfl, _, _, _, [], rfl, rfl, rfl, rfl, hk2, by omega, by simp, fun _ h => by cases h⟩
  · rintro mq tm S nx ⟨i, q, t, hn, rfl, rfl, rfl, hi, hq, ht, hb⟩
    by_cases hi0 : 0 < i
    · have hpm := ofV_mem (m := m) l q (ls := l1Paths) (by decide)
      have hpk := l1Paths_ok _ hpm
      have hpl := l1Paths_len _ hpm
      generalize hg : ofV m l q l1Paths = path at hpk hpl
      have c0 := l1Path_con (m := m) l q (by omega) hl
      rw [hg] at c0
      have hss := l2Somes_len _ (ofV_mem (m := m) l (q + 1 + 1) (ls := l2Somes) (by decide))
      have cn := num_con (m := m) l (q + 1) [1, 2, 3, 4, 1, 3] (by omega) hl (by decide) (by decide)
      generalize numV m l (q + 1) [1, 2, 3, 4, 1, 3] = kind at cn
      refine Cd.seqS ?_
      repeat' first | refine Ra ⟨?_⟩ | ((first | (refine bd (fun h => ?_) (fun h => ?_) <;> (try simp only [List.length_map] at h)) | refine bsplit.mk (fun h => ?_) (fun h => ?_)) <;> conv => whnf) | refine Rb ⟨?_⟩ | fail
      all_goals (try refine Stop.here ?_)
      refine Cd.seq ?_
      refine Cd.block ?_
      refine Cd.seqS ?_
      repeat' first | refine Ra ⟨?_⟩ | ((first | refine Rc [0] 0 rfl rfl (c0) ?_ | refine Rc [0] 0 rfl rfl (cn) ?_ | (refine bd (fun h => ?_) (fun h => ?_) <;> (try simp only [List.length_map] at h)) | refine bsplit.mk (fun h => ?_) (fun h => ?_)) <;> conv => whnf) | refine Rb ⟨?_⟩ | fail
      all_goals (try refine Stop.here ?_)
      refine Cd.cut (fun tm S nx => ∃ (d : Bs) (q2 : Int), tm = [(0, .bp 0 0), (3, .sl (t.map Mrk.c)), (4, .k .i64 i), (5, .bp 1 0)] ∧ S = [(0, rd l q2), (1, .box 27 [.s path, .k .i64 kind, .s d])] ∧ nx = 2 ∧ (d.length ≤ 100) ∧ (q ≤ q2 ∧ q2 ≤ q + 4)) ?_ ?_
      · repeat' first | refine Ra ⟨?_⟩ | ((first | refine Rc [0] 0 rfl rfl (l2Some_con l _ (by omega) hl) ?_ | (refine bd (fun h => ?_) (fun h => ?_) <;> (try simp only [List.length_map] at h)) | refine bsplit.mk (fun h => ?_) (fun h => ?_)) <;> conv => whnf) | refine Rb ⟨?_⟩ | fail
        · refine CutEnd.here (la [0, 3, 4, 5] ?_)
          conv => whnf
          refine ⟨rfl, rfl, _, _, rfl, rfl, rfl, hss, by omega⟩
        · refine CutEnd.here (la [0, 3, 4, 5] ?_)
          conv => whnf
          refine ⟨rfl, rfl, _, _, rfl, rfl, rfl, by simp, by omega⟩
      · rintro tm S nx ⟨d, q2, rfl, rfl, rfl, hd, hq2⟩
        have key : (putM t ⟨path, kind, d⟩).length ≤ 33 ∧ bndM 100 (putM t ⟨path, kind, d⟩) := ⟨by have := (putM_len t ⟨path, kind, d⟩).2; omega, hb.put hpl hd⟩
        have step : (upsM 100 (putM t ⟨path, kind, d⟩) path).length ≤ 140 ∧ bndM 100 (upsM 100 (putM t ⟨path, kind, d⟩) path) := ⟨by have := upsM_len 100 (putM t ⟨path, kind, d⟩) path; omega, upsM_bnd (by omega) 100 _ path key.2⟩
        have c1 := sPutM_con (m := m) t ⟨path, kind, d⟩ (by omega)
        have c2 := sLayerOk_con (m := m) (putM t ⟨path, kind, d⟩) (by omega) (fun e he => by have := key.2 e he; omega)
        have c3 := sUps_con (m := m) 100 (putM t ⟨path, kind, d⟩) path (by omega) hpk (by omega)
        have c4 := sLayerOk_con (m := m) (upsM 100 (putM t ⟨path, kind, d⟩) path) (by omega) (fun e he => by have := step.2 e he; omega)
        repeat' first | refine Ra ⟨?_⟩ | ((first | refine Rc [] 1 rfl rfl (c1) ?_ | refine Rc [] 0 rfl rfl (c2) ?_ | refine Rc [] 0 rfl rfl (c3) ?_ | refine Rc [] 0 rfl rfl (c4) ?_ | (refine bd (fun h => ?_) (fun h => ?_) <;> (try simp only [List.length_map] at h)) | refine bsplit.mk (fun h => ?_) (fun h => ?_)) <;> conv => whnf) | refine Rb ⟨?_⟩ | fail
        · refine .here ⟨mq - 1, by omega, ?_⟩
          refine li [3] [0, 3, 4] ?_
          conv => whnf
          refine ⟨rfl, rfl, i - 1, q2, _, (by omega), rfl, rfl, rfl, by omega, by omega, layerOk_len ‹_›, key.2⟩
        · refine .here ⟨mq - 1, by omega, ?_⟩
          refine li [3] [0, 3, 4] ?_
          conv => whnf
          refine ⟨rfl, rfl, i - 1, q2, _, (by omega), rfl, rfl, rfl, by omega, by omega, layerOk_len ‹_›, step.2⟩
        · refine .here ⟨mq - 1, by omega, ?_⟩
          refine li [3] [0, 3, 4] ?_
          conv => whnf
          refine ⟨rfl, rfl, i - 1, q2, _, (by omega), rfl, rfl, rfl, by omega, by omega, ht, hb⟩
    · repeat' first | refine Ra ⟨?_⟩ | ((first | (refine bd (fun h => ?_) (fun h => ?_) <;> (try simp only [List.length_map] at h)) | refine bsplit.mk (fun h => ?_) (fun h => ?_)) <;> conv => whnf) | refine Rb ⟨?_⟩ | fail
      refine AnyEnd.here (aa ?_)
      conv => whnf
      refine ⟨rfl, rfl, _, rfl, t, _, ht, hb, (by omega), (by omega), rfl, rfl⟩
noncomputable def l3LayerV (m : Int) (l : Bs) (p : Int) : List Mrk × Int :=
  open Classical in if h : ∃ x : List Mrk × Int, x.1.length ≤ 32 ∧ bndM 100 x.1 ∧ p ≤ x.2 ∧ x.2 ≤ p + 50 ∧ Con (E m) 15 1 [.bp 0 0] [(0, rd l p)] (.sl (x.1.map Mrk.c)) [(0, rd l x.2)] then h.choose else ([], p)
theorem l3LayerV_bd (l : Bs) (p : Int) : (l3LayerV m l p).1.length ≤ 32 ∧ bndM 100 (l3LayerV m l p).1 ∧ p ≤ (l3LayerV m l p).2 ∧ (l3LayerV m l p).2 ≤ p + 50 := by
  unfold l3LayerV
  split
  · rename_i h; exact ⟨h.choose_spec.1, h.choose_spec.2.1, h.choose_spec.2.2.1, h.choose_spec.2.2.2.1⟩
  · exact ⟨by simp, fun _ h => by simp at h, by simp, by simp; omega⟩
theorem l3Layer_con (l : Bs) (p : Int) (hp : 0 ≤ p ∧ p ≤ 900000) (hl : l.length ≤ 2000) : Con (E m) 15 1 [.bp 0 0] [(0, rd l p)] (.sl ((l3LayerV m l p).1.map Mrk.c)) [(0, rd l (l3LayerV m l p).2)] := by
  have h : ∃ x : List Mrk × Int, x.1.length ≤ 32 ∧ bndM 100 x.1 ∧ p ≤ x.2 ∧ x.2 ≤ p + 50 ∧ Con (E m) 15 1 [.bp 0 0] [(0, rd l p)] (.sl (x.1.map Mrk.c)) [(0, rd l x.2)] := by
    obtain ⟨d, S', ⟨t, p', h1, h2, h3, h4, rfl, rfl⟩, hc⟩ := l3Layer_raw (m := m) l p hp hl
    exact ⟨(t, p'), h1, h2, h3, h4, hc⟩
  unfold l3LayerV
  rw [dif_pos h]
  exact h.choose_spec.2.2.2.2
theorem l3Bent_raw (l : Bs) (p : Int) (t : List Mrk) (hp : 0 ≤ p ∧ p ≤ 1000000) (hl : l.length ≤ 2000) (ht : t.length ≤ 1000) (hb : bndM 100 t) :
    ∃ d S', (∃ (t' : List Mrk) (p' : Int), t'.length ≤ t.length + 1 ∧ bndM 100 t' ∧ p ≤ p' ∧ p' ≤ p + 4 ∧ d = .sl (t'.map Mrk.c) ∧ S' = [(0, rd l p')]) ∧ Con (E m) 14 1 [.bp 0 0, .sl (t.map Mrk.c)] [(0, rd l p)] d S' := by
  have h1 : ∀ q, (ofV m l q [[47], [47, 65], [47, 99, 47, 99], [47, 97, 47, 98, 47, 99, 47, 100]]).length ≤ 100 := fun q => (by decide : ∀ x ∈ ([[47], [47, 65], [47, 99, 47, 99], [47, 97, 47, 98, 47, 99, 47, 100]] : List Bs), x.length ≤ 100) _ (ofV_mem l q (by decide))
  have h3 : ∀ q, (ofV m l q [[113], [65], [97, 98, 99, 100, 101, 102, 103]]).length ≤ 100 := fun q => (by decide : ∀ x ∈ ([[113], [65], [97, 98, 99, 100, 101, 102, 103]] : List Bs), x.length ≤ 100) _ (ofV_mem l q (by decide))
  have fin : ∀ (X : List (List D)) (t' : List Mrk) (q : Int), X = t'.map Mrk.c → t'.length ≤ t.length + 1 → bndM 100 t' → p ≤ q → q ≤ p + 4 → ∃ (t' : List Mrk) (p' : Int), t'.length ≤ t.length + 1 ∧ bndM 100 t' ∧ p ≤ p' ∧ p' ≤ p + 4 ∧ D.sl X = .sl (t'.map Mrk.c) ∧ [(0, rd l q)] = [(0, rd l p')] :=
    fun X t' q hX g1 g2 g3 g4 => ⟨t', q, g1, g2, g3, g4, by rw [hX], rfl⟩
  have hset : ∀ (j : Nat) (e : Mrk), e.path.length ≤ 100 → e.data.length ≤ 100 → bndM 100 (t.set j e) := fun j e g1 g2 x hx => by
    rcases List.mem_or_eq_of_mem_set hx with hx | rfl
    · exact hb x hx
    · exact ⟨g1, g2⟩
  have happ : ∀ (e : Mrk), e.path.length ≤ 100 → e.data.length ≤ 100 → bndM 100 (t ++ [e]) := fun e g1 g2 x hx => by
    rcases List.mem_append.1 hx with hx | hx
    · exact hb x hx
    · rw [List.mem_singleton] at hx
      rw [hx]
      exact ⟨g1, g2⟩
  have hm : (t.map Mrk.c).length = t.length := List.length_map ..
  have hj : 0 < t.length → (pickV m l p ((t.map Mrk.c).length : Int)).toNat < t.length := fun h => pick_lt h
  generalize hk : (pickV m l p ((t.map Mrk.c).length : Int)).toNat = j at hj
  have hk2 : pickV m l p ((t.map Mrk.c).length : Int) = (j : Int) := by rw [← hk]; exact pick_nn l _ _
  have c0 := pick_con (m := m) l p ((t.map Mrk.c).length : Int) (by omega) (by omega) hl
  rw [hk2] at c0
  refine any_of_cd tyOk mix Try.func14 rfl rfl rfl (Nat.le_of_ble_eq_true rfl) ?_
  refine Cd.seqS ?_
  repeat' first | refine Ra ⟨?_⟩ | ((first | (refine bd (fun h => ?_) (fun h => ?_) <;> (try simp only [List.length_map] at h)) | refine bsplit.mk (fun h => ?_) (fun h => ?_)) <;> conv => whnf) | refine Rb ⟨?_⟩ | fail
  all_goals (try refine Stop.here ?_)
  refine Cd.cut (fun tm S nx => tm = [(0, .bp 0 0), (5, .own 1)] ∧ S = [(0, rd l p), (1, .own 27 (t.map Mrk.c))] ∧ nx = 2) ?_ ?_
  · repeat' first | refine Ra ⟨?_⟩ | ((first | (refine bd (fun h => ?_) (fun h => ?_) <;> (try simp only [List.length_map] at h)) | refine bsplit.mk (fun h => ?_) (fun h => ?_)) <;> conv => whnf) | refine Rb ⟨?_⟩ | fail
    refine CutEnd.here (la [0, 5] ?_)
    conv => whnf
    refine ⟨rfl, rfl, rfl, rfl, rfl⟩
  rintro tm S nx ⟨rfl, rfl, rfl⟩
  by_cases h0 : t.length = 0
  · repeat' first | refine Ra ⟨?_⟩ | ((first | refine bt (by omega) ?_ | (refine bd (fun h => ?_) (fun h => ?_) <;> (try simp only [List.length_map] at h)) | refine bsplit.mk (fun h => ?_) (fun h => ?_)) <;> conv => whnf) | refine Rb ⟨?_⟩ | fail
    refine AnyEnd.here (ai ?_)
    conv => whnf
    refine ⟨rfl, rfl, _, rfl, fin _ t _ rfl (by omega) hb (by omega) (by omega)⟩
  · have hjl := hj (by omega)
    have hge : (t.map Mrk.c)[j]? = some (t[j]'hjl).c := map_get hjl
    have hbj := hb _ (List.getElem_mem hjl)
    repeat' first | refine Ra ⟨?_⟩ | ((first | refine bf (by omega) ?_ | refine Rc [0] 0 rfl rfl (c0) ?_ | refine Rc [0] 0 rfl rfl (pick_con l _ _ (by omega) (by omega) hl) ?_ | refine Rc [0] 0 rfl rfl (of_con l _ [[47], [47, 65], [47, 99, 47, 99], [47, 97, 47, 98, 47, 99, 47, 100]] (by omega) hl (by decide) (by decide)) ?_ | refine Rc [0] 0 rfl rfl (of_con l _ [[113], [65], [97, 98, 99, 100, 101, 102, 103]] (by omega) hl (by decide) (by decide)) ?_ | refine Rc [0] 0 rfl rfl (num_con l _ [0, 5, -1, 3, 4] (by omega) hl (by decide) (by decide)) ?_ | refine ⟨j, rfl, by rw [hm]; exact hjl, ?_⟩ | refine ⟨_, hge, Nat.le_of_ble_eq_true rfl, ?_⟩ | refine ⟨_, hge, ?_⟩ | refine ⟨1, rfl, ?_⟩ | (refine bd (fun h => ?_) (fun h => ?_) <;> (try simp only [List.length_map] at h)) | refine bsplit.mk (fun h => ?_) (fun h => ?_)) <;> conv => whnf) | refine Rb ⟨?_⟩ | fail
    · refine AnyEnd.here (ai ?_)
      conv => whnf
      refine ⟨rfl, rfl, _, rfl, fin _ (t.set j ⟨(t[j]'hjl).path, numV m l (p + 1 + 1) [0, 5, -1, 3, 4], (t[j]'hjl).data⟩) _ (by rw [List.map_set]; rfl) (by simp) (hset _ _ hbj.1 hbj.2) (by omega) (by omega)⟩
    · refine AnyEnd.here (ai ?_)
      conv => whnf
      refine ⟨rfl, rfl, _, rfl, fin _ (t.set j ⟨ofV m l (p + 1 + 1) [[47], [47, 65], [47, 99, 47, 99], [47, 97, 47, 98, 47, 99, 47, 100]], (t[j]'hjl).kind, (t[j]'hjl).data⟩) _ (by rw [List.map_set]; rfl) (by simp) (hset _ _ (h1 _) hbj.2) (by omega) (by omega)⟩
    · refine AnyEnd.here (ai ?_)
      conv => whnf
      refine ⟨rfl, rfl, _, rfl, fin _ (t.set j ⟨(t[j]'hjl).path, (t[j]'hjl).kind, ofV m l (p + 1 + 1) [[113], [65], [97, 98, 99, 100, 101, 102, 103]]⟩) _ (by rw [List.map_set]; rfl) (by simp) (hset _ _ hbj.1 (h3 _)) (by omega) (by omega)⟩
    · refine AnyEnd.here (ai ?_)
      conv => whnf
      refine ⟨rfl, rfl, _, rfl, fin _ (t ++ [t[j]'hjl]) _ (by rw [List.map_append]; rfl) (by simp) (happ _ hbj.1 hbj.2) (by omega) (by omega)⟩
    · refine AnyEnd.here (ai ?_)
      conv => whnf
      refine ⟨rfl, rfl, _, rfl, fin _ (t.drop 1) _ (by rw [List.map_drop, List.take_length]) (by simp; omega) (fun x hx => hb x (List.mem_of_mem_drop hx)) (by omega) (by omega)⟩
    · refine AnyEnd.here (ai ?_)
      conv => whnf
      refine ⟨rfl, rfl, _, rfl, fin _ (t ++ [⟨[47, 122, 122, 47, 122], 1, []⟩]) _ (by rw [List.map_append]; rfl) (by simp) (happ _ (by simp) (by simp)) (by omega) (by omega)⟩
    · refine AnyEnd.here (ai ?_)
      conv => whnf
      refine ⟨rfl, rfl, _, rfl, fin _ t _ rfl (by omega) hb (by omega) (by omega)⟩
noncomputable def l3BentV (m : Int) (l : Bs) (p : Int) (t : List Mrk) : List Mrk × Int :=
  open Classical in if h : ∃ x : List Mrk × Int, x.1.length ≤ t.length + 1 ∧ bndM 100 x.1 ∧ p ≤ x.2 ∧ x.2 ≤ p + 4 ∧ Con (E m) 14 1 [.bp 0 0, .sl (t.map Mrk.c)] [(0, rd l p)] (.sl (x.1.map Mrk.c)) [(0, rd l x.2)] then h.choose else ([], p)
theorem l3BentV_bd (l : Bs) (p : Int) (t : List Mrk) : (l3BentV m l p t).1.length ≤ t.length + 1 ∧ bndM 100 (l3BentV m l p t).1 ∧ p ≤ (l3BentV m l p t).2 ∧ (l3BentV m l p t).2 ≤ p + 4 := by
  unfold l3BentV
  split
  · rename_i h; exact ⟨h.choose_spec.1, h.choose_spec.2.1, h.choose_spec.2.2.1, h.choose_spec.2.2.2.1⟩
  · exact ⟨by simp, fun _ h => by simp at h, by simp, by simp; omega⟩
theorem l3Bent_con (l : Bs) (p : Int) (t : List Mrk) (hp : 0 ≤ p ∧ p ≤ 1000000) (hl : l.length ≤ 2000) (ht : t.length ≤ 1000) (hb : bndM 100 t) : Con (E m) 14 1 [.bp 0 0, .sl (t.map Mrk.c)] [(0, rd l p)] (.sl ((l3BentV m l p t).1.map Mrk.c)) [(0, rd l (l3BentV m l p t).2)] := by
  have h : ∃ x : List Mrk × Int, x.1.length ≤ t.length + 1 ∧ bndM 100 x.1 ∧ p ≤ x.2 ∧ x.2 ≤ p + 4 ∧ Con (E m) 14 1 [.bp 0 0, .sl (t.map Mrk.c)] [(0, rd l p)] (.sl (x.1.map Mrk.c)) [(0, rd l x.2)] := by
    obtain ⟨d, S', ⟨t, p', h1, h2, h3, h4, rfl, rfl⟩, hc⟩ := l3Bent_raw (m := m) l p t hp hl ht hb
    exact ⟨(t, p'), h1, h2, h3, h4, hc⟩
  unfold l3BentV
  rw [dif_pos h]
  exact h.choose_spec.2.2.2.2
end Go.Proofs.Ytplhgbcpeohpgaa
