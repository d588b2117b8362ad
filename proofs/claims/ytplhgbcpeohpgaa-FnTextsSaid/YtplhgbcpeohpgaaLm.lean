/- Contracts: trees behind what is done to them, as the document has it. -/
import Derived.Test.YtplhgbcpeohpgaaLj
set_option linter.unusedSimpArgs false
set_option linter.unusedVariables false
set_option maxHeartbeats 1000000
set_option maxRecDepth 10000
namespace Go.Proofs.Ytplhgbcpeohpgaa
open Go Go.RowKit Go.Ab Go.Par
variable {m : Int}
theorem sPut_con (t : List Ent) (e : Ent) (ht : t.length ≤ 1073741824) : Con (E m) 40 0 [.sl (t.map Ent.c), .agg e.c] [] (.own 0) [(0, .own 24 ((putE t e).map Ent.c))] := by
  refine con_of_cd tyOk mix Try.func40 rfl rfl rfl (Nat.le_of_ble_eq_true rfl) ?_
  repeat' first | refine Ra ⟨?_⟩ | ((first | (refine bd (fun h => ?_) (fun h => ?_) <;> (try simp only [List.length_map] at h)) | refine bsplit.mk (fun h => ?_) (fun h => ?_)) <;> conv => whnf) | refine Rb ⟨?_⟩ | fail
  refine Cd.loop2 (fun mq tm S nx => ∃ (k : Nat) (xs : List (List D)), mq = (t.length - k) ∧ tm = [(0, .sl (t.map Ent.c)), (3, .bp 0 0), (5, .own 1), (6, .k .i64 k)] ∧ S = [(0, .box 24 e.c), (1, .own 24 xs)] ∧ nx = 2 ∧ (k ≤ t.length) ∧ (xs = (t.take k).map Ent.c) ∧ (putE t e = t.take k ++ putE (t.drop k) e)) ?_ ?_
  · refine la [0, 3, 5, 6] ?_
    conv => whnf
    refine ⟨rfl, rfl, _, 0, [], rfl, rfl, rfl, rfl, Nat.zero_le _, rfl, rfl⟩
  · rintro mq tm S nx ⟨k, xs, hn, rfl, rfl, rfl, hk, hx, ha⟩
    have hxl : xs.length = k := by rw [hx]; simp; omega
    rcases drop_or t k hk with ⟨rfl, hd⟩ | ⟨x, r, hx', hd, hr, hlt⟩
    · have hf : (putE t e).map Ent.c = (xs ++ [e.c]) ++ (((t.map Ent.c).take (t.map Ent.c).length).drop t.length) := by
        rw [ha, hx, hd, List.take_length]; simp [putE, List.drop_of_length_le]
      rw [hf]
      repeat' first | refine Ra ⟨?_⟩ | ((first | (refine bd (fun h => ?_) (fun h => ?_) <;> (try simp only [List.length_map] at h)) | refine bsplit.mk (fun h => ?_) (fun h => ?_)) <;> conv => whnf) | refine Rb ⟨?_⟩ | fail
      exact Rf
    · rw [hd] at ha
      cases hl : lt x.path e.path with
      | true =>
        have hn : putE t e = t.take (k + 1) ++ putE r e := by rw [ha, putE, if_pos hl, take_succ hx']; simp
        rw [← hr] at hn
        repeat' first | refine Ra ⟨?_⟩ | ((first | (refine bd (fun h => ?_) (fun h => ?_) <;> (try simp only [List.length_map] at h)) | refine bsplit.mk (fun h => ?_) (fun h => ?_)) <;> conv => whnf) | refine Rb ⟨?_⟩ | fail
        refine .here ⟨mq - 1, by omega, ?_⟩
        refine la [0, 3, 5, 6] ?_
        conv => whnf
        refine ⟨rfl, rfl, k + 1, _, (by omega), rfl, rfl, rfl, by omega, (by rw [hx]; exact take_map_succ hx'), hn⟩
      | false =>
        by_cases hp : x.path = e.path
        · have hf : (putE t e).map Ent.c = (xs ++ [e.c]) ++ (((t.map Ent.c).take (t.map Ent.c).length).drop (k + 1)) := by
            rw [ha, hx, putE, hl, if_neg (by simp), if_pos hp, List.take_length, ← List.map_drop, hr]; simp
          rw [hf]
          repeat' first | refine Ra ⟨?_⟩ | ((first | refine ⟨k + 1, rfl, ?_⟩ | (refine bd (fun h => ?_) (fun h => ?_) <;> (try simp only [List.length_map] at h)) | refine bsplit.mk (fun h => ?_) (fun h => ?_)) <;> conv => whnf) | refine Rb ⟨?_⟩ | fail
          exact Rf
        · have hf : (putE t e).map Ent.c = (xs ++ [e.c]) ++ (((t.map Ent.c).take (t.map Ent.c).length).drop k) := by
            rw [ha, hx, putE, hl, if_neg (by simp), if_neg hp, List.take_length, ← List.map_drop, hd]; simp
          rw [hf]
          repeat' first | refine Ra ⟨?_⟩ | ((first | (refine bd (fun h => ?_) (fun h => ?_) <;> (try simp only [List.length_map] at h)) | refine bsplit.mk (fun h => ?_) (fun h => ?_)) <;> conv => whnf) | refine Rb ⟨?_⟩ | fail
          exact Rf
theorem off_step (t : List Ent) (p : Bs) {i : Nat} {x : Ent} (h : t[i]? = some x) : offT (t.take (i + 1)) p = offT (t.take i) p ++ if x.path ≠ p then [x] else [] := by
  unfold offT
  rw [filter_take_succ h]
  congr 1
  by_cases hp : x.path = p <;> simp [hp]
theorem offT_len (t : List Ent) (p : Bs) : (offT t p).length ≤ t.length := List.length_filter_le _ _
theorem sOff_con (t : List Ent) (p : Bs) (ht : t.length ≤ 1073741824) : Con (E m) 42 0 [.sl (t.map Ent.c), .s p] [] (.own 0) [(0, .own 24 ((offT t p).map Ent.c))] := by
  refine con_of_cd tyOk mix Try.func42 rfl rfl rfl (Nat.le_of_ble_eq_true rfl) ?_
  repeat' first | refine Ra ⟨?_⟩ | ((first | (refine bd (fun h => ?_) (fun h => ?_) <;> (try simp only [List.length_map] at h)) | refine bsplit.mk (fun h => ?_) (fun h => ?_)) <;> conv => whnf) | refine Rb ⟨?_⟩ | fail
  refine Cd.loop2 (fun mq tm S nx => ∃ (i : Nat) (xs : List (List D)), mq = (t.length - i) ∧ tm = [(0, .sl (t.map Ent.c)), (1, .s p), (5, .own 0), (6, .k .i64 i)] ∧ S = [(0, .own 24 xs)] ∧ nx = 1 ∧ (i ≤ t.length) ∧ (xs = (offT (t.take i) p).map Ent.c)) ?_ ?_
  · refine la [0, 1, 5, 6] ?_
    conv => whnf
    refine ⟨rfl, rfl, _, 0, [], rfl, rfl, rfl, rfl, Nat.zero_le _, rfl⟩
  · rintro mq tm S nx ⟨i, xs, hn, rfl, rfl, rfl, hi, hx⟩
    have hxl : xs.length ≤ i := by rw [hx, List.length_map]; have := offT_len (t.take i) p; rw [List.length_take] at this; omega
    rcases drop_or t i hi with ⟨rfl, hd⟩ | ⟨x, r, hx', hd, hr, hlt⟩
    · rw [List.take_length] at hx
      rw [← hx]
      repeat' first | refine Ra ⟨?_⟩ | ((first | (refine bd (fun h => ?_) (fun h => ?_) <;> (try simp only [List.length_map] at h)) | refine bsplit.mk (fun h => ?_) (fun h => ?_)) <;> conv => whnf) | refine Rb ⟨?_⟩ | fail
      exact Rf
    · have hs := off_step t p hx'
      by_cases hp : x.path = p
      · rw [if_neg (not_not_intro hp), List.append_nil] at hs
        repeat' first | refine Ra ⟨?_⟩ | ((first | (refine bd (fun h => ?_) (fun h => ?_) <;> (try simp only [List.length_map] at h)) | refine bsplit.mk (fun h => ?_) (fun h => ?_)) <;> conv => whnf) | refine Rb ⟨?_⟩ | fail
        refine .here ⟨mq - 1, by omega, ?_⟩
        refine la [0, 1, 5, 6] ?_
        conv => whnf
        refine ⟨rfl, rfl, i + 1, _, (by omega), rfl, rfl, rfl, by omega, (by rw [hs, hx])⟩
      · rw [if_pos hp] at hs
        repeat' first | refine Ra ⟨?_⟩ | ((first | (refine bd (fun h => ?_) (fun h => ?_) <;> (try simp only [List.length_map] at h)) | refine bsplit.mk (fun h => ?_) (fun h => ?_)) <;> conv => whnf) | refine Rb ⟨?_⟩ | fail
        refine .here ⟨mq - 1, by omega, ?_⟩
        refine la [0, 1, 5, 6] ?_
        conv => whnf
        refine ⟨rfl, rfl, i + 1, _, (by omega), rfl, rfl, rfl, by omega, (by rw [hs, hx, List.map_append]; rfl)⟩
theorem sMove_con (t : List Ent) (a b : Bs) (ht : t.length ≤ 1073741824) (hb : bndE 1073741823 t) (h1 : a.length ≤ 1073741823) (h2 : b.length ≤ 1073741823) : Con (E m) 41 0 [.sl (t.map Ent.c), .s a, .s b] [] (.own 0) [(0, .own 24 ((moveT t a b).map Ent.c))] := by
  refine con_of_cd tyOk mix Try.func41 rfl rfl rfl (Nat.le_of_ble_eq_true rfl) ?_
  repeat' first | refine Ra ⟨?_⟩ | ((first | (refine bd (fun h => ?_) (fun h => ?_) <;> (try simp only [List.length_map] at h)) | refine bsplit.mk (fun h => ?_) (fun h => ?_)) <;> conv => whnf) | refine Rb ⟨?_⟩ | fail
  refine Cd.loop2 (fun mq tm S nx => ∃ (i : Nat) (xs : List (List D)), mq = (t.length - i) ∧ tm = [(0, .sl (t.map Ent.c)), (1, .s a), (2, .s b), (7, .own 0), (8, .k .i64 i)] ∧ S = [(0, .own 24 xs)] ∧ nx = 1 ∧ (i ≤ t.length) ∧ (xs = (moveT (t.take i) a b).map Ent.c)) ?_ ?_
  · refine la [0, 1, 2, 7, 8] ?_
    conv => whnf
    refine ⟨rfl, rfl, _, 0, [], rfl, rfl, rfl, rfl, Nat.zero_le _, rfl⟩
  · rintro mq tm S nx ⟨i, xs, hn, rfl, rfl, rfl, hi, hx⟩
    have hml : (moveT (t.take i) a b).length ≤ i := by
      have := putAll_len ((t.take i).map (moveE a b)) []
      simp only [List.length_map, List.length_take, List.length_nil] at this
      unfold moveT
      omega
    rcases drop_or t i hi with ⟨rfl, hd⟩ | ⟨x, r, hx', hd, hr, hlt⟩
    · rw [List.take_length] at hx
      rw [← hx]
      repeat' first | refine Ra ⟨?_⟩ | ((first | (refine bd (fun h => ?_) (fun h => ?_) <;> (try simp only [List.length_map] at h)) | refine bsplit.mk (fun h => ?_) (fun h => ?_)) <;> conv => whnf) | refine Rb ⟨?_⟩ | fail
      exact Rf
    · have hbx := hb x (List.mem_of_getElem? hx')
      have c1 := sPathMove_con (m := m) x.path a b (by omega) h1 h2
      have hs : moveT (t.take (i + 1)) a b = putE (moveT (t.take i) a b) (moveE a b x) := by
        unfold moveT
        rw [take_succ hx', List.map_append, List.map_cons, List.map_nil, putAll_snoc]
      subst hx
      cases hm : pathMove x.path a b
      all_goals
        rw [hm] at c1
        have hme : moveE a b x = ⟨(pathMove x.path a b).getD [], x.dir, x.data⟩ := rfl
        rw [hm] at hme
        have c2 := sPut_con (m := m) (moveT (t.take i) a b) (moveE a b x) (by omega)
        rw [← hs, hme] at c2
        repeat' first | refine Ra ⟨?_⟩ | ((first | refine Rc [] 0 rfl rfl (c1) ?_ | refine Rc [] 1 rfl rfl (c2) ?_ | (refine bd (fun h => ?_) (fun h => ?_) <;> (try simp only [List.length_map] at h)) | refine bsplit.mk (fun h => ?_) (fun h => ?_)) <;> conv => whnf) | refine Rb ⟨?_⟩ | fail
        refine .here ⟨mq - 1, by omega, ?_⟩
        refine la [0, 1, 2, 7, 8] ?_
        conv => whnf
        refine ⟨rfl, rfl, i + 1, _, (by omega), rfl, rfl, rfl, by omega, rfl⟩
theorem sDo_con (t : List Ent) (o : Opn) (ht : t.length ≤ 1073741824) (hb : bndE 1073741823 t) (h1 : o.path.length ≤ 1073741823) (h2 : o.to.length ≤ 1073741823) : Con (E m) 28 0 [.sl (t.map Ent.c), .agg o.c] [] (.own 0) [(0, .own 24 ((doT t o).map Ent.c))] := by
  have c1 := sPut_con (m := m) t ⟨o.path, true, []⟩ ht
  have c2 := sPut_con (m := m) t ⟨o.path, false, o.data⟩ ht
  have c3 := sMove_con (m := m) t o.path o.to ht hb h1 h2
  have c4 := sOff_con (m := m) t o.path ht
  unfold doT
  by_cases k1 : o.kind = 1
  · simp only [k1, if_true]
    refine con_of_cd tyOk mix Try.func28 rfl rfl rfl (Nat.le_of_ble_eq_true rfl) ?_
    repeat' first | refine Ra ⟨?_⟩ | ((first | refine Rc [] 1 rfl rfl (c1) ?_ | (refine bd (fun h => ?_) (fun h => ?_) <;> (try simp only [List.length_map] at h)) | refine bsplit.mk (fun h => ?_) (fun h => ?_)) <;> conv => whnf) | refine Rb ⟨?_⟩ | fail
    exact Rf
  · by_cases k2 : o.kind = 2
    · simp only [k1, k2, if_true, if_false]
      refine con_of_cd tyOk mix Try.func28 rfl rfl rfl (Nat.le_of_ble_eq_true rfl) ?_
      repeat' first | refine Ra ⟨?_⟩ | ((first | refine Rc [] 1 rfl rfl (c2) ?_ | (refine bd (fun h => ?_) (fun h => ?_) <;> (try simp only [List.length_map] at h)) | refine bsplit.mk (fun h => ?_) (fun h => ?_)) <;> conv => whnf) | refine Rb ⟨?_⟩ | fail
      exact Rf
    · by_cases k5 : o.kind = 5
      · simp only [k1, k2, k5, if_true, if_false]
        refine con_of_cd tyOk mix Try.func28 rfl rfl rfl (Nat.le_of_ble_eq_true rfl) ?_
        repeat' first | refine Ra ⟨?_⟩ | ((first | refine Rc [] 1 rfl rfl (c3) ?_ | (refine bd (fun h => ?_) (fun h => ?_) <;> (try simp only [List.length_map] at h)) | refine bsplit.mk (fun h => ?_) (fun h => ?_)) <;> conv => whnf) | refine Rb ⟨?_⟩ | fail
        exact Rf
      · simp only [k1, k2, k5, if_false]
        refine con_of_cd tyOk mix Try.func28 rfl rfl rfl (Nat.le_of_ble_eq_true rfl) ?_
        repeat' first | refine Ra ⟨?_⟩ | ((first | refine Rc [] 1 rfl rfl (c4) ?_ | (refine bd (fun h => ?_) (fun h => ?_) <;> (try simp only [List.length_map] at h)) | refine bsplit.mk (fun h => ?_) (fun h => ?_)) <;> conv => whnf) | refine Rb ⟨?_⟩ | fail
        exact Rf
theorem sTreeDo_con (t : List Ent) (o : Opn) (ht : t.length ≤ 1073741824) (hb : bndE 1073741823 t) (h1 : o.path.length ≤ 1073741823) (h2 : o.to.length ≤ 1073741823) (h3 : o.data.length ≤ 1073741823) : Con (E m) 18 0 [.sl (t.map Ent.c), .agg o.c] [] (.tup [.own 0, .k .i64 (treeDo t o).2]) [(0, .own 24 ((treeDo t o).1.map Ent.c))] := by
  have c1 := sTreeOk_con (m := m) t fun e he => by have := hb e he; omega
  have c2 := sOpOk_con (m := m) o (by omega) (by omega) (by omega)
  have c3 := sCode_con (m := m) t o ht hb h1 h2
  have c4 := sDo_con (m := m) t o ht hb h1 h2
  cases k1 : treeOk t with
  | false =>
    have hx : treeDo t o = ([], 1) := by simp [treeDo, k1]
    rw [hx]
    rw [k1] at c1
    refine con_of_cd tyOk mix Try.func18 rfl rfl rfl (Nat.le_of_ble_eq_true rfl) ?_
    repeat' first | refine Ra ⟨?_⟩ | ((first | refine Rc [] 0 rfl rfl (c1) ?_ | (refine bd (fun h => ?_) (fun h => ?_) <;> (try simp only [List.length_map] at h)) | refine bsplit.mk (fun h => ?_) (fun h => ?_)) <;> conv => whnf) | refine Rb ⟨?_⟩ | fail
    exact Rf
  | true =>
    rw [k1] at c1
    cases k2 : opOk o with
    | false =>
      have hx : treeDo t o = (t, 1) := by simp [treeDo, k1, k2]
      rw [hx]
      rw [k2] at c2
      refine con_of_cd tyOk mix Try.func18 rfl rfl rfl (Nat.le_of_ble_eq_true rfl) ?_
      repeat' first | refine Ra ⟨?_⟩ | ((first | refine Rc [] 0 rfl rfl (c1) ?_ | refine Rc [] 0 rfl rfl (c2) ?_ | (refine bd (fun h => ?_) (fun h => ?_) <;> (try simp only [List.length_map] at h)) | refine bsplit.mk (fun h => ?_) (fun h => ?_)) <;> conv => whnf) | refine Rb ⟨?_⟩ | fail
      exact Rf
    | true =>
      rw [k2] at c2
      by_cases k3 : opCode t o = 0
      · have hx : treeDo t o = (doT t o, 0) := by simp [treeDo, k1, k2, k3]
        rw [hx]
        rw [k3] at c3
        refine con_of_cd tyOk mix Try.func18 rfl rfl rfl (Nat.le_of_ble_eq_true rfl) ?_
        repeat' first | refine Ra ⟨?_⟩ | ((first | refine Rc [] 0 rfl rfl (c1) ?_ | refine Rc [] 0 rfl rfl (c2) ?_ | refine Rc [] 0 rfl rfl (c3) ?_ | refine Rc [] 1 rfl rfl (c4) ?_ | (refine bd (fun h => ?_) (fun h => ?_) <;> (try simp only [List.length_map] at h)) | refine bsplit.mk (fun h => ?_) (fun h => ?_)) <;> conv => whnf) | refine Rb ⟨?_⟩ | fail
        exact Rf
      · have hx : treeDo t o = (t, opCode t o) := by simp [treeDo, k1, k2, k3]
        rw [hx]
        refine con_of_cd tyOk mix Try.func18 rfl rfl rfl (Nat.le_of_ble_eq_true rfl) ?_
        repeat' first | refine Ra ⟨?_⟩ | ((first | refine Rc [] 0 rfl rfl (c1) ?_ | refine Rc [] 0 rfl rfl (c2) ?_ | refine Rc [] 0 rfl rfl (c3) ?_ | (refine bd (fun h => ?_) (fun h => ?_) <;> (try simp only [List.length_map] at h)) | refine bsplit.mk (fun h => ?_) (fun h => ?_)) <;> conv => whnf) | refine Rb ⟨?_⟩ | fail
        exact Rf
end Go.Proofs.Ytplhgbcpeohpgaa
