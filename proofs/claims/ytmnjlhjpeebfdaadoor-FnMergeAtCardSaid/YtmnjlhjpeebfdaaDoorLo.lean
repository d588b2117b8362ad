/- Contracts: the texts of what is done. -/
import Derived.Test.YtmnjlhjpeebfdaaDoorLf
import Derived.Test.YtmnjlhjpeebfdaaDoorX2
set_option linter.unusedSimpArgs false
set_option linter.unusedVariables false
set_option maxHeartbeats 1000000
set_option maxRecDepth 10000
namespace Go.Proofs.YtmnjlhjpeebfdaaDoor
open Go Go.RowKit Go.Ab Go.Par
variable {m : Int}
theorem opOk_max {o : Opn} (h : opOk o = true) : (opText o).length ≤ 40 := by
  have h1 := opOk_len h
  have h2 := opOk_kind h
  have h3 : (opWord o.kind).length ≤ 5 := by
    have : o.kind = 1 ∨ o.kind = 2 ∨ o.kind = 3 ∨ o.kind = 4 ∨ o.kind = 5 := by omega
    rcases this with h | h | h | h | h <;> rw [h] <;> decide
  rw [opText, if_pos h]
  simp only [List.length_append]
  split <;> split <;> simp <;> omega
theorem iOpText_con (k : Int) (p t d : Bs) (h1 : p.length ≤ 1073741824) (h2 : t.length ≤ 1073741824) (h3 : d.length ≤ 1073741824) : Con (Eo m) 13 0 [.agg [.k .i64 k, .s p, .s t, .s d]] [] (.s (opText ⟨k, p, t, d⟩)) [] := by
  have c1 := con_o (iOpOk_con (m := m) ⟨k, p, t, d⟩ h1 h2 h3)
  cases hok : opOk ⟨k, p, t, d⟩ with
  | false =>
    rw [hok] at c1
    have hx : opText ⟨k, p, t, d⟩ = [] := by simp [opText, hok]
    rw [hx]
    refine con_of_cd tyOkO mixO Tryd.func13 rfl rfl rfl (Nat.le_of_ble_eq_true rfl) ?_
    repeat' first | refine Ra ⟨?_⟩ | ((first | refine Rc [] 0 rfl rfl (c1) ?_ | (refine bd (fun h => ?_) (fun h => ?_) <;> (try simp only [List.length_map] at h)) | refine bsplit.mk (fun h => ?_) (fun h => ?_)) <;> conv => whnf) | refine Rb ⟨?_⟩ | fail
    exact Rf
  | true =>
    rw [hok] at c1
    have hl := opOk_len hok
    have hk := opOk_kind hok
    have hx : opText ⟨k, p, t, d⟩ = opWord k ++ [32] ++ p ++ (if k = 5 then [32] ++ t else []) ++ (if d = [] then [] else [32] ++ d) := by rw [opText, if_pos hok]
    rw [hx]
    simp only at hl hk
    have : k = 1 ∨ k = 2 ∨ k = 3 ∨ k = 4 ∨ k = 5 := by omega
    rcases this with rfl | rfl | rfl | rfl | rfl
    all_goals
      refine con_of_cd tyOkO mixO Tryd.func13 rfl rfl rfl (Nat.le_of_ble_eq_true rfl) ?_
      repeat' first | refine Ra ⟨?_⟩ | ((first | refine Rc [] 0 rfl rfl (c1) ?_ | refine ⟨1, _, rfl, by decide, rfl, ?_⟩ | refine ⟨2, _, rfl, by decide, rfl, ?_⟩ | refine ⟨3, _, rfl, by decide, rfl, ?_⟩ | refine ⟨4, _, rfl, by decide, rfl, ?_⟩ | refine ⟨5, _, rfl, by decide, rfl, ?_⟩ | (refine bd (fun h => ?_) (fun h => ?_) <;> (try simp only [List.length_map] at h)) | refine bsplit.mk (fun h => ?_) (fun h => ?_)) <;> conv => whnf) | refine Rb ⟨?_⟩ | fail
      all_goals
        first | refine CallEnd.here (fa ?_) | refine fa ?_
        conv => whnf
        first | exact ⟨rfl, rfl, rfl, rfl⟩ | refine ⟨rfl, rfl, congrArg some (congrArg D.s ?_), rfl⟩ | refine ⟨rfl, rfl, congrArg some (congrArg D.b ?_), rfl⟩ | refine ⟨rfl, rfl, congrArg some (congrArg (D.k _) ?_), rfl⟩ | refine ⟨rfl, rfl, congrArg some (congrArg D.agg ?_), rfl⟩ | refine ⟨rfl, rfl, rfl, ?_⟩
        all_goals first | rfl | (simp_all [opWord, opWords]; done) | (simp [opWord, opWords] <;> (repeat' split) <;> omega) | (simp only [opWord, opWords]; repeat' split) <;> first | omega | (simp_all; done) | (simp_all; omega) | (rw [Bool.eq_iff_iff]; simp [*, opWord, opWords] <;> omega)
theorem sWords_con : Con (E m) 58 0 [] [] (.own 0) [(0, .own 9 (opWords.map fun l => [.s l]))] := by
  refine con_of_cd tyOk mix Tryd.func58 rfl rfl rfl (Nat.le_of_ble_eq_true rfl) ?_
  repeat' first | refine Ra ⟨?_⟩ | ((first | (refine bd (fun h => ?_) (fun h => ?_) <;> (try simp only [List.length_map] at h)) | refine bsplit.mk (fun h => ?_) (fun h => ?_)) <;> conv => whnf) | refine Rb ⟨?_⟩ | fail
  exact Rf
theorem sOpText_con (k : Int) (p t d : Bs) (h1 : p.length ≤ 1073741824) (h2 : t.length ≤ 1073741824) (h3 : d.length ≤ 1073741824) : Con (E m) 15 0 [.agg [.k .i64 k, .s p, .s t, .s d]] [] (.s (opText ⟨k, p, t, d⟩)) [] := by
  have c1 := sOpOk_con (m := m) ⟨k, p, t, d⟩ h1 h2 h3
  cases hok : opOk ⟨k, p, t, d⟩ with
  | false =>
    rw [hok] at c1
    have hx : opText ⟨k, p, t, d⟩ = [] := by simp [opText, hok]
    rw [hx]
    refine con_of_cd tyOk mix Tryd.func15 rfl rfl rfl (Nat.le_of_ble_eq_true rfl) ?_
    repeat' first | refine Ra ⟨?_⟩ | ((first | refine Rc [] 0 rfl rfl (c1) ?_ | (refine bd (fun h => ?_) (fun h => ?_) <;> (try simp only [List.length_map] at h)) | refine bsplit.mk (fun h => ?_) (fun h => ?_)) <;> conv => whnf) | refine Rb ⟨?_⟩ | fail
    exact Rf
  | true =>
    rw [hok] at c1
    have hl := opOk_len hok
    have hk := opOk_kind hok
    have hx : opText ⟨k, p, t, d⟩ = opWord k ++ [32] ++ p ++ (if k = 5 then [32] ++ t else []) ++ (if d = [] then [] else [32] ++ d) := by rw [opText, if_pos hok]
    have h5 : k = 5 → d = [] := by
      intro hk5
      simp only [opOk, hk5, if_true, Bool.and_eq_true, decide_eq_true_eq] at hok
      exact hok.2.2
    rw [hx]
    simp only at hl hk
    rcases five hk.1 hk.2 with rfl | rfl | rfl | rfl | rfl
    all_goals
      refine con_of_cd tyOk mix Tryd.func15 rfl rfl rfl (Nat.le_of_ble_eq_true rfl) ?_
      repeat' first | refine Ra ⟨?_⟩ | ((first | refine Rc [] 0 rfl rfl (c1) ?_ | refine Rc [] 1 rfl rfl (sWords_con) ?_ | refine ⟨1, rfl, by decide, ?_⟩ | refine ⟨2, rfl, by decide, ?_⟩ | refine ⟨3, rfl, by decide, ?_⟩ | refine ⟨4, rfl, by decide, ?_⟩ | refine ⟨5, rfl, by decide, ?_⟩ | refine ⟨_, rfl, ?_⟩ | (refine bd (fun h => ?_) (fun h => ?_) <;> (try simp only [List.length_map] at h)) | refine bsplit.mk (fun h => ?_) (fun h => ?_)) <;> conv => whnf) | refine Rb ⟨?_⟩ | fail
      all_goals
        first | refine CallEnd.here (fa ?_) | refine fa ?_
        conv => whnf
        first | exact ⟨rfl, rfl, rfl, rfl⟩ | refine ⟨rfl, rfl, congrArg some (congrArg D.s ?_), rfl⟩ | refine ⟨rfl, rfl, congrArg some (congrArg D.b ?_), rfl⟩ | refine ⟨rfl, rfl, congrArg some (congrArg (D.k _) ?_), rfl⟩ | refine ⟨rfl, rfl, congrArg some (congrArg D.agg ?_), rfl⟩ | refine ⟨rfl, rfl, rfl, ?_⟩
        all_goals first | rfl | (simp_all [opWord, opWords]; done) | (simp [opWord, opWords] <;> (repeat' split) <;> omega) | (simp only [opWord, opWords]; repeat' split) <;> first | omega | (simp_all; done) | (simp_all; omega) | (rw [Bool.eq_iff_iff]; simp [*, opWord, opWords] <;> omega)
theorem sEnt3_con (s : Bs) (hs : s.length ≤ 1073741823) : Con (E m) 64 0 [.s s] [] (.tup [.s (ent3 s).1, .s (ent3 s).2.1, .s (ent3 s).2.2]) [] := by
  have c1 := sCut_con (m := m) s 32 (by omega)
  have hx : ent3 s = if 2 ≤ (cut 32 s).length ∧ (cut 32 s).length ≤ 3 then (wordAt (cut 32 s) 0, wordAt (cut 32 s) 1, wordAt (cut 32 s) 2) else ([], [], []) := rfl
  have hl := cut_len 32 s
  match cut 32 s, hl, c1, hx with
  | [], hl, c1, hx =>
    rw [hx]
    refine con_of_cd tyOk mix Tryd.func64 rfl rfl rfl (Nat.le_of_ble_eq_true rfl) ?_
    repeat' first | refine Ra ⟨?_⟩ | ((first | refine Rc [] 1 rfl rfl (c1) ?_ | (refine bd (fun h => ?_) (fun h => ?_) <;> (try simp only [List.length_map] at h)) | refine bsplit.mk (fun h => ?_) (fun h => ?_)) <;> conv => whnf) | refine Rb ⟨?_⟩ | fail
    all_goals
      exact Rf
  | [a], hl, c1, hx =>
    rw [hx]
    refine con_of_cd tyOk mix Tryd.func64 rfl rfl rfl (Nat.le_of_ble_eq_true rfl) ?_
    repeat' first | refine Ra ⟨?_⟩ | ((first | refine Rc [] 1 rfl rfl (c1) ?_ | (refine bd (fun h => ?_) (fun h => ?_) <;> (try simp only [List.length_map] at h)) | refine bsplit.mk (fun h => ?_) (fun h => ?_)) <;> conv => whnf) | refine Rb ⟨?_⟩ | fail
    all_goals
      exact Rf
  | [a, b], hl, c1, hx =>
    rw [hx]
    refine con_of_cd tyOk mix Tryd.func64 rfl rfl rfl (Nat.le_of_ble_eq_true rfl) ?_
    repeat' first | refine Ra ⟨?_⟩ | ((first | refine Rc [] 1 rfl rfl (c1) ?_ | (refine bd (fun h => ?_) (fun h => ?_) <;> (try simp only [List.length_map] at h)) | refine bsplit.mk (fun h => ?_) (fun h => ?_)) <;> conv => whnf) | refine Rb ⟨?_⟩ | fail
    all_goals
      exact Rf
  | [a, b, c], hl, c1, hx =>
    rw [hx]
    refine con_of_cd tyOk mix Tryd.func64 rfl rfl rfl (Nat.le_of_ble_eq_true rfl) ?_
    repeat' first | refine Ra ⟨?_⟩ | ((first | refine Rc [] 1 rfl rfl (c1) ?_ | refine ⟨1, rfl, by simp, ?_⟩ | refine ⟨2, rfl, by simp, ?_⟩ | refine ⟨0, rfl, by simp, ?_⟩ | (refine bd (fun h => ?_) (fun h => ?_) <;> (try simp only [List.length_map] at h)) | refine bsplit.mk (fun h => ?_) (fun h => ?_)) <;> conv => whnf) | refine Rb ⟨?_⟩ | fail
    all_goals
      exact Rf
  | a :: b :: c :: d :: r, hl, c1, hx =>
    rw [hx, if_neg (by simp)]
    have hlen : ((a :: b :: c :: d :: r).map fun l => [D.s l]).length = r.length + 4 := by simp
    refine con_of_cd tyOk mix Tryd.func64 rfl rfl rfl (Nat.le_of_ble_eq_true rfl) ?_
    repeat' first | refine Ra ⟨?_⟩ | ((first | refine Rc [] 1 rfl rfl (c1) ?_ | refine bf (by rw [hlen]; omega) ?_ | refine bt (by rw [hlen]; omega) ?_ | (refine bd (fun h => ?_) (fun h => ?_) <;> (try simp only [List.length_map] at h)) | refine bsplit.mk (fun h => ?_) (fun h => ?_)) <;> conv => whnf) | refine Rb ⟨?_⟩ | fail
    all_goals
      exact Rf
def opD : Option Opn → D
  | some o => .tup [.agg o.c, .b true]
  | none => .tup [.agg op0.c, .b false]
theorem iWordAt_con (w : List Bs) (i : Nat) (hl : w.length ≤ 1073741824) (hi : i ≤ 1073741824) : Con (E m) 84 0 [.sl (w.map fun l => [.s l]), .k .i64 i] [] (.s (wordAt w i)) [] := by
  by_cases h : i < w.length
  · have hx : wordAt w i = w[i] := by unfold wordAt; rw [List.getD_eq_getElem?_getD, List.getElem?_eq_getElem h]; rfl
    rw [hx]
    refine con_of_cd tyOk mix Tryd.func84 rfl rfl rfl (Nat.le_of_ble_eq_true rfl) ?_
    repeat' first | refine Ra ⟨?_⟩ | ((first | (refine bd (fun h => ?_) (fun h => ?_) <;> (try simp only [List.length_map] at h)) | refine bsplit.mk (fun h => ?_) (fun h => ?_)) <;> conv => whnf) | refine Rb ⟨?_⟩ | fail
    exact Rf
  · have hx : wordAt w i = [] := by unfold wordAt; rw [List.getD_eq_getElem?_getD, List.getElem?_eq_none (by omega)]; rfl
    rw [hx]
    refine con_of_cd tyOk mix Tryd.func84 rfl rfl rfl (Nat.le_of_ble_eq_true rfl) ?_
    repeat' first | refine Ra ⟨?_⟩ | ((first | (refine bd (fun h => ?_) (fun h => ?_) <;> (try simp only [List.length_map] at h)) | refine bsplit.mk (fun h => ?_) (fun h => ?_)) <;> conv => whnf) | refine Rb ⟨?_⟩ | fail
    exact Rf
theorem ow (k : Nat) (h : k < 6) : [D.s [], D.s [109, 97, 107, 101], D.s [112, 117, 116], D.s [114, 109], D.s [114, 109, 100, 105, 114], D.s [109, 111, 118, 101]][k]? = some (D.s (opWord (k : Int))) := by
  have : k = 0 ∨ k = 1 ∨ k = 2 ∨ k = 3 ∨ k = 4 ∨ k = 5 := by omega
  rcases this with rfl | rfl | rfl | rfl | rfl | rfl <;> rfl
theorem iOpOfWords_con (w : List Bs) (hl : w.length ≤ 1073741824) (hb : ∀ a ∈ w, a.length ≤ 1073741824) : Con (Eo m) 55 0 [.sl (w.map fun l => [.s l])] [] (opD (opOfWords w)) [] := by
  by_cases hw : 2 ≤ w.length ∧ w.length ≤ 3
  · match w, hw, hl, hb with
    | [], hw, _, _ => exact absurd hw.1 (by simp)
    | [a], hw, _, _ => exact absurd hw.1 (by simp)
    | a :: b :: q, hw, hl, hb =>
      have hq : q.length ≤ 1 := by have := hw.2; simp at this; omega
      have hlen : ((a :: b :: q).map fun l => [D.s l]).length = q.length + 2 := by simp
      have c1 := con_o (iWordAt_con (m := m) (a :: b :: q) 2 hl (by omega))
      have hb2 : (wordAt (a :: b :: q) 2).length ≤ 1073741824 := by
        match q with
        | [] => simp [wordAt]
        | c :: r => exact hb c (by simp)
      have c2 := con_o (iOpOk_con (m := m) (opOfKind (opKind a) b (wordAt (a :: b :: q) 2)) (by unfold opOfKind; split <;> exact hb b (by simp)) (by unfold opOfKind; split <;> simp [hb2]) (by unfold opOfKind; split <;> simp [hb2]))
      have hx : opOfWords (a :: b :: q) = if opOk (opOfKind (opKind a) b (wordAt (a :: b :: q) 2)) then some (opOfKind (opKind a) b (wordAt (a :: b :: q) 2)) else none := by
        unfold opOfWords
        have e0 : wordAt (a :: b :: q) 0 = a := rfl
        have e1 : wordAt (a :: b :: q) 1 = b := rfl
        rw [e0, e1]
        by_cases hok : opOk (opOfKind (opKind a) b (wordAt (a :: b :: q) 2)) = true
        · rw [if_pos ⟨by simp, by simp; omega, hok⟩, if_pos hok]
        · rw [if_neg (fun h => hok h.2.2), if_neg hok]
      rw [hx]
      refine con_of_cd tyOkO mixO Tryd.func55 rfl rfl rfl (Nat.le_of_ble_eq_true rfl) ?_
      repeat' first | refine Ra ⟨?_⟩ | ((first | refine bt (by rw [hlen]; omega) ?_ | refine bf (by rw [hlen]; omega) ?_ | refine ⟨1, _, rfl, rfl, rfl, ?_⟩ | (refine bd (fun h => ?_) (fun h => ?_) <;> (try simp only [List.length_map] at h)) | refine bsplit.mk (fun h => ?_) (fun h => ?_)) <;> conv => whnf) | refine Rb ⟨?_⟩ | fail
      refine Cd.loop2 (fun mq tm S nx => ∃ (k : Nat) (c : Int), mq = (6 - k) ∧ tm = [(0, .sl ((a :: b :: q).map fun l => [.s l])), (2, .bp 0 0), (4, .bp 1 0), (5, .k .i64 c)] ∧ S = [(0, .box 24 op0.c), (1, .box 24 [.k .i64 (kindTo a (k - 1)), .s b, .s [], .s []])] ∧ nx = 2 ∧ (c = (k : Nat)) ∧ (1 ≤ k) ∧ (k ≤ 6)) ?_ ?_
      · refine la [0, 2, 4, 5] ?_
        conv => whnf
        refine ⟨rfl, rfl, _, 1, 1, rfl, rfl, rfl, rfl, rfl, by omega, by omega⟩
      · rintro mq tm S nx ⟨k, c, hn, rfl, rfl, rfl, hc, hk1, hk2⟩
        subst hc
        by_cases hk : k ≤ 5
        · obtain ⟨j, rfl⟩ : ∃ j, k = j + 1 := ⟨k - 1, by omega⟩
          have hkt : kindTo a (j + 1) = if opWord ((j + 1 : Nat) : Int) = a then ((j + 1 : Nat) : Int) else kindTo a j := rfl
          repeat' first | refine Ra ⟨?_⟩ | ((first | refine ⟨j + 1, _, rfl, by omega, ow (j + 1) (by omega), ?_⟩ | (refine bd (fun h => ?_) (fun h => ?_) <;> (try simp only [List.length_map] at h)) | refine bsplit.mk (fun h => ?_) (fun h => ?_)) <;> conv => whnf) | refine Rb ⟨?_⟩ | fail
          · rw [if_pos ‹_›] at hkt
            refine .here ⟨mq - 1, by omega, ?_⟩
            refine la [0, 2, 4, 5] ?_
            conv => whnf
            refine ⟨rfl, rfl, j + 2, _, (by omega), rfl, ?_, rfl, rfl, by omega, by omega⟩
            have e : j + 2 - 1 = j + 1 := by omega
            rw [e, hkt]
            rfl
          · rw [if_neg ‹_›] at hkt
            refine .here ⟨mq - 1, by omega, ?_⟩
            refine la [0, 2, 4, 5] ?_
            conv => whnf
            refine ⟨rfl, rfl, j + 2, _, (by omega), rfl, ?_, rfl, rfl, by omega, by omega⟩
            have e : j + 2 - 1 = j + 1 := by omega
            rw [e, hkt]
            rfl
        · obtain rfl : k = 6 := by omega
          have hk5 : kindTo a (6 - 1) = opKind a := kindTo_5 a
          simp only [hk5]
          have hkd := opKind_le a
          cases hok : opOk (opOfKind (opKind a) b (wordAt (a :: b :: q) 2))
          all_goals
            rw [hok] at c2
            by_cases h5 : opKind a = 5
            all_goals
              simp only [opOfKind, h5, if_true, if_false] at c2
              simp only [opOfKind, h5, if_true, if_false, Bool.false_eq_true]
              repeat' first | refine Ra ⟨?_⟩ | ((first | refine Rc [] 0 rfl rfl (c1) ?_ | refine Rc [] 0 rfl rfl (c2) ?_ | (refine bd (fun h => ?_) (fun h => ?_) <;> (try simp only [List.length_map] at h)) | refine bsplit.mk (fun h => ?_) (fun h => ?_)) <;> conv => whnf) | refine Rb ⟨?_⟩ | fail
              first | refine CallEnd.here (fa ?_) | refine fa ?_
              conv => whnf
              first | exact ⟨rfl, rfl, rfl, rfl⟩ | refine ⟨rfl, rfl, congrArg some (congrArg D.s ?_), rfl⟩ | refine ⟨rfl, rfl, congrArg some (congrArg D.b ?_), rfl⟩ | refine ⟨rfl, rfl, congrArg some (congrArg (D.k _) ?_), rfl⟩ | refine ⟨rfl, rfl, congrArg some (congrArg D.agg ?_), rfl⟩ | refine ⟨rfl, rfl, rfl, ?_⟩
              all_goals first | rfl | (simp_all [opD]; done) | (simp [opD] <;> (repeat' split) <;> omega) | (simp only [opD]; repeat' split) <;> first | omega | (simp_all; done) | (simp_all; omega) | (rw [Bool.eq_iff_iff]; simp [*, opD] <;> omega)
  · have hx : opOfWords w = none := by
      unfold opOfWords
      rw [if_neg fun h => hw ⟨h.1, h.2.1⟩]
    rw [hx]
    refine con_of_cd tyOkO mixO Tryd.func55 rfl rfl rfl (Nat.le_of_ble_eq_true rfl) ?_
    repeat' first | refine Ra ⟨?_⟩ | ((first | (refine bd (fun h => ?_) (fun h => ?_) <;> (try simp only [List.length_map] at h)) | refine bsplit.mk (fun h => ?_) (fun h => ?_)) <;> conv => whnf) | refine Rb ⟨?_⟩ | fail
    all_goals
      exact Rf
theorem iOpRead_con (s : Bs) (hs : s.length ≤ 1073741823) : Con (Eo m) 14 0 [.s s] [] (opD (opRead s)) [] := by
  have c1 := con_o (split_con (m := m) s 32 (by omega))
  have hlen := cut_len 32 s
  have hpc := cut_piece 32 s
  have c2 := iOpOfWords_con (m := m) (cut 32 s) (by omega) (fun a ha => by have := hpc a ha; omega)
  cases ho : opOfWords (cut 32 s) with
  | none =>
    have hx : opRead s = none := by simp [opRead, ho]
    rw [hx]
    rw [ho] at c2
    refine con_of_cd tyOkO mixO Tryd.func14 rfl rfl rfl (Nat.le_of_ble_eq_true rfl) ?_
    repeat' first | refine Ra ⟨?_⟩ | ((first | refine Rc [] 1 rfl rfl (c1) ?_ | refine Rc [] 0 rfl rfl (c2) ?_ | (refine bd (fun h => ?_) (fun h => ?_) <;> (try simp only [List.length_map] at h)) | refine bsplit.mk (fun h => ?_) (fun h => ?_)) <;> conv => whnf) | refine Rb ⟨?_⟩ | fail
    exact Rf
  | some o =>
    have hx : opRead s = if opText o = s then some o else none := by simp [opRead, ho]
    rw [hx]
    rw [ho] at c2
    have hl := opOk_len (opOfWords_some ho).2.2.1
    have c3 := iOpText_con (m := m) o.kind o.path o.to o.data (by omega) (by omega) (by omega)
    by_cases ht : opText o = s
    all_goals
      simp only [ht, if_true, if_false]
      refine con_of_cd tyOkO mixO Tryd.func14 rfl rfl rfl (Nat.le_of_ble_eq_true rfl) ?_
      repeat' first | refine Ra ⟨?_⟩ | ((first | refine Rc [] 1 rfl rfl (c1) ?_ | refine Rc [] 0 rfl rfl (c2) ?_ | refine Rc [] 0 rfl rfl (c3) ?_ | (refine bd (fun h => ?_) (fun h => ?_) <;> (try simp only [List.length_map] at h)) | refine bsplit.mk (fun h => ?_) (fun h => ?_)) <;> conv => whnf) | refine Rb ⟨?_⟩ | fail
      exact Rf
theorem sOpRead_con (s : Bs) (hs : s.length ≤ 1073741823) : Con (E m) 18 0 [.s s] [] (opD (opRead s)) [] := by
  have c1 := sEnt3_con (m := m) s hs
  have hb : (ent3 s).2.1.length ≤ 1073741824 ∧ (ent3 s).2.2.length ≤ 1073741824 := by
    have hw : ∀ i, (wordAt (cut 32 s) i).length ≤ 1073741824 := by
      intro i
      unfold wordAt
      rw [List.getD_eq_getElem?_getD]
      cases h : (cut 32 s)[i]? with
      | none => simp
      | some a => have := cut_piece 32 s a (List.mem_of_getElem? h); simp; omega
    unfold ent3
    split
    · exact ⟨hw 1, hw 2⟩
    · simp
  refine con_of_cd tyOk mix Tryd.func18 rfl rfl rfl (Nat.le_of_ble_eq_true rfl) ?_
  repeat' first | refine Ra ⟨?_⟩ | ((first | refine Rc [] 0 rfl rfl (c1) ?_ | refine Rc [] 1 rfl rfl (sWords_con) ?_ | (refine bd (fun h => ?_) (fun h => ?_) <;> (try simp only [List.length_map] at h)) | refine bsplit.mk (fun h => ?_) (fun h => ?_)) <;> conv => whnf) | refine Rb ⟨?_⟩ | fail
  refine Cd.loop2 (fun mq tm S nx => ∃ (k : Nat) (c : Int), mq = (6 - k) ∧ tm = [(0, .s s), (2, .bp 0 0), (4, .s (ent3 s).1), (5, .s (ent3 s).2.1), (6, .s (ent3 s).2.2), (7, .own 1), (8, .k .i64 c)] ∧ S = [(0, .box 24 op0.c), (1, .own 9 (opWords.map fun l => [.s l]))] ∧ nx = 2 ∧ (c = (k : Nat)) ∧ (1 ≤ k) ∧ (k ≤ 6) ∧ (∀ j : Int, 1 ≤ j → j < k → ¬ (opWord j = (ent3 s).1 ∧ opText (opOfKind j (ent3 s).2.1 (ent3 s).2.2) = s ∧ s ≠ []))) ?_ ?_
  · refine la [0, 2, 4, 5, 6, 7, 8] ?_
    conv => whnf
    refine ⟨rfl, rfl, _, 1, 1, rfl, rfl, rfl, rfl, rfl, by omega, by omega, fun j h1 h2 => absurd h1 (by omega)⟩
  · rintro mq tm S nx ⟨k, c, hn, rfl, rfl, rfl, hc, hk1, hk2, ha⟩
    subst hc
    have hwl : (opWords.map fun l => [D.s l]).length = 6 := rfl
    by_cases hk : k < 6
    · have hg : (opWords.map fun l => [D.s l])[k]? = some [.s (opWord (k : Int))] := by
        have : k = 1 ∨ k = 2 ∨ k = 3 ∨ k = 4 ∨ k = 5 := by omega
        rcases this with rfl | rfl | rfl | rfl | rfl <;> rfl
      have hnx : ¬ (opWord (k : Int) = (ent3 s).1 ∧ opText (opOfKind k (ent3 s).2.1 (ent3 s).2.2) = s ∧ s ≠ []) → ∀ j : Int, 1 ≤ j → j < ((k + 1 : Nat) : Int) → ¬ (opWord j = (ent3 s).1 ∧ opText (opOfKind j (ent3 s).2.1 (ent3 s).2.2) = s ∧ s ≠ []) := by
        intro h j h1 h2
        by_cases hj : j = k
        · rw [hj]; exact h
        · exact ha j h1 (by omega)
      by_cases h5 : (k : Int) = 5
      · have hok5 : opOfKind k (ent3 s).2.1 (ent3 s).2.2 = ⟨k, (ent3 s).2.1, (ent3 s).2.2, []⟩ := by rw [opOfKind, if_pos h5]
        rw [hok5] at hnx
        have c2 := sOpText_con (m := m) k (ent3 s).2.1 (ent3 s).2.2 [] hb.1 hb.2 (by simp)
        have hhit : opWord (k : Int) = (ent3 s).1 → opText ⟨k, (ent3 s).2.1, (ent3 s).2.2, []⟩ = s → s ≠ [] → opRead s = some ⟨k, (ent3 s).2.1, (ent3 s).2.2, []⟩ := by
          intro e1 e2 e3
          rw [← hok5] at e2 ⊢
          exact opRead_hit (by omega) (by omega) e1 e2 e3
        repeat' first | refine Ra ⟨?_⟩ | ((first | refine Rc [] 0 rfl rfl (c2) ?_ | refine ⟨k, rfl, by rw [hwl]; omega, ?_⟩ | refine ⟨_, hg, ?_⟩ | refine bt (by rw [hwl]; omega) ?_ | (refine bd (fun h => ?_) (fun h => ?_) <;> (try simp only [List.length_map] at h)) | refine bsplit.mk (fun h => ?_) (fun h => ?_)) <;> conv => whnf) | refine Rb ⟨?_⟩ | fail
        all_goals first
          | (refine .here ⟨mq - 1, by omega, ?_⟩
             refine la [0, 2, 4, 5, 6, 7, 8] ?_
             conv => whnf
             refine ⟨rfl, rfl, k + 1, _, (by omega), rfl, rfl, rfl, by omega, by omega, by omega, hnx (by simp_all)⟩)
          | (rw [hhit ‹_› ‹_› ‹_›]
             refine CallEnd.here (fa ?_)
             conv => whnf
             exact ⟨rfl, rfl, rfl, rfl⟩)
      · have hok5 : opOfKind k (ent3 s).2.1 (ent3 s).2.2 = ⟨k, (ent3 s).2.1, [], (ent3 s).2.2⟩ := by rw [opOfKind, if_neg h5]
        rw [hok5] at hnx
        have c2 := sOpText_con (m := m) k (ent3 s).2.1 [] (ent3 s).2.2 hb.1 (by simp) hb.2
        have hhit : opWord (k : Int) = (ent3 s).1 → opText ⟨k, (ent3 s).2.1, [], (ent3 s).2.2⟩ = s → s ≠ [] → opRead s = some ⟨k, (ent3 s).2.1, [], (ent3 s).2.2⟩ := by
          intro e1 e2 e3
          rw [← hok5] at e2 ⊢
          exact opRead_hit (by omega) (by omega) e1 e2 e3
        repeat' first | refine Ra ⟨?_⟩ | ((first | refine Rc [] 0 rfl rfl (c2) ?_ | refine ⟨k, rfl, by rw [hwl]; omega, ?_⟩ | refine ⟨_, hg, ?_⟩ | refine bt (by rw [hwl]; omega) ?_ | (refine bd (fun h => ?_) (fun h => ?_) <;> (try simp only [List.length_map] at h)) | refine bsplit.mk (fun h => ?_) (fun h => ?_)) <;> conv => whnf) | refine Rb ⟨?_⟩ | fail
        all_goals first
          | (refine .here ⟨mq - 1, by omega, ?_⟩
             refine la [0, 2, 4, 5, 6, 7, 8] ?_
             conv => whnf
             refine ⟨rfl, rfl, k + 1, _, (by omega), rfl, rfl, rfl, by omega, by omega, by omega, hnx (by simp_all)⟩)
          | (rw [hhit ‹_› ‹_› ‹_›]
             refine CallEnd.here (fa ?_)
             conv => whnf
             exact ⟨rfl, rfl, rfl, rfl⟩)
    · have hx : opRead s = none := opRead_miss fun j h1 h2 => ha j h1 (by omega)
      rw [hx]
      repeat' first | refine Ra ⟨?_⟩ | ((first | refine bf (by rw [hwl]; omega) ?_ | (refine bd (fun h => ?_) (fun h => ?_) <;> (try simp only [List.length_map] at h)) | refine bsplit.mk (fun h => ?_) (fun h => ?_)) <;> conv => whnf) | refine Rb ⟨?_⟩ | fail
      exact Rf
end Go.Proofs.YtmnjlhjpeebfdaaDoor
