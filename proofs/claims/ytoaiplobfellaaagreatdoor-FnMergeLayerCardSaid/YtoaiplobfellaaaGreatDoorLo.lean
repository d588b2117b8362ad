/- Contracts: the texts of what is done. -/
import Derived.Test.YtoaiplobfellaaaGreatDoorLf
import Derived.Test.YtoaiplobfellaaaGreatDoorX2
set_option linter.unusedSimpArgs false
set_option linter.unusedVariables false
set_option maxHeartbeats 1000000
set_option maxRecDepth 10000
namespace Go.Proofs.YtoaiplobfellaaaGreatDoor
open Go Go.RowKit Go.Ab Go.Par
variable {m : Int}
theorem opOk_max {o : Opn} (h : opOk o = true) : (opText o).length ≤ 40 := by
  have h1 := opOk_len h
  have h2 := opOk_kind h
  have h3 : (opWord o.kind).length ≤ 5 := by
    have : o.kind = 1 ∨ o.kind = 2 ∨ o.kind = 3 ∨ o.kind = 4 ∨ o.kind = 5 := by omega
    rcases this with h | h | h | h | h <;> rw [h] <;> decide
  rw [opText, if_pos h]
  simp only [List.length_append]
  split <;> split <;> simp <;> omega
theorem iOpText_con (k : Int) (p t d : Bs) (h1 : p.length ≤ 1073741824) (h2 : t.length ≤ 1073741824) (h3 : d.length ≤ 1073741824) : Con (Eo m) 49 0 [.agg [.k .i64 k, .s p, .s t, .s d]] [] (.s (opText ⟨k, p, t, d⟩)) [] := by
  have c1 := con_o (iOpOk_con (m := m) ⟨k, p, t, d⟩ h1 h2 h3)
  cases hok : opOk ⟨k, p, t, d⟩ with
  | false =>
    rw [hok] at c1
    have hx : opText ⟨k, p, t, d⟩ = [] := by simp [opText, hok]
    rw [hx]
    refine con_of_cd tyOkO mixO Tryz.func49 rfl rfl rfl (Nat.le_of_ble_eq_true rfl) ?_
    repeat' first | refine Ra ⟨?_⟩ | ((first | refine Rc [] 0 rfl rfl (c1) ?_ | (refine bd (fun h => ?_) (fun h => ?_) <;> (try simp only [List.length_map] at h)) | refine bsplit.mk (fun h => ?_) (fun h => ?_)) <;> conv => whnf) | refine Rb ⟨?_⟩ | fail
    exact Rf
  | true =>
    rw [hok] at c1
    have hl := opOk_len hok
    have hk := opOk_kind hok
    have hx : opText ⟨k, p, t, d⟩ = opWord k ++ [32] ++ p ++ (if k = 5 then [32] ++ t else []) ++ (if d = [] then [] else [32] ++ d) := by rw [opText, if_pos hok]
    rw [hx]
    simp only at hl hk
    have : k = 1 ∨ k = 2 ∨ k = 3 ∨ k = 4 ∨ k = 5 := by omega
    rcases this with rfl | rfl | rfl | rfl | rfl
    all_goals
      refine con_of_cd tyOkO mixO Tryz.func49 rfl rfl rfl (Nat.le_of_ble_eq_true rfl) ?_
      repeat' first | refine Ra ⟨?_⟩ | ((first | refine Rc [] 0 rfl rfl (c1) ?_ | refine ⟨1, _, rfl, by decide, rfl, ?_⟩ | refine ⟨2, _, rfl, by decide, rfl, ?_⟩ | refine ⟨3, _, rfl, by decide, rfl, ?_⟩ | refine ⟨4, _, rfl, by decide, rfl, ?_⟩ | refine ⟨5, _, rfl, by decide, rfl, ?_⟩ | (refine bd (fun h => ?_) (fun h => ?_) <;> (try simp only [List.length_map] at h)) | refine bsplit.mk (fun h => ?_) (fun h => ?_)) <;> conv => whnf) | refine Rb ⟨?_⟩ | fail
      all_goals
        first | refine CallEnd.here (fa ?_) | refine fa ?_
        conv => whnf
        first | exact ⟨rfl, rfl, rfl, rfl⟩ | refine ⟨rfl, rfl, congrArg some (congrArg D.s ?_), rfl⟩ | refine ⟨rfl, rfl, congrArg some (congrArg D.b ?_), rfl⟩ | refine ⟨rfl, rfl, congrArg some (congrArg (D.k _) ?_), rfl⟩ | refine ⟨rfl, rfl, congrArg some (congrArg D.agg ?_), rfl⟩ | refine ⟨rfl, rfl, rfl, ?_⟩
        all_goals first | rfl | (simp_all [opWord, opWords]; done) | (simp [opWord, opWords] <;> (repeat' split) <;> omega) | (simp only [opWord, opWords]; repeat' split) <;> first | omega | (simp_all; done) | (simp_all; omega) | (rw [Bool.eq_iff_iff]; simp [*, opWord, opWords] <;> omega)
theorem sWords_con : Con (E m) 115 0 [] [] (.own 0) [(0, .own 9 (opWords.map fun l => [.s l]))] := by
  refine con_of_cd tyOk mix Tryz.func115 rfl rfl rfl (Nat.le_of_ble_eq_true rfl) ?_
  repeat' first | refine Ra ⟨?_⟩ | ((first | (refine bd (fun h => ?_) (fun h => ?_) <;> (try simp only [List.length_map] at h)) | refine bsplit.mk (fun h => ?_) (fun h => ?_)) <;> conv => whnf) | refine Rb ⟨?_⟩ | fail
  exact Rf
theorem sOpText_con (k : Int) (p t d : Bs) (h1 : p.length ≤ 1073741824) (h2 : t.length ≤ 1073741824) (h3 : d.length ≤ 1073741824) : Con (E m) 51 0 [.agg [.k .i64 k, .s p, .s t, .s d]] [] (.s (opText ⟨k, p, t, d⟩)) [] := by
  have c1 := sOpOk_con (m := m) ⟨k, p, t, d⟩ h1 h2 h3
  cases hok : opOk ⟨k, p, t, d⟩ with
  | false =>
    rw [hok] at c1
    have hx : opText ⟨k, p, t, d⟩ = [] := by simp [opText, hok]
    rw [hx]
    refine con_of_cd tyOk mix Tryz.func51 rfl rfl rfl (Nat.le_of_ble_eq_true rfl) ?_
    repeat' first | refine Ra ⟨?_⟩ | ((first | refine Rc [] 0 rfl rfl (c1) ?_ | (refine bd (fun h => ?_) (fun h => ?_) <;> (try simp only [List.length_map] at h)) | refine bsplit.mk (fun h => ?_) (fun h => ?_)) <;> conv => whnf) | refine Rb ⟨?_⟩ | fail
    exact Rf
  | true =>
    rw [hok] at c1
    have hl := opOk_len hok
    have hk := opOk_kind hok
    have hx : opText ⟨k, p, t, d⟩ = opWord k ++ [32] ++ p ++ (if k = 5 then [32] ++ t else []) ++ (if d = [] then [] else [32] ++ d) := by rw [opText, if_pos hok]
    have h5 : k = 5 → d = [] := by
      intro hk5
      simp only [opOk, hk5, if_true, Bool.and_eq_true, decide_eq_true_eq] at hok
      exact hok.2.2
    rw [hx]
    simp only at hl hk
    rcases five hk.1 hk.2 with rfl | rfl | rfl | rfl | rfl
    all_goals
      refine con_of_cd tyOk mix Tryz.func51 rfl rfl rfl (Nat.le_of_ble_eq_true rfl) ?_
      repeat' first | refine Ra ⟨?_⟩ | ((first | refine Rc [] 0 rfl rfl (c1) ?_ | refine Rc [] 1 rfl rfl (sWords_con) ?_ | refine ⟨1, rfl, by decide, ?_⟩ | refine ⟨2, rfl, by decide, ?_⟩ | refine ⟨3, rfl, by decide, ?_⟩ | refine ⟨4, rfl, by decide, ?_⟩ | refine ⟨5, rfl, by decide, ?_⟩ | refine ⟨_, rfl, ?_⟩ | (refine bd (fun h => ?_) (fun h => ?_) <;> (try simp only [List.length_map] at h)) | refine bsplit.mk (fun h => ?_) (fun h => ?_)) <;> conv => whnf) | refine Rb ⟨?_⟩ | fail
      all_goals
        first | refine CallEnd.here (fa ?_) | refine fa ?_
        conv => whnf
        first | exact ⟨rfl, rfl, rfl, rfl⟩ | refine ⟨rfl, rfl, congrArg some (congrArg D.s ?_), rfl⟩ | refine ⟨rfl, rfl, congrArg some (congrArg D.b ?_), rfl⟩ | refine ⟨rfl, rfl, congrArg some (congrArg (D.k _) ?_), rfl⟩ | refine ⟨rfl, rfl, congrArg some (congrArg D.agg ?_), rfl⟩ | refine ⟨rfl, rfl, rfl, ?_⟩
        all_goals first | rfl | (simp_all [opWord, opWords]; done) | (simp [opWord, opWords] <;> (repeat' split) <;> omega) | (simp only [opWord, opWords]; repeat' split) <;> first | omega | (simp_all; done) | (simp_all; omega) | (rw [Bool.eq_iff_iff]; simp [*, opWord, opWords] <;> omega)
def opD : Option Opn → D
  | some o => .tup [.agg o.c, .b true]
  | none => .tup [.agg op0.c, .b false]
theorem iWordAt_con (w : List Bs) (i : Nat) (hl : w.length ≤ 1073741824) (hi : i ≤ 1073741824) : Con (E m) 117 0 [.sl (w.map fun l => [.s l]), .k .i64 i] [] (.s (wordAt w i)) [] := by
  by_cases h : i < w.length
  · have hx : wordAt w i = w[i] := by unfold wordAt; rw [List.getD_eq_getElem?_getD, List.getElem?_eq_getElem h]; rfl
    rw [hx]
    refine con_of_cd tyOk mix Tryz.func117 rfl rfl rfl (Nat.le_of_ble_eq_true rfl) ?_
    repeat' first | refine Ra ⟨?_⟩ | ((first | (refine bd (fun h => ?_) (fun h => ?_) <;> (try simp only [List.length_map] at h)) | refine bsplit.mk (fun h => ?_) (fun h => ?_)) <;> conv => whnf) | refine Rb ⟨?_⟩ | fail
    exact Rf
  · have hx : wordAt w i = [] := by unfold wordAt; rw [List.getD_eq_getElem?_getD, List.getElem?_eq_none (by omega)]; rfl
    rw [hx]
    refine con_of_cd tyOk mix Tryz.func117 rfl rfl rfl (Nat.le_of_ble_eq_true rfl) ?_
    repeat' first | refine Ra ⟨?_⟩ | ((first | (refine bd (fun h => ?_) (fun h => ?_) <;> (try simp only [List.length_map] at h)) | refine bsplit.mk (fun h => ?_) (fun h => ?_)) <;> conv => whnf) | refine Rb ⟨?_⟩ | fail
    exact Rf
theorem ow (k : Nat) (h : k < 6) : [D.s [], D.s [109, 97, 107, 101], D.s [112, 117, 116], D.s [114, 109], D.s [114, 109, 100, 105, 114], D.s [109, 111, 118, 101]][k]? = some (D.s (opWord (k : Int))) := by
  have : k = 0 ∨ k = 1 ∨ k = 2 ∨ k = 3 ∨ k = 4 ∨ k = 5 := by omega
  rcases this with rfl | rfl | rfl | rfl | rfl | rfl <;> rfl
theorem iOpOfWords_con (w : List Bs) (hl : w.length ≤ 1073741824) (hb : ∀ a ∈ w, a.length ≤ 1073741824) : Con (Eo m) 118 0 [.sl (w.map fun l => [.s l])] [] (opD (opOfWords w)) [] := by
  by_cases hw : 2 ≤ w.length ∧ w.length ≤ 3
  · match w, hw, hl, hb with
    | [], hw, _, _ => exact absurd hw.1 (by simp)
    | [a], hw, _, _ => exact absurd hw.1 (by simp)
    | a :: b :: q, hw, hl, hb =>
      have hq : q.length ≤ 1 := by have := hw.2; simp at this; omega
      have hlen : ((a :: b :: q).map fun l => [D.s l]).length = q.length + 2 := by simp
      have c1 := con_o (iWordAt_con (m := m) (a :: b :: q) 2 hl (by omega))
      have hb2 : (wordAt (a :: b :: q) 2).length ≤ 1073741824 := by
        match q with
        | [] => simp [wordAt]
        | c :: r => exact hb c (by simp)
      have c2 := con_o (iOpOk_con (m := m) (opOfKind (opKind a) b (wordAt (a :: b :: q) 2)) (by unfold opOfKind; split <;> exact hb b (by simp)) (by unfold opOfKind; split <;> simp [hb2]) (by unfold opOfKind; split <;> simp [hb2]))
      have hx : opOfWords (a :: b :: q) = if opOk (opOfKind (opKind a) b (wordAt (a :: b :: q) 2)) then some (opOfKind (opKind a) b (wordAt (a :: b :: q) 2)) else none := by
        unfold opOfWords
        have e0 : wordAt (a :: b :: q) 0 = a := rfl
        have e1 : wordAt (a :: b :: q) 1 = b := rfl
        rw [e0, e1]
        by_cases hok : opOk (opOfKind (opKind a) b (wordAt (a :: b :: q) 2)) = true
        · rw [if_pos ⟨by simp, by simp; omega, hok⟩, if_pos hok]
        · rw [if_neg (fun h => hok h.2.2), if_neg hok]
      rw [hx]
      refine con_of_cd tyOkO mixO Tryz.func118 rfl rfl rfl (Nat.le_of_ble_eq_true rfl) ?_
      repeat' first | refine Ra ⟨?_⟩ | ((first | refine bt (by rw [hlen]; omega) ?_ | refine bf (by rw [hlen]; omega) ?_ | refine ⟨1, _, rfl, rfl, rfl, ?_⟩ | (refine bd (fun h => ?_) (fun h => ?_) <;> (try simp only [List.length_map] at h)) | refine bsplit.mk (fun h => ?_) (fun h => ?_)) <;> conv => whnf) | refine Rb ⟨?_⟩ | fail
      refine Cd.loop2 (fun mq tm S nx => ∃ (k : Nat) (c : Int), mq = (6 - k) ∧ tm = [(0, .sl ((a :: b :: q).map fun l => [.s l])), (2, .bp 0 0), (4, .bp 1 0), (5, .k .i64 c)] ∧ S = [(0, .box 27 op0.c), (1, .box 27 [.k .i64 (kindTo a (k - 1)), .s b, .s [], .s []])] ∧ nx = 2 ∧ (c = (k : Nat)) ∧ (1 ≤ k) ∧ (k ≤ 6)) ?_ ?_
      · refine la [0, 2, 4, 5] ?_
        conv => whnf
        refine ⟨rfl, rfl, _, 1, 1, rfl, rfl, rfl, rfl, rfl, by omega, by omega⟩
      · rintro mq tm S nx ⟨k, c, hn, rfl, rfl, rfl, hc, hk1, hk2⟩
        subst hc
        by_cases hk : k ≤ 5
        · obtain ⟨j, rfl⟩ : ∃ j, k = j + 1 := ⟨k - 1, by omega⟩
          have hkt : kindTo a (j + 1) = if opWord ((j + 1 : Nat) : Int) = a then ((j + 1 : Nat) : Int) else kindTo a j := rfl
          repeat' first | refine Ra ⟨?_⟩ | ((first | refine ⟨j + 1, _, rfl, by omega, ow (j + 1) (by omega), ?_⟩ | (refine bd (fun h => ?_) (fun h => ?_) <;> (try simp only [List.length_map] at h)) | refine bsplit.mk (fun h => ?_) (fun h => ?_)) <;> conv => whnf) | refine Rb ⟨?_⟩ | fail
          · rw [if_pos ‹_›] at hkt
            refine .here ⟨mq - 1, by omega, ?_⟩
            refine la [0, 2, 4, 5] ?_
            conv => whnf
            refine ⟨rfl, rfl, j + 2, _, (by omega), rfl, ?_, rfl, rfl, by omega, by omega⟩
            have e : j + 2 - 1 = j + 1 := by omega
            rw [e, hkt]
            rfl
          · rw [if_neg ‹_›] at hkt
            refine .here ⟨mq - 1, by omega, ?_⟩
            refine la [0, 2, 4, 5] ?_
            conv => whnf
            refine ⟨rfl, rfl, j + 2, _, (by omega), rfl, ?_, rfl, rfl, by omega, by omega⟩
            have e : j + 2 - 1 = j + 1 := by omega
            rw [e, hkt]
            rfl
        · obtain rfl : k = 6 := by omega
          have hk5 : kindTo a (6 - 1) = opKind a := kindTo_5 a
          simp only [hk5]
          have hkd := opKind_le a
          cases hok : opOk (opOfKind (opKind a) b (wordAt (a :: b :: q) 2))
          all_goals
            rw [hok] at c2
            by_cases h5 : opKind a = 5
            all_goals
              simp only [opOfKind, h5, if_true, if_false] at c2
              simp only [opOfKind, h5, if_true, if_false, Bool.false_eq_true]
              repeat' first | refine Ra ⟨?_⟩ | ((first | refine Rc [] 0 rfl rfl (c1) ?_ | refine Rc [] 0 rfl rfl (c2) ?_ | (refine bd (fun h => ?_) (fun h => ?_) <;> (try simp only [List.length_map] at h)) | refine bsplit.mk (fun h => ?_) (fun h => ?_)) <;> conv => whnf) | refine Rb ⟨?_⟩ | fail
              first | refine CallEnd.here (fa ?_) | refine fa ?_
              conv => whnf
              first | exact ⟨rfl, rfl, rfl, rfl⟩ | refine ⟨rfl, rfl, congrArg some (congrArg D.s ?_), rfl⟩ | refine ⟨rfl, rfl, congrArg some (congrArg D.b ?_), rfl⟩ | refine ⟨rfl, rfl, congrArg some (congrArg (D.k _) ?_), rfl⟩ | refine ⟨rfl, rfl, congrArg some (congrArg D.agg ?_), rfl⟩ | refine ⟨rfl, rfl, rfl, ?_⟩
              all_goals first | rfl | (simp_all [opD]; done) | (simp [opD] <;> (repeat' split) <;> omega) | (simp only [opD]; repeat' split) <;> first | omega | (simp_all; done) | (simp_all; omega) | (rw [Bool.eq_iff_iff]; simp [*, opD] <;> omega)
  · have hx : opOfWords w = none := by
      unfold opOfWords
      rw [if_neg fun h => hw ⟨h.1, h.2.1⟩]
    rw [hx]
    refine con_of_cd tyOkO mixO Tryz.func118 rfl rfl rfl (Nat.le_of_ble_eq_true rfl) ?_
    repeat' first | refine Ra ⟨?_⟩ | ((first | (refine bd (fun h => ?_) (fun h => ?_) <;> (try simp only [List.length_map] at h)) | refine bsplit.mk (fun h => ?_) (fun h => ?_)) <;> conv => whnf) | refine Rb ⟨?_⟩ | fail
    all_goals
      exact Rf
theorem iOpRead_con (s : Bs) (hs : s.length ≤ 1073741823) : Con (Eo m) 54 0 [.s s] [] (opD (opRead s)) [] := by
  have c1 := con_o (split_con (m := m) s 32 (by omega))
  have hlen := cut_len 32 s
  have hpc := cut_piece 32 s
  have c2 := iOpOfWords_con (m := m) (cut 32 s) (by omega) (fun a ha => by have := hpc a ha; omega)
  cases ho : opOfWords (cut 32 s) with
  | none =>
    have hx : opRead s = none := by simp [opRead, ho]
    rw [hx]
    rw [ho] at c2
    refine con_of_cd tyOkO mixO Tryz.func54 rfl rfl rfl (Nat.le_of_ble_eq_true rfl) ?_
    repeat' first | refine Ra ⟨?_⟩ | ((first | refine Rc [] 1 rfl rfl (c1) ?_ | refine Rc [] 0 rfl rfl (c2) ?_ | (refine bd (fun h => ?_) (fun h => ?_) <;> (try simp only [List.length_map] at h)) | refine bsplit.mk (fun h => ?_) (fun h => ?_)) <;> conv => whnf) | refine Rb ⟨?_⟩ | fail
    exact Rf
  | some o =>
    have hx : opRead s = if opText o = s then some o else none := by simp [opRead, ho]
    rw [hx]
    rw [ho] at c2
    have hl := opOk_len (opOfWords_some ho).2.2.1
    have c3 := iOpText_con (m := m) o.kind o.path o.to o.data (by omega) (by omega) (by omega)
    by_cases ht : opText o = s
    all_goals
      simp only [ht, if_true, if_false]
      refine con_of_cd tyOkO mixO Tryz.func54 rfl rfl rfl (Nat.le_of_ble_eq_true rfl) ?_
      repeat' first | refine Ra ⟨?_⟩ | ((first | refine Rc [] 1 rfl rfl (c1) ?_ | refine Rc [] 0 rfl rfl (c2) ?_ | refine Rc [] 0 rfl rfl (c3) ?_ | (refine bd (fun h => ?_) (fun h => ?_) <;> (try simp only [List.length_map] at h)) | refine bsplit.mk (fun h => ?_) (fun h => ?_)) <;> conv => whnf) | refine Rb ⟨?_⟩ | fail
      exact Rf
theorem lOp_shp {d : D} (h : ShpV Tryz.prog 24 d) : ∃ o : Opn, d = .agg o.c ∧ o.path.length ≤ 9223372036854775807 ∧ o.to.length ≤ 9223372036854775807 ∧ o.data.length ≤ 9223372036854775807 := by
  obtain ⟨ds, rfl, h1⟩ := h.struct Tryz.underlying24
  have h2 : ShpF Tryz.prog [3, 9, 9, 9] ds := h1
  obtain ⟨a, _, rfl, ha, b, _, rfl, hb, c, _, rfl, hc, d, _, rfl, hd, rfl⟩ := h2
  obtain ⟨x, rfl, _⟩ := ha.int_inv Tryz.underlying3
  obtain ⟨p, rfl, hp⟩ := hb.str_inv Tryz.underlying9
  obtain ⟨q, rfl, hq⟩ := hc.str_inv Tryz.underlying9
  obtain ⟨r, rfl, hr⟩ := hd.str_inv Tryz.underlying9
  exact ⟨⟨x, p, q, r⟩, rfl, hp, hq, hr⟩
theorem toOp_con (o : Opn) : Con (E m) 25 0 [.agg o.c] [] (.agg o.c) [] := by
  refine con_of_cd tyOk mix Tryz.func25 rfl rfl rfl (Nat.le_of_ble_eq_true rfl) ?_
  repeat' first | refine Ra ⟨?_⟩ | ((first | (refine bd (fun h => ?_) (fun h => ?_) <;> (try simp only [List.length_map] at h)) | refine bsplit.mk (fun h => ?_) (fun h => ?_)) <;> conv => whnf) | refine Rb ⟨?_⟩ | fail
  first | refine CallEnd.here (fa ?_) | refine fa ?_
  conv => whnf
  first | exact ⟨rfl, rfl, rfl, rfl⟩ | refine ⟨rfl, rfl, congrArg some (congrArg D.s ?_), rfl⟩ | refine ⟨rfl, rfl, congrArg some (congrArg D.b ?_), rfl⟩ | refine ⟨rfl, rfl, congrArg some (congrArg (D.k _) ?_), rfl⟩ | refine ⟨rfl, rfl, congrArg some (congrArg D.agg ?_), rfl⟩ | refine ⟨rfl, rfl, rfl, ?_⟩
  all_goals first | rfl | (simp_all [Opn.c]; done) | (simp [Opn.c] <;> (repeat' split) <;> omega) | (simp only [Opn.c]; repeat' split) <;> first | omega | (simp_all; done) | (simp_all; omega) | (rw [Bool.eq_iff_iff]; simp [*, Opn.c] <;> omega)
theorem szOp_con (o : Opn) (n : Int) (hn : 0 ≤ n ∧ n ≤ 1048576) (hp : o.path.length ≤ 9223372036854775807) (ht : o.to.length ≤ 9223372036854775807) (hd : o.data.length ≤ 9223372036854775807) :
    Con (E m) 22 0 [.agg o.c, .k .i64 n] [] (.k .i64 (less3 n o.path.length o.to.length o.data.length)) [] := by
  refine con_of_cd tyOk mix Tryz.func22 rfl rfl rfl (Nat.le_of_ble_eq_true rfl) ?_
  repeat' first | refine Ra ⟨?_⟩ | ((first | (refine bd (fun h => ?_) (fun h => ?_) <;> (try simp only [List.length_map] at h)) | refine bsplit.mk (fun h => ?_) (fun h => ?_)) <;> conv => whnf) | refine Rb ⟨?_⟩ | fail
  all_goals
    first | refine CallEnd.here (fa ?_) | refine fa ?_
    conv => whnf
    first | exact ⟨rfl, rfl, rfl, rfl⟩ | refine ⟨rfl, rfl, congrArg some (congrArg D.s ?_), rfl⟩ | refine ⟨rfl, rfl, congrArg some (congrArg D.b ?_), rfl⟩ | refine ⟨rfl, rfl, congrArg some (congrArg (D.k _) ?_), rfl⟩ | refine ⟨rfl, rfl, congrArg some (congrArg D.agg ?_), rfl⟩ | refine ⟨rfl, rfl, rfl, ?_⟩
    all_goals first | rfl | (simp_all [less3]; done) | (simp [less3] <;> (repeat' split) <;> omega) | (simp only [less3]; repeat' split) <;> first | omega | (simp_all; done) | (simp_all; omega) | (rw [Bool.eq_iff_iff]; simp [*, less3] <;> omega)
theorem eqOp_con (a b : Opn) : Con (E m) 27 0 [.agg a.c, .agg b.c] [] (.b (eqO a b)) [] := by
  refine con_of_cd tyOk mix Tryz.func27 rfl rfl rfl (Nat.le_of_ble_eq_true rfl) ?_
  repeat' first | refine Ra ⟨?_⟩ | ((first | (refine bd (fun h => ?_) (fun h => ?_) <;> (try simp only [List.length_map] at h)) | refine bsplit.mk (fun h => ?_) (fun h => ?_)) <;> conv => whnf) | refine Rb ⟨?_⟩ | fail
  all_goals
    first | refine CallEnd.here (fa ?_) | refine fa ?_
    conv => whnf
    first | exact ⟨rfl, rfl, rfl, rfl⟩ | refine ⟨rfl, rfl, congrArg some (congrArg D.s ?_), rfl⟩ | refine ⟨rfl, rfl, congrArg some (congrArg D.b ?_), rfl⟩ | refine ⟨rfl, rfl, congrArg some (congrArg (D.k _) ?_), rfl⟩ | refine ⟨rfl, rfl, congrArg some (congrArg D.agg ?_), rfl⟩ | refine ⟨rfl, rfl, rfl, ?_⟩
    all_goals first | rfl | (simp_all [eqO]; done) | (simp [eqO] <;> (repeat' split) <;> omega) | (simp only [eqO]; repeat' split) <;> first | omega | (simp_all; done) | (simp_all; omega) | (rw [Bool.eq_iff_iff]; simp [*, eqO] <;> omega)
end Go.Proofs.YtoaiplobfellaaaGreatDoor
