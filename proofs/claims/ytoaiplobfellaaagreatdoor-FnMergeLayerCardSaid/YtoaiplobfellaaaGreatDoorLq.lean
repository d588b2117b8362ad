/- Contracts: texts of trees and layers, read. -/
import Derived.Test.YtoaiplobfellaaaGreatDoorLo
import Derived.Test.YtoaiplobfellaaaGreatDoorLi
import Derived.Test.YtoaiplobfellaaaGreatDoorX3
set_option linter.unusedSimpArgs false
set_option linter.unusedVariables false
set_option maxHeartbeats 1000000
set_option maxRecDepth 10000
namespace Go.Proofs.YtoaiplobfellaaaGreatDoor
open Go Go.RowKit Go.Ab Go.Par
variable {m : Int}
abbrev strs (w : List Bs) : List (List D) := w.map fun l => [.s l]
theorem liteIndex_con (s : Bs) (c : UInt8) : Con (E m) 246 0 [.s s, .s [c]] [] (.k .i64 (Lib.indexByte s c)) [] := by
  refine con_still ⟨_, Tryz.func246, rfl, rfl⟩ fun w vs Av hM => ?_
  match vs, hM.len, hM with
  | [u0, u1], _, hM =>
    obtain rfl := (hM.arg 0 _ u0 rfl rfl).s_inv
    obtain rfl := (hM.arg 1 _ u1 rfl rfl).s_inv
    exact (Tryz.stringslite_Index_one ⟨s.toArray⟩ c w).mono fun e w' ⟨he, hw⟩ => ⟨hw, _, he, .gr (.atom (.im (.k _ _)))⟩
theorem cutHit_con (a r : Bs) (c : UInt8) (h : c ∉ a) (hl : a.length + r.length ≤ 1073741824) : Con (E m) 182 0 [.s (a ++ c :: r), .s [c]] [] (.tup [.s a, .s r, .b true]) [] := by
  have c1 := liteIndex_con (m := m) (a ++ c :: r) c
  rw [index_at h] at c1
  have e1 : ((a ++ c :: r).take a.length).drop 0 = a := by simp
  have e2 : ((a ++ c :: r).take (a ++ c :: r).length).drop (a.length + 1) = r := by rw [List.take_length]; simp
  have hlen : (a ++ c :: r).length = a.length + r.length + 1 := by simp; omega
  have c2 : Con (E m) 216 0 [.s (a ++ c :: r), .s [c]] [] (.tup [.s (((a ++ c :: r).take a.length).drop 0), .s (((a ++ c :: r).take (a ++ c :: r).length).drop (a.length + 1)), .b true]) [] := by
    refine con_of_cd tyOk mix Tryz.func216 rfl rfl rfl (Nat.le_of_ble_eq_true rfl) ?_
    repeat' first | refine Ra ⟨?_⟩ | ((first | refine Rc [] 0 rfl rfl (c1) ?_ | refine ⟨a.length, rfl, Nat.zero_le _, by omega, ?_⟩ | refine ⟨a.length + 1, by simp, by omega, Nat.le_refl _, ?_⟩ | (refine bd (fun h => ?_) (fun h => ?_) <;> (try simp only [List.length_map] at h)) | refine bsplit.mk (fun h => ?_) (fun h => ?_)) <;> conv => whnf) | refine Rb ⟨?_⟩ | fail
    exact Rf
  rw [e1, e2] at c2
  refine con_of_cd tyOk mix Tryz.func182 rfl rfl rfl (Nat.le_of_ble_eq_true rfl) ?_
  repeat' first | refine Ra ⟨?_⟩ | ((first | refine Rc [] 0 rfl rfl (c2) ?_ | (refine bd (fun h => ?_) (fun h => ?_) <;> (try simp only [List.length_map] at h)) | refine bsplit.mk (fun h => ?_) (fun h => ?_)) <;> conv => whnf) | refine Rb ⟨?_⟩ | fail
  exact Rf
theorem cutMiss_con (s : Bs) (c : UInt8) (h : c ∉ s) : Con (E m) 182 0 [.s s, .s [c]] [] (.tup [.s s, .s [], .b false]) [] := by
  have c1 := liteIndex_con (m := m) s c
  rw [index_none h] at c1
  have c2 : Con (E m) 216 0 [.s s, .s [c]] [] (.tup [.s s, .s [], .b false]) [] := by
    refine con_of_cd tyOk mix Tryz.func216 rfl rfl rfl (Nat.le_of_ble_eq_true rfl) ?_
    repeat' first | refine Ra ⟨?_⟩ | ((first | refine Rc [] 0 rfl rfl (c1) ?_ | (refine bd (fun h => ?_) (fun h => ?_) <;> (try simp only [List.length_map] at h)) | refine bsplit.mk (fun h => ?_) (fun h => ?_)) <;> conv => whnf) | refine Rb ⟨?_⟩ | fail
    exact Rf
  refine con_of_cd tyOk mix Tryz.func182 rfl rfl rfl (Nat.le_of_ble_eq_true rfl) ?_
  repeat' first | refine Ra ⟨?_⟩ | ((first | refine Rc [] 0 rfl rfl (c2) ?_ | (refine bd (fun h => ?_) (fun h => ?_) <;> (try simp only [List.length_map] at h)) | refine bsplit.mk (fun h => ?_) (fun h => ?_)) <;> conv => whnf) | refine Rb ⟨?_⟩ | fail
  exact Rf
abbrev rowsW (W : List (List Bs)) : List (List D) := W.map fun w => [.sl (strs w)]
theorem joinE_ne {a b : Bs} {q : List Bs} : join 10 (a :: b :: q) = a ++ 10 :: join 10 (b :: q) := rfl
theorem iLines_con (s : Bs) (most : Nat) (hs : s.length ≤ 1048576) (hm : most ≤ 1000) : Con (E m) 116 0 [.s s, .k .i64 most] [] (.tup [.own 0, .b (tl most (cut 10 s) []).isSome]) [(0, .own 52 (rowsW ((tl most (cut 10 s) []).getD [])))] := by
  have hj := join_cut 10 s
  refine con_of_cd tyOk mix Tryz.func116 rfl rfl rfl (Nat.le_of_ble_eq_true rfl) ?_
  repeat' first | refine Ra ⟨?_⟩ | ((first | (refine bd (fun h => ?_) (fun h => ?_) <;> (try simp only [List.length_map] at h)) | refine bsplit.mk (fun h => ?_) (fun h => ?_)) <;> conv => whnf) | refine Rb ⟨?_⟩ | fail
  refine Cd.loop2 (fun mq tm S nx => ∃ (ps : List Bs) (done : List (List Bs)), mq = (ps.length) ∧ tm = [(0, .s (join 10 ps)), (1, .k .i64 most), (6, .own 0)] ∧ S = [(0, .own 52 (rowsW done))] ∧ nx = 1 ∧ (ps ≠ []) ∧ (∀ a ∈ ps, 10 ∉ a) ∧ ((join 10 ps).length ≤ 1048576) ∧ (done.length ≤ most) ∧ (tl most (cut 10 s) [] = tl most ps done)) ?_ ?_
  · rw [← hj]
    refine la [0, 1, 6] ?_
    conv => whnf
    refine ⟨rfl, rfl, _, cut 10 s, [], rfl, rfl, rfl, rfl, cut_ne 10 s, cut_free 10 s, (by rw [hj]; omega), Nat.zero_le _, by rw [hj]⟩
  · rintro mq tm S nx ⟨ps, done, hn, rfl, rfl, rfl, hne, hfree, hjl, hdl, ha⟩
    have hml : (rowsW done).length = done.length := List.length_map ..
    rw [ha]
    match ps, hn, ha, hne, hfree, hjl with
    | [a], hn, ha, _, hfree, hjl =>
      have hja : join 10 [a] = a := rfl
      rw [hja] at hjl ⊢
      by_cases h0 : a = []
      · subst h0
        have hx : tl most [[]] done = some done := by simp [tl]
        rw [hx]
        repeat' first | refine Ra ⟨?_⟩ | ((first | (refine bd (fun h => ?_) (fun h => ?_) <;> (try simp only [List.length_map] at h)) | refine bsplit.mk (fun h => ?_) (fun h => ?_)) <;> conv => whnf) | refine Rb ⟨?_⟩ | fail
        exact Rf
      · have hx : tl most [a] done = none := by simp [tl, h0]
        rw [hx]
        have c1 := cutMiss_con (m := m) a 10 (hfree a (by simp))
        have c2 := split_con (m := m) a 32 (by omega)
        repeat' first | refine Ra ⟨?_⟩ | ((first | refine Rc [] 0 rfl rfl (c1) ?_ | refine Rc [] 1 rfl rfl (c2) ?_ | (refine bd (fun h => ?_) (fun h => ?_) <;> (try simp only [List.length_map] at h)) | refine bsplit.mk (fun h => ?_) (fun h => ?_)) <;> conv => whnf) | refine Rb ⟨?_⟩ | fail
        exact Rf
    | a :: b :: q, hn, ha, _, hfree, hjl =>
      have e1 : (b :: q).length = q.length + 1 := rfl
      have e2 : (a :: b :: q).length = q.length + 2 := rfl
      have hja : join 10 (a :: b :: q) = a ++ 10 :: join 10 (b :: q) := rfl
      rw [hja] at hjl ⊢
      have hl2 : a.length + (join 10 (b :: q)).length + 1 ≤ 1048576 := by simp at hjl; omega
      have hnn : a ++ 10 :: join 10 (b :: q) ≠ [] := by simp
      have c1 := cutHit_con (m := m) a (join 10 (b :: q)) 10 (hfree a (by simp)) (by omega)
      have c2 := split_con (m := m) a 32 (by omega)
      have hcl := cut_len 32 a
      have hmw : (strs (cut 32 a)).length = (cut 32 a).length := List.length_map ..
      by_cases hc : done.length = most ∨ (cut 32 a).length < 2 ∨ 3 < (cut 32 a).length
      · have hx : tl most (a :: b :: q) done = none := by rw [tl, if_pos hc]
        rw [hx]
        by_cases k1 : done.length = most
        · repeat' first | refine Ra ⟨?_⟩ | ((first | refine Rc [] 0 rfl rfl (c1) ?_ | refine Rc [] 1 rfl rfl (c2) ?_ | refine bt (by omega) ?_ | (refine bd (fun h => ?_) (fun h => ?_) <;> (try simp only [List.length_map] at h)) | refine bsplit.mk (fun h => ?_) (fun h => ?_)) <;> conv => whnf) | refine Rb ⟨?_⟩ | fail
          exact Rf
        · by_cases k2 : (cut 32 a).length < 2
          · repeat' first | refine Ra ⟨?_⟩ | ((first | refine Rc [] 0 rfl rfl (c1) ?_ | refine Rc [] 1 rfl rfl (c2) ?_ | refine bf (by omega : ¬ ((rowsW done).length : Int) = (most : Int)) ?_ | refine bt (by omega) ?_ | (refine bd (fun h => ?_) (fun h => ?_) <;> (try simp only [List.length_map] at h)) | refine bsplit.mk (fun h => ?_) (fun h => ?_)) <;> conv => whnf) | refine Rb ⟨?_⟩ | fail
            exact Rf
          · repeat' first | refine Ra ⟨?_⟩ | ((first | refine Rc [] 0 rfl rfl (c1) ?_ | refine Rc [] 1 rfl rfl (c2) ?_ | refine bf (by omega : ¬ ((rowsW done).length : Int) = (most : Int)) ?_ | refine bf (by omega : ¬ ((strs (cut 32 a)).length : Int) < 2) ?_ | refine bt (by omega) ?_ | (refine bd (fun h => ?_) (fun h => ?_) <;> (try simp only [List.length_map] at h)) | refine bsplit.mk (fun h => ?_) (fun h => ?_)) <;> conv => whnf) | refine Rb ⟨?_⟩ | fail
            exact Rf
      · have hx : tl most (a :: b :: q) done = tl most (b :: q) (done ++ [cut 32 a]) := by rw [tl, if_neg hc]
        rw [hx] at ha ⊢
        repeat' first | refine Ra ⟨?_⟩ | ((first | refine Rc [] 0 rfl rfl (c1) ?_ | refine Rc [] 1 rfl rfl (c2) ?_ | refine bf (by omega : ¬ ((rowsW done).length : Int) = (most : Int)) ?_ | refine bf (by omega : ¬ ((strs (cut 32 a)).length : Int) < 2) ?_ | refine bf (by omega : ¬ ((strs (cut 32 a)).length : Int) > 3) ?_ | (refine bd (fun h => ?_) (fun h => ?_) <;> (try simp only [List.length_map] at h)) | refine bsplit.mk (fun h => ?_) (fun h => ?_)) <;> conv => whnf) | refine Rb ⟨?_⟩ | fail
        refine .here ⟨mq - 1, by omega, ?_⟩
        refine la [0, 1, 6] ?_
        conv => whnf
        refine ⟨rfl, rfl, b :: q, done ++ [cut 32 a], (by omega), rfl, ?_, rfl, by simp, fun x hx => hfree x (by simp [hx]), by omega, (by simp; omega), rfl⟩
        have e : rowsW (done ++ [cut 32 a]) = rowsW done ++ [[.sl (strs (cut 32 a))]] := by rw [rowsW, List.map_append]; rfl
        rw [e]
        rfl
theorem iTreeRead_con (s : Bs) (hs : s.length ≤ 1048576) : Con (E m) 53 0 [.s s] [] (.tup [.own 0, .b (treeReadI s).isSome]) [(0, .own 76 (((treeReadI s).getD []).map Ent.c))] := by
  have c1 := iLines_con (m := m) s 16 hs (by omega)
  cases hW : tl 16 (cut 10 s) [] with
  | none =>
    rw [hW] at c1
    have hx : treeReadI s = none := by simp [treeReadI, hW]
    rw [hx]
    refine con_of_cd tyOk mix Tryz.func53 rfl rfl rfl (Nat.le_of_ble_eq_true rfl) ?_
    repeat' first | refine Ra ⟨?_⟩ | ((first | refine Rc [] 1 rfl rfl (c1) ?_ | (refine bd (fun h => ?_) (fun h => ?_) <;> (try simp only [List.length_map] at h)) | refine bsplit.mk (fun h => ?_) (fun h => ?_)) <;> conv => whnf) | refine Rb ⟨?_⟩ | fail
    exact Rf
  | some W =>
    rw [hW] at c1
    have hx : treeReadI s = if treeText (W.map wordsE) = s then some (W.map wordsE) else none := by simp [treeReadI, hW]
    rw [hx]
    have hbn := tl_bnd hW hs
    have hWl := tl_len (done := []) (Nat.zero_le _) hW
    have hml : (rowsW W).length = W.length := List.length_map ..
    have c3 := iTreeText_con (m := m) (W.map wordsE) (by
      intro e he
      obtain ⟨w, hw, rfl⟩ := List.mem_map.1 he
      have h1 := wordAt_len (hbn w hw).2 1
      have h2 := wordAt_len (hbn w hw).2 2
      simp only [wordsE]
      omega)
    refine con_of_cd tyOk mix Tryz.func53 rfl rfl rfl (Nat.le_of_ble_eq_true rfl) ?_
    repeat' first | refine Ra ⟨?_⟩ | ((first | refine Rc [] 1 rfl rfl (c1) ?_ | (refine bd (fun h => ?_) (fun h => ?_) <;> (try simp only [List.length_map] at h)) | refine bsplit.mk (fun h => ?_) (fun h => ?_)) <;> conv => whnf) | refine Rb ⟨?_⟩ | fail
    refine Cd.loop2 (fun mq tm S nx => ∃ (i : Nat) (xs : List (List D)), mq = (W.length - i) ∧ tm = [(0, .s s), (6, .own 0), (16, .own 1), (17, .k .i64 (rowsW W).length), (18, .k .i64 i)] ∧ S = [(0, .own 76 xs), (1, .own 52 (rowsW W))] ∧ nx = 2 ∧ (i ≤ W.length) ∧ (xs = ((W.take i).map wordsE).map Ent.c)) ?_ ?_
    · refine la [0, 6, 16, 17, 18] ?_
      conv => whnf
      refine ⟨rfl, rfl, _, 0, [], rfl, rfl, rfl, rfl, Nat.zero_le _, rfl⟩
    · rintro mq tm S nx ⟨i, xs, hn, rfl, rfl, rfl, hi, hxs⟩
      have hxl : xs.length = i := by rw [hxs]; simp; omega
      rcases drop_or W i hi with ⟨hil, hd⟩ | ⟨w, r, hwi, hd, hr, hlt⟩
      · rw [List.take_of_length_le (by omega)] at hxs
        subst hxs
        by_cases h3 : treeText (W.map wordsE) = s
        · rw [if_pos h3]
          rw [h3] at c3
          repeat' first | refine Ra ⟨?_⟩ | ((first | refine bf (by omega) ?_ | refine ⟨[], _, _, _, _, 0, ⟨rfl, rfl, rfl, c3, rfl, rfl⟩, .inl ⟨by simp [NoImmD, NoImmG, NoImmA], by simp [NoImmS, NoImmB, NoImmA, Ent.c, Mrk.c, Opn.c], ?_⟩⟩ | (refine bd (fun h => ?_) (fun h => ?_) <;> (try simp only [List.length_map] at h)) | refine bsplit.mk (fun h => ?_) (fun h => ?_)) <;> conv => whnf) | refine Rb ⟨?_⟩ | fail
          exact Rf
        · rw [if_neg h3]
          repeat' first | refine Ra ⟨?_⟩ | ((first | refine bf (by omega) ?_ | refine ⟨[], _, _, _, _, 0, ⟨rfl, rfl, rfl, c3, rfl, rfl⟩, .inl ⟨by simp [NoImmD, NoImmG, NoImmA], by simp [NoImmS, NoImmB, NoImmA, Ent.c, Mrk.c, Opn.c], ?_⟩⟩ | (refine bd (fun h => ?_) (fun h => ?_) <;> (try simp only [List.length_map] at h)) | refine bsplit.mk (fun h => ?_) (fun h => ?_)) <;> conv => whnf) | refine Rb ⟨?_⟩ | fail
          exact Rf
      · have hb := hbn w (List.mem_of_getElem? hwi)
        have hg : (rowsW W)[i]? = some [.sl (strs w)] := by rw [List.getElem?_map, hwi]; rfl
        have c2 := iWordAt_con (m := m) w 2 (by omega) (by omega)
        have hmw : (strs w).length = w.length := List.length_map ..
        have g0 : (strs w)[0]? = some [.s (wordAt w 0)] := by
          unfold wordAt
          rw [List.getElem?_map, List.getD_eq_getElem?_getD, List.getElem?_eq_getElem (by omega)]
          rfl
        have g1 : (strs w)[1]? = some [.s (wordAt w 1)] := by
          unfold wordAt
          rw [List.getElem?_map, List.getD_eq_getElem?_getD, List.getElem?_eq_getElem (by omega)]
          rfl
        repeat' first | refine Ra ⟨?_⟩ | ((first | refine bt (by omega) ?_ | refine Rc [] 0 rfl rfl (c2) ?_ | refine ⟨i, rfl, by omega, ?_⟩ | refine ⟨_, hg, ?_⟩ | refine ⟨1, _, rfl, g1, rfl, ?_⟩ | refine ⟨0, _, rfl, g0, rfl, ?_⟩ | (refine bd (fun h => ?_) (fun h => ?_) <;> (try simp only [List.length_map] at h)) | refine bsplit.mk (fun h => ?_) (fun h => ?_)) <;> conv => whnf) | refine Rb ⟨?_⟩ | fail
        refine .here ⟨mq - 1, by omega, ?_⟩
        refine la [0, 6, 16, 17, 18] ?_
        conv => whnf
        refine ⟨rfl, rfl, i + 1, _, (by omega), rfl, rfl, rfl, by omega, (by rw [hxs, take_succ hwi, List.map_append, List.map_append]; rfl)⟩
end Go.Proofs.YtoaiplobfellaaaGreatDoor
