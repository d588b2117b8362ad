/- Contracts: two layers joined. -/
import Derived.Test.YtoaiplobfellaaaGreatDoorRMj
import Derived.Test.YtoaiplobfellaaaGreatDoorRPx
import Derived.Test.YtoaiplobfellaaaGreatDoorRMa
set_option linter.unusedSimpArgs false
set_option linter.unusedVariables false
set_option maxHeartbeats 1000000
set_option maxRecDepth 10000
namespace Go.Proofs.YtoaiplobfellaaaGreatDoor
open Go Go.RowKit Go.Ab Go.Par
variable {m : Int}
theorem joinB_mem {a b : List Mrk} {x : Mrk} (ha : layerOk a = true) (hb : layerOk b = true) (h : x ∈ joinB a b) : pathOk x.path = true ∧ x.path.length ≤ 12 ∧ x.data.length ≤ 6 := by
  unfold joinB at h
  rcases List.mem_append.1 h with h | h
  · have h1 := (List.mem_filter.1 h).1
    exact ⟨layer_paths hb x h1, layer_bnd hb x h1⟩
  · obtain ⟨y, hy, rfl⟩ := List.mem_map.1 h
    exact ⟨layer_paths ha y hy, layer_bnd ha y hy⟩
theorem joinB_len {a b : List Mrk} (ha : layerOk a = true) (hb : layerOk b = true) : (joinB a b).length ≤ 64 := by
  have h1 := layer_len ha
  have h2 := layer_len hb
  have h3 := List.length_filter_le (fun m : Mrk => keepP a m.path) b
  unfold joinB
  rw [List.length_append, List.length_map]
  omega
theorem map_step {α β : Type} {f : α → β} {t : List α} {i : Nat} {x : α} (h : t[i]? = some x) : (t.take (i + 1)).map f = (t.take i).map f ++ [f x] := by
  rw [List.take_add_one, h, List.map_append]
  rfl
theorem iJoinMarks_con (a b : List Mrk) (ha : layerOk a = true) (hb : layerOk b = true) : Con (E m) 207 0 [.sl (a.map Mrk.c), .sl (b.map Mrk.c)] [] (.own 0) [(0, .own 80 ((joinB a b).map Mrk.c))] := by
  have hal := layer_len ha
  have hbl := layer_len hb
  have hab := layer_bnd ha
  have hap := layer_paths ha
  have hbp := layer_paths hb
  have hbk : ∀ x ∈ b, x.kind ≠ 0 := fun x hx => by have := (markOk_parts ((layerOk_iff.1 hb).2.2 x hx).1).1; omega
  have e1 : (a.map Mrk.c).length = a.length := List.length_map ..
  have e2 : (b.map Mrk.c).length = b.length := List.length_map ..
  have hJ : joinB a b = (b.filter fun x => keepP a x.path) ++ a.map (onK b) := rfl
  have hFl := List.length_filter_le (fun x : Mrk => keepP a x.path) b
  rw [hJ]
  refine con_of_cd tyOk mix Tryz.func207 rfl rfl rfl (Nat.le_of_ble_eq_true rfl) ?_
  repeat' first | refine Ra ⟨?_⟩ | ((first | (refine bd (fun h => ?_) (fun h => ?_) <;> (try simp only [List.length_map] at h)) | refine bsplit.mk (fun h => ?_) (fun h => ?_)) <;> conv => whnf) | refine Rb ⟨?_⟩ | fail
  refine Cd.loop2 (fun mq tm S nx => ∃ (i : Nat) (A : List Mrk), mq = (b.length - i) ∧ tm = [(0, .sl (a.map Mrk.c)), (1, .sl (b.map Mrk.c)), (5, .own 0), (14, .sl (b.map Mrk.c)), (15, .k .i64 ((b.map Mrk.c).length : Int)), (16, .k .i64 i)] ∧ S = [(0, .own 80 (A.map Mrk.c))] ∧ nx = 1 ∧ (i ≤ b.length) ∧ (A = (b.take i).filter fun x => keepP a x.path) ∧ (A.length ≤ i)) ?_ ?_
  · refine la [0, 1, 5, 14, 15, 16] ?_
    conv => whnf
    refine ⟨rfl, rfl, _, 0, [], rfl, rfl, rfl, rfl, by omega, (by simp), by simp⟩
  · rintro mq tm S nx ⟨i, A, hn, rfl, rfl, rfl, hi, hA, hAl⟩
    have e3 : (A.map Mrk.c).length = A.length := List.length_map ..
    rcases drop_or b i hi with ⟨rfl, hd⟩ | ⟨x, r, hx', hd, hr, hlt⟩
    · rw [List.take_length] at hA
      rw [← hA]
      repeat' first | refine Ra ⟨?_⟩ | ((first | (refine bd (fun h => ?_) (fun h => ?_) <;> (try simp only [List.length_map] at h)) | refine bsplit.mk (fun h => ?_) (fun h => ?_)) <;> conv => whnf) | refine Rb ⟨?_⟩ | fail
      refine Cd.loop2 (fun mq tm S nx => ∃ (j : Nat) (B : List Mrk), mq = (a.length - j) ∧ tm = [(1, .sl (b.map Mrk.c)), (5, .own 0), (41, .sl (a.map Mrk.c)), (42, .k .i64 ((a.map Mrk.c).length : Int)), (43, .k .i64 j)] ∧ S = [(0, .own 80 (B.map Mrk.c))] ∧ nx = 1 ∧ (j ≤ a.length) ∧ (B = A ++ (a.take j).map (onK b)) ∧ (B.length ≤ 32 + j)) ?_ ?_
      · refine la [1, 5, 41, 42, 43] ?_
        conv => whnf
        refine ⟨rfl, rfl, _, 0, A, rfl, rfl, rfl, rfl, by omega, (by simp), by omega⟩
      · rintro mq tm S nx ⟨j, B, hn, rfl, rfl, rfl, hj, hB, hBl⟩
        have e4 : (B.map Mrk.c).length = B.length := List.length_map ..
        rcases drop_or a j hj with ⟨rfl, hd⟩ | ⟨y, s, hy', hd, hr, hlt⟩
        · rw [List.take_length] at hB
          rw [← hB]
          repeat' first | refine Ra ⟨?_⟩ | ((first | (refine bd (fun h => ?_) (fun h => ?_) <;> (try simp only [List.length_map] at h)) | refine bsplit.mk (fun h => ?_) (fun h => ?_)) <;> conv => whnf) | refine Rb ⟨?_⟩ | fail
          exact Rf
        · have g1 := map_step (f := onK b) hy'
          have c3 := iMarkAt_con (m := m) b y.path (by omega)
          have hst : ∀ k, onK b y = ⟨y.path, k, y.data⟩ → (B ++ [⟨y.path, k, y.data⟩] : List Mrk) = A ++ (a.take (j + 1)).map (onK b) := fun k hk => by rw [hB, g1, hk, List.append_assoc]
          cases hm : markAt b y.path with
          | none =>
            rw [hm] at c3
            have hs := hst y.kind (by simp [onK, bothK, kindAt, hm])
            by_cases hk : y.kind = 2
            all_goals
              repeat' first | refine Ra ⟨?_⟩ | ((first | refine Rc [] 0 rfl rfl (c3) ?_ | (refine bd (fun h => ?_) (fun h => ?_) <;> (try simp only [List.length_map] at h)) | refine bsplit.mk (fun h => ?_) (fun h => ?_)) <;> conv => whnf) | refine Rb ⟨?_⟩ | fail
              refine .here ⟨mq - 1, by omega, ?_⟩
              refine la [1, 5, 41, 42, 43] ?_
              conv => whnf
              refine ⟨rfl, rfl, j + 1, B ++ [⟨y.path, y.kind, y.data⟩], (by omega), rfl, ?_, rfl, by omega, hs, (by simp; omega)⟩
              rw [List.map_append]
              rfl
          | some z =>
            rw [hm] at c3
            have hz := hbk z (markAt_some hm).1
            by_cases hk : y.kind = 2
            · by_cases hk2 : z.kind = 2
              · have hs := hst y.kind (by simp [onK, bothK, kindAt, hm, hk2])
                repeat' first | refine Ra ⟨?_⟩ | ((first | refine Rc [] 0 rfl rfl (c3) ?_ | (refine bd (fun h => ?_) (fun h => ?_) <;> (try simp only [List.length_map] at h)) | refine bsplit.mk (fun h => ?_) (fun h => ?_)) <;> conv => whnf) | refine Rb ⟨?_⟩ | fail
                refine .here ⟨mq - 1, by omega, ?_⟩
                refine la [1, 5, 41, 42, 43] ?_
                conv => whnf
                refine ⟨rfl, rfl, j + 1, B ++ [⟨y.path, y.kind, y.data⟩], (by omega), rfl, ?_, rfl, by omega, hs, (by simp; omega)⟩
                rw [List.map_append]
                rfl
              · have hs := hst 4 (by simp [onK, bothK, kindAt, hm, hk2, hk, hz])
                repeat' first | refine Ra ⟨?_⟩ | ((first | refine Rc [] 0 rfl rfl (c3) ?_ | (refine bd (fun h => ?_) (fun h => ?_) <;> (try simp only [List.length_map] at h)) | refine bsplit.mk (fun h => ?_) (fun h => ?_)) <;> conv => whnf) | refine Rb ⟨?_⟩ | fail
                refine .here ⟨mq - 1, by omega, ?_⟩
                refine la [1, 5, 41, 42, 43] ?_
                conv => whnf
                refine ⟨rfl, rfl, j + 1, B ++ [⟨y.path, 4, y.data⟩], (by omega), rfl, ?_, rfl, by omega, hs, (by simp; omega)⟩
                rw [List.map_append]
                rfl
            · have hs := hst y.kind (by simp [onK, bothK, kindAt, hm, hk])
              repeat' first | refine Ra ⟨?_⟩ | ((first | refine Rc [] 0 rfl rfl (c3) ?_ | (refine bd (fun h => ?_) (fun h => ?_) <;> (try simp only [List.length_map] at h)) | refine bsplit.mk (fun h => ?_) (fun h => ?_)) <;> conv => whnf) | refine Rb ⟨?_⟩ | fail
              refine .here ⟨mq - 1, by omega, ?_⟩
              refine la [1, 5, 41, 42, 43] ?_
              conv => whnf
              refine ⟨rfl, rfl, j + 1, B ++ [⟨y.path, y.kind, y.data⟩], (by omega), rfl, ?_, rfl, by omega, hs, (by simp; omega)⟩
              rw [List.map_append]
              rfl
    · have g1 := filter_step (f := fun x : Mrk => keepP a x.path) hx'
      have hxp := hbp x (List.mem_of_getElem? hx')
      have hxl := (pathOk_pos hxp).2
      have c3 := iMarkAt_con (m := m) a x.path (by omega)
      have c4 := iHides_con (m := m) a x.path (by omega) (by omega) (fun y hy => by have := (hab y hy).1; omega)
      rw [hidesI_eq hap hxp] at c4
      cases hm : markAt a x.path with
      | some y =>
        rw [hm] at c3
        have kx : keepP a x.path = false := by simp [keepP, hm]
        simp only [kx, cond_false, List.append_nil] at g1
        repeat' first | refine Ra ⟨?_⟩ | ((first | refine Rc [] 0 rfl rfl (c3) ?_ | (refine bd (fun h => ?_) (fun h => ?_) <;> (try simp only [List.length_map] at h)) | refine bsplit.mk (fun h => ?_) (fun h => ?_)) <;> conv => whnf) | refine Rb ⟨?_⟩ | fail
        refine .here ⟨mq - 1, by omega, ?_⟩
        refine la [0, 1, 5, 14, 15, 16] ?_
        conv => whnf
        refine ⟨rfl, rfl, i + 1, A, (by omega), rfl, rfl, rfl, by omega, (by rw [hA, g1]), by omega⟩
      | none =>
        rw [hm] at c3
        cases hh : hides a x.path with
        | true =>
          rw [hh] at c4
          have kx : keepP a x.path = false := by simp [keepP, hm, hh]
          simp only [kx, cond_false, List.append_nil] at g1
          repeat' first | refine Ra ⟨?_⟩ | ((first | refine Rc [] 0 rfl rfl (c3) ?_ | refine Rc [] 0 rfl rfl (c4) ?_ | (refine bd (fun h => ?_) (fun h => ?_) <;> (try simp only [List.length_map] at h)) | refine bsplit.mk (fun h => ?_) (fun h => ?_)) <;> conv => whnf) | refine Rb ⟨?_⟩ | fail
          refine .here ⟨mq - 1, by omega, ?_⟩
          refine la [0, 1, 5, 14, 15, 16] ?_
          conv => whnf
          refine ⟨rfl, rfl, i + 1, A, (by omega), rfl, rfl, rfl, by omega, (by rw [hA, g1]), by omega⟩
        | false =>
          rw [hh] at c4
          have kx : keepP a x.path = true := by simp [keepP, hm, hh]
          simp only [kx, cond_true] at g1
          repeat' first | refine Ra ⟨?_⟩ | ((first | refine Rc [] 0 rfl rfl (c3) ?_ | refine Rc [] 0 rfl rfl (c4) ?_ | (refine bd (fun h => ?_) (fun h => ?_) <;> (try simp only [List.length_map] at h)) | refine bsplit.mk (fun h => ?_) (fun h => ?_)) <;> conv => whnf) | refine Rb ⟨?_⟩ | fail
          refine .here ⟨mq - 1, by omega, ?_⟩
          refine la [0, 1, 5, 14, 15, 16] ?_
          conv => whnf
          refine ⟨rfl, rfl, i + 1, A ++ [x], (by omega), rfl, ?_, rfl, by omega, (by rw [hA, g1]), (by simp; omega)⟩
          rw [List.map_append]
          rfl
def jnD : Option (List Mrk) → D
  | some t => .tup [.sl (t.map Mrk.c), .b true]
  | none => .tup [.sl [], .b false]
theorem joinI_len {a b : List Mrk} (ha : layerOk a = true) (hb : layerOk b = true) : (joinI a b).length = (joinL a b).length ∧ (joinI a b).length ≤ 64 := by
  have h1 := joinB_len ha hb
  have h2 := List.length_filterMap_le (tidyF (bare (joinB a b))) (joinB a b)
  exact ⟨(uniq_len' (pa := fun e : Mrk => e.path) (fun S g1 g2 => join_one (layer_srt ha) (layer_srt hb) g1 g2)).symm, Nat.le_trans h2 h1⟩
theorem iLayerJoin_con (a b : List Mrk) (ka : ∀ e ∈ a, e.path.length ≤ 1073741823 ∧ e.data.length ≤ 1073741823) (kb : ∀ e ∈ b, e.path.length ≤ 1073741823 ∧ e.data.length ≤ 1073741823) :
    Con (E m) 150 0 [.sl (a.map Mrk.c), .sl (b.map Mrk.c)] [] (jnD (layerJoin a b)) [] := by
  have c1 := iLayerOk_con (m := m) a ka
  have c2 := iLayerOk_con (m := m) b kb
  cases h1 : layerOk a with
  | false =>
    rw [h1] at c1
    have hx : layerJoin a b = none := by simp [layerJoin, h1]
    rw [hx]
    refine con_of_cd tyOk mix Tryz.func150 rfl rfl rfl (Nat.le_of_ble_eq_true rfl) ?_
    repeat' first | refine Ra ⟨?_⟩ | ((first | refine Rc [] 0 rfl rfl (c1) ?_ | (refine bd (fun h => ?_) (fun h => ?_) <;> (try simp only [List.length_map] at h)) | refine bsplit.mk (fun h => ?_) (fun h => ?_)) <;> conv => whnf) | refine Rb ⟨?_⟩ | fail
    first | refine CallEnd.here (fz ?_) | refine fz ?_
    conv => whnf
    first | exact ⟨rfl, rfl, rfl, rfl⟩ | refine ⟨rfl, rfl, congrArg some (congrArg D.s ?_), rfl⟩ | refine ⟨rfl, rfl, congrArg some (congrArg D.b ?_), rfl⟩ | refine ⟨rfl, rfl, congrArg some (congrArg (D.k _) ?_), rfl⟩ | refine ⟨rfl, rfl, congrArg some (congrArg D.agg ?_), rfl⟩ | refine ⟨rfl, rfl, rfl, ?_⟩
    all_goals first | rfl | (simp_all []; done) | (simp [] <;> (repeat' split) <;> omega) | (rw [Bool.eq_iff_iff]; simp [*] <;> omega)
  | true =>
    rw [h1] at c1
    cases h2 : layerOk b with
    | false =>
      rw [h2] at c2
      have hx : layerJoin a b = none := by simp [layerJoin, h2]
      rw [hx]
      refine con_of_cd tyOk mix Tryz.func150 rfl rfl rfl (Nat.le_of_ble_eq_true rfl) ?_
      repeat' first | refine Ra ⟨?_⟩ | ((first | refine Rc [] 0 rfl rfl (c1) ?_ | refine Rc [] 0 rfl rfl (c2) ?_ | (refine bd (fun h => ?_) (fun h => ?_) <;> (try simp only [List.length_map] at h)) | refine bsplit.mk (fun h => ?_) (fun h => ?_)) <;> conv => whnf) | refine Rb ⟨?_⟩ | fail
      first | refine CallEnd.here (fz ?_) | refine fz ?_
      conv => whnf
      first | exact ⟨rfl, rfl, rfl, rfl⟩ | refine ⟨rfl, rfl, congrArg some (congrArg D.s ?_), rfl⟩ | refine ⟨rfl, rfl, congrArg some (congrArg D.b ?_), rfl⟩ | refine ⟨rfl, rfl, congrArg some (congrArg (D.k _) ?_), rfl⟩ | refine ⟨rfl, rfl, congrArg some (congrArg D.agg ?_), rfl⟩ | refine ⟨rfl, rfl, rfl, ?_⟩
      all_goals first | rfl | (simp_all []; done) | (simp [] <;> (repeat' split) <;> omega) | (rw [Bool.eq_iff_iff]; simp [*] <;> omega)
    | true =>
      rw [h2] at c2
      have c3 := iJoinMarks_con (m := m) a b h1 h2
      obtain ⟨n1, n2⟩ := joinI_len h1 h2
      have hx : layerJoin a b = if (joinL a b).length ≤ 32 then some (joinL a b) else none := by simp [layerJoin, h1, h2]
      have c9 := sortMarks_con (m := m) (joinI a b) (joinL a b) (fun S g1 g2 => join_one (layer_srt h1) (layer_srt h2) g1 g2) (by omega)
      have hfin : joinI a b = (joinB a b).filterMap (tidyF (bare (joinB a b))) := rfl
      have hJm := fun x (h : x ∈ joinB a b) => joinB_mem h1 h2 h
      have hJl := joinB_len h1 h2
      rw [hx]
      generalize joinI a b = I at n1 n2 c9 hfin
      generalize joinL a b = L at n1 c9 ⊢
      generalize joinB a b = J at c3 hfin hJm hJl
      have e1 : (J.map Mrk.c).length = J.length := List.length_map ..
      refine con_of_cd tyOk mix Tryz.func150 rfl rfl rfl (Nat.le_of_ble_eq_true rfl) ?_
      repeat' first | refine Ra ⟨?_⟩ | ((first | refine Rc [] 0 rfl rfl (c1) ?_ | refine Rc [] 0 rfl rfl (c2) ?_ | refine Rc [] 1 rfl rfl (c3) ?_ | (refine bd (fun h => ?_) (fun h => ?_) <;> (try simp only [List.length_map] at h)) | refine bsplit.mk (fun h => ?_) (fun h => ?_)) <;> conv => whnf) | refine Rb ⟨?_⟩ | fail
      refine Cd.loop2 (fun mq tm S nx => ∃ (i : Nat) (A : List Mrk), mq = (J.length - i) ∧ tm = [(6, .sl (J.map Mrk.c)), (7, .own 0), (21, .sl (J.map Mrk.c)), (22, .k .i64 ((J.map Mrk.c).length : Int)), (23, .k .i64 i)] ∧ S = [(0, .own 80 (A.map Mrk.c))] ∧ nx = 1 ∧ (i ≤ J.length) ∧ (A = (J.take i).filterMap (tidyF (bare J))) ∧ (A.length ≤ i)) ?_ ?_
      · refine li [6] [6, 7, 21, 22, 23] ?_
        conv => whnf
        refine ⟨rfl, rfl, _, 0, [], rfl, rfl, rfl, rfl, by omega, (by simp), by simp⟩
      · rintro mq tm S nx ⟨i, A, hn, rfl, rfl, rfl, hi, hA, hAl⟩
        have e3 : (A.map Mrk.c).length = A.length := List.length_map ..
        rcases drop_or J i hi with ⟨rfl, hd⟩ | ⟨x, r, hx', hd, hr, hlt⟩
        · rw [List.take_length, ← hfin] at hA
          by_cases hn : A.length ≤ 32
          · rw [if_pos (by rw [← n1, ← hA]; exact hn)]
            rw [← hA] at c9
            repeat' first | refine Ra ⟨?_⟩ | ((first | refine Rc [0] 0 rfl rfl (c9) ?_ | (refine bd (fun h => ?_) (fun h => ?_) <;> (try simp only [List.length_map] at h)) | refine bsplit.mk (fun h => ?_) (fun h => ?_)) <;> conv => whnf) | refine Rb ⟨?_⟩ | fail
            first | refine CallEnd.here (fz ?_) | refine fz ?_
            conv => whnf
            first | exact ⟨rfl, rfl, rfl, rfl⟩ | refine ⟨rfl, rfl, congrArg some (congrArg D.s ?_), rfl⟩ | refine ⟨rfl, rfl, congrArg some (congrArg D.b ?_), rfl⟩ | refine ⟨rfl, rfl, congrArg some (congrArg (D.k _) ?_), rfl⟩ | refine ⟨rfl, rfl, congrArg some (congrArg D.agg ?_), rfl⟩ | refine ⟨rfl, rfl, rfl, ?_⟩
            all_goals first | rfl | (simp_all []; done) | (simp [] <;> (repeat' split) <;> omega) | (rw [Bool.eq_iff_iff]; simp [*] <;> omega)
          · rw [if_neg (by rw [← n1, ← hA]; exact hn)]
            repeat' first | refine Ra ⟨?_⟩ | ((first | (refine bd (fun h => ?_) (fun h => ?_) <;> (try simp only [List.length_map] at h)) | refine bsplit.mk (fun h => ?_) (fun h => ?_)) <;> conv => whnf) | refine Rb ⟨?_⟩ | fail
            first | refine CallEnd.here (fz ?_) | refine fz ?_
            conv => whnf
            first | exact ⟨rfl, rfl, rfl, rfl⟩ | refine ⟨rfl, rfl, congrArg some (congrArg D.s ?_), rfl⟩ | refine ⟨rfl, rfl, congrArg some (congrArg D.b ?_), rfl⟩ | refine ⟨rfl, rfl, congrArg some (congrArg (D.k _) ?_), rfl⟩ | refine ⟨rfl, rfl, congrArg some (congrArg D.agg ?_), rfl⟩ | refine ⟨rfl, rfl, rfl, ?_⟩
            all_goals first | rfl | (simp_all []; done) | (simp [] <;> (repeat' split) <;> omega) | (rw [Bool.eq_iff_iff]; simp [*] <;> omega)
        · have g1 := bind_step (f := tidyF (bare J)) hx'
          obtain ⟨hxp, hxl, _⟩ := hJm x (List.mem_of_getElem? hx')
          have c4 := iBare_con (m := m) J x.path (by omega) (by omega) (fun y hy => by have := (hJm y hy).2.1; omega)
          rw [bareI_eq (fun y hy => (hJm y hy).1) hxp] at c4
          cases hbr : bare J x.path with
          | false =>
            rw [hbr] at c4
            have kx : tidyF (bare J) x = some x := by simp [tidyF, hbr]
            rw [kx] at g1
            repeat' first | refine Ra ⟨?_⟩ | ((first | refine Rc [] 0 rfl rfl (c4) ?_ | (refine bd (fun h => ?_) (fun h => ?_) <;> (try simp only [List.length_map] at h)) | refine bsplit.mk (fun h => ?_) (fun h => ?_)) <;> conv => whnf) | refine Rb ⟨?_⟩ | fail
            refine .here ⟨mq - 1, by omega, ?_⟩
            refine la [6, 7, 21, 22, 23] ?_
            conv => whnf
            refine ⟨rfl, rfl, i + 1, A ++ [x], (by omega), rfl, ?_, rfl, by omega, (by rw [hA, g1]), (by simp; omega)⟩
            rw [List.map_append]
            rfl
          | true =>
            rw [hbr] at c4
            by_cases hk3 : x.kind = 3
            · have kx : tidyF (bare J) x = none := by simp [tidyF, hbr, hk3]
              rw [kx, List.append_nil] at g1
              repeat' first | refine Ra ⟨?_⟩ | ((first | refine Rc [] 0 rfl rfl (c4) ?_ | (refine bd (fun h => ?_) (fun h => ?_) <;> (try simp only [List.length_map] at h)) | refine bsplit.mk (fun h => ?_) (fun h => ?_)) <;> conv => whnf) | refine Rb ⟨?_⟩ | fail
              refine .here ⟨mq - 1, by omega, ?_⟩
              refine la [6, 7, 21, 22, 23] ?_
              conv => whnf
              refine ⟨rfl, rfl, i + 1, A, (by omega), rfl, rfl, rfl, by omega, (by rw [hA, g1]), by omega⟩
            · by_cases hk4 : x.kind = 4
              · have kx : tidyF (bare J) x = some ⟨x.path, 2, x.data⟩ := by simp [tidyF, hbr, hk4]
                rw [kx] at g1
                repeat' first | refine Ra ⟨?_⟩ | ((first | refine Rc [] 0 rfl rfl (c4) ?_ | (refine bd (fun h => ?_) (fun h => ?_) <;> (try simp only [List.length_map] at h)) | refine bsplit.mk (fun h => ?_) (fun h => ?_)) <;> conv => whnf) | refine Rb ⟨?_⟩ | fail
                refine .here ⟨mq - 1, by omega, ?_⟩
                refine la [6, 7, 21, 22, 23] ?_
                conv => whnf
                refine ⟨rfl, rfl, i + 1, A ++ [⟨x.path, 2, x.data⟩], (by omega), rfl, ?_, rfl, by omega, (by rw [hA, g1]), (by simp; omega)⟩
                rw [List.map_append]
                rfl
              · have kx : tidyF (bare J) x = some x := by simp [tidyF, hbr, hk3, hk4]
                rw [kx] at g1
                repeat' first | refine Ra ⟨?_⟩ | ((first | refine Rc [] 0 rfl rfl (c4) ?_ | (refine bd (fun h => ?_) (fun h => ?_) <;> (try simp only [List.length_map] at h)) | refine bsplit.mk (fun h => ?_) (fun h => ?_)) <;> conv => whnf) | refine Rb ⟨?_⟩ | fail
                refine .here ⟨mq - 1, by omega, ?_⟩
                refine la [6, 7, 21, 22, 23] ?_
                conv => whnf
                refine ⟨rfl, rfl, i + 1, A ++ [x], (by omega), rfl, ?_, rfl, by omega, (by rw [hA, g1]), (by simp; omega)⟩
                rw [List.map_append]
                rfl
end Go.Proofs.YtoaiplobfellaaaGreatDoor
set_option linter.unusedSimpArgs false
set_option linter.unusedVariables false
set_option maxHeartbeats 1000000
set_option maxRecDepth 10000
namespace Go.Proofs.YtoaiplobfellaaaGreatDoor
open Go Go.RowKit Go.Ab Go.Par
variable {m : Int}
theorem flat_cons (one l : List Mrk) (r : List (List Mrk)) : flatL one (l :: r) = match layerJoin l one with | some j => flatL j r | none => none := rfl
theorem join_bnd {a b j : List Mrk} (h : layerJoin a b = some j) : (∀ e ∈ j, e.path.length ≤ 1073741823 ∧ e.data.length ≤ 1073741823) ∧ j.length ≤ 32 := by
  unfold layerJoin at h
  split at h
  · rename_i hc
    cases h
    refine ⟨fun e he => ?_, hc.2.2⟩
    unfold joinL at he
    obtain ⟨y, hy, hye⟩ := List.mem_filterMap.1 he
    have h1 : e.path = y.path ∧ e.data = y.data := by
      unfold tidyF at hye
      repeat' split at hye
      all_goals first | cases hye
      all_goals exact ⟨rfl, rfl⟩
    have h2 : markAt (joinR a b) y.path = some y := markAt_self joinR_sorted hy
    rw [joinR_at (layer_srt hc.1) (layer_srt hc.2.1)] at h2
    rw [← joinB_at] at h2
    obtain ⟨g1, g2⟩ := markAt_some h2
    have := joinB_mem hc.1 hc.2.1 g1
    rw [h1.1, h1.2]
    omega
  · cases h
theorem iOverFlat_con (o : Ovr) (hb : BndV o) : Con (E m) 81 0 [.agg o.c] [] (.tup [.agg (overFlat o).1.c, .b (overFlat o).2]) [] := by
  have c1 := iOverOk_con (m := m) o hb
  have c2 := copyOver_con (m := m) o hb
  have e1 : (o.layers.map layC).length = o.layers.length := List.length_map ..
  unfold overOk at c1
  unfold overFlat
  cases h : overT o with
  | none =>
    rw [h] at c1
    refine con_of_cd tyOk mix Tryz.func81 rfl rfl rfl (Nat.le_of_ble_eq_true rfl) ?_
    repeat' first | refine Ra ⟨?_⟩ | ((first | refine Rc [] 0 rfl rfl (c1) ?_ | (refine bd (fun h => ?_) (fun h => ?_) <;> (try simp only [List.length_map] at h)) | refine bsplit.mk (fun h => ?_) (fun h => ?_)) <;> conv => whnf) | refine Rb ⟨?_⟩ | fail
    first | refine CallEnd.here (fz ?_) | refine fz ?_
    conv => whnf
    first | exact ⟨rfl, rfl, rfl, rfl⟩ | refine ⟨rfl, rfl, congrArg some (congrArg D.s ?_), rfl⟩ | refine ⟨rfl, rfl, congrArg some (congrArg D.b ?_), rfl⟩ | refine ⟨rfl, rfl, congrArg some (congrArg (D.k _) ?_), rfl⟩ | refine ⟨rfl, rfl, congrArg some (congrArg D.agg ?_), rfl⟩ | refine ⟨rfl, rfl, rfl, ?_⟩
    all_goals first | rfl | (simp_all []; done) | (simp [] <;> (repeat' split) <;> omega) | (rw [Bool.eq_iff_iff]; simp [*] <;> omega)
  | some x =>
    rw [h] at c1
    have hlL := (overT_ok (t := x.1) (v := x.2) h).2.1
    obtain ⟨base, layers, upper⟩ := o
    simp only at e1 hlL ⊢
    match layers, hlL, e1, hb, c1, c2 with
    | [], _, e1, hb, c1, c2 =>
      simp only [flatO]
      refine con_of_cd tyOk mix Tryz.func81 rfl rfl rfl (Nat.le_of_ble_eq_true rfl) ?_
      repeat' first | refine Ra ⟨?_⟩ | ((first | refine Rc [] 0 rfl rfl (c1) ?_ | refine Rc [] 0 rfl rfl (c2) ?_ | (refine bd (fun h => ?_) (fun h => ?_) <;> (try simp only [List.length_map] at h)) | refine bsplit.mk (fun h => ?_) (fun h => ?_)) <;> conv => whnf) | refine Rb ⟨?_⟩ | fail
      first | refine CallEnd.here (fz ?_) | refine fz ?_
      conv => whnf
      first | exact ⟨rfl, rfl, rfl, rfl⟩ | refine ⟨rfl, rfl, congrArg some (congrArg D.s ?_), rfl⟩ | refine ⟨rfl, rfl, congrArg some (congrArg D.b ?_), rfl⟩ | refine ⟨rfl, rfl, congrArg some (congrArg (D.k _) ?_), rfl⟩ | refine ⟨rfl, rfl, congrArg some (congrArg D.agg ?_), rfl⟩ | refine ⟨rfl, rfl, rfl, ?_⟩
      all_goals first | rfl | (simp_all []; done) | (simp [] <;> (repeat' split) <;> omega) | (rw [Bool.eq_iff_iff]; simp [*] <;> omega)
    | [l], _, e1, hb, c1, c2 =>
      simp only [flatO]
      refine con_of_cd tyOk mix Tryz.func81 rfl rfl rfl (Nat.le_of_ble_eq_true rfl) ?_
      repeat' first | refine Ra ⟨?_⟩ | ((first | refine Rc [] 0 rfl rfl (c1) ?_ | refine Rc [] 0 rfl rfl (c2) ?_ | (refine bd (fun h => ?_) (fun h => ?_) <;> (try simp only [List.length_map] at h)) | refine bsplit.mk (fun h => ?_) (fun h => ?_)) <;> conv => whnf) | refine Rb ⟨?_⟩ | fail
      first | refine CallEnd.here (fz ?_) | refine fz ?_
      conv => whnf
      first | exact ⟨rfl, rfl, rfl, rfl⟩ | refine ⟨rfl, rfl, congrArg some (congrArg D.s ?_), rfl⟩ | refine ⟨rfl, rfl, congrArg some (congrArg D.b ?_), rfl⟩ | refine ⟨rfl, rfl, congrArg some (congrArg (D.k _) ?_), rfl⟩ | refine ⟨rfl, rfl, congrArg some (congrArg D.agg ?_), rfl⟩ | refine ⟨rfl, rfl, rfl, ?_⟩
      all_goals first | rfl | (simp_all []; done) | (simp [] <;> (repeat' split) <;> omega) | (rw [Bool.eq_iff_iff]; simp [*] <;> omega)
    | l :: k :: r, hlL, e1, hb, c1, c2 =>
      have hbl := hb.lay l (by simp)
      have c3 := copyMarksF_con (m := m) l (by omega)
      have e2 : (l :: k :: r).length = r.length + 2 := rfl
      have hF : flatO (l :: k :: r) = flatL l (k :: r) := rfl
      rw [hF]
      refine con_of_cd tyOk mix Tryz.func81 rfl rfl rfl (Nat.le_of_ble_eq_true rfl) ?_
      have hraw : List.drop 1 (List.take ((l :: k :: r).map layC).length ((l :: k :: r).map layC)) = (k :: r).map layC := by rw [List.take_length]; rfl
      have e3 : (List.drop 1 (List.take ((l :: k :: r).map layC).length ((l :: k :: r).map layC))).length = r.length + 1 := by rw [hraw]; simp
      have e4 : (k :: r).length = r.length + 1 := rfl
      repeat' first | refine Ra ⟨?_⟩ | ((first | refine Rc [] 0 rfl rfl (c1) ?_ | refine Rc [] 0 rfl rfl (c2) ?_ | refine Rc [] 0 rfl rfl (c3) ?_ | (refine bd (fun h => ?_) (fun h => ?_) <;> (try simp only [List.length_map] at h)) | refine bsplit.mk (fun h => ?_) (fun h => ?_)) <;> conv => whnf) | refine Rb ⟨?_⟩ | fail
      refine Cd.loop2 (fun mq tm S nx => ∃ (i : Nat) (one : List Mrk), mq = ((k :: r).length - i) ∧ tm = [(2, .bp 0 0), (4, .bp 1 0), (5, .sl (one.map Mrk.c)), (28, .sl (List.drop 1 (List.take ((l :: k :: r).map layC).length ((l :: k :: r).map layC)))), (29, .k .i64 ((List.drop 1 (List.take ((l :: k :: r).map layC).length ((l :: k :: r).map layC))).length : Int)), (30, .k .i64 i)] ∧ S = [(0, .box 83 [.nil, .nil, .nil]), (1, .box 83 (⟨base, l :: k :: r, upper⟩ : Ovr).c)] ∧ nx = 2 ∧ (i ≤ (k :: r).length) ∧ (flatL l (k :: r) = flatL one ((k :: r).drop i)) ∧ ((∀ e ∈ one, e.path.length ≤ 1073741823 ∧ e.data.length ≤ 1073741823))) ?_ ?_
      · refine la [2, 4, 5, 28, 29, 30] ?_
        conv => whnf
        refine ⟨rfl, rfl, _, 0, l, rfl, rfl, rfl, rfl, by omega, rfl, hbl.1⟩
      · rintro mq tm S nx ⟨i, one, hn, rfl, rfl, rfl, hi, hS, hone⟩
        rcases drop_or (k :: r) i hi with ⟨rfl, hd⟩ | ⟨y, s, hy', hd, hr, hlt⟩
        · rw [hd] at hS
          rw [hS]
          simp only [flatL]
          repeat' first | refine Ra ⟨?_⟩ | ((first | (refine bd (fun h => ?_) (fun h => ?_) <;> (try simp only [List.length_map] at h)) | refine bsplit.mk (fun h => ?_) (fun h => ?_)) <;> conv => whnf) | refine Rb ⟨?_⟩ | fail
          first | refine CallEnd.here (fz ?_) | refine fz ?_
          conv => whnf
          first | exact ⟨rfl, rfl, rfl, rfl⟩ | refine ⟨rfl, rfl, congrArg some (congrArg D.s ?_), rfl⟩ | refine ⟨rfl, rfl, congrArg some (congrArg D.b ?_), rfl⟩ | refine ⟨rfl, rfl, congrArg some (congrArg (D.k _) ?_), rfl⟩ | refine ⟨rfl, rfl, congrArg some (congrArg D.agg ?_), rfl⟩ | refine ⟨rfl, rfl, rfl, ?_⟩
          all_goals first | rfl | (simp_all []; done) | (simp [] <;> (repeat' split) <;> omega) | (rw [Bool.eq_iff_iff]; simp [*] <;> omega)
        · rw [hd, flat_cons one y s] at hS
          have g1 : (List.drop 1 (List.take ((l :: k :: r).map layC).length ((l :: k :: r).map layC)))[i]? = some [.sl (y.map Mrk.c)] := by rw [hraw, List.getElem?_map, hy']; rfl
          have c4 := iLayerJoin_con (m := m) y one (hb.lay y (List.mem_cons_of_mem _ (List.mem_of_getElem? hy'))).1 hone
          cases hj : layerJoin y one with
          | none =>
            rw [hj] at c4 hS
            simp only at hS
            rw [hS]
            repeat' first | refine Ra ⟨?_⟩ | ((first | refine Rc [] 0 rfl rfl (c4) ?_ | refine ⟨(rfl : [D.sl (y.map Mrk.c)].length = _), ?_⟩ | (refine bd (fun h => ?_) (fun h => ?_) <;> (try simp only [List.length_map] at h)) | refine bsplit.mk (fun h => ?_) (fun h => ?_)) <;> conv => whnf) | refine Rb ⟨?_⟩ | fail
            first | refine CallEnd.here (fz ?_) | refine fz ?_
            conv => whnf
            first | exact ⟨rfl, rfl, rfl, rfl⟩ | refine ⟨rfl, rfl, congrArg some (congrArg D.s ?_), rfl⟩ | refine ⟨rfl, rfl, congrArg some (congrArg D.b ?_), rfl⟩ | refine ⟨rfl, rfl, congrArg some (congrArg (D.k _) ?_), rfl⟩ | refine ⟨rfl, rfl, congrArg some (congrArg D.agg ?_), rfl⟩ | refine ⟨rfl, rfl, rfl, ?_⟩
            all_goals first | rfl | (simp_all []; done) | (simp [] <;> (repeat' split) <;> omega) | (rw [Bool.eq_iff_iff]; simp [*] <;> omega)
          | some j =>
            rw [hj] at c4 hS
            simp only at hS
            have hjb := (join_bnd hj).1
            repeat' first | refine Ra ⟨?_⟩ | ((first | refine Rc [] 0 rfl rfl (c4) ?_ | refine ⟨(rfl : [D.sl (y.map Mrk.c)].length = _), ?_⟩ | (refine bd (fun h => ?_) (fun h => ?_) <;> (try simp only [List.length_map] at h)) | refine bsplit.mk (fun h => ?_) (fun h => ?_)) <;> conv => whnf) | refine Rb ⟨?_⟩ | fail
            refine .here ⟨mq - 1, by omega, ?_⟩
            refine la [2, 4, 5, 28, 29, 30] ?_
            conv => whnf
            refine ⟨rfl, rfl, i + 1, j, (by omega), rfl, rfl, rfl, by omega, (by rw [hS, hr]), hjb⟩
theorem sBoth_con (a b : Int) : Con (E m) 300 0 [.k .i64 a, .k .i64 b] [] (.k .i64 (bothK a b)) [] := by
  by_cases h1 : a = 2
  · by_cases h2 : b = 0
    · have hx : bothK a b = a := by simp [bothK, h2]
      rw [hx]
      refine con_of_cd tyOk mix Tryz.func300 rfl rfl rfl (Nat.le_of_ble_eq_true rfl) ?_
      repeat' first | refine Ra ⟨?_⟩ | ((first | (refine bd (fun h => ?_) (fun h => ?_) <;> (try simp only [List.length_map] at h)) | refine bsplit.mk (fun h => ?_) (fun h => ?_)) <;> conv => whnf) | refine Rb ⟨?_⟩ | fail
      exact Rf
    · by_cases h3 : b = 2
      · have hx : bothK a b = a := by simp [bothK, h3]
        rw [hx]
        refine con_of_cd tyOk mix Tryz.func300 rfl rfl rfl (Nat.le_of_ble_eq_true rfl) ?_
        repeat' first | refine Ra ⟨?_⟩ | ((first | (refine bd (fun h => ?_) (fun h => ?_) <;> (try simp only [List.length_map] at h)) | refine bsplit.mk (fun h => ?_) (fun h => ?_)) <;> conv => whnf) | refine Rb ⟨?_⟩ | fail
        exact Rf
      · have hx : bothK a b = 4 := by simp [bothK, h1, h2, h3]
        rw [hx]
        refine con_of_cd tyOk mix Tryz.func300 rfl rfl rfl (Nat.le_of_ble_eq_true rfl) ?_
        repeat' first | refine Ra ⟨?_⟩ | ((first | (refine bd (fun h => ?_) (fun h => ?_) <;> (try simp only [List.length_map] at h)) | refine bsplit.mk (fun h => ?_) (fun h => ?_)) <;> conv => whnf) | refine Rb ⟨?_⟩ | fail
        exact Rf
  · have hx : bothK a b = a := by simp [bothK, h1]
    rw [hx]
    refine con_of_cd tyOk mix Tryz.func300 rfl rfl rfl (Nat.le_of_ble_eq_true rfl) ?_
    repeat' first | refine Ra ⟨?_⟩ | ((first | (refine bd (fun h => ?_) (fun h => ?_) <;> (try simp only [List.length_map] at h)) | refine bsplit.mk (fun h => ?_) (fun h => ?_)) <;> conv => whnf) | refine Rb ⟨?_⟩ | fail
    exact Rf
theorem putAllM_step {t : List Mrk} {f : Mrk → Mrk} {a : List Mrk} {i : Nat} {x : Mrk} (h : a[i]? = some x) : putAllM t ((a.take (i + 1)).map f) = putM (putAllM t ((a.take i).map f)) (f x) := by rw [map_step h, putAllM_snoc]
theorem sJoin_con (a b : List Mrk) (ha : layerOk a = true) (hb : layerOk b = true) : Con (E m) 294 0 [.sl (a.map Mrk.c), .sl (b.map Mrk.c)] [] (.sl ((joinR a b).map Mrk.c)) [] := by
  have hal := layer_len ha
  have hbl := layer_len hb
  have hab := layer_bnd ha
  have hap := layer_paths ha
  have hbp := layer_paths hb
  have e1 : (a.map Mrk.c).length = a.length := List.length_map ..
  have e2 : (b.map Mrk.c).length = b.length := List.length_map ..
  have hJ : joinR a b = putAllM (putAllM [] (b.filter fun x => keepP a x.path)) (a.map (onK b)) := rfl
  rw [hJ]
  refine con_of_cd tyOk mix Tryz.func294 rfl rfl rfl (Nat.le_of_ble_eq_true rfl) ?_
  repeat' first | refine Ra ⟨?_⟩ | ((first | (refine bd (fun h => ?_) (fun h => ?_) <;> (try simp only [List.length_map] at h)) | refine bsplit.mk (fun h => ?_) (fun h => ?_)) <;> conv => whnf) | refine Rb ⟨?_⟩ | fail
  refine Cd.loop2 (fun mq tm S nx => ∃ (i : Nat) (A : List Mrk), mq = (b.length - i) ∧ tm = [(0, .sl (a.map Mrk.c)), (1, .sl (b.map Mrk.c)), (5, .sl (A.map Mrk.c)), (6, .k .i64 i)] ∧ S = [] ∧ nx = 0 ∧ (i ≤ b.length) ∧ (A = putAllM [] ((b.take i).filter fun x => keepP a x.path)) ∧ (A.length ≤ i)) ?_ ?_
  · refine li [5] [0, 1, 5, 6] ?_
    conv => whnf
    refine ⟨rfl, rfl, _, 0, [], rfl, rfl, rfl, rfl, by omega, (by simp [putAllM]), by simp⟩
  · rintro mq tm S nx ⟨i, A, hn, rfl, rfl, rfl, hi, hA, hAl⟩
    rcases drop_or b i hi with ⟨rfl, hd⟩ | ⟨x, r, hx', hd, hr, hlt⟩
    · rw [List.take_length] at hA
      rw [← hA]
      repeat' first | refine Ra ⟨?_⟩ | ((first | (refine bd (fun h => ?_) (fun h => ?_) <;> (try simp only [List.length_map] at h)) | refine bsplit.mk (fun h => ?_) (fun h => ?_)) <;> conv => whnf) | refine Rb ⟨?_⟩ | fail
      refine Cd.loop2 (fun mq tm S nx => ∃ (j : Nat) (B : List Mrk), mq = (a.length - j) ∧ tm = [(0, .sl (a.map Mrk.c)), (1, .sl (b.map Mrk.c)), (5, .sl (B.map Mrk.c)), (7, .k .i64 j)] ∧ S = [] ∧ nx = 0 ∧ (j ≤ a.length) ∧ (B = putAllM A ((a.take j).map (onK b))) ∧ (B.length ≤ 32 + j)) ?_ ?_
      · refine li [5] [0, 1, 5, 7] ?_
        conv => whnf
        refine ⟨rfl, rfl, _, 0, A, rfl, rfl, rfl, rfl, by omega, (by simp [putAllM]), by omega⟩
      · rintro mq tm S nx ⟨j, B, hn, rfl, rfl, rfl, hj, hB, hBl⟩
        rcases drop_or a j hj with ⟨rfl, hd⟩ | ⟨y, s, hy', hd, hr, hlt⟩
        · rw [List.take_length] at hB
          rw [← hB]
          repeat' first | refine Ra ⟨?_⟩ | ((first | (refine bd (fun h => ?_) (fun h => ?_) <;> (try simp only [List.length_map] at h)) | refine bsplit.mk (fun h => ?_) (fun h => ?_)) <;> conv => whnf) | refine Rb ⟨?_⟩ | fail
          exact Rf
        · have g1 := putAllM_step (t := A) (f := onK b) hy'
          rw [← hB] at g1
          have c3 := sl3Kind_con (m := m) b y.path (by omega)
          have c4 := sBoth_con (m := m) y.kind (kindAt b y.path)
          have c5 : Con (E m) 206 0 [.sl (B.map Mrk.c), .agg [.s y.path, .k .i64 (bothK y.kind (kindAt b y.path)), .s y.data]] [] (.own 0) [(0, .own 80 ((putM B (onK b y)).map Mrk.c))] := sPutM_con (m := m) B (onK b y) (by omega)
          have hl := (putM_len B (onK b y)).2
          generalize putM B (onK b y) = Z at c5 g1 hl
          generalize kindAt b y.path = kk at c3 c4 c5
          generalize bothK y.kind kk = qq at c4 c5
          repeat' first | refine Ra ⟨?_⟩ | ((first | refine Rc [] 0 rfl rfl (c3) ?_ | refine Rc [] 0 rfl rfl (c4) ?_ | refine Rc [] 1 rfl rfl (c5) ?_ | (refine bd (fun h => ?_) (fun h => ?_) <;> (try simp only [List.length_map] at h)) | refine bsplit.mk (fun h => ?_) (fun h => ?_)) <;> conv => whnf) | refine Rb ⟨?_⟩ | fail
          refine .here ⟨mq - 1, by omega, ?_⟩
          refine li [5] [0, 1, 5, 7] ?_
          conv => whnf
          refine ⟨rfl, rfl, j + 1, Z, (by omega), rfl, rfl, rfl, by omega, g1.symm, by omega⟩
    · have g1 := filter_step (f := fun x : Mrk => keepP a x.path) hx'
      have hxp := hbp x (List.mem_of_getElem? hx')
      have hxl := (pathOk_pos hxp).2
      have c3 := sHides_con (m := m) a x.path (by omega) (by omega) (fun y hy => by have := (hab y hy).1; omega)
      have c4 := sl3Kind_con (m := m) a x.path (by omega)
      have hkn := kindAt_ne ha (q := x.path)
      cases hh : hides a x.path with
      | true =>
        rw [hh] at c3
        have kx : keepP a x.path = false := by simp [keepP, hh]
        simp only [kx, cond_false, List.append_nil] at g1
        repeat' first | refine Ra ⟨?_⟩ | ((first | refine Rc [] 0 rfl rfl (c3) ?_ | (refine bd (fun h => ?_) (fun h => ?_) <;> (try simp only [List.length_map] at h)) | refine bsplit.mk (fun h => ?_) (fun h => ?_)) <;> conv => whnf) | refine Rb ⟨?_⟩ | fail
        refine .here ⟨mq - 1, by omega, ?_⟩
        refine la [0, 1, 5, 6] ?_
        conv => whnf
        refine ⟨rfl, rfl, i + 1, A, (by omega), rfl, rfl, rfl, by omega, (by rw [hA, g1]), by omega⟩
      | false =>
        rw [hh] at c3
        by_cases hk : kindAt a x.path = 0
        · have kx : keepP a x.path = true := by simp [keepP, hkn.1 hk, hh]
          simp only [kx, cond_true] at g1
          rw [hk] at c4
          have c5 := sPutM_con (m := m) A x (by omega)
          have hl := (putM_len A x).2
          repeat' first | refine Ra ⟨?_⟩ | ((first | refine Rc [] 0 rfl rfl (c3) ?_ | refine Rc [] 0 rfl rfl (c4) ?_ | refine Rc [] 1 rfl rfl (c5) ?_ | (refine bd (fun h => ?_) (fun h => ?_) <;> (try simp only [List.length_map] at h)) | refine bsplit.mk (fun h => ?_) (fun h => ?_)) <;> conv => whnf) | refine Rb ⟨?_⟩ | fail
          refine .here ⟨mq - 1, by omega, ?_⟩
          refine li [5] [0, 1, 5, 6] ?_
          conv => whnf
          refine ⟨rfl, rfl, i + 1, putM A x, (by omega), rfl, rfl, rfl, by omega, (by rw [g1, putAllM_snoc, ← hA]), by omega⟩
        · have kx : keepP a x.path = false := by
            cases hm : markAt a x.path with
            | none => exact absurd (hkn.2 hm) hk
            | some z => simp [keepP, hm]
          simp only [kx, cond_false, List.append_nil] at g1
          generalize kindAt a x.path = kk at c4 hk
          repeat' first | refine Ra ⟨?_⟩ | ((first | refine Rc [] 0 rfl rfl (c3) ?_ | refine Rc [] 0 rfl rfl (c4) ?_ | (refine bd (fun h => ?_) (fun h => ?_) <;> (try simp only [List.length_map] at h)) | refine bsplit.mk (fun h => ?_) (fun h => ?_)) <;> conv => whnf) | refine Rb ⟨?_⟩ | fail
          refine .here ⟨mq - 1, by omega, ?_⟩
          refine la [0, 1, 5, 6] ?_
          conv => whnf
          refine ⟨rfl, rfl, i + 1, A, (by omega), rfl, rfl, rfl, by omega, (by rw [hA, g1]), by omega⟩
theorem sTidy_con (J : List Mrk) (hs : sorted (pathsM J)) (hok : ∀ x ∈ J, pathOk x.path = true) (hl : J.length ≤ 1000) : Con (E m) 293 0 [.sl (J.map Mrk.c)] [] (.sl ((J.filterMap (tidyF (bare J))).map Mrk.c)) [] := by
  have e1 : (J.map Mrk.c).length = J.length := List.length_map ..
  have hta := fun i x h => tidy_ahead hs hok (i := i) (x := x) h
  have htp : ∀ i, ∀ y ∈ (J.take i).filterMap (tidyF (bare J)), y.path.length ≤ 1073741823 := fun i y hy => by
    obtain ⟨z, hz, hzy⟩ := List.mem_filterMap.1 hy
    rw [tidyF_path z y hzy]
    have := (pathOk_pos (hok z (List.mem_of_mem_take hz))).2
    omega
  refine con_of_cd tyOk mix Tryz.func293 rfl rfl rfl (Nat.le_of_ble_eq_true rfl) ?_
  repeat' first | refine Ra ⟨?_⟩ | ((first | (refine bd (fun h => ?_) (fun h => ?_) <;> (try simp only [List.length_map] at h)) | refine bsplit.mk (fun h => ?_) (fun h => ?_)) <;> conv => whnf) | refine Rb ⟨?_⟩ | fail
  refine Cd.loop2 (fun mq tm S nx => ∃ (i : Nat) (A : List Mrk), mq = (J.length - i) ∧ tm = [(0, .sl (J.map Mrk.c)), (3, .own 0), (4, .k .i64 i)] ∧ S = [(0, .own 80 (A.map Mrk.c))] ∧ nx = 1 ∧ (i ≤ J.length) ∧ (A = (J.take i).filterMap (tidyF (bare J))) ∧ (A.length ≤ i)) ?_ ?_
  · refine la [0, 3, 4] ?_
    conv => whnf
    refine ⟨rfl, rfl, _, 0, [], rfl, rfl, rfl, rfl, by omega, (by simp), by simp⟩
  · rintro mq tm S nx ⟨i, A, hn, rfl, rfl, rfl, hi, hA, hAl⟩
    have e3 : (A.map Mrk.c).length = A.length := List.length_map ..
    rcases drop_or J i hi with ⟨rfl, hd⟩ | ⟨x, r, hx', hd, hr, hlt⟩
    · rw [List.take_length] at hA
      rw [← hA]
      repeat' first | refine Ra ⟨?_⟩ | ((first | (refine bd (fun h => ?_) (fun h => ?_) <;> (try simp only [List.length_map] at h)) | refine bsplit.mk (fun h => ?_) (fun h => ?_)) <;> conv => whnf) | refine Rb ⟨?_⟩ | fail
      first | refine CallEnd.here (fz ?_) | refine fz ?_
      conv => whnf
      first | exact ⟨rfl, rfl, rfl, rfl⟩ | refine ⟨rfl, rfl, congrArg some (congrArg D.s ?_), rfl⟩ | refine ⟨rfl, rfl, congrArg some (congrArg D.b ?_), rfl⟩ | refine ⟨rfl, rfl, congrArg some (congrArg (D.k _) ?_), rfl⟩ | refine ⟨rfl, rfl, congrArg some (congrArg D.agg ?_), rfl⟩ | refine ⟨rfl, rfl, rfl, ?_⟩
      all_goals first | rfl | (simp_all []; done) | (simp [] <;> (repeat' split) <;> omega) | (rw [Bool.eq_iff_iff]; simp [*] <;> omega)
    · have g1 := bind_step (f := tidyF (bare J)) hx'
      have hxp := hok x (List.mem_of_getElem? hx')
      have hxl := (pathOk_pos hxp).2
      have hbr0 := hta i x hx'
      have htp' := htp i
      rw [← hA] at hbr0 htp'
      have c4 := sl3Bare_con (m := m) A x.path (by omega) (by omega) htp'
      rw [hbr0] at c4
      cases hbr : bare J x.path with
      | false =>
        rw [hbr] at c4
        have kx : tidyF (bare J) x = some x := by simp [tidyF, hbr]
        rw [kx] at g1
        repeat' first | refine Ra ⟨?_⟩ | ((first | refine ⟨[], _, _, _, _, 0, ⟨rfl, rfl, rfl, c4, rfl, rfl⟩, .inl ⟨by simp [NoImmD, NoImmG, NoImmA], by simp [NoImmS, NoImmB, NoImmA, Ent.c, Mrk.c, Opn.c], ?_⟩⟩ | (refine bd (fun h => ?_) (fun h => ?_) <;> (try simp only [List.length_map] at h)) | refine bsplit.mk (fun h => ?_) (fun h => ?_)) <;> conv => whnf) | refine Rb ⟨?_⟩ | fail
        refine .here ⟨mq - 1, by omega, ?_⟩
        refine la [0, 3, 4] ?_
        conv => whnf
        refine ⟨rfl, rfl, i + 1, A ++ [x], (by omega), rfl, ?_, rfl, by omega, (by rw [hA, g1]), (by simp; omega)⟩
        rw [List.map_append]
        rfl
      | true =>
        rw [hbr] at c4
        by_cases hk3 : x.kind = 3
        · have kx : tidyF (bare J) x = none := by simp [tidyF, hbr, hk3]
          rw [kx, List.append_nil] at g1
          repeat' first | refine Ra ⟨?_⟩ | ((first | refine ⟨[], _, _, _, _, 0, ⟨rfl, rfl, rfl, c4, rfl, rfl⟩, .inl ⟨by simp [NoImmD, NoImmG, NoImmA], by simp [NoImmS, NoImmB, NoImmA, Ent.c, Mrk.c, Opn.c], ?_⟩⟩ | (refine bd (fun h => ?_) (fun h => ?_) <;> (try simp only [List.length_map] at h)) | refine bsplit.mk (fun h => ?_) (fun h => ?_)) <;> conv => whnf) | refine Rb ⟨?_⟩ | fail
          refine .here ⟨mq - 1, by omega, ?_⟩
          refine la [0, 3, 4] ?_
          conv => whnf
          refine ⟨rfl, rfl, i + 1, A, (by omega), rfl, rfl, rfl, by omega, (by rw [hA, g1]), by omega⟩
        · by_cases hk4 : x.kind = 4
          · have kx : tidyF (bare J) x = some ⟨x.path, 2, x.data⟩ := by simp [tidyF, hbr, hk4]
            rw [kx] at g1
            repeat' first | refine Ra ⟨?_⟩ | ((first | refine ⟨[], _, _, _, _, 0, ⟨rfl, rfl, rfl, c4, rfl, rfl⟩, .inl ⟨by simp [NoImmD, NoImmG, NoImmA], by simp [NoImmS, NoImmB, NoImmA, Ent.c, Mrk.c, Opn.c], ?_⟩⟩ | (refine bd (fun h => ?_) (fun h => ?_) <;> (try simp only [List.length_map] at h)) | refine bsplit.mk (fun h => ?_) (fun h => ?_)) <;> conv => whnf) | refine Rb ⟨?_⟩ | fail
            refine .here ⟨mq - 1, by omega, ?_⟩
            refine la [0, 3, 4] ?_
            conv => whnf
            refine ⟨rfl, rfl, i + 1, A ++ [⟨x.path, 2, x.data⟩], (by omega), rfl, ?_, rfl, by omega, (by rw [hA, g1]), (by simp; omega)⟩
            rw [List.map_append]
            rfl
          · have kx : tidyF (bare J) x = some x := by simp [tidyF, hbr, hk3, hk4]
            rw [kx] at g1
            repeat' first | refine Ra ⟨?_⟩ | ((first | refine ⟨[], _, _, _, _, 0, ⟨rfl, rfl, rfl, c4, rfl, rfl⟩, .inl ⟨by simp [NoImmD, NoImmG, NoImmA], by simp [NoImmS, NoImmB, NoImmA, Ent.c, Mrk.c, Opn.c], ?_⟩⟩ | (refine bd (fun h => ?_) (fun h => ?_) <;> (try simp only [List.length_map] at h)) | refine bsplit.mk (fun h => ?_) (fun h => ?_)) <;> conv => whnf) | refine Rb ⟨?_⟩ | fail
            refine .here ⟨mq - 1, by omega, ?_⟩
            refine la [0, 3, 4] ?_
            conv => whnf
            refine ⟨rfl, rfl, i + 1, A ++ [x], (by omega), rfl, ?_, rfl, by omega, (by rw [hA, g1]), (by simp; omega)⟩
            rw [List.map_append]
            rfl
theorem joinR_mem {a b : List Mrk} (ha : layerOk a = true) (hb : layerOk b = true) {x : Mrk} (h : x ∈ joinR a b) : pathOk x.path = true := by
  have h2 : markAt (joinR a b) x.path = some x := markAt_self joinR_sorted h
  rw [joinR_at (layer_srt ha) (layer_srt hb), ← joinB_at] at h2
  exact (joinB_mem ha hb (markAt_some h2).1).1
theorem joinR_len {a b : List Mrk} (ha : layerOk a = true) (hb : layerOk b = true) : (joinR a b).length ≤ 64 := by
  have h1 := layer_len ha
  have h2 := layer_len hb
  have h3 := List.length_filter_le (fun m : Mrk => keepP a m.path) b
  have h4 := putAllM_len (b.filter fun m => keepP a m.path) []
  have h5 := putAllM_len (a.map (onK b)) (putAllM [] (b.filter fun m => keepP a m.path))
  have h6 : (a.map (onK b)).length = a.length := List.length_map ..
  have h7 : ([] : List Mrk).length = 0 := rfl
  unfold joinR
  omega
theorem sLayerJoin_con (a b : List Mrk) (hal : a.length ≤ 1073741824) (hbl : b.length ≤ 1073741824) (ka : ∀ e ∈ a, e.path.length ≤ 1073741823 ∧ e.data.length ≤ 1073741823) (kb : ∀ e ∈ b, e.path.length ≤ 1073741823 ∧ e.data.length ≤ 1073741823) :
    Con (E m) 270 0 [.sl (a.map Mrk.c), .sl (b.map Mrk.c)] [] (jnD (layerJoin a b)) [] := by
  have c1 := sLayerOk_con (m := m) a hal ka
  have c2 := sLayerOk_con (m := m) b hbl kb
  cases h1 : layerOk a with
  | false =>
    rw [h1] at c1
    have hx : layerJoin a b = none := by simp [layerJoin, h1]
    rw [hx]
    refine con_of_cd tyOk mix Tryz.func270 rfl rfl rfl (Nat.le_of_ble_eq_true rfl) ?_
    repeat' first | refine Ra ⟨?_⟩ | ((first | refine Rc [] 0 rfl rfl (c1) ?_ | (refine bd (fun h => ?_) (fun h => ?_) <;> (try simp only [List.length_map] at h)) | refine bsplit.mk (fun h => ?_) (fun h => ?_)) <;> conv => whnf) | refine Rb ⟨?_⟩ | fail
    first | refine CallEnd.here (fz ?_) | refine fz ?_
    conv => whnf
    first | exact ⟨rfl, rfl, rfl, rfl⟩ | refine ⟨rfl, rfl, congrArg some (congrArg D.s ?_), rfl⟩ | refine ⟨rfl, rfl, congrArg some (congrArg D.b ?_), rfl⟩ | refine ⟨rfl, rfl, congrArg some (congrArg (D.k _) ?_), rfl⟩ | refine ⟨rfl, rfl, congrArg some (congrArg D.agg ?_), rfl⟩ | refine ⟨rfl, rfl, rfl, ?_⟩
    all_goals first | rfl | (simp_all []; done) | (simp [] <;> (repeat' split) <;> omega) | (rw [Bool.eq_iff_iff]; simp [*] <;> omega)
  | true =>
    rw [h1] at c1
    cases h2 : layerOk b with
    | false =>
      rw [h2] at c2
      have hx : layerJoin a b = none := by simp [layerJoin, h2]
      rw [hx]
      refine con_of_cd tyOk mix Tryz.func270 rfl rfl rfl (Nat.le_of_ble_eq_true rfl) ?_
      repeat' first | refine Ra ⟨?_⟩ | ((first | refine Rc [] 0 rfl rfl (c1) ?_ | refine Rc [] 0 rfl rfl (c2) ?_ | (refine bd (fun h => ?_) (fun h => ?_) <;> (try simp only [List.length_map] at h)) | refine bsplit.mk (fun h => ?_) (fun h => ?_)) <;> conv => whnf) | refine Rb ⟨?_⟩ | fail
      first | refine CallEnd.here (fz ?_) | refine fz ?_
      conv => whnf
      first | exact ⟨rfl, rfl, rfl, rfl⟩ | refine ⟨rfl, rfl, congrArg some (congrArg D.s ?_), rfl⟩ | refine ⟨rfl, rfl, congrArg some (congrArg D.b ?_), rfl⟩ | refine ⟨rfl, rfl, congrArg some (congrArg (D.k _) ?_), rfl⟩ | refine ⟨rfl, rfl, congrArg some (congrArg D.agg ?_), rfl⟩ | refine ⟨rfl, rfl, rfl, ?_⟩
      all_goals first | rfl | (simp_all []; done) | (simp [] <;> (repeat' split) <;> omega) | (rw [Bool.eq_iff_iff]; simp [*] <;> omega)
    | true =>
      rw [h2] at c2
      have c3 := sJoin_con (m := m) a b h1 h2
      have hRl := joinR_len h1 h2
      have c4 := sTidy_con (m := m) (joinR a b) joinR_sorted (fun x hx => joinR_mem h1 h2 hx) (by omega)
      have hx : layerJoin a b = if (joinL a b).length ≤ 32 then some (joinL a b) else none := by simp [layerJoin, h1, h2]
      have hL : joinL a b = (joinR a b).filterMap (tidyF (bare (joinR a b))) := rfl
      have hLl : (joinL a b).length ≤ 64 := Nat.le_trans (List.length_filterMap_le _ _) hRl
      rw [← hL] at c4
      rw [hx]
      generalize joinL a b = L at c4 hLl ⊢
      generalize joinR a b = R at c3 c4
      have e1 : (L.map Mrk.c).length = L.length := List.length_map ..
      by_cases hn : L.length ≤ 32
      · rw [if_pos hn]
        refine con_of_cd tyOk mix Tryz.func270 rfl rfl rfl (Nat.le_of_ble_eq_true rfl) ?_
        repeat' first | refine Ra ⟨?_⟩ | ((first | refine Rc [] 0 rfl rfl (c1) ?_ | refine Rc [] 0 rfl rfl (c2) ?_ | refine Rc [] 0 rfl rfl (c3) ?_ | refine Rc [] 0 rfl rfl (c4) ?_ | (refine bd (fun h => ?_) (fun h => ?_) <;> (try simp only [List.length_map] at h)) | refine bsplit.mk (fun h => ?_) (fun h => ?_)) <;> conv => whnf) | refine Rb ⟨?_⟩ | fail
        first | refine CallEnd.here (fz ?_) | refine fz ?_
        conv => whnf
        first | exact ⟨rfl, rfl, rfl, rfl⟩ | refine ⟨rfl, rfl, congrArg some (congrArg D.s ?_), rfl⟩ | refine ⟨rfl, rfl, congrArg some (congrArg D.b ?_), rfl⟩ | refine ⟨rfl, rfl, congrArg some (congrArg (D.k _) ?_), rfl⟩ | refine ⟨rfl, rfl, congrArg some (congrArg D.agg ?_), rfl⟩ | refine ⟨rfl, rfl, rfl, ?_⟩
        all_goals first | rfl | (simp_all []; done) | (simp [] <;> (repeat' split) <;> omega) | (rw [Bool.eq_iff_iff]; simp [*] <;> omega)
      · rw [if_neg hn]
        refine con_of_cd tyOk mix Tryz.func270 rfl rfl rfl (Nat.le_of_ble_eq_true rfl) ?_
        repeat' first | refine Ra ⟨?_⟩ | ((first | refine Rc [] 0 rfl rfl (c1) ?_ | refine Rc [] 0 rfl rfl (c2) ?_ | refine Rc [] 0 rfl rfl (c3) ?_ | refine Rc [] 0 rfl rfl (c4) ?_ | (refine bd (fun h => ?_) (fun h => ?_) <;> (try simp only [List.length_map] at h)) | refine bsplit.mk (fun h => ?_) (fun h => ?_)) <;> conv => whnf) | refine Rb ⟨?_⟩ | fail
        first | refine CallEnd.here (fz ?_) | refine fz ?_
        conv => whnf
        first | exact ⟨rfl, rfl, rfl, rfl⟩ | refine ⟨rfl, rfl, congrArg some (congrArg D.s ?_), rfl⟩ | refine ⟨rfl, rfl, congrArg some (congrArg D.b ?_), rfl⟩ | refine ⟨rfl, rfl, congrArg some (congrArg (D.k _) ?_), rfl⟩ | refine ⟨rfl, rfl, congrArg some (congrArg D.agg ?_), rfl⟩ | refine ⟨rfl, rfl, rfl, ?_⟩
        all_goals first | rfl | (simp_all []; done) | (simp [] <;> (repeat' split) <;> omega) | (rw [Bool.eq_iff_iff]; simp [*] <;> omega)
end Go.Proofs.YtoaiplobfellaaaGreatDoor
set_option linter.unusedSimpArgs false
set_option linter.unusedVariables false
set_option maxHeartbeats 1000000
set_option maxRecDepth 10000
namespace Go.Proofs.YtoaiplobfellaaaGreatDoor
open Go Go.RowKit Go.Ab Go.Par
variable {m : Int}
theorem sCopyL_con (o : Ovr) (hb : BndV o) : Con (E m) 138 0 [.agg o.c] [] (.agg [.own 0, .own 1, .own 2]) [(0, .own 76 (o.base.map Ent.c)), (1, .own 73 (o.layers.map layC)), (2, .own 80 (o.upper.map Mrk.c))] := by
  have hbl := hb.bl
  have hll := hb.ll
  have hul := hb.ul
  have e1 : (o.layers.map layC).length = o.layers.length := List.length_map ..
  have e5 : (o.base.map Ent.c).length = o.base.length := List.length_map ..
  have e6 : (o.upper.map Mrk.c).length = o.upper.length := List.length_map ..
  refine con_of_cd tyOk mix Tryz.func138 rfl rfl rfl (Nat.le_of_ble_eq_true rfl) ?_
  repeat' first | refine Ra ⟨?_⟩ | ((first | (refine bd (fun h => ?_) (fun h => ?_) <;> (try simp only [List.length_map] at h)) | refine bsplit.mk (fun h => ?_) (fun h => ?_)) <;> conv => whnf) | refine Rb ⟨?_⟩ | fail
  refine Cd.loop2 (fun mq tm S nx => ∃ (i : Nat) (A : List (List Mrk)), mq = (o.layers.length - i) ∧ tm = [(1, .bp 0 0), (2, .bp 1 0), (3, .bp 2 0), (4, .k .i64 i)] ∧ S = [(0, .box 83 o.c), (1, .box 83 [.nil, .nil, .nil]), (2, .box 83 [.own 3, .own 4, .own 5]), (3, .own 76 (o.base.map Ent.c)), (4, .own 73 (A.map layC)), (5, .own 80 (o.upper.map Mrk.c))] ∧ nx = 6 ∧ (i ≤ o.layers.length) ∧ (A = o.layers.take i) ∧ (A.length ≤ i)) ?_ ?_
  · refine ⟨[.thawB 6 1 73], [1, 2, 3, 4], [0, 1, 6, 3, 7, 5], ?_⟩
    conv => whnf
    refine ⟨rfl, rfl, _, 0, [], rfl, rfl, rfl, rfl, by omega, by simp, by simp⟩
  · rintro mq tm S nx ⟨i, A, hn, rfl, rfl, rfl, hi, hA, hAl⟩
    have e2 : (A.map layC).length = A.length := List.length_map ..
    rcases drop_or o.layers i hi with ⟨rfl, hd⟩ | ⟨l, r, hl', hd, hr, hlt⟩
    · rw [List.take_length] at hA
      subst hA
      repeat' first | refine Ra ⟨?_⟩ | ((first | (refine bd (fun h => ?_) (fun h => ?_) <;> (try simp only [List.length_map] at h)) | refine bsplit.mk (fun h => ?_) (fun h => ?_)) <;> conv => whnf) | refine Rb ⟨?_⟩ | fail
      exact Rf
    · have g1 : o.layers.take (i + 1) = o.layers.take i ++ [l] := by rw [List.take_add_one, hl']; rfl
      have hbb := (hb.lay l (List.mem_of_getElem? hl')).2
      have e3 : (l.map Mrk.c).length = l.length := List.length_map ..
      have g2 : (o.layers.map layC)[i]? = some [.sl (l.map Mrk.c)] := by rw [List.getElem?_map, hl']; rfl
      repeat' first | refine Ra ⟨?_⟩ | ((first | (refine bd (fun h => ?_) (fun h => ?_) <;> (try simp only [List.length_map] at h)) | refine bsplit.mk (fun h => ?_) (fun h => ?_)) <;> conv => whnf) | refine Rb ⟨?_⟩ | fail
      refine .here ⟨mq - 1, by omega, ?_⟩
      refine la [1, 2, 3, 4] ?_
      conv => whnf
      refine ⟨rfl, rfl, i + 1, A ++ [l], (by omega), rfl, ?_, rfl, by omega, (by rw [hA, g1]), (by simp; omega)⟩
      rw [List.map_append]
      rfl
theorem sOverPush_con (o : Ovr) (hb : BndV o) : Con (E m) 231 0 [.agg o.c] [] (.tup [.agg (overPush o).1.c, .b (overPush o).2]) [] := by
  have c1 := sOverOk_con (m := m) o hb
  have c2 := sCopy_con (m := m) o hb
  have c3 := sCopyL_con (m := m) o hb
  have e1 : (o.layers.map layC).length = o.layers.length := List.length_map ..
  unfold overOk at c1
  unfold overPush
  cases h : overT o with
  | none =>
    rw [h] at c1
    refine con_of_cd tyOk mix Tryz.func231 rfl rfl rfl (Nat.le_of_ble_eq_true rfl) ?_
    repeat' first | refine Ra ⟨?_⟩ | ((first | refine Rc [] 0 rfl rfl (c1) ?_ | (refine bd (fun h => ?_) (fun h => ?_) <;> (try simp only [List.length_map] at h)) | refine bsplit.mk (fun h => ?_) (fun h => ?_)) <;> conv => whnf) | refine Rb ⟨?_⟩ | fail
    first | refine CallEnd.here (fz ?_) | refine fz ?_
    conv => whnf
    first | exact ⟨rfl, rfl, rfl, rfl⟩ | refine ⟨rfl, rfl, congrArg some (congrArg D.s ?_), rfl⟩ | refine ⟨rfl, rfl, congrArg some (congrArg D.b ?_), rfl⟩ | refine ⟨rfl, rfl, congrArg some (congrArg (D.k _) ?_), rfl⟩ | refine ⟨rfl, rfl, congrArg some (congrArg D.agg ?_), rfl⟩ | refine ⟨rfl, rfl, rfl, ?_⟩
    all_goals first | rfl | (simp_all []; done) | (simp [] <;> (repeat' split) <;> omega) | (rw [Bool.eq_iff_iff]; simp [*] <;> omega)
  | some x =>
    rw [h] at c1
    have hl := (overT_ok (t := x.1) (v := x.2) h).2.1
    simp only
    by_cases h4 : o.layers.length = 4
    · rw [if_pos h4]
      refine con_of_cd tyOk mix Tryz.func231 rfl rfl rfl (Nat.le_of_ble_eq_true rfl) ?_
      repeat' first | refine Ra ⟨?_⟩ | ((first | refine Rc [] 0 rfl rfl (c1) ?_ | refine Rc [] 0 rfl rfl (c2) ?_ | (refine bd (fun h => ?_) (fun h => ?_) <;> (try simp only [List.length_map] at h)) | refine bsplit.mk (fun h => ?_) (fun h => ?_)) <;> conv => whnf) | refine Rb ⟨?_⟩ | fail
      first | refine CallEnd.here (fz ?_) | refine fz ?_
      conv => whnf
      first | exact ⟨rfl, rfl, rfl, rfl⟩ | refine ⟨rfl, rfl, congrArg some (congrArg D.s ?_), rfl⟩ | refine ⟨rfl, rfl, congrArg some (congrArg D.b ?_), rfl⟩ | refine ⟨rfl, rfl, congrArg some (congrArg (D.k _) ?_), rfl⟩ | refine ⟨rfl, rfl, congrArg some (congrArg D.agg ?_), rfl⟩ | refine ⟨rfl, rfl, rfl, ?_⟩
      all_goals first | rfl | (simp_all []; done) | (simp [] <;> (repeat' split) <;> omega) | (rw [Bool.eq_iff_iff]; simp [*] <;> omega)
    · rw [if_neg h4]
      have g1 : (o.layers ++ [o.upper]).map layC = o.layers.map layC ++ [[.sl (o.upper.map Mrk.c)]] := by rw [List.map_append]; rfl
      unfold Ovr.c
      rw [g1]
      refine con_of_cd tyOk mix Tryz.func231 rfl rfl rfl (Nat.le_of_ble_eq_true rfl) ?_
      repeat' first | refine Ra ⟨?_⟩ | ((first | refine Rc [] 0 rfl rfl (c1) ?_ | refine Rc [] 3 rfl rfl (c3) ?_ | (refine bd (fun h => ?_) (fun h => ?_) <;> (try simp only [List.length_map] at h)) | refine bsplit.mk (fun h => ?_) (fun h => ?_)) <;> conv => whnf) | refine Rb ⟨?_⟩ | fail
      first | refine CallEnd.here (fz ?_) | refine fz ?_
      conv => whnf
      first | exact ⟨rfl, rfl, rfl, rfl⟩ | refine ⟨rfl, rfl, congrArg some (congrArg D.s ?_), rfl⟩ | refine ⟨rfl, rfl, congrArg some (congrArg D.b ?_), rfl⟩ | refine ⟨rfl, rfl, congrArg some (congrArg (D.k _) ?_), rfl⟩ | refine ⟨rfl, rfl, congrArg some (congrArg D.agg ?_), rfl⟩ | refine ⟨rfl, rfl, rfl, ?_⟩
      all_goals first | rfl | (simp_all []; done) | (simp [] <;> (repeat' split) <;> omega) | (rw [Bool.eq_iff_iff]; simp [*] <;> omega)
theorem sOverFlat_con (o : Ovr) (hb : BndV o) : Con (E m) 232 0 [.agg o.c] [] (.tup [.agg (overFlat o).1.c, .b (overFlat o).2]) [] := by
  have c1 := sOverOk_con (m := m) o hb
  have c2 := sCopy_con (m := m) o hb
  have e1 : (o.layers.map layC).length = o.layers.length := List.length_map ..
  unfold overOk at c1
  unfold overFlat
  cases h : overT o with
  | none =>
    rw [h] at c1
    refine con_of_cd tyOk mix Tryz.func232 rfl rfl rfl (Nat.le_of_ble_eq_true rfl) ?_
    repeat' first | refine Ra ⟨?_⟩ | ((first | refine Rc [] 0 rfl rfl (c1) ?_ | (refine bd (fun h => ?_) (fun h => ?_) <;> (try simp only [List.length_map] at h)) | refine bsplit.mk (fun h => ?_) (fun h => ?_)) <;> conv => whnf) | refine Rb ⟨?_⟩ | fail
    first | refine CallEnd.here (fz ?_) | refine fz ?_
    conv => whnf
    first | exact ⟨rfl, rfl, rfl, rfl⟩ | refine ⟨rfl, rfl, congrArg some (congrArg D.s ?_), rfl⟩ | refine ⟨rfl, rfl, congrArg some (congrArg D.b ?_), rfl⟩ | refine ⟨rfl, rfl, congrArg some (congrArg (D.k _) ?_), rfl⟩ | refine ⟨rfl, rfl, congrArg some (congrArg D.agg ?_), rfl⟩ | refine ⟨rfl, rfl, rfl, ?_⟩
    all_goals first | rfl | (simp_all []; done) | (simp [] <;> (repeat' split) <;> omega) | (rw [Bool.eq_iff_iff]; simp [*] <;> omega)
  | some x =>
    rw [h] at c1
    have hlL := (overT_ok (t := x.1) (v := x.2) h).2.1
    obtain ⟨base, layers, upper⟩ := o
    simp only at e1 hlL ⊢
    match layers, hlL, e1, hb, c1, c2 with
    | [], _, e1, hb, c1, c2 =>
      simp only [flatO]
      refine con_of_cd tyOk mix Tryz.func232 rfl rfl rfl (Nat.le_of_ble_eq_true rfl) ?_
      repeat' first | refine Ra ⟨?_⟩ | ((first | refine Rc [] 0 rfl rfl (c1) ?_ | refine Rc [] 0 rfl rfl (c2) ?_ | (refine bd (fun h => ?_) (fun h => ?_) <;> (try simp only [List.length_map] at h)) | refine bsplit.mk (fun h => ?_) (fun h => ?_)) <;> conv => whnf) | refine Rb ⟨?_⟩ | fail
      first | refine CallEnd.here (fz ?_) | refine fz ?_
      conv => whnf
      first | exact ⟨rfl, rfl, rfl, rfl⟩ | refine ⟨rfl, rfl, congrArg some (congrArg D.s ?_), rfl⟩ | refine ⟨rfl, rfl, congrArg some (congrArg D.b ?_), rfl⟩ | refine ⟨rfl, rfl, congrArg some (congrArg (D.k _) ?_), rfl⟩ | refine ⟨rfl, rfl, congrArg some (congrArg D.agg ?_), rfl⟩ | refine ⟨rfl, rfl, rfl, ?_⟩
      all_goals first | rfl | (simp_all []; done) | (simp [] <;> (repeat' split) <;> omega) | (rw [Bool.eq_iff_iff]; simp [*] <;> omega)
    | [l], _, e1, hb, c1, c2 =>
      simp only [flatO]
      refine con_of_cd tyOk mix Tryz.func232 rfl rfl rfl (Nat.le_of_ble_eq_true rfl) ?_
      repeat' first | refine Ra ⟨?_⟩ | ((first | refine Rc [] 0 rfl rfl (c1) ?_ | refine Rc [] 0 rfl rfl (c2) ?_ | (refine bd (fun h => ?_) (fun h => ?_) <;> (try simp only [List.length_map] at h)) | refine bsplit.mk (fun h => ?_) (fun h => ?_)) <;> conv => whnf) | refine Rb ⟨?_⟩ | fail
      first | refine CallEnd.here (fz ?_) | refine fz ?_
      conv => whnf
      first | exact ⟨rfl, rfl, rfl, rfl⟩ | refine ⟨rfl, rfl, congrArg some (congrArg D.s ?_), rfl⟩ | refine ⟨rfl, rfl, congrArg some (congrArg D.b ?_), rfl⟩ | refine ⟨rfl, rfl, congrArg some (congrArg (D.k _) ?_), rfl⟩ | refine ⟨rfl, rfl, congrArg some (congrArg D.agg ?_), rfl⟩ | refine ⟨rfl, rfl, rfl, ?_⟩
      all_goals first | rfl | (simp_all []; done) | (simp [] <;> (repeat' split) <;> omega) | (rw [Bool.eq_iff_iff]; simp [*] <;> omega)
    | l :: k :: r, hlL, e1, hb, c1, c2 =>
      have hbl := hb.lay l (by simp)
      have e2 : (l :: k :: r).length = r.length + 2 := rfl
      have hF : flatO (l :: k :: r) = flatL l (k :: r) := rfl
      rw [hF]
      have e4 : (k :: r).length = r.length + 1 := rfl
      refine con_of_cd tyOk mix Tryz.func232 rfl rfl rfl (Nat.le_of_ble_eq_true rfl) ?_
      repeat' first | refine Ra ⟨?_⟩ | ((first | refine Rc [] 0 rfl rfl (c1) ?_ | refine Rc [] 0 rfl rfl (c2) ?_ | (refine bd (fun h => ?_) (fun h => ?_) <;> (try simp only [List.length_map] at h)) | refine bsplit.mk (fun h => ?_) (fun h => ?_)) <;> conv => whnf) | refine Rb ⟨?_⟩ | fail
      refine Cd.loop2 (fun mq tm S nx => ∃ (i : Nat) (one : List Mrk), mq = ((k :: r).length - i) ∧ tm = [(2, .bp 0 0), (4, .bp 1 0), (5, .sl (one.map Mrk.c)), (6, .k .i64 ((i : Int) + 1))] ∧ S = [(0, .box 83 [.nil, .nil, .nil]), (1, .box 83 (⟨base, l :: k :: r, upper⟩ : Ovr).c)] ∧ nx = 2 ∧ (i ≤ (k :: r).length) ∧ (flatL l (k :: r) = flatL one ((k :: r).drop i)) ∧ ((∀ e ∈ one, e.path.length ≤ 1073741823 ∧ e.data.length ≤ 1073741823)) ∧ (one.length ≤ 1048576)) ?_ ?_
      · refine la [2, 4, 5, 6] ?_
        conv => whnf
        refine ⟨rfl, rfl, _, 0, l, rfl, rfl, rfl, rfl, by omega, rfl, hbl.1, hbl.2⟩
      · rintro mq tm S nx ⟨i, one, hn, rfl, rfl, rfl, hi, hS, hone, hol⟩
        rcases drop_or (k :: r) i hi with ⟨rfl, hd⟩ | ⟨y, s, hy', hd, hr, hlt⟩
        · rw [hd] at hS
          rw [hS]
          simp only [flatL]
          repeat' first | refine Ra ⟨?_⟩ | ((first | (refine bd (fun h => ?_) (fun h => ?_) <;> (try simp only [List.length_map] at h)) | refine bsplit.mk (fun h => ?_) (fun h => ?_)) <;> conv => whnf) | refine Rb ⟨?_⟩ | fail
          first | refine CallEnd.here (fz ?_) | refine fz ?_
          conv => whnf
          first | exact ⟨rfl, rfl, rfl, rfl⟩ | refine ⟨rfl, rfl, congrArg some (congrArg D.s ?_), rfl⟩ | refine ⟨rfl, rfl, congrArg some (congrArg D.b ?_), rfl⟩ | refine ⟨rfl, rfl, congrArg some (congrArg (D.k _) ?_), rfl⟩ | refine ⟨rfl, rfl, congrArg some (congrArg D.agg ?_), rfl⟩ | refine ⟨rfl, rfl, rfl, ?_⟩
          all_goals first | rfl | (simp_all []; done) | (simp [] <;> (repeat' split) <;> omega) | (rw [Bool.eq_iff_iff]; simp [*] <;> omega)
        · rw [hd, flat_cons one y s] at hS
          have g1 : ((l :: k :: r).map layC)[i + 1]? = some [.sl (y.map Mrk.c)] := by rw [List.map_cons, List.getElem?_cons_succ, List.getElem?_map, hy']; rfl
          have hyb := hb.lay y (List.mem_cons_of_mem _ (List.mem_of_getElem? hy'))
          have c4 := sLayerJoin_con (m := m) y one (by omega) (by omega) hyb.1 hone
          cases hj : layerJoin y one with
          | none =>
            rw [hj] at c4 hS
            simp only at hS
            rw [hS]
            repeat' first | refine Ra ⟨?_⟩ | ((first | refine Rc [] 0 rfl rfl (c4) ?_ | refine ⟨(rfl : [D.sl (y.map Mrk.c)].length = _), ?_⟩ | (refine bd (fun h => ?_) (fun h => ?_) <;> (try simp only [List.length_map] at h)) | refine bsplit.mk (fun h => ?_) (fun h => ?_)) <;> conv => whnf) | refine Rb ⟨?_⟩ | fail
            first | refine CallEnd.here (fz ?_) | refine fz ?_
            conv => whnf
            first | exact ⟨rfl, rfl, rfl, rfl⟩ | refine ⟨rfl, rfl, congrArg some (congrArg D.s ?_), rfl⟩ | refine ⟨rfl, rfl, congrArg some (congrArg D.b ?_), rfl⟩ | refine ⟨rfl, rfl, congrArg some (congrArg (D.k _) ?_), rfl⟩ | refine ⟨rfl, rfl, congrArg some (congrArg D.agg ?_), rfl⟩ | refine ⟨rfl, rfl, rfl, ?_⟩
            all_goals first | rfl | (simp_all []; done) | (simp [] <;> (repeat' split) <;> omega) | (rw [Bool.eq_iff_iff]; simp [*] <;> omega)
          | some j =>
            rw [hj] at c4 hS
            simp only at hS
            obtain ⟨hjb, hjl⟩ := join_bnd hj
            repeat' first | refine Ra ⟨?_⟩ | ((first | refine Rc [] 0 rfl rfl (c4) ?_ | refine ⟨(rfl : [D.sl (y.map Mrk.c)].length = _), ?_⟩ | (refine bd (fun h => ?_) (fun h => ?_) <;> (try simp only [List.length_map] at h)) | refine bsplit.mk (fun h => ?_) (fun h => ?_)) <;> conv => whnf) | refine Rb ⟨?_⟩ | fail
            refine .here ⟨mq - 1, by omega, ?_⟩
            refine la [2, 4, 5, 6] ?_
            conv => whnf
            refine ⟨rfl, rfl, i + 1, j, (by omega), rfl, rfl, rfl, by omega, (by rw [hS, hr]), hjb, by omega⟩
end Go.Proofs.YtoaiplobfellaaaGreatDoor
set_option linter.unusedSimpArgs false
set_option linter.unusedVariables false
set_option maxHeartbeats 1000000
set_option maxRecDepth 10000
namespace Go.Proofs.YtoaiplobfellaaaGreatDoor
open Go Go.RowKit Go.Ab Go.Par
variable {m : Int}
structure SmV (o : Ovr) : Prop where
  bl : o.base.length ≤ 20
  base : bndE 100 o.base
  ll : o.layers.length ≤ 8
  lay : ∀ l ∈ o.layers, bndM 100 l ∧ l.length ≤ 40
  upper : bndM 100 o.upper
  ul : o.upper.length ≤ 40
theorem SmV.bnd {o : Ovr} (h : SmV o) : BndV o :=
  ⟨fun e he => by have := h.base e he; omega, fun l hl => ⟨fun e he => by have := (h.lay l hl).1 e he; omega, by have := (h.lay l hl).2; omega⟩, fun e he => by have := h.upper e he; omega, by have := h.bl; omega, by have := h.ll; omega, by have := h.ul; omega⟩
theorem smV_ok {o : Ovr} {x : List Ent × List Ent} (h : overT o = some x) : SmV o := by
  obtain ⟨t, v⟩ := x
  obtain ⟨h1, h2, h3, h4⟩ := overT_ok h
  obtain ⟨g1, g2, g3⟩ := overT_iff.1 h
  obtain ⟨k1, k2, k3, k4⟩ := lower_ok g1
  have hu := diff_ok h3 h4
  rw [← g3] at hu
  refine ⟨by have := treeOk_len h1; omega, fun e he => by have := entOk_len (treeOk_ent h1 e he); omega, by omega, fun l hl => ?_, fun e he => by have := layer_bnd hu e he; omega, by have := layer_len hu; omega⟩
  have hk := stack_layers _ k3 l hl
  exact ⟨fun e he => by have := layer_bnd hk e he; omega, by have := layer_len hk; omega⟩
theorem smV_0 : SmV ov0 := ⟨by simp [ov0], by simp [ov0, bndE], by simp [ov0], by simp [ov0], by simp [ov0, bndM], by simp [ov0]⟩
theorem smV_push {o : Ovr} : SmV (overPush o).1 := by
  cases h : overT o with
  | none => rw [overPush, h]; exact smV_0
  | some x =>
    obtain ⟨t', ht⟩ := over_push (o := o) (t := x.1) (v := x.2) h
    exact smV_ok ht
theorem smV_flat {o : Ovr} : SmV (overFlat o).1 := by
  cases h : overT o with
  | none => rw [overFlat, h]; exact smV_0
  | some x => exact smV_ok (over_flat (o := o) (t := x.1) (v := x.2) h)
theorem smV_do {o : Ovr} {p : Opn} : SmV (overDo o p).1 := by
  cases h : overT o with
  | none => rw [overDo, h]; exact smV_0
  | some x => exact smV_ok (over_do (o := o) (t := x.1) (v := x.2) h p).1
theorem view_len {o : Ovr} {v : List Ent} (h : viewT o = some v) : v.length ≤ 16 ∧ bndE 100 v := by
  unfold viewT at h
  cases hl : lowerT o with
  | none => rw [hl] at h; cases h
  | some t =>
    rw [hl] at h
    have hv := (layerOn_some h).2.2.1
    exact ⟨treeOk_len hv, fun e he => by have := entOk_len (treeOk_ent hv e he); omega⟩
theorem l4Over_any (l : Bs) (p : Int) (hp : 0 ≤ p ∧ p ≤ 800000) (hl : l.length ≤ 2000) :
    ∃ (o : Ovr) (q : Int), SmV o ∧ (p ≤ q ∧ q ≤ p + 900) ∧ Con (E m) 202 1 [.bp 0 0] [(0, rd l p)] (.agg o.c) [(0, rd l q)] := by
  have key : ∃ d S', (∃ (o : Ovr) (q : Int), SmV o ∧ (p ≤ q ∧ q ≤ p + 900) ∧ d = .agg o.c ∧ S' = [(0, rd l q)]) ∧ Con (E m) 202 1 [.bp 0 0] [(0, rd l p)] d S' := by
    have h1 := l2TreeV_bd (m := m) l p
    have c1 := l2Tree_con (m := m) l p (by omega) hl
    generalize l2TreeV m l p = T at h1 c1
    have c2 := pick_con (m := m) l T.2 3 (by omega) (by omega) hl
    obtain ⟨k, hk, hk2⟩ := drew (m := m) l T.2 3 (by omega)
    rw [hk] at c2
    have hT : SmV ⟨T.1, [], []⟩ := ⟨by simp only; omega, h1.2.1, by simp, by simp, by simp [bndM], by simp⟩
    refine any_of_cd tyOk mix Tryz.func202 rfl rfl rfl (Nat.le_of_ble_eq_true rfl) ?_
    repeat' first | refine Ra ⟨?_⟩ | ((first | refine Rc [0] 1 rfl rfl (c1) ?_ | refine Rc [0] 0 rfl rfl (c2) ?_ | (refine bd (fun h => ?_) (fun h => ?_) <;> (try simp only [List.length_map] at h)) | refine bsplit.mk (fun h => ?_) (fun h => ?_)) <;> conv => whnf) | refine Rb ⟨?_⟩ | fail
    refine Cd.loop2 (fun mq tm S nx => ∃ (i : Int) (q : Int) (o : Ovr), mq = (i.toNat) ∧ tm = [(0, .bp 0 0), (2, .bp 1 0), (3, .bp 2 0), (4, .k .i64 i)] ∧ S = [(0, rd l q), (1, .box 83 [.nil, .nil, .nil]), (2, .box 83 o.c)] ∧ nx = 3 ∧ (0 ≤ i ∧ i ≤ k) ∧ (p ≤ q ∧ q ≤ p + 401 + 50 * (k - i)) ∧ (SmV o)) ?_ ?_
    · refine ⟨[.thawB 3 1 73, .thawB 3 2 80, .ice 2, .ice 4, .ice 5], [0, 2, 3, 4], [0, 1, 3], ?_⟩
      conv => whnf
      refine ⟨rfl, rfl, _, _, _, ⟨T.1, [], []⟩, rfl, rfl, rfl, rfl, by omega, by omega, hT⟩
    · rintro mq tm S nx ⟨i, q, o, hn, rfl, rfl, rfl, hi, hq, hV⟩
      by_cases hi0 : 0 < i
      · have c3 := sCopyL_con (m := m) o hV.bnd
        have h4 := l3LayerV_bd (m := m) l q
        have c4 := l3Layer_con (m := m) l q (by omega) hl
        generalize l3LayerV m l q = L at h4 c4
        have hoL := hV.ll
        have hobl := hV.bl
        have houl := hV.ul
        have e1 : (o.layers.map layC).length = o.layers.length := List.length_map ..
        have hX : BndV ⟨o.base, o.layers ++ [L.1], o.upper⟩ := by
          have hv := hV.bnd
          refine ⟨hv.base, fun k hk => ?_, hv.upper, hv.bl, by simp only [List.length_append, List.length_cons, List.length_nil]; omega, hv.ul⟩
          rcases List.mem_append.1 hk with hk | hk
          · exact hv.lay k hk
          · rw [List.mem_singleton.1 hk]
            exact ⟨fun e he => by have := h4.2.1 e he; omega, by omega⟩
        have g1 : (o.layers ++ [L.1]).map layC = o.layers.map layC ++ [[.sl (L.1.map Mrk.c)]] := by rw [List.map_append]; rfl
        have c5 : Con (E m) 77 0 [.agg [.sl (o.base.map Ent.c), .sl (o.layers.map layC ++ [[.sl (L.1.map Mrk.c)]]), .sl (o.upper.map Mrk.c)]] [] (.b (overOk ⟨o.base, o.layers ++ [L.1], o.upper⟩)) [] := by
          have := sOverOk_con (m := m) ⟨o.base, o.layers ++ [L.1], o.upper⟩ hX
          unfold Ovr.c at this
          rw [g1] at this
          exact this
        cases hok : overOk ⟨o.base, o.layers ++ [L.1], o.upper⟩ with
        | false =>
          rw [hok] at c5
          repeat' first | refine Ra ⟨?_⟩ | ((first | refine Rc [] 3 rfl rfl (c3) ?_ | refine Rc [0] 0 rfl rfl (c4) ?_ | refine Rc [] 0 rfl rfl (c5) ?_ | (refine bd (fun h => ?_) (fun h => ?_) <;> (try simp only [List.length_map] at h)) | refine bsplit.mk (fun h => ?_) (fun h => ?_)) <;> conv => whnf) | refine Rb ⟨?_⟩ | fail
          refine .here ⟨mq - 1, by omega, ?_⟩
          refine la [0, 2, 3, 4] ?_
          conv => whnf
          refine ⟨rfl, rfl, i - 1, L.2, o, (by omega), rfl, rfl, rfl, by omega, by omega, hV⟩
        | true =>
          rw [hok] at c5
          have hV2 : SmV ⟨o.base, o.layers ++ [L.1], o.upper⟩ := by
            unfold overOk at hok
            obtain ⟨x, hx⟩ := Option.isSome_iff_exists.1 hok
            exact smV_ok hx
          repeat' first | refine Ra ⟨?_⟩ | ((first | refine Rc [] 3 rfl rfl (c3) ?_ | refine Rc [0] 0 rfl rfl (c4) ?_ | refine Rc [] 0 rfl rfl (c5) ?_ | (refine bd (fun h => ?_) (fun h => ?_) <;> (try simp only [List.length_map] at h)) | refine bsplit.mk (fun h => ?_) (fun h => ?_)) <;> conv => whnf) | refine Rb ⟨?_⟩ | fail
          refine .here ⟨mq - 1, by omega, ?_⟩
          refine ⟨[.ice 3, .ice 8, .ice 5], [0, 2, 3, 4], [0, 1, 2], ?_⟩
          conv => whnf
          refine ⟨rfl, rfl, i - 1, L.2, ⟨o.base, o.layers ++ [L.1], o.upper⟩, (by omega), rfl, ?_, rfl, by omega, by omega, hV2⟩
          unfold Ovr.c
          rw [g1]
          rfl
      · have c6 := pick_con (m := m) l q 12 (by omega) (by omega) hl
        obtain ⟨k2, hk3, hk4⟩ := drew (m := m) l q 12 (by omega)
        rw [hk3] at c6
        have hq1 : p ≤ q ∧ q ≤ p + 551 := by omega
        repeat' first | refine Ra ⟨?_⟩ | ((first | refine Rc [0] 0 rfl rfl (c6) ?_ | (refine bd (fun h => ?_) (fun h => ?_) <;> (try simp only [List.length_map] at h)) | refine bsplit.mk (fun h => ?_) (fun h => ?_)) <;> conv => whnf) | refine Rb ⟨?_⟩ | fail
        refine Cd.loop2 (fun mq tm S nx => ∃ (i : Int) (s : Int) (o : Ovr), mq = (i.toNat) ∧ tm = [(0, .bp 0 0), (2, .bp 1 0), (3, .bp 2 0), (6, .k .i64 i)] ∧ S = [(0, rd l s), (1, .box 83 [.nil, .nil, .nil]), (2, .box 83 o.c)] ∧ nx = 3 ∧ (0 ≤ i ∧ i ≤ k2) ∧ (p ≤ s ∧ s ≤ p + 552 + 20 * (k2 - i)) ∧ (SmV o)) ?_ ?_
        · refine la [0, 2, 3, 6] ?_
          conv => whnf
          refine ⟨rfl, rfl, _, _, _, o, rfl, rfl, rfl, rfl, by omega, by omega, hV⟩
        · rintro mq tm S nx ⟨i, s, o, hn, rfl, rfl, rfl, hi, hq, hV⟩
          by_cases hi0 : 0 < i
          · have c7 := sView_con (m := m) o hV.bnd
            have c8 := pick_con (m := m) l s 8 (by omega) (by omega) hl
            obtain ⟨k8, hk8, hk9⟩ := drew (m := m) l s 8 (by omega)
            rw [hk8] at c8
            obtain ⟨t, b, htl, htb, c7⟩ : ∃ (t : List Ent) (b : Bool), t.length ≤ 16 ∧ bndE 100 t ∧ Con (E m) 143 0 [.agg o.c] [] (.tup [.sl (t.map Ent.c), .b b]) [] := by
              cases hv : viewT o with
              | none =>
                rw [hv] at c7
                exact ⟨[], false, by simp, by simp [bndE], c7⟩
              | some v =>
                rw [hv] at c7
                exact ⟨v, true, (view_len hv).1, (view_len hv).2, c7⟩
            by_cases g0 : k8 = 0
            · have c9 := sOverPush_con (m := m) o hV.bnd
              have hV2 := smV_push (o := o)
              generalize overPush o = Y at c9 hV2
              repeat' first | refine Ra ⟨?_⟩ | ((first | refine Rc [] 0 rfl rfl (c7) ?_ | refine Rc [0] 0 rfl rfl (c8) ?_ | refine Rc [] 0 rfl rfl (c9) ?_ | (refine bd (fun h => ?_) (fun h => ?_) <;> (try simp only [List.length_map] at h)) | refine bsplit.mk (fun h => ?_) (fun h => ?_)) <;> conv => whnf) | refine Rb ⟨?_⟩ | fail
              refine .here ⟨mq - 1, by omega, ?_⟩
              refine la [0, 2, 3, 6] ?_
              conv => whnf
              refine ⟨rfl, rfl, i - 1, _, Y.1, (by omega), rfl, rfl, rfl, by omega, by omega, hV2⟩
            · by_cases g1 : k8 = 1
              · have c9 := pick_con (m := m) l (s + 1) 3 (by omega) (by omega) hl
                obtain ⟨k3, hk5, hk6⟩ := drew (m := m) l (s + 1) 3 (by omega)
                rw [hk5] at c9
                by_cases g2 : k3 = 0
                · have c10 := sOverFlat_con (m := m) o hV.bnd
                  have hV2 := smV_flat (o := o)
                  generalize overFlat o = Y at c10 hV2
                  repeat' first | refine Ra ⟨?_⟩ | ((first | refine Rc [] 0 rfl rfl (c7) ?_ | refine Rc [0] 0 rfl rfl (c8) ?_ | refine Rc [0] 0 rfl rfl (c9) ?_ | refine Rc [] 0 rfl rfl (c10) ?_ | (refine bd (fun h => ?_) (fun h => ?_) <;> (try simp only [List.length_map] at h)) | refine bsplit.mk (fun h => ?_) (fun h => ?_)) <;> conv => whnf) | refine Rb ⟨?_⟩ | fail
                  refine .here ⟨mq - 1, by omega, ?_⟩
                  refine la [0, 2, 3, 6] ?_
                  conv => whnf
                  refine ⟨rfl, rfl, i - 1, _, Y.1, (by omega), rfl, rfl, rfl, by omega, by omega, hV2⟩
                · repeat' first | refine Ra ⟨?_⟩ | ((first | refine Rc [] 0 rfl rfl (c7) ?_ | refine Rc [0] 0 rfl rfl (c8) ?_ | refine Rc [0] 0 rfl rfl (c9) ?_ | (refine bd (fun h => ?_) (fun h => ?_) <;> (try simp only [List.length_map] at h)) | refine bsplit.mk (fun h => ?_) (fun h => ?_)) <;> conv => whnf) | refine Rb ⟨?_⟩ | fail
                  refine .here ⟨mq - 1, by omega, ?_⟩
                  refine la [0, 2, 3, 6] ?_
                  conv => whnf
                  refine ⟨rfl, rfl, i - 1, _, o, (by omega), rfl, rfl, rfl, by omega, by omega, hV⟩
              · have hop := l2OpV_bd (m := m) l (s + 1) t
                have c9 := l2Op_con (m := m) l (s + 1) t (by omega) hl (by omega) htb
                generalize l2OpV m l (s + 1) t = V at hop c9
                have c10 := sOverDo_con (m := m) o V.1 hV.bnd (bndO.big hop.1)
                have hV2 := smV_do (o := o) (p := V.1)
                generalize overDo o V.1 = Y at c10 hV2
                repeat' first | refine Ra ⟨?_⟩ | ((first | refine Rc [] 0 rfl rfl (c7) ?_ | refine Rc [0] 0 rfl rfl (c8) ?_ | refine Rc [0] 0 rfl rfl (c9) ?_ | refine Rc [] 0 rfl rfl (c10) ?_ | (refine bd (fun h => ?_) (fun h => ?_) <;> (try simp only [List.length_map] at h)) | refine bsplit.mk (fun h => ?_) (fun h => ?_)) <;> conv => whnf) | refine Rb ⟨?_⟩ | fail
                refine .here ⟨mq - 1, by omega, ?_⟩
                refine la [0, 2, 3, 6] ?_
                conv => whnf
                refine ⟨rfl, rfl, i - 1, V.2, Y.1, (by omega), rfl, rfl, rfl, by omega, by omega, hV2⟩
          · have c7 := sCopy_con (m := m) o hV.bnd
            repeat' first | refine Ra ⟨?_⟩ | ((first | refine Rc [] 0 rfl rfl (c7) ?_ | (refine bd (fun h => ?_) (fun h => ?_) <;> (try simp only [List.length_map] at h)) | refine bsplit.mk (fun h => ?_) (fun h => ?_)) <;> conv => whnf) | refine Rb ⟨?_⟩ | fail
            refine AnyEnd.here (aa ?_)
            conv => whnf
            refine ⟨rfl, rfl, _, rfl, ⟨o, s, hV, by omega, rfl, rfl⟩⟩
  obtain ⟨d, S', ⟨o, q, h1, h2, rfl, rfl⟩, hc⟩ := key
  exact ⟨o, q, h1, h2, hc⟩
theorem l4Bent_any (l : Bs) (p : Int) (o : Ovr) (hp : 0 ≤ p ∧ p ≤ 850000) (hl : l.length ≤ 2000) (hV : SmV o) :
    ∃ (o' : Ovr) (q : Int), BndV o' ∧ (p ≤ q ∧ q ≤ p + 60) ∧ Con (E m) 201 1 [.bp 0 0, .agg o.c] [(0, rd l p)] (.agg o'.c) [(0, rd l q)] := by
  have hB := hV.bnd
  have c1 := sCopyL_con (m := m) o hB
  have c2 := pick_con (m := m) l p 60 (by omega) (by omega) hl
  obtain ⟨k, hk, hk2⟩ := drew (m := m) l p 60 (by omega)
  rw [hk] at c2
  have hll := hV.ll
  have hbl := hV.bl
  have hul := hV.ul
  have e1 : (o.layers.map layC).length = o.layers.length := List.length_map ..
  by_cases k0 : k = 0
  · subst k0
    have b1 := l2BentV_bd (m := m) l (p + 1) o.base
    have d1 := l2Bent_con (m := m) l (p + 1) o.base (by omega) hl (by omega) hV.base
    generalize l2BentV m l (p + 1) o.base = U1 at b1 d1
    have b2 := l2BentV_bd (m := m) l U1.2 U1.1
    have d2 := l2Bent_con (m := m) l U1.2 U1.1 (by omega) hl (by omega) b1.2.1
    generalize l2BentV m l U1.2 U1.1 = U2 at b2 d2
    have b3 := l2BentV_bd (m := m) l U2.2 U2.1
    have d3 := l2Bent_con (m := m) l U2.2 U2.1 (by omega) hl (by omega) b2.2.1
    generalize l2BentV m l U2.2 U2.1 = U3 at b3 d3
    have b4 := l2BentV_bd (m := m) l U3.2 U3.1
    have d4 := l2Bent_con (m := m) l U3.2 U3.1 (by omega) hl (by omega) b3.2.1
    generalize l2BentV m l U3.2 U3.1 = U4 at b4 d4
    refine ⟨⟨U4.1, o.layers, o.upper⟩, U4.2, ⟨fun e he => by have := b4.2.1 e he; omega, hB.lay, hB.upper, by simp only; omega, hB.ll, hB.ul⟩, by omega, ?_⟩
    refine con_of_cd tyOk mix Tryz.func201 rfl rfl rfl (Nat.le_of_ble_eq_true rfl) ?_
    repeat' first | refine Ra ⟨?_⟩ | ((first | refine Rc [] 3 rfl rfl (c1) ?_ | refine Rc [0] 0 rfl rfl (c2) ?_ | refine Rc [0] 0 rfl rfl (d1) ?_ | refine Rc [0] 0 rfl rfl (d2) ?_ | refine Rc [0] 0 rfl rfl (d3) ?_ | refine Rc [0] 0 rfl rfl (d4) ?_ | (refine bd (fun h => ?_) (fun h => ?_) <;> (try simp only [List.length_map] at h)) | refine bsplit.mk (fun h => ?_) (fun h => ?_)) <;> conv => whnf) | refine Rb ⟨?_⟩ | fail
    first | refine CallEnd.here (fz ?_) | refine fz ?_
    conv => whnf
    first | exact ⟨rfl, rfl, rfl, rfl⟩ | refine ⟨rfl, rfl, congrArg some (congrArg D.s ?_), rfl⟩ | refine ⟨rfl, rfl, congrArg some (congrArg D.b ?_), rfl⟩ | refine ⟨rfl, rfl, congrArg some (congrArg (D.k _) ?_), rfl⟩ | refine ⟨rfl, rfl, congrArg some (congrArg D.agg ?_), rfl⟩ | refine ⟨rfl, rfl, rfl, ?_⟩
    all_goals first | rfl | (simp_all []; done) | (simp [] <;> (repeat' split) <;> omega) | (rw [Bool.eq_iff_iff]; simp [*] <;> omega)
  · by_cases k1 : k = 1
    · subst k1
      by_cases hn : o.layers.length = 0
      · refine ⟨o, p + 1, hB, by omega, ?_⟩
        refine con_of_cd tyOk mix Tryz.func201 rfl rfl rfl (Nat.le_of_ble_eq_true rfl) ?_
        repeat' first | refine Ra ⟨?_⟩ | ((first | refine Rc [] 3 rfl rfl (c1) ?_ | refine Rc [0] 0 rfl rfl (c2) ?_ | (refine bd (fun h => ?_) (fun h => ?_) <;> (try simp only [List.length_map] at h)) | refine bsplit.mk (fun h => ?_) (fun h => ?_)) <;> conv => whnf) | refine Rb ⟨?_⟩ | fail
        first | refine CallEnd.here (fz ?_) | refine fz ?_
        conv => whnf
        first | exact ⟨rfl, rfl, rfl, rfl⟩ | refine ⟨rfl, rfl, congrArg some (congrArg D.s ?_), rfl⟩ | refine ⟨rfl, rfl, congrArg some (congrArg D.b ?_), rfl⟩ | refine ⟨rfl, rfl, congrArg some (congrArg (D.k _) ?_), rfl⟩ | refine ⟨rfl, rfl, congrArg some (congrArg D.agg ?_), rfl⟩ | refine ⟨rfl, rfl, rfl, ?_⟩
        all_goals first | rfl | (simp_all []; done) | (simp [] <;> (repeat' split) <;> omega) | (rw [Bool.eq_iff_iff]; simp [*] <;> omega)
      · have c3 := pick_con (m := m) l (p + 1) (o.layers.length : Int) (by omega) (by omega) hl
        obtain ⟨j, hj, hj2⟩ := drew (m := m) l (p + 1) (o.layers.length : Int) (by omega)
        rw [hj, ← e1] at c3
        have hjl : j < o.layers.length := by omega
        have r1 : o.layers[j]? = some o.layers[j] := List.getElem?_eq_getElem hjl
        obtain ⟨y1, y2⟩ := hV.lay _ (List.getElem_mem hjl)
        generalize o.layers[j] = y at r1 y1 y2
        have b1 := l3BentV_bd (m := m) l (p + 1 + 1) y
        have d1 := l3Bent_con (m := m) l (p + 1 + 1) y (by omega) hl (by omega) y1
        generalize l3BentV m l (p + 1 + 1) y = U1 at b1 d1
        have b2 := l3BentV_bd (m := m) l U1.2 U1.1
        have d2 := l3Bent_con (m := m) l U1.2 U1.1 (by omega) hl (by omega) b1.2.1
        generalize l3BentV m l U1.2 U1.1 = U2 at b2 d2
        have b3 := l3BentV_bd (m := m) l U2.2 U2.1
        have d3 := l3Bent_con (m := m) l U2.2 U2.1 (by omega) hl (by omega) b2.2.1
        generalize l3BentV m l U2.2 U2.1 = U3 at b3 d3
        have b4 := l3BentV_bd (m := m) l U3.2 U3.1
        have d4 := l3Bent_con (m := m) l U3.2 U3.1 (by omega) hl (by omega) b3.2.1
        generalize l3BentV m l U3.2 U3.1 = U4 at b4 d4
        have hjm : j < (o.layers.map layC).length := by omega
        have r2 : (o.layers.map layC)[j]? = some [.sl (y.map Mrk.c)] := by rw [List.getElem?_map, r1]; rfl
        refine ⟨⟨o.base, o.layers.set j U4.1, o.upper⟩, U4.2, ⟨hB.base, fun z hz => ?_, hB.upper, hB.bl, by simp only [List.length_set]; omega, hB.ul⟩, by omega, ?_⟩
        · rcases List.mem_or_eq_of_mem_set hz with h | h
          · exact hB.lay z h
          · rw [h]
            exact ⟨fun e he => by have := b4.2.1 e he; omega, by omega⟩
        · unfold Ovr.c
          rw [List.map_set]
          refine con_of_cd tyOk mix Tryz.func201 rfl rfl rfl (Nat.le_of_ble_eq_true rfl) ?_
          repeat' first | refine Ra ⟨?_⟩ | ((first | refine Rc [] 3 rfl rfl (c1) ?_ | refine Rc [0] 0 rfl rfl (c2) ?_ | refine Rc [0] 0 rfl rfl (c3) ?_ | refine Rc [0] 0 rfl rfl (d1) ?_ | refine Rc [0] 0 rfl rfl (d2) ?_ | refine Rc [0] 0 rfl rfl (d3) ?_ | refine Rc [0] 0 rfl rfl (d4) ?_ | refine ⟨hjm, ?_⟩ | refine ⟨(Nat.le_of_ble_eq_true rfl : _ ≤ (layC y).length), ?_⟩ | (refine bd (fun h => ?_) (fun h => ?_) <;> (try simp only [List.length_map] at h)) | refine bsplit.mk (fun h => ?_) (fun h => ?_)) <;> conv => whnf) | refine Rb ⟨?_⟩ | fail
          first | refine CallEnd.here (fz ?_) | refine fz ?_
          conv => whnf
          first | exact ⟨rfl, rfl, rfl, rfl⟩ | refine ⟨rfl, rfl, congrArg some (congrArg D.s ?_), rfl⟩ | refine ⟨rfl, rfl, congrArg some (congrArg D.b ?_), rfl⟩ | refine ⟨rfl, rfl, congrArg some (congrArg (D.k _) ?_), rfl⟩ | refine ⟨rfl, rfl, congrArg some (congrArg D.agg ?_), rfl⟩ | refine ⟨rfl, rfl, rfl, ?_⟩
          all_goals first | rfl | (simp_all []; done) | (simp [] <;> (repeat' split) <;> omega) | (rw [Bool.eq_iff_iff]; simp [*] <;> omega)
    · by_cases k2 : k = 2
      · subst k2
        have b1 := l3BentV_bd (m := m) l (p + 1) o.upper
        have d1 := l3Bent_con (m := m) l (p + 1) o.upper (by omega) hl (by omega) hV.upper
        generalize l3BentV m l (p + 1) o.upper = U1 at b1 d1
        have b2 := l3BentV_bd (m := m) l U1.2 U1.1
        have d2 := l3Bent_con (m := m) l U1.2 U1.1 (by omega) hl (by omega) b1.2.1
        generalize l3BentV m l U1.2 U1.1 = U2 at b2 d2
        have b3 := l3BentV_bd (m := m) l U2.2 U2.1
        have d3 := l3Bent_con (m := m) l U2.2 U2.1 (by omega) hl (by omega) b2.2.1
        generalize l3BentV m l U2.2 U2.1 = U3 at b3 d3
        have b4 := l3BentV_bd (m := m) l U3.2 U3.1
        have d4 := l3Bent_con (m := m) l U3.2 U3.1 (by omega) hl (by omega) b3.2.1
        generalize l3BentV m l U3.2 U3.1 = U4 at b4 d4
        refine ⟨⟨o.base, o.layers, U4.1⟩, U4.2, ⟨hB.base, hB.lay, fun e he => by have := b4.2.1 e he; omega, hB.bl, hB.ll, by simp only; omega⟩, by omega, ?_⟩
        refine con_of_cd tyOk mix Tryz.func201 rfl rfl rfl (Nat.le_of_ble_eq_true rfl) ?_
        repeat' first | refine Ra ⟨?_⟩ | ((first | refine Rc [] 3 rfl rfl (c1) ?_ | refine Rc [0] 0 rfl rfl (c2) ?_ | refine Rc [0] 0 rfl rfl (d1) ?_ | refine Rc [0] 0 rfl rfl (d2) ?_ | refine Rc [0] 0 rfl rfl (d3) ?_ | refine Rc [0] 0 rfl rfl (d4) ?_ | (refine bd (fun h => ?_) (fun h => ?_) <;> (try simp only [List.length_map] at h)) | refine bsplit.mk (fun h => ?_) (fun h => ?_)) <;> conv => whnf) | refine Rb ⟨?_⟩ | fail
        first | refine CallEnd.here (fz ?_) | refine fz ?_
        conv => whnf
        first | exact ⟨rfl, rfl, rfl, rfl⟩ | refine ⟨rfl, rfl, congrArg some (congrArg D.s ?_), rfl⟩ | refine ⟨rfl, rfl, congrArg some (congrArg D.b ?_), rfl⟩ | refine ⟨rfl, rfl, congrArg some (congrArg (D.k _) ?_), rfl⟩ | refine ⟨rfl, rfl, congrArg some (congrArg D.agg ?_), rfl⟩ | refine ⟨rfl, rfl, rfl, ?_⟩
        all_goals first | rfl | (simp_all []; done) | (simp [] <;> (repeat' split) <;> omega) | (rw [Bool.eq_iff_iff]; simp [*] <;> omega)
      · by_cases k3 : k = 3
        · subst k3
          have b1 := l3LayerV_bd (m := m) l (p + 1)
          have d1 := l3Layer_con (m := m) l (p + 1) (by omega) hl
          generalize l3LayerV m l (p + 1) = L at b1 d1
          refine ⟨⟨o.base, o.layers, L.1⟩, L.2, ⟨hB.base, hB.lay, fun e he => by have := b1.2.1 e he; omega, hB.bl, hB.ll, by simp only; omega⟩, by omega, ?_⟩
          refine con_of_cd tyOk mix Tryz.func201 rfl rfl rfl (Nat.le_of_ble_eq_true rfl) ?_
          repeat' first | refine Ra ⟨?_⟩ | ((first | refine Rc [] 3 rfl rfl (c1) ?_ | refine Rc [0] 0 rfl rfl (c2) ?_ | refine Rc [0] 0 rfl rfl (d1) ?_ | (refine bd (fun h => ?_) (fun h => ?_) <;> (try simp only [List.length_map] at h)) | refine bsplit.mk (fun h => ?_) (fun h => ?_)) <;> conv => whnf) | refine Rb ⟨?_⟩ | fail
          first | refine CallEnd.here (fz ?_) | refine fz ?_
          conv => whnf
          first | exact ⟨rfl, rfl, rfl, rfl⟩ | refine ⟨rfl, rfl, congrArg some (congrArg D.s ?_), rfl⟩ | refine ⟨rfl, rfl, congrArg some (congrArg D.b ?_), rfl⟩ | refine ⟨rfl, rfl, congrArg some (congrArg (D.k _) ?_), rfl⟩ | refine ⟨rfl, rfl, congrArg some (congrArg D.agg ?_), rfl⟩ | refine ⟨rfl, rfl, rfl, ?_⟩
          all_goals first | rfl | (simp_all []; done) | (simp [] <;> (repeat' split) <;> omega) | (rw [Bool.eq_iff_iff]; simp [*] <;> omega)
        · by_cases k4 : k = 4
          · subst k4
            refine ⟨⟨o.base, o.layers ++ List.replicate (5 - o.layers.length) [], o.upper⟩, p + 1, ⟨hB.base, fun z hz => ?_, hB.upper, hB.bl, by simp only [List.length_append, List.length_replicate]; omega, hB.ul⟩, by omega, ?_⟩
            · rcases List.mem_append.1 hz with h | h
              · exact hB.lay z h
              · rw [List.eq_of_mem_replicate h]
                exact ⟨by simp, by simp⟩
            · refine con_of_cd tyOk mix Tryz.func201 rfl rfl rfl (Nat.le_of_ble_eq_true rfl) ?_
              repeat' first | refine Ra ⟨?_⟩ | ((first | refine Rc [] 3 rfl rfl (c1) ?_ | refine Rc [0] 0 rfl rfl (c2) ?_ | (refine bd (fun h => ?_) (fun h => ?_) <;> (try simp only [List.length_map] at h)) | refine bsplit.mk (fun h => ?_) (fun h => ?_)) <;> conv => whnf) | refine Rb ⟨?_⟩ | fail
              refine Cd.loop2 (fun mq tm S nx => ∃ (A : List (List Mrk)), mq = (5 - A.length) ∧ tm = [(4, .bp 1 0), (5, .bp 2 0)] ∧ S = [(0, rd l (p + 1)), (1, .box 83 [.nil, .nil, .nil]), (2, .box 83 [.own 3, .own 4, .own 5]), (3, .own 76 (o.base.map Ent.c)), (4, .own 73 (A.map layC)), (5, .own 80 (o.upper.map Mrk.c))] ∧ nx = 6 ∧ (o.layers ++ List.replicate (5 - o.layers.length) [] = A ++ List.replicate (5 - A.length) []) ∧ (A.length ≤ 8)) ?_ ?_
              · refine la [4, 5] ?_
                conv => whnf
                refine ⟨rfl, rfl, _, o.layers, rfl, rfl, rfl, rfl, rfl, hll⟩
              · rintro mq tm S nx ⟨A, hn, rfl, rfl, rfl, hA, hAl⟩
                have e2 : (A.map layC).length = A.length := List.length_map ..
                by_cases hlt : A.length ≤ 4
                · have e7 : (A ++ [([] : List Mrk)]).length = A.length + 1 := by simp
                  have hst : o.layers ++ List.replicate (5 - o.layers.length) [] = (A ++ [[]]) ++ List.replicate (5 - (A ++ [([] : List Mrk)]).length) [] := by
                    have h9 : 5 - A.length = (5 - (A ++ [([] : List Mrk)]).length) + 1 := by omega
                    rw [hA, h9, List.replicate_succ, List.append_assoc]
                    rfl
                  repeat' first | refine Ra ⟨?_⟩ | ((first | (refine bd (fun h => ?_) (fun h => ?_) <;> (try simp only [List.length_map] at h)) | refine bsplit.mk (fun h => ?_) (fun h => ?_)) <;> conv => whnf) | refine Rb ⟨?_⟩ | fail
                  refine .here ⟨mq - 1, by omega, ?_⟩
                  refine la [4, 5] ?_
                  conv => whnf
                  refine ⟨rfl, rfl, A ++ [[]], (by omega), rfl, ?_, rfl, hst, by omega⟩
                  rw [List.map_append]
                  rfl
                · have hq : 5 - A.length = 0 := by omega
                  rw [hq, List.replicate_zero, List.append_nil] at hA
                  rw [hA]
                  repeat' first | refine Ra ⟨?_⟩ | ((first | (refine bd (fun h => ?_) (fun h => ?_) <;> (try simp only [List.length_map] at h)) | refine bsplit.mk (fun h => ?_) (fun h => ?_)) <;> conv => whnf) | refine Rb ⟨?_⟩ | fail
                  first | refine CallEnd.here (fz ?_) | refine fz ?_
                  conv => whnf
                  first | exact ⟨rfl, rfl, rfl, rfl⟩ | refine ⟨rfl, rfl, congrArg some (congrArg D.s ?_), rfl⟩ | refine ⟨rfl, rfl, congrArg some (congrArg D.b ?_), rfl⟩ | refine ⟨rfl, rfl, congrArg some (congrArg (D.k _) ?_), rfl⟩ | refine ⟨rfl, rfl, congrArg some (congrArg D.agg ?_), rfl⟩ | refine ⟨rfl, rfl, rfl, ?_⟩
                  all_goals first | rfl | (simp_all []; done) | (simp [] <;> (repeat' split) <;> omega) | (rw [Bool.eq_iff_iff]; simp [*] <;> omega)
          · by_cases k5 : k = 5
            · subst k5
              have b1 := l3LayerV_bd (m := m) l (p + 1)
              have d1 := l3Layer_con (m := m) l (p + 1) (by omega) hl
              generalize l3LayerV m l (p + 1) = L at b1 d1
              refine ⟨⟨o.base, o.layers ++ [L.1], o.upper⟩, L.2, ⟨hB.base, fun z hz => ?_, hB.upper, hB.bl, by simp only [List.length_append, List.length_cons, List.length_nil]; omega, hB.ul⟩, by omega, ?_⟩
              · rcases List.mem_append.1 hz with h | h
                · exact hB.lay z h
                · rw [List.mem_singleton.1 h]
                  exact ⟨fun e he => by have := b1.2.1 e he; omega, by omega⟩
              · have g1 : (o.layers ++ [L.1]).map layC = o.layers.map layC ++ [[.sl (L.1.map Mrk.c)]] := by rw [List.map_append]; rfl
                unfold Ovr.c
                rw [g1]
                refine con_of_cd tyOk mix Tryz.func201 rfl rfl rfl (Nat.le_of_ble_eq_true rfl) ?_
                repeat' first | refine Ra ⟨?_⟩ | ((first | refine Rc [] 3 rfl rfl (c1) ?_ | refine Rc [0] 0 rfl rfl (c2) ?_ | refine Rc [0] 0 rfl rfl (d1) ?_ | (refine bd (fun h => ?_) (fun h => ?_) <;> (try simp only [List.length_map] at h)) | refine bsplit.mk (fun h => ?_) (fun h => ?_)) <;> conv => whnf) | refine Rb ⟨?_⟩ | fail
                first | refine CallEnd.here (fz ?_) | refine fz ?_
                conv => whnf
                first | exact ⟨rfl, rfl, rfl, rfl⟩ | refine ⟨rfl, rfl, congrArg some (congrArg D.s ?_), rfl⟩ | refine ⟨rfl, rfl, congrArg some (congrArg D.b ?_), rfl⟩ | refine ⟨rfl, rfl, congrArg some (congrArg (D.k _) ?_), rfl⟩ | refine ⟨rfl, rfl, congrArg some (congrArg D.agg ?_), rfl⟩ | refine ⟨rfl, rfl, rfl, ?_⟩
                all_goals first | rfl | (simp_all []; done) | (simp [] <;> (repeat' split) <;> omega) | (rw [Bool.eq_iff_iff]; simp [*] <;> omega)
            · refine ⟨o, p + 1, hB, by omega, ?_⟩
              refine con_of_cd tyOk mix Tryz.func201 rfl rfl rfl (Nat.le_of_ble_eq_true rfl) ?_
              repeat' first | refine Ra ⟨?_⟩ | ((first | refine Rc [] 3 rfl rfl (c1) ?_ | refine Rc [0] 0 rfl rfl (c2) ?_ | (refine bd (fun h => ?_) (fun h => ?_) <;> (try simp only [List.length_map] at h)) | refine bsplit.mk (fun h => ?_) (fun h => ?_)) <;> conv => whnf) | refine Rb ⟨?_⟩ | fail
              first | refine CallEnd.here (fz ?_) | refine fz ?_
              conv => whnf
              first | exact ⟨rfl, rfl, rfl, rfl⟩ | refine ⟨rfl, rfl, congrArg some (congrArg D.s ?_), rfl⟩ | refine ⟨rfl, rfl, congrArg some (congrArg D.b ?_), rfl⟩ | refine ⟨rfl, rfl, congrArg some (congrArg (D.k _) ?_), rfl⟩ | refine ⟨rfl, rfl, congrArg some (congrArg D.agg ?_), rfl⟩ | refine ⟨rfl, rfl, rfl, ?_⟩
              all_goals first | rfl | (simp_all []; done) | (simp [] <;> (repeat' split) <;> omega) | (rw [Bool.eq_iff_iff]; simp [*] <;> omega)
theorem l4Some_any (l : Bs) (p : Int) (hp : 0 ≤ p ∧ p ≤ 800000) (hl : l.length ≤ 2000) :
    ∃ (o : Ovr) (q : Int), BndV o ∧ (p ≤ q ∧ q ≤ p + 960) ∧ Con (E m) 142 1 [.bp 0 0] [(0, rd l p)] (.agg o.c) [(0, rd l q)] := by
  obtain ⟨o, q, h1, h2, c1⟩ := l4Over_any (m := m) l p hp hl
  obtain ⟨o', q', g1, g2, c2⟩ := l4Bent_any (m := m) l q o (by omega) hl h1
  refine ⟨o', q', g1, by omega, ?_⟩
  refine con_of_cd tyOk mix Tryz.func142 rfl rfl rfl (Nat.le_of_ble_eq_true rfl) ?_
  repeat' first | refine Ra ⟨?_⟩ | ((first | refine Rc [0] 0 rfl rfl (c1) ?_ | refine Rc [0] 0 rfl rfl (c2) ?_ | (refine bd (fun h => ?_) (fun h => ?_) <;> (try simp only [List.length_map] at h)) | refine bsplit.mk (fun h => ?_) (fun h => ?_)) <;> conv => whnf) | refine Rb ⟨?_⟩ | fail
  first | refine CallEnd.here (fz ?_) | refine fz ?_
  conv => whnf
  first | exact ⟨rfl, rfl, rfl, rfl⟩ | refine ⟨rfl, rfl, congrArg some (congrArg D.s ?_), rfl⟩ | refine ⟨rfl, rfl, congrArg some (congrArg D.b ?_), rfl⟩ | refine ⟨rfl, rfl, congrArg some (congrArg (D.k _) ?_), rfl⟩ | refine ⟨rfl, rfl, congrArg some (congrArg D.agg ?_), rfl⟩ | refine ⟨rfl, rfl, rfl, ?_⟩
  all_goals first | rfl | (simp_all []; done) | (simp [] <;> (repeat' split) <;> omega) | (rw [Bool.eq_iff_iff]; simp [*] <;> omega)
theorem drawLogOver_any (l : Bs) (hl : l.length ≤ 1048576) : ∃ (o : Ovr) (ops : List Opn), (BndV o ∧ ops.length ≤ 31 ∧ ∀ p ∈ ops, bndO 100 p) ∧ Con (E m) 76 0 [.sl (bytesOf l)] [] (.tup [.agg o.c, .sl (ops.map Opn.c)]) [] := by
  have hl2 : (l.take 2000).length ≤ 2000 := by rw [List.length_take]; omega
  have c0 := open_con (m := m) l hl
  obtain ⟨o, q, h1, h2, c1⟩ := l4Some_any (m := m) (l.take 2000) 0 (by omega) hl2
  have c2 := sView_con (m := m) o h1
  obtain ⟨t, b, htl, htb, c2⟩ : ∃ (t : List Ent) (b : Bool), t.length ≤ 16 ∧ bndE 100 t ∧ Con (E m) 143 0 [.agg o.c] [] (.tup [.sl (t.map Ent.c), .b b]) [] := by
    cases hv : viewT o with
    | none =>
      rw [hv] at c2
      exact ⟨[], false, by simp, by simp [bndE], c2⟩
    | some v =>
      rw [hv] at c2
      exact ⟨v, true, (view_len hv).1, (view_len hv).2, c2⟩
  obtain ⟨ops, q2, g1, g2, g3, c3⟩ := l7Ops_any (m := m) (l.take 2000) q t (by omega) hl2 (by omega) htb
  refine ⟨o, ops, ⟨h1, g1, g2⟩, ?_⟩
  refine con_of_cd tyOk mix Tryz.func76 rfl rfl rfl (Nat.le_of_ble_eq_true rfl) ?_
  repeat' first | refine Ra ⟨?_⟩ | ((first | refine Rc [] 1 rfl rfl (c0) ?_ | refine Rc [2] 0 rfl rfl (c1) ?_ | refine Rc [] 0 rfl rfl (c2) ?_ | refine Rc [2] 1 rfl rfl (c3) ?_ | (refine bd (fun h => ?_) (fun h => ?_) <;> (try simp only [List.length_map] at h)) | refine bsplit.mk (fun h => ?_) (fun h => ?_)) <;> conv => whnf) | refine Rb ⟨?_⟩ | fail
  first | refine CallEnd.here (fz ?_) | refine fz ?_
  conv => whnf
  first | exact ⟨rfl, rfl, rfl, rfl⟩ | refine ⟨rfl, rfl, congrArg some (congrArg D.s ?_), rfl⟩ | refine ⟨rfl, rfl, congrArg some (congrArg D.b ?_), rfl⟩ | refine ⟨rfl, rfl, congrArg some (congrArg (D.k _) ?_), rfl⟩ | refine ⟨rfl, rfl, congrArg some (congrArg D.agg ?_), rfl⟩ | refine ⟨rfl, rfl, rfl, ?_⟩
  all_goals first | rfl | (simp_all []; done) | (simp [] <;> (repeat' split) <;> omega) | (rw [Bool.eq_iff_iff]; simp [*] <;> omega)
theorem logOver_bnd {o : Ovr} {ops : List Opn} : BndV (logOver o ops).1 := by
  rcases over_cases o ops with ⟨t, v, hg, h1, h2, h3⟩ | ⟨hg, hbad⟩
  · have hx : logOver o ops = overRun o ops := by rw [logOver, hg]; rfl
    rw [hx]
    exact bndV_ok (over_run ops h2).1
  · have hx : logOver o ops = (ov0, []) := by rw [logOver, hg]; rfl
    rw [hx]
    exact bndV_0
theorem logOver_len (o : Ovr) (ops : List Opn) : (logOver o ops).2.length ≤ 30 := by
  rcases over_cases o ops with ⟨t, v, hg, h1, h2, h3⟩ | ⟨hg, hbad⟩
  · have hx : logOver o ops = overRun o ops := by rw [logOver, hg]; rfl
    rw [hx, overRun_len]
    exact h3
  · have hx : logOver o ops = (ov0, []) := by rw [logOver, hg]; rfl
    rw [hx]
    exact Nat.zero_le _
theorem overRun_ok {o : Ovr} {t v : List Ent} {ops : List Opn} (h : overT o = some (t, v)) (hl : ops.length ≤ 30) : logOver o ops = overRun o ops := by
  have hb : overBad o ops = false := by unfold overBad overOk; rw [h]; simp; omega
  rw [logOver, hb]
  rfl
end Go.Proofs.YtoaiplobfellaaaGreatDoor
