/- Contracts: logs. -/
import Derived.Test.YtoaiplobfellaaaGreatDoorRLy
import Derived.Test.YtoaiplobfellaaaGreatDoorRLo
import Derived.Test.YtoaiplobfellaaaGreatDoorRLw
import Derived.Test.YtoaiplobfellaaaGreatDoorRPs
import Derived.Shelf.SlicesQ.Reverse
set_option linter.unusedSimpArgs false
set_option linter.unusedVariables false
set_option maxHeartbeats 1000000
set_option maxRecDepth 10000
namespace Go.Proofs.YtoaiplobfellaaaGreatDoor
open Go Go.RowKit Go.Ab Go.Par
variable {m : Int}
abbrev ints (l : List Int) : List (List D) := l.map fun n => [.k .i64 n]
theorem ints_snoc (A : List Int) (x : Int) : ints A ++ [[.k .i64 x]] = ints (A ++ [x]) := by simp [ints]
theorem ops_snoc (A : List Opn) (x : Opn) : A.map Opn.c ++ [[.k .i64 x.kind, .s x.path, .s x.to, .s x.data]] = (A ++ [x]).map Opn.c := by rw [List.map_append]; rfl
theorem bE0 {t : List Ent} (h : treeOk t = true) : ∀ e ∈ t, e.path.length ≤ 1073741824 ∧ e.data.length ≤ 1073741824 := fun e he => by
  have := entOk_len (treeOk_ent h e he); omega
abbrev bndO (n : Nat) (o : Opn) : Prop := o.path.length ≤ n ∧ o.to.length ≤ n ∧ o.data.length ≤ n
theorem opD_eq (o : Option Opn) : opD o = .tup [.agg (o.getD op0).c, .b o.isSome] := by cases o <;> rfl
theorem iOpBack_con (t : List Ent) (o : Opn) (hb : ∀ e ∈ t, e.path.length ≤ 1073741824 ∧ e.data.length ≤ 1073741824) (ho : bndO 1073741823 o) : Con (E m) 26 0 [.sl (t.map Ent.c), .agg o.c] [] (opD (opBack t o)) [] := by
  have c1 := iTreeDo_con (m := m) t o hb ho.1 ho.2.1 ho.2.2
  unfold opBack
  by_cases hc : (treeDo t o).2 = 0
  · rw [if_pos hc]
    obtain ⟨h1, h2, _, _⟩ := treeDo_zero.1 (code_zero' hc)
    have c2 := iGet_con (m := m) t o.path hb
    rw [hc] at c1
    rw [h1, if_pos rfl] at c2
    generalize (treeDo t o).1 = u at c1
    unfold backV
    rcases kinds h2 with hk | hk | hk | hk | hk
    · rw [if_neg (by omega), if_pos hk]
      refine con_of_cd tyOk mix Tryz.func26 rfl rfl rfl (Nat.le_of_ble_eq_true rfl) ?_
      repeat' first | refine Ra ⟨?_⟩ | ((first | refine Rc [] 1 rfl rfl (c1) ?_ | (refine bd (fun h => ?_) (fun h => ?_) <;> (try simp only [List.length_map] at h)) | refine bsplit.mk (fun h => ?_) (fun h => ?_)) <;> conv => whnf) | refine Rb ⟨?_⟩ | fail
      exact Rf
    · rw [if_neg (by omega), if_neg (by omega), if_neg (by omega)]
      cases he : entGet t o.path with
      | none =>
        rw [he] at c2
        rw [Option.isSome_none, if_neg (by simp)]
        refine con_of_cd tyOk mix Tryz.func26 rfl rfl rfl (Nat.le_of_ble_eq_true rfl) ?_
        repeat' first | refine Ra ⟨?_⟩ | ((first | refine Rc [] 1 rfl rfl (c1) ?_ | refine Rc [] 0 rfl rfl (c2) ?_ | (refine bd (fun h => ?_) (fun h => ?_) <;> (try simp only [List.length_map] at h)) | refine bsplit.mk (fun h => ?_) (fun h => ?_)) <;> conv => whnf) | refine Rb ⟨?_⟩ | fail
        exact Rf
      | some e =>
        rw [he] at c2
        rw [Option.isSome_some, if_pos rfl, Option.getD_some]
        refine con_of_cd tyOk mix Tryz.func26 rfl rfl rfl (Nat.le_of_ble_eq_true rfl) ?_
        repeat' first | refine Ra ⟨?_⟩ | ((first | refine Rc [] 1 rfl rfl (c1) ?_ | refine Rc [] 0 rfl rfl (c2) ?_ | (refine bd (fun h => ?_) (fun h => ?_) <;> (try simp only [List.length_map] at h)) | refine bsplit.mk (fun h => ?_) (fun h => ?_)) <;> conv => whnf) | refine Rb ⟨?_⟩ | fail
        exact Rf
    · rw [if_neg (by omega), if_neg (by omega), if_neg (by omega)]
      cases he : entGet t o.path with
      | none =>
        rw [he] at c2
        rw [Option.isSome_none, if_neg (by simp)]
        refine con_of_cd tyOk mix Tryz.func26 rfl rfl rfl (Nat.le_of_ble_eq_true rfl) ?_
        repeat' first | refine Ra ⟨?_⟩ | ((first | refine Rc [] 1 rfl rfl (c1) ?_ | refine Rc [] 0 rfl rfl (c2) ?_ | (refine bd (fun h => ?_) (fun h => ?_) <;> (try simp only [List.length_map] at h)) | refine bsplit.mk (fun h => ?_) (fun h => ?_)) <;> conv => whnf) | refine Rb ⟨?_⟩ | fail
        exact Rf
      | some e =>
        rw [he] at c2
        rw [Option.isSome_some, if_pos rfl, Option.getD_some]
        refine con_of_cd tyOk mix Tryz.func26 rfl rfl rfl (Nat.le_of_ble_eq_true rfl) ?_
        repeat' first | refine Ra ⟨?_⟩ | ((first | refine Rc [] 1 rfl rfl (c1) ?_ | refine Rc [] 0 rfl rfl (c2) ?_ | (refine bd (fun h => ?_) (fun h => ?_) <;> (try simp only [List.length_map] at h)) | refine bsplit.mk (fun h => ?_) (fun h => ?_)) <;> conv => whnf) | refine Rb ⟨?_⟩ | fail
        exact Rf
    · rw [if_neg (by omega), if_neg (by omega), if_pos hk]
      refine con_of_cd tyOk mix Tryz.func26 rfl rfl rfl (Nat.le_of_ble_eq_true rfl) ?_
      repeat' first | refine Ra ⟨?_⟩ | ((first | refine Rc [] 1 rfl rfl (c1) ?_ | (refine bd (fun h => ?_) (fun h => ?_) <;> (try simp only [List.length_map] at h)) | refine bsplit.mk (fun h => ?_) (fun h => ?_)) <;> conv => whnf) | refine Rb ⟨?_⟩ | fail
      exact Rf
    · rw [if_pos hk]
      refine con_of_cd tyOk mix Tryz.func26 rfl rfl rfl (Nat.le_of_ble_eq_true rfl) ?_
      repeat' first | refine Ra ⟨?_⟩ | ((first | refine Rc [] 1 rfl rfl (c1) ?_ | (refine bd (fun h => ?_) (fun h => ?_) <;> (try simp only [List.length_map] at h)) | refine bsplit.mk (fun h => ?_) (fun h => ?_)) <;> conv => whnf) | refine Rb ⟨?_⟩ | fail
      exact Rf
  · rw [if_neg hc]
    refine con_of_cd tyOk mix Tryz.func26 rfl rfl rfl (Nat.le_of_ble_eq_true rfl) ?_
    repeat' first | refine Ra ⟨?_⟩ | ((first | refine Rc [] 1 rfl rfl (c1) ?_ | (refine bd (fun h => ?_) (fun h => ?_) <;> (try simp only [List.length_map] at h)) | refine bsplit.mk (fun h => ?_) (fun h => ?_)) <;> conv => whnf) | refine Rb ⟨?_⟩ | fail
    exact Rf
theorem log_cases (t : List Ent) (ops : List Opn) : (logBad t ops = false ∧ treeOk t = true ∧ ops.length ≤ 30) ∨ (logBad t ops = true ∧ (treeOk t = false ∨ (treeOk t = true ∧ ¬ ops.length ≤ 30))) := by
  unfold logBad
  cases treeOk t with
  | false => simp
  | true => by_cases h : ops.length ≤ 30 <;> simp [h] <;> omega
theorem run_cons (t : List Ent) (o : Opn) (r : List Opn) : logRun t (o :: r) = ((logRun (treeDo t o).1 r).1, (treeDo t o).2 :: (logRun (treeDo t o).1 r).2) := rfl
theorem iLogDo_con (t : List Ent) (ops : List Opn) (hb : ∀ e ∈ t, e.path.length ≤ 1073741824 ∧ e.data.length ≤ 1073741824) (ho : ∀ o ∈ ops, bndO 1073741823 o) (hl : ops.length ≤ 1048576) :
    Con (E m) 30 0 [.sl (t.map Ent.c), .sl (ops.map Opn.c)] [] (.tup [.own 0, .own 1]) [(0, .own 76 ((logDo t ops).1.map Ent.c)), (1, .own 3 (ints (logDo t ops).2))] := by
  have c1 := iTreeOk_con (m := m) t hb
  have e1 : (ops.map Opn.c).length = ops.length := List.length_map ..
  rcases log_cases t ops with ⟨hg, h1, h2⟩ | ⟨hg, h1 | ⟨h1, h2⟩⟩
  · rw [h1] at c1
    have hx : logDo t ops = logRun t ops := by rw [logDo, hg]; rfl
    rw [hx]
    have hlt := treeOk_len h1
    have c2 := copyEnts_con (m := m) t (by omega)
    refine con_of_cd tyOk mix Tryz.func30 rfl rfl rfl (Nat.le_of_ble_eq_true rfl) ?_
    repeat' first | refine Ra ⟨?_⟩ | ((first | refine Rc [] 0 rfl rfl (c1) ?_ | refine Rc [] 1 rfl rfl (c2) ?_ | (refine bd (fun h => ?_) (fun h => ?_) <;> (try simp only [List.length_map] at h)) | refine bsplit.mk (fun h => ?_) (fun h => ?_)) <;> conv => whnf) | refine Rb ⟨?_⟩ | fail
    refine Cd.loop2 (fun mq tm S nx => ∃ (i : Nat) (now : List Ent) (cs : List Int), mq = (ops.length - i) ∧ tm = [(6, .own 0), (7, .own 1), (22, .sl (ops.map Opn.c)), (23, .k .i64 ((ops.map Opn.c).length : Int)), (24, .k .i64 i)] ∧ S = [(0, .own 76 (now.map Ent.c)), (1, .own 3 (ints cs))] ∧ nx = 2 ∧ (i ≤ ops.length) ∧ (treeOk now = true) ∧ (logRun t ops = ((logRun now (ops.drop i)).1, cs ++ (logRun now (ops.drop i)).2)) ∧ (cs.length = i)) ?_ ?_
    · refine la [6, 7, 22, 23, 24] ?_
      conv => whnf
      refine ⟨rfl, rfl, _, 0, t, [], rfl, rfl, rfl, rfl, by omega, h1, by simp, by simp⟩
    · rintro mq tm S nx ⟨i, now, cs, hn, rfl, rfl, rfl, hi, hnow, hrun, hcl⟩
      have e2 : (ints cs).length = cs.length := List.length_map ..
      rcases drop_or ops i hi with ⟨rfl, hd⟩ | ⟨x, r, hx', hd, hr, hlt2⟩
      · rw [hd] at hrun
        have hrun2 : logRun t ops = (now, cs) := by rw [hrun]; simp [logRun]
        rw [hrun2]
        repeat' first | refine Ra ⟨?_⟩ | ((first | (refine bd (fun h => ?_) (fun h => ?_) <;> (try simp only [List.length_map] at h)) | refine bsplit.mk (fun h => ?_) (fun h => ?_)) <;> conv => whnf) | refine Rb ⟨?_⟩ | fail
        exact Rf
      · have hbx := ho x (List.mem_of_getElem? hx')
        have c3 := iTreeDo_con (m := m) now x (bE0 hnow) hbx.1 hbx.2.1 hbx.2.2
        have hok := treeDo_ok hnow x
        rw [hd, run_cons] at hrun
        generalize treeDo now x = T at c3 hok hrun
        repeat' first | refine Ra ⟨?_⟩ | ((first | refine Rc [] 1 rfl rfl (c3) ?_ | (refine bd (fun h => ?_) (fun h => ?_) <;> (try simp only [List.length_map] at h)) | refine bsplit.mk (fun h => ?_) (fun h => ?_)) <;> conv => whnf) | refine Rb ⟨?_⟩ | fail
        refine .here ⟨mq - 1, by omega, ?_⟩
        refine la [6, 7, 22, 23, 24] ?_
        conv => whnf
        refine ⟨rfl, rfl, i + 1, T.1, cs ++ [T.2], (by omega), rfl, ?_, rfl, by omega, hok, (by rw [hrun, hr]; simp), (by simp; omega)⟩
        rw [← ints_snoc]
        rfl
  · rw [h1] at c1
    have hx : logDo t ops = ([], []) := by rw [logDo, hg]; rfl
    rw [hx]
    refine con_of_cd tyOk mix Tryz.func30 rfl rfl rfl (Nat.le_of_ble_eq_true rfl) ?_
    repeat' first | refine Ra ⟨?_⟩ | ((first | refine Rc [] 0 rfl rfl (c1) ?_ | (refine bd (fun h => ?_) (fun h => ?_) <;> (try simp only [List.length_map] at h)) | refine bsplit.mk (fun h => ?_) (fun h => ?_)) <;> conv => whnf) | refine Rb ⟨?_⟩ | fail
    exact Rf
  · rw [h1] at c1
    have hx : logDo t ops = ([], []) := by rw [logDo, hg]; rfl
    rw [hx]
    refine con_of_cd tyOk mix Tryz.func30 rfl rfl rfl (Nat.le_of_ble_eq_true rfl) ?_
    repeat' first | refine Ra ⟨?_⟩ | ((first | refine Rc [] 0 rfl rfl (c1) ?_ | (refine bd (fun h => ?_) (fun h => ?_) <;> (try simp only [List.length_map] at h)) | refine bsplit.mk (fun h => ?_) (fun h => ?_)) <;> conv => whnf) | refine Rb ⟨?_⟩ | fail
    exact Rf
theorem code_get {t : List Ent} {ops : List Opn} {i : Nat} {o : Opn} (h : ops[i]? = some o) : (logRun t ops).2[i]? = some (treeDo (logRun t (ops.take i)).1 o).2 := by
  have hi := (List.getElem?_eq_some_iff.1 h).1
  have h1 : ops = ops.take i ++ (o :: ops.drop (i + 1)) := by
    conv => lhs; rw [← List.take_append_drop i ops]
    rw [List.drop_eq_getElem_cons hi]
    rw [List.getElem?_eq_getElem hi] at h
    rw [Option.some.inj h]
  conv => lhs; rw [h1, run_app]
  have h2 : (logRun t (ops.take i)).2.length = i := by rw [run_len, List.length_take]; omega
  simp only
  rw [List.getElem?_append_right (by omega), h2, Nat.sub_self]
  rfl
theorem clean_step {t : List Ent} {ops : List Opn} {i : Nat} {o : Opn} {c : Int} (h : ops[i]? = some o) (hc : (logRun t ops).2[i]? = some c) : cleanRun t (ops.take (i + 1)) = cleanRun t (ops.take i) ++ if c = 0 then [o] else [] := by
  rw [code_get h] at hc
  cases hc
  rw [List.take_add_one, h, Option.toList_some, clean_app]
  rfl
theorem clean_len : ∀ (ops : List Opn) (t : List Ent), (cleanRun t ops).length ≤ ops.length
  | [], t => Nat.le_refl _
  | o :: r, t => by
    have := clean_len r (treeDo t o).1
    unfold cleanRun
    split
    · simp; omega
    · simp; omega
theorem clean_mem : ∀ {ops : List Opn} {t : List Ent} {o : Opn}, o ∈ cleanRun t ops → o ∈ ops
  | [], t, o, h => by simp [cleanRun] at h
  | x :: r, t, o, h => by
    unfold cleanRun at h
    split at h
    · rcases List.mem_cons.1 h with h | h
      · simp [h]
      · simp [clean_mem h]
    · simp [clean_mem h]
theorem logClean_mem {ops : List Opn} {t : List Ent} {o : Opn} (h : o ∈ logClean t ops) : o ∈ ops := by
  unfold logClean at h
  split at h
  · cases h
  · exact clean_mem h
theorem logClean_len (t : List Ent) (ops : List Opn) : (logClean t ops).length ≤ 30 := by
  unfold logClean
  cases h : logBad t ops with
  | true => simp
  | false =>
    have := clean_len ops t
    have := (logBad_iff.1 h).2
    simp only [Bool.false_eq_true, if_false]
    omega
theorem logDo_len (t : List Ent) (ops : List Opn) : (logDo t ops).1.length ≤ 16 ∧ (logDo t ops).2.length ≤ 30 := by
  unfold logDo
  cases h : logBad t ops with
  | true => simp
  | false =>
    have h1 := (logBad_iff.1 h)
    have h2 := treeOk_len (run_ok ops h1.1)
    have h3 := run_len ops t
    simp only [Bool.false_eq_true, if_false]
    omega
theorem iLogClean_con (t : List Ent) (ops : List Opn) (hb : ∀ e ∈ t, e.path.length ≤ 1073741824 ∧ e.data.length ≤ 1073741824) (ho : ∀ o ∈ ops, bndO 1073741823 o) (hl : ops.length ≤ 1048576) :
    Con (E m) 39 0 [.sl (t.map Ent.c), .sl (ops.map Opn.c)] [] (.own 0) [(0, .own 27 ((logClean t ops).map Opn.c))] := by
  have c1 := iLogDo_con (m := m) t ops hb ho hl
  have hlen := logDo_len t ops
  have e1 : (ints (logDo t ops).2).length = (logDo t ops).2.length := List.length_map ..
  have hcs : logBad t ops = false → (logDo t ops).2 = (logRun t ops).2 := fun h => by rw [logDo, h]; rfl
  have hcs0 : logBad t ops = true → (logDo t ops).2 = [] := fun h => by rw [logDo, h]; rfl
  generalize (logDo t ops).1 = u at c1
  generalize (logDo t ops).2 = cs at c1 hlen e1 hcs hcs0
  cases hg : logBad t ops with
  | true =>
    have hz := hcs0 hg
    subst hz
    have hx : logClean t ops = [] := by rw [logClean, hg]; rfl
    rw [hx]
    refine con_of_cd tyOk mix Tryz.func39 rfl rfl rfl (Nat.le_of_ble_eq_true rfl) ?_
    repeat' first | refine Ra ⟨?_⟩ | ((first | refine Rc [] 2 rfl rfl (c1) ?_ | (refine bd (fun h => ?_) (fun h => ?_) <;> (try simp only [List.length_map] at h)) | refine bsplit.mk (fun h => ?_) (fun h => ?_)) <;> conv => whnf) | refine Rb ⟨?_⟩ | fail
    refine Cd.loop2 (fun mq tm S nx => mq = (0) ∧ tm = [(1, .sl (ops.map Opn.c)), (7, .own 0), (16, .sl []), (17, .k .i64 0), (18, .k .i64 0)] ∧ S = [(0, .own 27 [])] ∧ nx = 1) ?_ ?_
    · refine li [16] [1, 7, 16, 17, 18] ?_
      conv => whnf
      refine ⟨rfl, rfl, _, rfl, rfl, rfl, rfl⟩
    · rintro mq tm S nx ⟨hn, rfl, rfl, rfl⟩
      repeat' first | refine Ra ⟨?_⟩ | ((first | (refine bd (fun h => ?_) (fun h => ?_) <;> (try simp only [List.length_map] at h)) | refine bsplit.mk (fun h => ?_) (fun h => ?_)) <;> conv => whnf) | refine Rb ⟨?_⟩ | fail
      exact Rf
  | false =>
    have hx : logClean t ops = cleanRun t ops := by rw [logClean, hg]; rfl
    rw [hx]
    have hz := hcs hg
    have hcl : cs.length = ops.length := by rw [hz, run_len]
    have hst := fun i o c h1 h2 => clean_step (t := t) (ops := ops) (i := i) (o := o) (c := c) h1 h2
    rw [← hz] at hst
    refine con_of_cd tyOk mix Tryz.func39 rfl rfl rfl (Nat.le_of_ble_eq_true rfl) ?_
    repeat' first | refine Ra ⟨?_⟩ | ((first | refine Rc [] 2 rfl rfl (c1) ?_ | (refine bd (fun h => ?_) (fun h => ?_) <;> (try simp only [List.length_map] at h)) | refine bsplit.mk (fun h => ?_) (fun h => ?_)) <;> conv => whnf) | refine Rb ⟨?_⟩ | fail
    refine Cd.loop2 (fun mq tm S nx => ∃ (i : Nat) (A : List Opn), mq = (cs.length - i) ∧ tm = [(1, .sl (ops.map Opn.c)), (7, .own 0), (16, .sl (ints cs)), (17, .k .i64 ((ints cs).length : Int)), (18, .k .i64 i)] ∧ S = [(0, .own 27 (A.map Opn.c))] ∧ nx = 1 ∧ (i ≤ cs.length) ∧ (A = cleanRun t (ops.take i)) ∧ (A.length ≤ i)) ?_ ?_
    · refine li [16] [1, 7, 16, 17, 18] ?_
      conv => whnf
      refine ⟨rfl, rfl, _, 0, [], rfl, rfl, rfl, rfl, by omega, by simp [cleanRun], by simp⟩
    · rintro mq tm S nx ⟨i, A, hn, rfl, rfl, rfl, hi, hA, hAl⟩
      have e2 : (A.map Opn.c).length = A.length := List.length_map ..
      by_cases hlt : i < cs.length
      · have g1 : cs[i]? = some cs[i] := List.getElem?_eq_getElem hlt
        have g2 : ops[i]? = some (ops[i]'(by omega)) := List.getElem?_eq_getElem (by omega)
        generalize cs[i] = c at g1
        generalize ops[i]'(by omega) = o at g2
        have g3 := hst i o c g2 g1
        by_cases hc : c = 0
        · rw [if_pos hc] at g3
          repeat' first | refine Ra ⟨?_⟩ | ((first | (refine bd (fun h => ?_) (fun h => ?_) <;> (try simp only [List.length_map] at h)) | refine bsplit.mk (fun h => ?_) (fun h => ?_)) <;> conv => whnf) | refine Rb ⟨?_⟩ | fail
          refine .here ⟨mq - 1, by omega, ?_⟩
          refine la [1, 7, 16, 17, 18] ?_
          conv => whnf
          refine ⟨rfl, rfl, i + 1, A ++ [o], (by omega), rfl, ?_, rfl, by omega, (by rw [g3, hA]), (by simp; omega)⟩
          rw [← ops_snoc]
          rfl
        · rw [if_neg hc, List.append_nil] at g3
          repeat' first | refine Ra ⟨?_⟩ | ((first | (refine bd (fun h => ?_) (fun h => ?_) <;> (try simp only [List.length_map] at h)) | refine bsplit.mk (fun h => ?_) (fun h => ?_)) <;> conv => whnf) | refine Rb ⟨?_⟩ | fail
          refine .here ⟨mq - 1, by omega, ?_⟩
          refine la [1, 7, 16, 17, 18] ?_
          conv => whnf
          refine ⟨rfl, rfl, i + 1, A, (by omega), rfl, rfl, rfl, by omega, (by rw [g3, hA]), by omega⟩
      · rw [List.take_of_length_le (by omega)] at hA
        rw [← hA]
        repeat' first | refine Ra ⟨?_⟩ | ((first | (refine bd (fun h => ?_) (fun h => ?_) <;> (try simp only [List.length_map] at h)) | refine bsplit.mk (fun h => ?_) (fun h => ?_)) <;> conv => whnf) | refine Rb ⟨?_⟩ | fail
        exact Rf
/-- what undoes each, in order -/
def fwdRun : List Ent → List Opn → List Opn
  | _, [] => []
  | t, o :: r => (opBack t o).getD op0 :: fwdRun (treeDo t o).1 r
theorem fwd_back : ∀ (ops : List Opn) (t : List Ent), (fwdRun t ops).reverse = backRun t ops
  | [], t => rfl
  | o :: r, t => by
    have ih := fwd_back r (treeDo t o).1
    simp only [fwdRun, backRun, List.reverse_cons, ih]
def Opn.v (o : Opn) : List Value := [.int .i64 o.kind, vS o.path, vS o.to, vS o.data]
instance : Inhabited Opn := ⟨op0⟩
theorem cellsO : Cells Opn.v Opn.c 4 where
  len _ := rfl
  lenD _ := rfl
  one x u hu := by
    simp only [Opn.v, List.mem_cons, List.not_mem_nil, or_false] at hu
    rcases hu with rfl | rfl | rfl | rfl <;> rfl
  rel w Av x j d hd := by
    match j, hd with
    | 0, hd => cases hd; exact ⟨_, rfl, .k _ _⟩
    | 1, hd => cases hd; exact ⟨_, rfl, .s _⟩
    | 2, hd => cases hd; exact ⟨_, rfl, .s _⟩
    | 3, hd => cases hd; exact ⟨_, rfl, .s _⟩
    | n + 4, hd => cases hd
  inv w Av x j d u hd hu := by
    match j, hd with
    | 0, hd => cases hd; cases hu; rfl
    | 1, hd => cases hd; cases hu; rfl
    | 2, hd => cases hd; cases hu; rfl
    | 3, hd => cases hd; cases hu; rfl
    | n + 4, hd => cases hd
theorem reverse_con (L : List Opn) (hl : L.length ≤ 1000000) : Con (E m) 108 1 [.own 0] [(0, .own 27 (L.map Opn.c))] (.tup []) [(0, .own 27 (L.reverse.map Opn.c))] :=
  con_turn0 cellsO (by decide) (by kernel_rfl) ⟨_, Tryz.func108, rfl, rfl⟩ (by simp)
    (fun _ w => AnyQ.slices_Reverse_empty Tryz.revO none 0 w)
    (fun b cap w hH hb => by
      refine (AnyQ.slices_Reverse Tryz.revO 4 Tryz.isAgg27 Tryz.sizeOf27 Opn.v cellsO.len cellsO.one b 0 cap L.toArray w hH (by simp; omega)).mono ?_
      rintro e w' ⟨he, n, rfl⟩
      refine ⟨he, n, #[], ?_⟩
      rw [List.reverse_toArray]
      unfold sortWorldK
      rw [Sort.grow_empty])
theorem iLogBack_con (t : List Ent) (ops : List Opn) (hb : ∀ e ∈ t, e.path.length ≤ 1073741824 ∧ e.data.length ≤ 1073741824) (hlt : t.length ≤ 1048576) (ho : ∀ o ∈ ops, bndO 1073741823 o) (hl : ops.length ≤ 1048576) :
    Con (E m) 45 0 [.sl (t.map Ent.c), .sl (ops.map Opn.c)] [] (.own 0) [(0, .own 27 ((logBack t ops).map Opn.c))] := by
  have c1 := copyEnts_con (m := m) t (by omega)
  have c2 := iLogClean_con (m := m) t ops hb ho hl
  have hC := logClean_len t ops
  have hCm := fun o h => logClean_mem (t := t) (ops := ops) (o := o) h
  have hx : logBack t ops = (fwdRun t (logClean t ops)).reverse := by rw [fwd_back]; rfl
  rw [hx]
  generalize logClean t ops = C at c2 hC hCm
  have e1 : (C.map Opn.c).length = C.length := List.length_map ..
  refine con_of_cd tyOk mix Tryz.func45 rfl rfl rfl (Nat.le_of_ble_eq_true rfl) ?_
  repeat' first | refine Ra ⟨?_⟩ | ((first | refine Rc [] 1 rfl rfl (c1) ?_ | refine Rc [] 1 rfl rfl (c2) ?_ | (refine bd (fun h => ?_) (fun h => ?_) <;> (try simp only [List.length_map] at h)) | refine bsplit.mk (fun h => ?_) (fun h => ?_)) <;> conv => whnf) | refine Rb ⟨?_⟩ | fail
  refine Cd.loop2 (fun mq tm S nx => ∃ (i : Nat) (now : List Ent) (U : List Opn), mq = (C.length - i) ∧ tm = [(5, .sl (now.map Ent.c)), (6, .own 0), (15, .sl (C.map Opn.c)), (16, .k .i64 ((C.map Opn.c).length : Int)), (17, .k .i64 i)] ∧ S = [(0, .own 27 (U.map Opn.c))] ∧ nx = 1 ∧ (i ≤ C.length) ∧ (∀ e ∈ now, e.path.length ≤ 1073741824 ∧ e.data.length ≤ 1073741824) ∧ (fwdRun t C = U ++ fwdRun now (C.drop i)) ∧ (U.length = i)) ?_ ?_
  · refine li [5, 15] [5, 6, 15, 16, 17] ?_
    conv => whnf
    refine ⟨rfl, rfl, _, 0, t, [], rfl, rfl, rfl, rfl, by omega, hb, by simp, by simp⟩
  · rintro mq tm S nx ⟨i, now, U, hn, rfl, rfl, rfl, hi, hnow, hU, hUl⟩
    have e2 : (U.map Opn.c).length = U.length := List.length_map ..
    rcases drop_or C i hi with ⟨rfl, hd⟩ | ⟨x, r, hx', hd, hr, hlt2⟩
    · rw [hd] at hU
      have hU2 : fwdRun t C = U := by rw [hU]; simp [fwdRun]
      rw [hU2]
      have c5 := reverse_con (m := m) U (by omega)
      repeat' first | refine Ra ⟨?_⟩ | ((first | refine Rc [0] 0 rfl rfl (c5) ?_ | (refine bd (fun h => ?_) (fun h => ?_) <;> (try simp only [List.length_map] at h)) | refine bsplit.mk (fun h => ?_) (fun h => ?_)) <;> conv => whnf) | refine Rb ⟨?_⟩ | fail
      exact Rf
    · have hbx := ho x (hCm x (List.mem_of_getElem? hx'))
      have c3 := iOpBack_con (m := m) now x hnow hbx
      have c4 := iTreeDo_con (m := m) now x hnow hbx.1 hbx.2.1 hbx.2.2
      have hnb : ∀ e ∈ (treeDo now x).1, e.path.length ≤ 1073741824 ∧ e.data.length ≤ 1073741824 := treeDo_bnd (n := 1073741824) (by omega) hnow (by omega) (by omega)
      rw [hd] at hU
      simp only [fwdRun] at hU
      rw [opD_eq] at c3
      generalize (opBack now x).isSome = bb at c3
      generalize (opBack now x).getD op0 = back at c3 hU
      generalize treeDo now x = T at c4 hnb hU
      repeat' first | refine Ra ⟨?_⟩ | ((first | refine Rc [] 0 rfl rfl (c3) ?_ | refine Rc [] 1 rfl rfl (c4) ?_ | (refine bd (fun h => ?_) (fun h => ?_) <;> (try simp only [List.length_map] at h)) | refine bsplit.mk (fun h => ?_) (fun h => ?_)) <;> conv => whnf) | refine Rb ⟨?_⟩ | fail
      refine .here ⟨mq - 1, by omega, ?_⟩
      refine li [5] [5, 6, 15, 16, 17] ?_
      conv => whnf
      refine ⟨rfl, rfl, i + 1, T.1, U ++ [back], (by omega), rfl, ?_, rfl, by omega, hnb, (by rw [hU, hr]; simp), (by simp; omega)⟩
      rw [← ops_snoc]
      rfl
theorem wpCodes_con (t u : List Int) (ht : t.length ≤ 1048576) (hu : u.length ≤ 1048576) : Con (E m) 33 0 [.sl (ints t), .sl (ints u)] [] (.b (decide (t = u))) [] := by
  have e1 : (ints t).length = t.length := List.length_map ..
  have e2 : (ints u).length = u.length := List.length_map ..
  by_cases hl : t.length = u.length
  · refine con_of_cd tyOk mix Tryz.func33 rfl rfl rfl (Nat.le_of_ble_eq_true rfl) ?_
    repeat' first | refine Ra ⟨?_⟩ | ((first | (refine bd (fun h => ?_) (fun h => ?_) <;> (try simp only [List.length_map] at h)) | refine bsplit.mk (fun h => ?_) (fun h => ?_)) <;> conv => whnf) | refine Rb ⟨?_⟩ | fail
    refine Cd.loop2 (fun mq tm S nx => ∃ (i : Nat), mq = (t.length - i) ∧ tm = [(0, .sl (ints t)), (1, .sl (ints u)), (5, .k .i64 i)] ∧ S = [] ∧ nx = 0 ∧ (i ≤ t.length) ∧ (t.take i = u.take i)) ?_ ?_
    · refine la [0, 1, 5] ?_
      conv => whnf
      refine ⟨rfl, rfl, _, 0, rfl, rfl, rfl, rfl, by omega, rfl⟩
    · rintro mq tm S nx ⟨i, hn, rfl, rfl, rfl, hi, ha⟩
      by_cases hlt : i < t.length
      · have g1 : t[i]? = some t[i] := List.getElem?_eq_getElem hlt
        have g2 : u[i]? = some (u[i]'(by omega)) := List.getElem?_eq_getElem (by omega)
        generalize t[i] = x at g1
        generalize u[i]'(by omega) = y at g2
        by_cases hxy : x = y
        · subst hxy
          repeat' first | refine Ra ⟨?_⟩ | ((first | (refine bd (fun h => ?_) (fun h => ?_) <;> (try simp only [List.length_map] at h)) | refine bsplit.mk (fun h => ?_) (fun h => ?_)) <;> conv => whnf) | refine Rb ⟨?_⟩ | fail
          refine .here ⟨mq - 1, by omega, ?_⟩
          refine la [0, 1, 5] ?_
          conv => whnf
          refine ⟨rfl, rfl, i + 1, (by omega), rfl, rfl, rfl, by omega, take_step g1 g2 ha⟩
        · have e4 : decide (t = u) = false := decide_eq_false (ne_at g1 g2 hxy)
          rw [e4]
          repeat' first | refine Ra ⟨?_⟩ | ((first | (refine bd (fun h => ?_) (fun h => ?_) <;> (try simp only [List.length_map] at h)) | refine bsplit.mk (fun h => ?_) (fun h => ?_)) <;> conv => whnf) | refine Rb ⟨?_⟩ | fail
          exact Rf
      · have e4 : decide (t = u) = true := decide_eq_true (take_all hl (by omega) ha)
        rw [e4]
        repeat' first | refine Ra ⟨?_⟩ | ((first | (refine bd (fun h => ?_) (fun h => ?_) <;> (try simp only [List.length_map] at h)) | refine bsplit.mk (fun h => ?_) (fun h => ?_)) <;> conv => whnf) | refine Rb ⟨?_⟩ | fail
        exact Rf
  · have e4 : decide (t = u) = false := decide_eq_false (fun h => hl (by rw [h]))
    rw [e4]
    refine con_of_cd tyOk mix Tryz.func33 rfl rfl rfl (Nat.le_of_ble_eq_true rfl) ?_
    repeat' first | refine Ra ⟨?_⟩ | ((first | (refine bd (fun h => ?_) (fun h => ?_) <;> (try simp only [List.length_map] at h)) | refine bsplit.mk (fun h => ?_) (fun h => ?_)) <;> conv => whnf) | refine Rb ⟨?_⟩ | fail
    exact Rf
end Go.Proofs.YtoaiplobfellaaaGreatDoor
