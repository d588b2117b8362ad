/- Contracts: logs. -/
import Derived.Test.YtoaiplobfellaaaGreatDoorQLy
import Derived.Test.YtoaiplobfellaaaGreatDoorQLo
import Derived.Test.YtoaiplobfellaaaGreatDoorQLw
import Derived.Test.YtoaiplobfellaaaGreatDoorQPs
import Derived.Shelf.SlicesQ.Reverse
set_option linter.unusedSimpArgs false
set_option linter.unusedVariables false
set_option maxHeartbeats 1000000
set_option maxRecDepth 10000
namespace Go.Proofs.YtoaiplobfellaaaGreatDoor
open Go Go.RowKit Go.Ab Go.Par
variable {m : Int}
abbrev ints (l : List Int) : List (List D) := l.map fun n => [.k .i64 n]
theorem ints_snoc (A : List Int) (x : Int) : ints A ++ [[.k .i64 x]] = ints (A ++ [x]) := by simp [ints]
theorem ops_snoc (A : List Opn) (x : Opn) : A.map Opn.c ++ [[.k .i64 x.kind, .s x.path, .s x.to, .s x.data]] = (A ++ [x]).map Opn.c := by rw [List.map_append]; rfl
theorem bE0 {t : List Ent} (h : treeOk t = true) : ∀ e ∈ t, e.path.length ≤ 1073741824 ∧ e.data.length ≤ 1073741824 := fun e he => by
  have := entOk_len (treeOk_ent h e he); omega
abbrev bndO (n : Nat) (o : Opn) : Prop := o.path.length ≤ n ∧ o.to.length ≤ n ∧ o.data.length ≤ n
theorem log_cases (t : List Ent) (ops : List Opn) : (logBad t ops = false ∧ treeOk t = true ∧ ops.length ≤ 30) ∨ (logBad t ops = true ∧ (treeOk t = false ∨ (treeOk t = true ∧ ¬ ops.length ≤ 30))) := by
  unfold logBad
  cases treeOk t with
  | false => simp
  | true => by_cases h : ops.length ≤ 30 <;> simp [h] <;> omega
theorem run_cons (t : List Ent) (o : Opn) (r : List Opn) : logRun t (o :: r) = ((logRun (treeDo t o).1 r).1, (treeDo t o).2 :: (logRun (treeDo t o).1 r).2) := rfl
theorem iLogDo_con (t : List Ent) (ops : List Opn) (hb : ∀ e ∈ t, e.path.length ≤ 1073741824 ∧ e.data.length ≤ 1073741824) (ho : ∀ o ∈ ops, bndO 1073741823 o) (hl : ops.length ≤ 1048576) :
    Con (E m) 30 0 [.sl (t.map Ent.c), .sl (ops.map Opn.c)] [] (.tup [.own 0, .own 1]) [(0, .own 76 ((logDo t ops).1.map Ent.c)), (1, .own 3 (ints (logDo t ops).2))] := by
  have c1 := iTreeOk_con (m := m) t hb
  have e1 : (ops.map Opn.c).length = ops.length := List.length_map ..
  rcases log_cases t ops with ⟨hg, h1, h2⟩ | ⟨hg, h1 | ⟨h1, h2⟩⟩
  · rw [h1] at c1
    have hx : logDo t ops = logRun t ops := by rw [logDo, hg]; rfl
    rw [hx]
    have hlt := treeOk_len h1
    have c2 := copyEnts_con (m := m) t (by omega)
    refine con_of_cd tyOk mix Tryz.func30 rfl rfl rfl (Nat.le_of_ble_eq_true rfl) ?_
    repeat' first | refine Ra ⟨?_⟩ | ((first | refine Rc [] 0 rfl rfl (c1) ?_ | refine Rc [] 1 rfl rfl (c2) ?_ | (refine bd (fun h => ?_) (fun h => ?_) <;> (try simp only [List.length_map] at h)) | refine bsplit.mk (fun h => ?_) (fun h => ?_)) <;> conv => whnf) | refine Rb ⟨?_⟩ | fail
    refine Cd.loop2 (fun mq tm S nx => ∃ (i : Nat) (now : List Ent) (cs : List Int), mq = (ops.length - i) ∧ tm = [(6, .own 0), (7, .own 1), (22, .sl (ops.map Opn.c)), (23, .k .i64 ((ops.map Opn.c).length : Int)), (24, .k .i64 i)] ∧ S = [(0, .own 76 (now.map Ent.c)), (1, .own 3 (ints cs))] ∧ nx = 2 ∧ (i ≤ ops.length) ∧ (treeOk now = true) ∧ (logRun t ops = ((logRun now (ops.drop i)).1, cs ++ (logRun now (ops.drop i)).2)) ∧ (cs.length = i)) ?_ ?_
    · refine la [6, 7, 22, 23, 24] ?_
      conv => whnf
      refine ⟨rfl, rfl, _, 0, t, [], rfl, rfl, rfl, rfl, by omega, h1, by simp, by simp⟩
    · rintro mq tm S nx ⟨i, now, cs, hn, rfl, rfl, rfl, hi, hnow, hrun, hcl⟩
      have e2 : (ints cs).length = cs.length := List.length_map ..
      rcases drop_or ops i hi with ⟨rfl, hd⟩ | ⟨x, r, hx', hd, hr, hlt2⟩
      · rw [hd] at hrun
        have hrun2 : logRun t ops = (now, cs) := by rw [hrun]; simp [logRun]
        rw [hrun2]
        repeat' first | refine Ra ⟨?_⟩ | ((first | (refine bd (fun h => ?_) (fun h => ?_) <;> (try simp only [List.length_map] at h)) | refine bsplit.mk (fun h => ?_) (fun h => ?_)) <;> conv => whnf) | refine Rb ⟨?_⟩ | fail
        exact Rf
      · have hbx := ho x (List.mem_of_getElem? hx')
        have c3 := iTreeDo_con (m := m) now x (bE0 hnow) hbx.1 hbx.2.1 hbx.2.2
        have hok := treeDo_ok hnow x
        rw [hd, run_cons] at hrun
        generalize treeDo now x = T at c3 hok hrun
        repeat' first | refine Ra ⟨?_⟩ | ((first | refine Rc [] 1 rfl rfl (c3) ?_ | (refine bd (fun h => ?_) (fun h => ?_) <;> (try simp only [List.length_map] at h)) | refine bsplit.mk (fun h => ?_) (fun h => ?_)) <;> conv => whnf) | refine Rb ⟨?_⟩ | fail
        refine .here ⟨mq - 1, by omega, ?_⟩
        refine la [6, 7, 22, 23, 24] ?_
        conv => whnf
        refine ⟨rfl, rfl, i + 1, T.1, cs ++ [T.2], (by omega), rfl, ?_, rfl, by omega, hok, (by rw [hrun, hr]; simp), (by simp; omega)⟩
        rw [← ints_snoc]
        rfl
  · rw [h1] at c1
    have hx : logDo t ops = ([], []) := by rw [logDo, hg]; rfl
    rw [hx]
    refine con_of_cd tyOk mix Tryz.func30 rfl rfl rfl (Nat.le_of_ble_eq_true rfl) ?_
    repeat' first | refine Ra ⟨?_⟩ | ((first | refine Rc [] 0 rfl rfl (c1) ?_ | (refine bd (fun h => ?_) (fun h => ?_) <;> (try simp only [List.length_map] at h)) | refine bsplit.mk (fun h => ?_) (fun h => ?_)) <;> conv => whnf) | refine Rb ⟨?_⟩ | fail
    exact Rf
  · rw [h1] at c1
    have hx : logDo t ops = ([], []) := by rw [logDo, hg]; rfl
    rw [hx]
    refine con_of_cd tyOk mix Tryz.func30 rfl rfl rfl (Nat.le_of_ble_eq_true rfl) ?_
    repeat' first | refine Ra ⟨?_⟩ | ((first | refine Rc [] 0 rfl rfl (c1) ?_ | (refine bd (fun h => ?_) (fun h => ?_) <;> (try simp only [List.length_map] at h)) | refine bsplit.mk (fun h => ?_) (fun h => ?_)) <;> conv => whnf) | refine Rb ⟨?_⟩ | fail
    exact Rf
/-- what undoes each, in order -/
def fwdRun : List Ent → List Opn → List Opn
  | _, [] => []
  | t, o :: r => (opBack t o).getD op0 :: fwdRun (treeDo t o).1 r
def Opn.v (o : Opn) : List Value := [.int .i64 o.kind, vS o.path, vS o.to, vS o.data]
instance : Inhabited Opn := ⟨op0⟩
theorem wpCodes_con (t u : List Int) (ht : t.length ≤ 1048576) (hu : u.length ≤ 1048576) : Con (E m) 33 0 [.sl (ints t), .sl (ints u)] [] (.b (decide (t = u))) [] := by
  have e1 : (ints t).length = t.length := List.length_map ..
  have e2 : (ints u).length = u.length := List.length_map ..
  by_cases hl : t.length = u.length
  · refine con_of_cd tyOk mix Tryz.func33 rfl rfl rfl (Nat.le_of_ble_eq_true rfl) ?_
    repeat' first | refine Ra ⟨?_⟩ | ((first | (refine bd (fun h => ?_) (fun h => ?_) <;> (try simp only [List.length_map] at h)) | refine bsplit.mk (fun h => ?_) (fun h => ?_)) <;> conv => whnf) | refine Rb ⟨?_⟩ | fail
    refine Cd.loop2 (fun mq tm S nx => ∃ (i : Nat), mq = (t.length - i) ∧ tm = [(0, .sl (ints t)), (1, .sl (ints u)), (5, .k .i64 i)] ∧ S = [] ∧ nx = 0 ∧ (i ≤ t.length) ∧ (t.take i = u.take i)) ?_ ?_
    · refine la [0, 1, 5] ?_
      conv => whnf
      refine ⟨rfl, rfl, _, 0, rfl, rfl, rfl, rfl, by omega, rfl⟩
    · rintro mq tm S nx ⟨i, hn, rfl, rfl, rfl, hi, ha⟩
      by_cases hlt : i < t.length
      · have g1 : t[i]? = some t[i] := List.getElem?_eq_getElem hlt
        have g2 : u[i]? = some (u[i]'(by omega)) := List.getElem?_eq_getElem (by omega)
        generalize t[i] = x at g1
        generalize u[i]'(by omega) = y at g2
        by_cases hxy : x = y
        · subst hxy
          repeat' first | refine Ra ⟨?_⟩ | ((first | (refine bd (fun h => ?_) (fun h => ?_) <;> (try simp only [List.length_map] at h)) | refine bsplit.mk (fun h => ?_) (fun h => ?_)) <;> conv => whnf) | refine Rb ⟨?_⟩ | fail
          refine .here ⟨mq - 1, by omega, ?_⟩
          refine la [0, 1, 5] ?_
          conv => whnf
          refine ⟨rfl, rfl, i + 1, (by omega), rfl, rfl, rfl, by omega, take_step g1 g2 ha⟩
        · have e4 : decide (t = u) = false := decide_eq_false (ne_at g1 g2 hxy)
          rw [e4]
          repeat' first | refine Ra ⟨?_⟩ | ((first | (refine bd (fun h => ?_) (fun h => ?_) <;> (try simp only [List.length_map] at h)) | refine bsplit.mk (fun h => ?_) (fun h => ?_)) <;> conv => whnf) | refine Rb ⟨?_⟩ | fail
          exact Rf
      · have e4 : decide (t = u) = true := decide_eq_true (take_all hl (by omega) ha)
        rw [e4]
        repeat' first | refine Ra ⟨?_⟩ | ((first | (refine bd (fun h => ?_) (fun h => ?_) <;> (try simp only [List.length_map] at h)) | refine bsplit.mk (fun h => ?_) (fun h => ?_)) <;> conv => whnf) | refine Rb ⟨?_⟩ | fail
        exact Rf
  · have e4 : decide (t = u) = false := decide_eq_false (fun h => hl (by rw [h]))
    rw [e4]
    refine con_of_cd tyOk mix Tryz.func33 rfl rfl rfl (Nat.le_of_ble_eq_true rfl) ?_
    repeat' first | refine Ra ⟨?_⟩ | ((first | (refine bd (fun h => ?_) (fun h => ?_) <;> (try simp only [List.length_map] at h)) | refine bsplit.mk (fun h => ?_) (fun h => ?_)) <;> conv => whnf) | refine Rb ⟨?_⟩ | fail
    exact Rf
end Go.Proofs.YtoaiplobfellaaaGreatDoor
