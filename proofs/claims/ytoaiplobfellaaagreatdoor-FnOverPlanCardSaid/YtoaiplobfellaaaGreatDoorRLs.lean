/- Contracts: merges, path by path. -/
import Derived.Test.YtoaiplobfellaaaGreatDoorRLe
import Derived.Test.YtoaiplobfellaaaGreatDoorRLj
import Derived.Test.YtoaiplobfellaaaGreatDoorRPk
set_option linter.unusedSimpArgs false
set_option linter.unusedVariables false
set_option maxHeartbeats 1000000
set_option maxRecDepth 10000
namespace Go.Proofs.YtoaiplobfellaaaGreatDoor
open Go Go.RowKit Go.Ab Go.Par
variable {m : Int}
theorem entD_eq (o : Option Ent) : entD o = .tup [.agg (o.getD ent0).c, .b o.isSome] := by cases o <;> rfl
abbrev fe (X Y : Option Ent) : Bool := decide ((X.getD ent0).path = (Y.getD ent0).path) && (((X.getD ent0).dir == (Y.getD ent0).dir) && (decide ((X.getD ent0).data = (Y.getD ent0).data) && true))
abbrev fs (X Y : Option Ent) : Bool := X.isSome == Y.isSome
abbrev ft (X Y : Option Ent) : Bool := decide ((X.getD ent0).path = (Y.getD ent0).path) && (((X.getD ent0).dir == (Y.getD ent0).dir) && (decide ((X.getD ent0).data = (Y.getD ent0).data) && ((X.isSome == Y.isSome) && true)))
theorem fe_eq {X Y : Option Ent} (h : X = Y) : fe X Y = true := by subst h; simp [fe]
theorem fe_or {X Y : Option Ent} (h : X ≠ Y) : fs X Y = false ∨ (fs X Y = true ∧ fe X Y = false) := by
  cases X with
  | none =>
    cases Y with
    | none => exact absurd rfl h
    | some y => left; rfl
  | some x =>
    cases Y with
    | none => left; rfl
    | some y =>
      right
      refine ⟨rfl, ?_⟩
      rw [← Bool.not_eq_true]
      intro hf
      apply h
      obtain ⟨p, d, q⟩ := x
      obtain ⟨p', d', q'⟩ := y
      simp [fe] at hf
      simp [hf]
def mD : Option (Option Ent) → D
  | some o => .tup [.agg (o.getD ent0).c, .b o.isSome, .b true]
  | none => .tup [.agg ent0.c, .b false, .b false]
theorem iGet_con (t : List Ent) (p : Bs) (hb : ∀ e ∈ t, e.path.length ≤ 1073741824 ∧ e.data.length ≤ 1073741824) : Con (E m) 71 0 [.sl (t.map Ent.c), .s p] [] (entD (if treeOk t then entGet t p else none)) [] := by
  have c1 := iTreeOk_con (m := m) t hb
  cases hok : treeOk t with
  | false =>
    rw [hok] at c1
    refine con_of_cd tyOk mix Tryz.func71 rfl rfl rfl (Nat.le_of_ble_eq_true rfl) ?_
    repeat' first | refine Ra ⟨?_⟩ | ((first | refine Rc [] 0 rfl rfl (c1) ?_ | (refine bd (fun h => ?_) (fun h => ?_) <;> (try simp only [List.length_map] at h)) | refine bsplit.mk (fun h => ?_) (fun h => ?_)) <;> conv => whnf) | refine Rb ⟨?_⟩ | fail
    exact Rf
  | true =>
    rw [hok] at c1
    have hl := treeOk_len hok
    have c2 := iAt_con (m := m) t p (by omega)
    simp only [if_true]
    unfold entGet
    by_cases hr : p = [47]
    · subst hr
      refine con_of_cd tyOk mix Tryz.func71 rfl rfl rfl (Nat.le_of_ble_eq_true rfl) ?_
      repeat' first | refine Ra ⟨?_⟩ | ((first | refine Rc [] 0 rfl rfl (c1) ?_ | (refine bd (fun h => ?_) (fun h => ?_) <;> (try simp only [List.length_map] at h)) | refine bsplit.mk (fun h => ?_) (fun h => ?_)) <;> conv => whnf) | refine Rb ⟨?_⟩ | fail
      exact Rf
    · rw [if_neg hr]
      rw [entD_eq] at c2 ⊢
      refine con_of_cd tyOk mix Tryz.func71 rfl rfl rfl (Nat.le_of_ble_eq_true rfl) ?_
      repeat' first | refine Ra ⟨?_⟩ | ((first | refine Rc [] 0 rfl rfl (c1) ?_ | refine Rc [] 0 rfl rfl (c2) ?_ | (refine bd (fun h => ?_) (fun h => ?_) <;> (try simp only [List.length_map] at h)) | refine bsplit.mk (fun h => ?_) (fun h => ?_)) <;> conv => whnf) | refine Rb ⟨?_⟩ | fail
      exact Rf
abbrev big (es : List Ent) : Prop := es.length ≤ 9223372036854775807 ∧ ∀ e ∈ es, e.path.length ≤ 9223372036854775807 ∧ e.data.length ≤ 9223372036854775807
end Go.Proofs.YtoaiplobfellaaaGreatDoor
