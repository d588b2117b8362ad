/- Contracts: merges, path by path. -/
import Derived.Test.YtoaiplobfellaaaGreatDoorQLe
import Derived.Test.YtoaiplobfellaaaGreatDoorQLj
import Derived.Test.YtoaiplobfellaaaGreatDoorQPk
set_option linter.unusedSimpArgs false
set_option linter.unusedVariables false
set_option maxHeartbeats 1000000
set_option maxRecDepth 10000
namespace Go.Proofs.YtoaiplobfellaaaGreatDoor
open Go Go.RowKit Go.Ab Go.Par
variable {m : Int}
theorem entD_eq (o : Option Ent) : entD o = .tup [.agg (o.getD ent0).c, .b o.isSome] := by cases o <;> rfl
abbrev fe (X Y : Option Ent) : Bool := decide ((X.getD ent0).path = (Y.getD ent0).path) && (((X.getD ent0).dir == (Y.getD ent0).dir) && (decide ((X.getD ent0).data = (Y.getD ent0).data) && true))
abbrev fs (X Y : Option Ent) : Bool := X.isSome == Y.isSome
abbrev ft (X Y : Option Ent) : Bool := decide ((X.getD ent0).path = (Y.getD ent0).path) && (((X.getD ent0).dir == (Y.getD ent0).dir) && (decide ((X.getD ent0).data = (Y.getD ent0).data) && ((X.isSome == Y.isSome) && true)))
theorem fe_eq {X Y : Option Ent} (h : X = Y) : fe X Y = true := by subst h; simp [fe]
theorem fe_or {X Y : Option Ent} (h : X ≠ Y) : fs X Y = false ∨ (fs X Y = true ∧ fe X Y = false) := by
  cases X with
  | none =>
    cases Y with
    | none => exact absurd rfl h
    | some y => left; rfl
  | some x =>
    cases Y with
    | none => left; rfl
    | some y =>
      right
      refine ⟨rfl, ?_⟩
      rw [← Bool.not_eq_true]
      intro hf
      apply h
      obtain ⟨p, d, q⟩ := x
      obtain ⟨p', d', q'⟩ := y
      simp [fe] at hf
      simp [hf]
def mD : Option (Option Ent) → D
  | some o => .tup [.agg (o.getD ent0).c, .b o.isSome, .b true]
  | none => .tup [.agg ent0.c, .b false, .b false]
abbrev big (es : List Ent) : Prop := es.length ≤ 9223372036854775807 ∧ ∀ e ∈ es, e.path.length ≤ 9223372036854775807 ∧ e.data.length ≤ 9223372036854775807
end Go.Proofs.YtoaiplobfellaaaGreatDoor
