/- 'laws.FnExactEntText' returns true whatever its argument is, and leaves the argument as it was. No condition. -/
import Derived.Test.YtbklicckjnhpoaaLa
import Derived.ProofKit
set_option maxRecDepth 10000
namespace Go.Proofs.Ytbklicckjnhpoaa
open Go Go.RowKit Go.Ab Go.Par
theorem law_ent (e : Ent) (hp : e.path.length ≤ 9223372036854775807) (hd : e.data.length ≤ 9223372036854775807) : Con E 3 0 [.agg e.c] [] (.b true) [] := by
  have hz := less2_or 1048576 e.path.length e.data.length
  refine con_of_awp tyOk mix Try.func3 rfl rfl rfl (Nat.le_of_ble_eq_true rfl) ?_
  conv => whnf
  repeat' first
    | (exfalso; omega)
    | (refine ⟨[], _, _, _, _, 0, ⟨rfl, rfl, rfl, szEnt_con e _ (by omega) hp hd, rfl, rfl⟩, .inr ?_⟩; conv => whnf)
    | (refine ⟨[], _, _, _, _, 0, ⟨rfl, rfl, rfl, toEnt_con e, rfl, rfl⟩, .inr ?_⟩; conv => whnf)
    | (refine ⟨[], _, _, _, _, 0, ⟨rfl, rfl, rfl, sEntText_con e (by omega) (by omega), rfl, rfl⟩, .inr ?_⟩; conv => whnf)
    | (refine ⟨[], _, _, _, _, 0, ⟨rfl, rfl, rfl, iEntText_con e (by omega) (by omega), rfl, rfl⟩, .inr ?_⟩; conv => whnf)
    | (refine ⟨by simp only [List.length_append, List.length_cons, List.length_nil]; omega, ?_⟩; conv => whnf)
    | (refine ⟨_, Go.IntWalk.i64_in _ (by omega), ?_⟩; conv => whnf)
    | (refine bsplit.mk (fun h => ?_) (fun h => ?_) <;> (try simp only [decide_eq_true_eq, decide_eq_false_iff_not, Bool.not_eq_true', Bool.not_eq_false'] at h) <;> conv => whnf)
  all_goals
    refine ⟨[], [], ?_⟩
    conv => whnf
    first
      | exact ⟨rfl, rfl, rfl, rfl⟩
      | refine ⟨rfl, rfl, congrArg some (congrArg D.s ?_), rfl⟩
      | refine ⟨rfl, rfl, congrArg some (congrArg D.b ?_), rfl⟩
      | refine ⟨rfl, rfl, congrArg some (congrArg (D.k _) ?_), rfl⟩
      | refine ⟨rfl, rfl, congrArg some (congrArg D.agg ?_), rfl⟩
    all_goals first
      | rfl
      | (simp_all []; done)
      | (simp []; (repeat' split) <;> omega)
theorem FnExactEntText_con (cds : List D) (h : ShpAll E.P Try.f3.params.toList cds) : Con E 3 0 cds [] (.b true) [] := by
  rw [Try.params3] at h
  match cds, h with
  | [d], ⟨h, _⟩ =>
    obtain ⟨e, rfl, hp, hd⟩ := lEnt_shp h
    exact law_ent e hp hd
open Go.ChangeShapes Go.WideShapes Go.ChangeAt in
theorem FnExactEntText_lifted (os : Os) (started : os.Started) (H : Type) (enc : TypeId × Value → H) :
    ReturnsInHanded {} Try.checked os 3 .any (Rows.fnExactEntTextSpec.pre6 enc Try.prog Try.f3 Rows.fnExactEntTextRow.domain false) (Rows.fnExactEntTextSpec.post enc Try.prog Try.f3 false true false false) := by
  refine returnsInHanded_of_change (C := Try.checked) own0 started (by kernel_rfl) Try.func3
    (ChangeSpec.witness6 (enc := enc) (C := Try.checked) false ⟨#[], #[.agg #[.string ⟨#[]⟩, .bool false, .string ⟨#[]⟩]], []⟩ 8 (by kernel_rfl) (by kernel_rfl) (by kernel_rfl) (by kernel_rfl)) ?_
  intro W base args ds gs before hval hW _ _
  exact law_calls (E := E) (dp := 8) (bt := 4) (fun _ => rfl) laidOut0 (readB_mem (by kernel_rfl)) (by kernel_rfl) Try.underlying4 (by kernel_rfl) rfl (fun H ds hl => match ds, hl with
    | [d], _ => rfl) FnExactEntText_con W base args ds gs before hval hW
theorem FnExactEntText_holds : Rows.FnExactEntTextSaid :=
  OpenClaim.holds_of_wide 3 Try.f3 rfl rfl rfl rfl rfl rfl rfl ⟨rfl, rfl, rfl, rfl, rfl⟩ rfl rfl rfl rfl rfl (by kernel_rfl) Try.func3 (by kernel_rfl)
    (of_decide_eq_true (by kernel_rfl)) (by unfold Func.isWrapper; first | (rw [if_pos (by decide +kernel)]; kernel_rfl) | (rw [if_neg (by decide +kernel)]; exact ⟨rfl, rfl⟩))
    (fun os started H enc _ => FnExactEntText_lifted os started H enc)
end Go.Proofs.Ytbklicckjnhpoaa
