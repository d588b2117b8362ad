/- What undoes a log: bounds; and the two ends of a log. -/
import Derived.Test.YtoaiplobfellaaaGreatDoorMa
set_option linter.unusedSimpArgs false
set_option linter.unusedVariables false
set_option maxHeartbeats 1000000
set_option maxRecDepth 10000
namespace Go.Proofs.YtoaiplobfellaaaGreatDoor
open Go Go.RowKit Go.Ab Go.Par
theorem backV_bnd {t : List Ent} {o : Opn} (ht : treeOk t = true) (ho : bndO 1073741823 o) : bndO 1073741823 (backV t o) := by
  have h0 : ((entGet t o.path).getD ent0).data.length ≤ 1073741823 := by
    cases hg : entGet t o.path with
    | none => simp [ent0]
    | some e =>
      show e.data.length ≤ _
      rcases entGet_mem hg with rfl | hm
      · exact Nat.zero_le _
      · have := entOk_len (treeOk_ent ht e hm)
        omega
  obtain ⟨p1, p2, p3⟩ := ho
  unfold backV
  repeat' split
  all_goals exact ⟨by first | exact p1 | exact p2, by first | exact p1 | exact Nat.zero_le _, by first | exact h0 | exact Nat.zero_le _⟩
theorem backRun_bnd : ∀ (a : List Opn) {t : List Ent}, treeOk t = true → (∀ o ∈ a, bndO 1073741823 o) → ∀ o ∈ backRun t a, bndO 1073741823 o
  | [], t, _, _ => by simp [backRun]
  | o :: a, t, h, hb => by
    intro x hx
    simp only [backRun] at hx
    rcases List.mem_append.1 hx with hx | hx
    · exact backRun_bnd a (treeDo_ok h o) (fun y hy => hb y (by simp [hy])) x hx
    · rw [List.mem_singleton] at hx
      subst hx
      unfold opBack
      split
      · exact backV_bnd h (hb o (by simp))
      · exact ⟨Nat.zero_le _, Nat.zero_le _, Nat.zero_le _⟩
theorem logBack_nil (t : List Ent) : logBack t [] = [] := by
  have : logClean t [] = [] := by unfold logClean; split <;> rfl
  rw [logBack, this]
  rfl
theorem q0 (o : Opn) : (decide (o.kind = o.kind) && (decide (o.path = o.path) && (decide (o.to = o.to) && (decide (o.data = o.data) && true)))) = true := by simp
end Go.Proofs.YtoaiplobfellaaaGreatDoor
