/- What is undone; what is done one behind the other: in plain Lean. -/
import Derived.Test.YtoaiplobfellaaaGreatDoorQPr
set_option linter.unusedSimpArgs false
set_option linter.unusedVariables false
namespace Go.Par
open Go.Ab
def backV (t : List Ent) (o : Opn) : Opn :=
  if o.kind = 5 then ⟨5, o.to, o.path, []⟩ else if o.kind = 1 then ⟨4, o.path, [], []⟩ else if o.kind = 4 then ⟨1, o.path, [], []⟩
  else if (entGet t o.path).isSome then ⟨2, o.path, [], ((entGet t o.path).getD ent0).data⟩ else ⟨3, o.path, [], []⟩
def opBack (t : List Ent) (o : Opn) : Option Opn := if (treeDo t o).2 = 0 then some (backV t o) else none
theorem kinds {o : Opn} (h : opOk o = true) : o.kind = 1 ∨ o.kind = 2 ∨ o.kind = 3 ∨ o.kind = 4 ∨ o.kind = 5 := by
  have := opOk_kind h
  omega
theorem kids_empty {t u : List Ent} {p : Bs} (ht : treeOk t = true) (hu : treeOk u = true) (hp : pathOk p = true) (hn : ∀ d, entAt t p = some d → d.dir = false) (hq : ∀ q, q ≠ p → entAt u q = entAt t q) : kids u p = [] := by
  refine kids_none.2 fun e he h => ?_
  obtain ⟨k1, k2, k3⟩ := tree_mem hu he
  have h1 := entAt_self (treeOk_srt hu) he
  have h2 : under e.path p = true := up_under k2 hp (.inl h)
  have h3 : e.path ≠ p := fun h4 => by
    have := under_lt hp h2
    rw [h4] at this
    omega
  rw [hq _ h3, no_below ht hp hn h2] at h1
  cases h1
theorem ent_eta {e : Ent} {p : Bs} {d : Bool} {x : Bs} (h1 : e.path = p) (h2 : e.dir = d) (h3 : e.data = x) : e = ⟨p, d, x⟩ := by
  cases e; simp_all
def logRun : List Ent → List Opn → List Ent × List Int
  | t, [] => (t, [])
  | t, o :: r => ((logRun (treeDo t o).1 r).1, (treeDo t o).2 :: (logRun (treeDo t o).1 r).2)
def cleanRun : List Ent → List Opn → List Opn
  | _, [] => []
  | t, o :: r => if (treeDo t o).2 = 0 then o :: cleanRun (treeDo t o).1 r else cleanRun (treeDo t o).1 r
def backRun : List Ent → List Opn → List Opn
  | _, [] => []
  | t, o :: r => backRun (treeDo t o).1 r ++ [(opBack t o).getD op0]
def logBad (t : List Ent) (ops : List Opn) : Bool := !treeOk t || decide (30 < ops.length)
def logDo (t : List Ent) (ops : List Opn) : List Ent × List Int := if logBad t ops then ([], []) else logRun t ops
def logClean (t : List Ent) (ops : List Opn) : List Opn := if logBad t ops then [] else cleanRun t ops
def logBack (t : List Ent) (ops : List Opn) : List Opn := backRun t (logClean t ops)
theorem run_ok : ∀ (a : List Opn) {t : List Ent}, treeOk t = true → treeOk (logRun t a).1 = true
  | [], t, h => h
  | o :: a, t, h => run_ok a (treeDo_ok h o)
theorem stay {t : List Ent} {o : Opn} (ht : treeOk t = true) (h : (treeDo t o).2 ≠ 0) : (treeDo t o).1 = t := by
  unfold treeDo at h ⊢
  split
  · rename_i h1; rw [ht] at h1; cases h1
  · split
    · rfl
    · split
      · rfl
      · rename_i h1 h2 h3
        rw [if_neg h1, if_neg h2, if_neg h3] at h
        exact absurd rfl h
end Go.Par
