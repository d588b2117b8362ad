/- Trees on layers: in plain Lean. -/
import Derived.Test.YtoaiplobfellaaaGreatDoorQPw
import Derived.Test.YtoaiplobfellaaaGreatDoorQPx
set_option linter.unusedSimpArgs false
set_option linter.unusedVariables false
namespace Go.Par
open Go.Ab
structure Ovr where
  base : List Ent
  layers : List (List Mrk)
  upper : List Mrk
  deriving DecidableEq
def ov0 : Ovr := ⟨[], [], []⟩
def stackT : List Ent → List (List Mrk) → Option (List Ent)
  | t, [] => some t
  | t, l :: r => match layerOn l t with
    | some u => stackT u r
    | none => none
def lowerT (o : Ovr) : Option (List Ent) := if treeOk o.base = true ∧ o.layers.length ≤ 4 then stackT o.base o.layers else none
def viewT (o : Ovr) : Option (List Ent) := match lowerT o with
  | some t => layerOn o.upper t
  | none => none
def overT (o : Ovr) : Option (List Ent × List Ent) := match lowerT o with
  | some t => match layerOn o.upper t with
    | some v => if o.upper = diffL t v then some (t, v) else none
    | none => none
  | none => none
def overOk (o : Ovr) : Bool := (overT o).isSome
def overDo (o : Ovr) (p : Opn) : Ovr × Int := match overT o with
  | some (t, v) => (if (treeDo v p).2 = 0 then ⟨o.base, o.layers, diffL t (treeDo v p).1⟩ else o, (treeDo v p).2)
  | none => (ov0, 1)
def overPush (o : Ovr) : Ovr × Bool := match overT o with
  | some _ => if o.layers.length = 4 then (o, false) else (⟨o.base, o.layers ++ [o.upper], []⟩, true)
  | none => (ov0, false)
def flatL : List Mrk → List (List Mrk) → Option (List Mrk)
  | one, [] => some one
  | one, l :: r => match layerJoin l one with
    | some j => flatL j r
    | none => none
def flatO (ls : List (List Mrk)) : Option (List Mrk) := match ls with
  | l :: k :: r => flatL l (k :: r)
  | _ => none
def overFlat (o : Ovr) : Ovr × Bool := match overT o with
  | some _ => match flatO o.layers with
    | some one => (⟨o.base, [one], o.upper⟩, true)
    | none => (o, false)
  | none => (ov0, false)
def overSink (o : Ovr) : Ovr := match overT o with
  | some (t, _) => ⟨t, [], o.upper⟩
  | none => ov0
theorem stack_ok : ∀ (ls : List (List Mrk)) {t u : List Ent}, treeOk t = true → stackT t ls = some u → treeOk u = true
  | [], t, u, ht, h => by cases h; exact ht
  | l :: r, t, u, ht, h => by
    unfold stackT at h
    cases hl : layerOn l t with
    | none => rw [hl] at h; cases h
    | some x =>
      rw [hl] at h
      exact stack_ok r (layerOn_some hl).2.2.1 h
theorem lower_ok {o : Ovr} {t : List Ent} (h : lowerT o = some t) : treeOk o.base = true ∧ o.layers.length ≤ 4 ∧ stackT o.base o.layers = some t ∧ treeOk t = true := by
  unfold lowerT at h
  split at h
  · rename_i hc
    exact ⟨hc.1, hc.2, h, stack_ok _ hc.1 h⟩
  · cases h
theorem overT_iff {o : Ovr} {t v : List Ent} : overT o = some (t, v) ↔ lowerT o = some t ∧ layerOn o.upper t = some v ∧ o.upper = diffL t v := by
  unfold overT
  constructor
  · intro h
    cases hl : lowerT o with
    | none => rw [hl] at h; cases h
    | some x =>
      rw [hl] at h
      simp only at h
      cases hv : layerOn o.upper x with
      | none => rw [hv] at h; cases h
      | some y =>
        rw [hv] at h
        simp only at h
        split at h
        · rename_i hd
          cases h
          exact ⟨rfl, hv, hd⟩
        · cases h
  · rintro ⟨h1, h2, h3⟩
    rw [h1]
    simp only
    rw [h2]
    simp only
    rw [if_pos h3]
theorem overT_ok {o : Ovr} {t v : List Ent} (h : overT o = some (t, v)) : treeOk o.base = true ∧ o.layers.length ≤ 4 ∧ treeOk t = true ∧ treeOk v = true := by
  obtain ⟨h1, h2, _⟩ := overT_iff.1 h
  obtain ⟨g1, g2, _, g4⟩ := lower_ok h1
  exact ⟨g1, g2, g4, (layerOn_some h2).2.2.1⟩
theorem overT_of {o : Ovr} {t v : List Ent} (h1 : lowerT o = some t) (hv : treeOk v = true) (h2 : o.upper = diffL t v) : overT o = some (t, v) :=
  overT_iff.2 ⟨h1, by rw [h2]; exact diff_on (lower_ok h1).2.2.2 hv, h2⟩
theorem over_do {o : Ovr} {t v : List Ent} (h : overT o = some (t, v)) (p : Opn) : overT (overDo o p).1 = some (t, (treeDo v p).1) ∧ (overDo o p).2 = (treeDo v p).2 ∧ (overDo o p).1.base = o.base ∧ (overDo o p).1.layers = o.layers := by
  obtain ⟨_, _, h3, h4⟩ := overT_ok h
  obtain ⟨h1, _, _⟩ := overT_iff.1 h
  unfold overDo
  rw [h]
  simp only
  by_cases hc : (treeDo v p).2 = 0
  · rw [if_pos hc]
    exact ⟨overT_of (o := ⟨o.base, o.layers, diffL t (treeDo v p).1⟩) h1 (treeDo_ok h4 p) rfl, by simp⟩
  · rw [if_neg hc, stay h4 hc]
    exact ⟨h, by simp⟩
theorem over_plain {t : List Ent} (ht : treeOk t = true) : overT ⟨t, [], []⟩ = some (t, t) := by
  refine overT_of ?_ ht (diff_self ht).symm
  unfold lowerT
  simp only
  rw [if_pos ⟨ht, by simp⟩]
  rfl
def overRun : Ovr → List Opn → Ovr × List Int
  | o, [] => (o, [])
  | o, p :: r => ((overRun (overDo o p).1 r).1, (overDo o p).2 :: (overRun (overDo o p).1 r).2)
def overBad (o : Ovr) (ops : List Opn) : Bool := !overOk o || decide (30 < ops.length)
def logOver (o : Ovr) (ops : List Opn) : Ovr × List Int := if overBad o ops then (ov0, []) else overRun o ops
theorem over_run : ∀ (ops : List Opn) {o : Ovr} {t v : List Ent}, overT o = some (t, v) → overT (overRun o ops).1 = some (t, (logRun v ops).1) ∧ (overRun o ops).2 = (logRun v ops).2 ∧ (overRun o ops).1.base = o.base ∧ (overRun o ops).1.layers = o.layers
  | [], o, t, v, h => ⟨h, rfl, rfl, rfl⟩
  | p :: r, o, t, v, h => by
    obtain ⟨d1, d2, d3, d4⟩ := over_do h p
    obtain ⟨i1, i2, i3, i4⟩ := over_run r d1
    refine ⟨i1, ?_, i3.trans d3, i4.trans d4⟩
    show (overDo o p).2 :: (overRun (overDo o p).1 r).2 = (treeDo v p).2 :: _
    rw [i2, d2]
theorem overRun_len : ∀ (ops : List Opn) (o : Ovr), (overRun o ops).2.length = ops.length
  | [], _ => rfl
  | p :: r, o => by simp [overRun, overRun_len r]
end Go.Par
