/- Trees on layers: in plain Lean. -/
import Derived.Test.YtoaiplobfellaaaGreatDoorRPw
import Derived.Test.YtoaiplobfellaaaGreatDoorRPx
set_option linter.unusedSimpArgs false
set_option linter.unusedVariables false
namespace Go.Par
open Go.Ab
structure Ovr where
  base : List Ent
  layers : List (List Mrk)
  upper : List Mrk
  deriving DecidableEq
def ov0 : Ovr := ⟨[], [], []⟩
def stackT : List Ent → List (List Mrk) → Option (List Ent)
  | t, [] => some t
  | t, l :: r => match layerOn l t with
    | some u => stackT u r
    | none => none
def lowerT (o : Ovr) : Option (List Ent) := if treeOk o.base = true ∧ o.layers.length ≤ 4 then stackT o.base o.layers else none
def viewT (o : Ovr) : Option (List Ent) := match lowerT o with
  | some t => layerOn o.upper t
  | none => none
def overT (o : Ovr) : Option (List Ent × List Ent) := match lowerT o with
  | some t => match layerOn o.upper t with
    | some v => if o.upper = diffL t v then some (t, v) else none
    | none => none
  | none => none
def overOk (o : Ovr) : Bool := (overT o).isSome
def overDo (o : Ovr) (p : Opn) : Ovr × Int := match overT o with
  | some (t, v) => (if (treeDo v p).2 = 0 then ⟨o.base, o.layers, diffL t (treeDo v p).1⟩ else o, (treeDo v p).2)
  | none => (ov0, 1)
def overPush (o : Ovr) : Ovr × Bool := match overT o with
  | some _ => if o.layers.length = 4 then (o, false) else (⟨o.base, o.layers ++ [o.upper], []⟩, true)
  | none => (ov0, false)
def flatL : List Mrk → List (List Mrk) → Option (List Mrk)
  | one, [] => some one
  | one, l :: r => match layerJoin l one with
    | some j => flatL j r
    | none => none
def flatO (ls : List (List Mrk)) : Option (List Mrk) := match ls with
  | l :: k :: r => flatL l (k :: r)
  | _ => none
def overFlat (o : Ovr) : Ovr × Bool := match overT o with
  | some _ => match flatO o.layers with
    | some one => (⟨o.base, [one], o.upper⟩, true)
    | none => (o, false)
  | none => (ov0, false)
def overSink (o : Ovr) : Ovr := match overT o with
  | some (t, _) => ⟨t, [], o.upper⟩
  | none => ov0
theorem stack_ok : ∀ (ls : List (List Mrk)) {t u : List Ent}, treeOk t = true → stackT t ls = some u → treeOk u = true
  | [], t, u, ht, h => by cases h; exact ht
  | l :: r, t, u, ht, h => by
    unfold stackT at h
    cases hl : layerOn l t with
    | none => rw [hl] at h; cases h
    | some x =>
      rw [hl] at h
      exact stack_ok r (layerOn_some hl).2.2.1 h
theorem stack_snoc : ∀ (ls : List (List Mrk)) (l : List Mrk) {t u : List Ent}, stackT t ls = some u → stackT t (ls ++ [l]) = layerOn l u
  | [], l, t, u, h => by
    cases h
    show (match layerOn l t with | some u => stackT u [] | none => none) = _
    cases layerOn l t <;> rfl
  | k :: r, l, t, u, h => by
    unfold stackT at h
    rw [List.cons_append]
    unfold stackT
    cases hl : layerOn k t with
    | none => rw [hl] at h; cases h
    | some x =>
      rw [hl] at h
      exact stack_snoc r l h
theorem lower_ok {o : Ovr} {t : List Ent} (h : lowerT o = some t) : treeOk o.base = true ∧ o.layers.length ≤ 4 ∧ stackT o.base o.layers = some t ∧ treeOk t = true := by
  unfold lowerT at h
  split at h
  · rename_i hc
    exact ⟨hc.1, hc.2, h, stack_ok _ hc.1 h⟩
  · cases h
theorem overT_iff {o : Ovr} {t v : List Ent} : overT o = some (t, v) ↔ lowerT o = some t ∧ layerOn o.upper t = some v ∧ o.upper = diffL t v := by
  unfold overT
  constructor
  · intro h
    cases hl : lowerT o with
    | none => rw [hl] at h; cases h
    | some x =>
      rw [hl] at h
      simp only at h
      cases hv : layerOn o.upper x with
      | none => rw [hv] at h; cases h
      | some y =>
        rw [hv] at h
        simp only at h
        split at h
        · rename_i hd
          cases h
          exact ⟨rfl, hv, hd⟩
        · cases h
  · rintro ⟨h1, h2, h3⟩
    rw [h1]
    simp only
    rw [h2]
    simp only
    rw [if_pos h3]
theorem overT_ok {o : Ovr} {t v : List Ent} (h : overT o = some (t, v)) : treeOk o.base = true ∧ o.layers.length ≤ 4 ∧ treeOk t = true ∧ treeOk v = true := by
  obtain ⟨h1, h2, _⟩ := overT_iff.1 h
  obtain ⟨g1, g2, _, g4⟩ := lower_ok h1
  exact ⟨g1, g2, g4, (layerOn_some h2).2.2.1⟩
theorem overT_of {o : Ovr} {t v : List Ent} (h1 : lowerT o = some t) (hv : treeOk v = true) (h2 : o.upper = diffL t v) : overT o = some (t, v) :=
  overT_iff.2 ⟨h1, by rw [h2]; exact diff_on (lower_ok h1).2.2.2 hv, h2⟩
theorem over_do {o : Ovr} {t v : List Ent} (h : overT o = some (t, v)) (p : Opn) : overT (overDo o p).1 = some (t, (treeDo v p).1) ∧ (overDo o p).2 = (treeDo v p).2 ∧ (overDo o p).1.base = o.base ∧ (overDo o p).1.layers = o.layers := by
  obtain ⟨_, _, h3, h4⟩ := overT_ok h
  obtain ⟨h1, _, _⟩ := overT_iff.1 h
  unfold overDo
  rw [h]
  simp only
  by_cases hc : (treeDo v p).2 = 0
  · rw [if_pos hc]
    exact ⟨overT_of (o := ⟨o.base, o.layers, diffL t (treeDo v p).1⟩) h1 (treeDo_ok h4 p) rfl, by simp⟩
  · rw [if_neg hc, stay h4 hc]
    exact ⟨h, by simp⟩
theorem over_push {o : Ovr} {t v : List Ent} (h : overT o = some (t, v)) : ∃ t', overT (overPush o).1 = some (t', v) := by
  obtain ⟨_, h2, h3, h4⟩ := overT_ok h
  obtain ⟨k1, k2, _⟩ := overT_iff.1 h
  obtain ⟨g1, g2, g3, _⟩ := lower_ok k1
  unfold overPush
  rw [h]
  simp only
  split
  · exact ⟨t, h⟩
  · rename_i hc
    refine ⟨v, overT_of (o := ⟨o.base, o.layers ++ [o.upper], []⟩) ?_ h4 (diff_self h4).symm⟩
    unfold lowerT
    simp only
    rw [if_pos ⟨g1, by simp; omega⟩, stack_snoc _ _ g3, k2]
theorem flat_on : ∀ (r : List (List Mrk)) {one j : List Mrk} {t u v : List Ent}, flatL one r = some j → layerOn one t = some u → stackT u r = some v → layerOn j t = some v
  | [], one, j, t, u, v, h, hu, hv => by cases h; cases hv; exact hu
  | l :: r, one, j, t, u, v, h, hu, hv => by
    unfold flatL at h
    cases hj : layerJoin l one with
    | none => rw [hj] at h; cases h
    | some x =>
      rw [hj] at h
      unfold stackT at hv
      cases hl : layerOn l u with
      | none => rw [hl] at hv; cases hv
      | some y =>
        rw [hl] at hv
        exact flat_on r h (layerJoin_on hj hu hl) hv
theorem over_flat {o : Ovr} {t v : List Ent} (h : overT o = some (t, v)) : overT (overFlat o).1 = some (t, v) := by
  obtain ⟨_, h2, h3, h4⟩ := overT_ok h
  obtain ⟨k1, k2, k3⟩ := overT_iff.1 h
  obtain ⟨g1, g2, g3, _⟩ := lower_ok k1
  unfold overFlat
  rw [h]
  simp only
  cases hf : flatO o.layers with
  | none => exact h
  | some one =>
    simp only
    refine overT_iff.2 ⟨?_, k2, k3⟩
    unfold lowerT
    simp only
    rw [if_pos ⟨g1, by simp⟩]
    unfold flatO at hf
    split at hf
    · rename_i l k r hl
      rw [hl] at g3
      unfold stackT at g3
      cases h1 : layerOn l o.base with
      | none => rw [h1] at g3; cases g3
      | some u =>
        rw [h1] at g3
        have := flat_on (k :: r) hf h1 g3
        show (match layerOn one o.base with | some u => stackT u [] | none => none) = _
        rw [this]
        rfl
    · cases hf
theorem over_sink {o : Ovr} {t v : List Ent} (h : overT o = some (t, v)) : overT (overSink o) = some (t, v) := by
  obtain ⟨_, h2, h3, h4⟩ := overT_ok h
  obtain ⟨k1, k2, k3⟩ := overT_iff.1 h
  unfold overSink
  rw [h]
  simp only
  refine overT_iff.2 ⟨?_, k2, k3⟩
  unfold lowerT
  simp only
  rw [if_pos ⟨h3, by simp⟩]
  rfl
theorem over_plain {t : List Ent} (ht : treeOk t = true) : overT ⟨t, [], []⟩ = some (t, t) := by
  refine overT_of ?_ ht (diff_self ht).symm
  unfold lowerT
  simp only
  rw [if_pos ⟨ht, by simp⟩]
  rfl
def overRun : Ovr → List Opn → Ovr × List Int
  | o, [] => (o, [])
  | o, p :: r => ((overRun (overDo o p).1 r).1, (overDo o p).2 :: (overRun (overDo o p).1 r).2)
def overBad (o : Ovr) (ops : List Opn) : Bool := !overOk o || decide (30 < ops.length)
def logOver (o : Ovr) (ops : List Opn) : Ovr × List Int := if overBad o ops then (ov0, []) else overRun o ops
theorem over_run : ∀ (ops : List Opn) {o : Ovr} {t v : List Ent}, overT o = some (t, v) → overT (overRun o ops).1 = some (t, (logRun v ops).1) ∧ (overRun o ops).2 = (logRun v ops).2 ∧ (overRun o ops).1.base = o.base ∧ (overRun o ops).1.layers = o.layers
  | [], o, t, v, h => ⟨h, rfl, rfl, rfl⟩
  | p :: r, o, t, v, h => by
    obtain ⟨d1, d2, d3, d4⟩ := over_do h p
    obtain ⟨i1, i2, i3, i4⟩ := over_run r d1
    refine ⟨i1, ?_, i3.trans d3, i4.trans d4⟩
    show (overDo o p).2 :: (overRun (overDo o p).1 r).2 = (treeDo v p).2 :: _
    rw [i2, d2]
theorem over_eq {x o : Ovr} {t v : List Ent} (h1 : overT x = some (t, v)) (h2 : overT o = some (t, v)) (h3 : x.base = o.base) (h4 : x.layers = o.layers) : x = o := by
  have k1 := (overT_iff.1 h1).2.2
  have k2 := (overT_iff.1 h2).2.2
  cases x
  cases o
  simp only at h3 h4 k1 k2
  rw [h3, h4, k1, k2]
theorem over_undo {o : Ovr} {t v : List Ent} (h : overT o = some (t, v)) (ops : List Opn) : (overRun (overRun o ops).1 (backRun v (cleanRun v ops))).1 = o := by
  obtain ⟨_, _, _, h4⟩ := overT_ok h
  obtain ⟨i1, _, i3, i4⟩ := over_run ops h
  obtain ⟨j1, _, j3, j4⟩ := over_run (backRun v (cleanRun v ops)) i1
  refine over_eq ?_ h (j3.trans i3) (j4.trans i4)
  rw [j1]
  obtain ⟨c1, c2, _⟩ := clean_run ops h4
  have b1 := (back_run (cleanRun v ops) h4 c2).1
  rw [c1] at b1
  rw [b1]
theorem overRun_len : ∀ (ops : List Opn) (o : Ovr), (overRun o ops).2.length = ops.length
  | [], _ => rfl
  | p :: r, o => by simp [overRun, overRun_len r]
end Go.Par
