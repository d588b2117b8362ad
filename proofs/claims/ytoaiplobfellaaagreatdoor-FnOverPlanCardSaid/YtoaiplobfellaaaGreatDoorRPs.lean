/- What is undone; what is done one behind the other: in plain Lean. -/
import Derived.Test.YtoaiplobfellaaaGreatDoorRPr
set_option linter.unusedSimpArgs false
set_option linter.unusedVariables false
namespace Go.Par
open Go.Ab
def backV (t : List Ent) (o : Opn) : Opn :=
  if o.kind = 5 then ⟨5, o.to, o.path, []⟩ else if o.kind = 1 then ⟨4, o.path, [], []⟩ else if o.kind = 4 then ⟨1, o.path, [], []⟩
  else if (entGet t o.path).isSome then ⟨2, o.path, [], ((entGet t o.path).getD ent0).data⟩ else ⟨3, o.path, [], []⟩
def opBack (t : List Ent) (o : Opn) : Option Opn := if (treeDo t o).2 = 0 then some (backV t o) else none
theorem kinds {o : Opn} (h : opOk o = true) : o.kind = 1 ∨ o.kind = 2 ∨ o.kind = 3 ∨ o.kind = 4 ∨ o.kind = 5 := by
  have := opOk_kind h
  omega
theorem opOk_mk4 {k : Int} {p : Bs} (hk : k = 1 ∨ k = 3 ∨ k = 4) (hp : pathOk p = true) : opOk ⟨k, p, [], []⟩ = true := by
  rcases hk with rfl | rfl | rfl <;> simp [opOk, hp]
theorem opOk_mk2 {p d : Bs} (hp : pathOk p = true) (hd : dataOk d = true) : opOk ⟨2, p, [], d⟩ = true := by simp [opOk, hp, hd]
theorem opOk_mk5 {a b : Bs} (ha : pathOk a = true) (hb : pathOk b = true) : opOk ⟨5, a, b, []⟩ = true := by simp [opOk, ha, hb]
theorem offT_less {t : List Ent} {p : Bs} {e : Ent} (h : entAt t p = some e) : (offT t p).length < t.length := by
  obtain ⟨h1, h2⟩ := entAt_some h
  unfold offT
  rw [List.length_filter_lt_length_iff_exists]
  exact ⟨e, h1, by simp [h2]⟩
theorem kids_empty {t u : List Ent} {p : Bs} (ht : treeOk t = true) (hu : treeOk u = true) (hp : pathOk p = true) (hn : ∀ d, entAt t p = some d → d.dir = false) (hq : ∀ q, q ≠ p → entAt u q = entAt t q) : kids u p = [] := by
  refine kids_none.2 fun e he h => ?_
  obtain ⟨k1, k2, k3⟩ := tree_mem hu he
  have h1 := entAt_self (treeOk_srt hu) he
  have h2 : under e.path p = true := up_under k2 hp (.inl h)
  have h3 : e.path ≠ p := fun h4 => by
    have := under_lt hp h2
    rw [h4] at this
    omega
  rw [hq _ h3, no_below ht hp hn h2] at h1
  cases h1
theorem up_same {t u : List Ent} {p : Bs} (hp : pathOk p = true) (h : upCode t p = 0) (hq : ∀ q, q ≠ p → entAt u q = entAt t q) : upCode u p = 0 := by
  refine upCode_zero.2 ((upCode_zero.1 h).imp id ?_)
  rintro ⟨d, d1, d2⟩
  exact ⟨d, by rw [hq _ (up_ne hp)]; exact d1, d2⟩
theorem ent_eta {e : Ent} {p : Bs} {d : Bool} {x : Bs} (h1 : e.path = p) (h2 : e.dir = d) (h3 : e.data = x) : e = ⟨p, d, x⟩ := by
  cases e; simp_all
theorem back_do {t u : List Ent} {o : Opn} (h : treeDo t o = (u, 0)) : treeDo u (backV t o) = (t, 0) ∧ backV u (backV t o) = o := by
  obtain ⟨ht, ho, hc, hu, hat⟩ := treeDo_at h
  have hp := opOk_path ho
  obtain ⟨hd1, hd2, hd3⟩ := opOk_data ho
  have hup := (treeDo_zero.1 h).2.2.2
  obtain ⟨k, p, to, d⟩ := o
  simp only at hp hd1 hd2 hd3
  have fin : ∀ b : Opn, opOk b = true → opCode u b = 0 → (∀ q, atDo u b q = entAt t q) → treeDo u b = (t, 0) := fun b h1 h2 h3 =>
    treeDo_zero.2 ⟨hu, h1, h2, (tree_ext (doT_ok hu h1 h2) ht fun q => (doT_at hu h1 h2 q).trans (h3 q)).symm⟩
  have hg : ∀ x : List Ent, entGet x p = entAt x p := fun x => entGet_ne (pathOk_ne hp)
  rcases kinds ho with hk | hk | hk | hk | hk
  · -- make
    simp only at hk
    subst hk
    have e2 : d = [] := hd2 (by decide)
    have e3 : to = [] := hd3 (by decide)
    subst e2 e3
    have hat' : ∀ q, entAt u q = if p = q then some ⟨p, true, []⟩ else entAt t q := fun q => by rw [hat]; rfl
    have hq : ∀ q, q ≠ p → entAt u q = entAt t q := fun q hq => by rw [hat', if_neg (Ne.symm hq)]
    obtain ⟨g1, g2, g3⟩ := (newCode_zero hp).1 (show newCode t p = 0 from hc)
    have hb : backV t ⟨1, p, [], []⟩ = ⟨4, p, [], []⟩ := rfl
    rw [hb]
    refine ⟨fin _ (opOk_mk4 (by simp) hp) ?_ fun q => ?_, rfl⟩
    · have : offCode u ⟨4, p, [], []⟩ = 0 := (offCode_zero (o := ⟨4, p, [], []⟩) hp).2 ⟨⟨p, true, []⟩, by rw [hat']; simp, fun h => by simp at h, fun _ => rfl, kids_empty ht hu hp (fun d hd => by rw [g2] at hd; cases hd) hq⟩
      exact this
    · show (if p = q then none else entAt u q) = entAt t q
      by_cases h1 : p = q
      · rw [if_pos h1, ← h1, g2]
      · rw [if_neg h1, hq q (Ne.symm h1)]
  · -- put
    simp only at hk
    subst hk
    have e3 : to = [] := hd3 (by decide)
    subst e3
    have hat' : ∀ q, entAt u q = if p = q then some ⟨p, false, d⟩ else entAt t q := fun q => by rw [hat]; rfl
    have hq : ∀ q, q ≠ p → entAt u q = entAt t q := fun q hq => by rw [hat', if_neg (Ne.symm hq)]
    have hup' : entAt u p = some ⟨p, false, d⟩ := by rw [hat', if_pos rfl]
    obtain ⟨g1, g2⟩ := (putCode_zero hp).1 (show putCode t p = 0 from hc)
    rcases g2 with ⟨e, g2, g3⟩ | ⟨g2, g3⟩
    · have hb : backV t ⟨2, p, [], d⟩ = ⟨2, p, [], e.data⟩ := by simp [backV, hg, g2]
      rw [hb]
      obtain ⟨m1, m2, m3, m4⟩ := tree_at ht g2
      have he := ent_eta m2 g3 rfl
      refine ⟨fin _ (opOk_mk2 hp (entOk_data m1).1) ?_ fun q => ?_, by simp [backV, hg, hup']⟩
      · have : putCode u p = 0 := (putCode_zero hp).2 ⟨up_same hp g1 hq, .inl ⟨_, hup', rfl⟩⟩
        exact this
      · show (if p = q then some ⟨p, false, e.data⟩ else entAt u q) = entAt t q
        by_cases h1 : p = q
        · rw [if_pos h1, ← h1, g2, ← he]
        · rw [if_neg h1, hq q (Ne.symm h1)]
    · have hb : backV t ⟨2, p, [], d⟩ = ⟨3, p, [], []⟩ := by simp [backV, hg, g2]
      rw [hb]
      refine ⟨fin _ (opOk_mk4 (by simp) hp) ?_ fun q => ?_, by simp [backV, hg, hup']⟩
      · have : offCode u ⟨3, p, [], []⟩ = 0 := (offCode_zero (o := ⟨3, p, [], []⟩) hp).2 ⟨_, hup', fun _ => rfl, fun h => by simp at h, kids_empty ht hu hp (fun d hd => by rw [g2] at hd; cases hd) hq⟩
        exact this
      · show (if p = q then none else entAt u q) = entAt t q
        by_cases h1 : p = q
        · rw [if_pos h1, ← h1, g2]
        · rw [if_neg h1, hq q (Ne.symm h1)]
  · -- rm
    simp only at hk
    subst hk
    have e2 : d = [] := hd2 (by decide)
    have e3 : to = [] := hd3 (by decide)
    subst e2 e3
    have hat' : ∀ q, entAt u q = if p = q then none else entAt t q := fun q => by rw [hat]; rfl
    have hq : ∀ q, q ≠ p → entAt u q = entAt t q := fun q hq => by rw [hat', if_neg (Ne.symm hq)]
    have hup' : entAt u p = none := by rw [hat', if_pos rfl]
    obtain ⟨e, g1, g2, _, g4⟩ := (offCode_zero (o := ⟨3, p, [], []⟩) hp).1 (show offCode t ⟨3, p, [], []⟩ = 0 from hc)
    have g1' : entAt t p = some e := g1
    obtain ⟨m1, m2, m3, m4⟩ := tree_at ht g1'
    have he := ent_eta m2 (g2 rfl) rfl
    have hb : backV t ⟨3, p, [], []⟩ = ⟨2, p, [], e.data⟩ := by simp [backV, hg, g1']
    rw [hb]
    have hlen : u.length < 16 := by
      have h1 := offT_less g1'
      have h2 := treeOk_len ht
      have h3 : u = offT t p := hup
      rw [h3]
      omega
    refine ⟨fin _ (opOk_mk2 hp (entOk_data m1).1) ?_ fun q => ?_, by simp [backV, hg, hup']⟩
    · have : putCode u p = 0 := (putCode_zero hp).2 ⟨up_same hp (upCode_zero.2 m4) hq, .inr ⟨hup', hlen⟩⟩
      exact this
    · show (if p = q then some ⟨p, false, e.data⟩ else entAt u q) = entAt t q
      by_cases h1 : p = q
      · rw [if_pos h1, ← h1, g1', ← he]
      · rw [if_neg h1, hq q (Ne.symm h1)]
  · -- rmdir
    simp only at hk
    subst hk
    have e2 : d = [] := hd2 (by decide)
    have e3 : to = [] := hd3 (by decide)
    subst e2 e3
    have hat' : ∀ q, entAt u q = if p = q then none else entAt t q := fun q => by rw [hat]; rfl
    have hq : ∀ q, q ≠ p → entAt u q = entAt t q := fun q hq => by rw [hat', if_neg (Ne.symm hq)]
    have hup' : entAt u p = none := by rw [hat', if_pos rfl]
    obtain ⟨e, g1, _, g3, g4⟩ := (offCode_zero (o := ⟨4, p, [], []⟩) hp).1 (show offCode t ⟨4, p, [], []⟩ = 0 from hc)
    have g1' : entAt t p = some e := g1
    obtain ⟨m1, m2, m3, m4⟩ := tree_at ht g1'
    have he := ent_eta m2 (g3 rfl) ((entOk_data m1).2 (g3 rfl))
    have hb : backV t ⟨4, p, [], []⟩ = ⟨1, p, [], []⟩ := rfl
    rw [hb]
    have hlen : u.length < 16 := by
      have h1 := offT_less g1'
      have h2 := treeOk_len ht
      have h3 : u = offT t p := hup
      rw [h3]
      omega
    refine ⟨fin _ (opOk_mk4 (by simp) hp) ?_ fun q => ?_, rfl⟩
    · have : newCode u p = 0 := (newCode_zero hp).2 ⟨up_same hp (upCode_zero.2 m4) hq, hup', hlen⟩
      exact this
    · show (if p = q then some ⟨p, true, []⟩ else entAt u q) = entAt t q
      by_cases h1 : p = q
      · rw [if_pos h1, ← h1, g1', ← he]
      · rw [if_neg h1, hq q (Ne.symm h1)]
  · -- move
    simp only at hk
    subst hk
    have e2 : d = [] := hd2 (by decide)
    subst e2
    have hto : pathOk to = true := (opOk_to ho rfl).1
    have hat' : ∀ q, entAt u q = if inP q to = true then (entAt t (mvP to p q)).map (fun e => ⟨q, e.dir, e.data⟩) else if inP q p = true then none else entAt t q := fun q => by rw [hat]; rfl
    obtain ⟨⟨e, g1⟩, g2, g3, g4, g5⟩ := (moveCode_zero (o := ⟨5, p, to, []⟩) ht hp hto).1 (show moveCode t ⟨5, p, to, []⟩ = 0 from hc)
    have g1' : entAt t p = some e := g1
    have hfree := free_to ht hto g3
    have hnp : inP p to = false := by
      rw [← Bool.not_eq_true]
      intro h1
      rw [hfree p h1] at g1'
      cases g1'
    have hpp : inP p p = true := inP_iff.2 (.inl rfl)
    have htt : inP to to = true := inP_iff.2 (.inl rfl)
    obtain ⟨m1, m2, m3, m4⟩ := tree_at ht g1'
    have hb : backV t ⟨5, p, to, []⟩ = ⟨5, to, p, []⟩ := rfl
    rw [hb]
    refine ⟨fin _ (opOk_mk5 hto hp) ?_ fun q => ?_, rfl⟩
    · have : moveCode u ⟨5, to, p, []⟩ = 0 := by
        refine (moveCode_zero (o := ⟨5, to, p, []⟩) hu hto hp).2 ⟨?_, ?_, ?_, ?_, ?_⟩
        · show ∃ e, entAt u to = some e
          rw [hat', if_pos htt]
          have h1 : mvP to p to = p := by
            have := (mvP_app (b := p) (x := []) hto (.inl rfl)).2
            simpa using this
          rw [h1, g1']
          exact ⟨_, rfl⟩
        · show upCode u p = 0
          refine upCode_zero.2 (m4.imp id ?_)
          rintro ⟨d, d1, d2⟩
          refine ⟨d, ?_, d2⟩
          have i1 : inP (pathUp p) to = false := by
            rw [← Bool.not_eq_true]
            intro h1
            rw [hfree _ h1] at d1
            cases d1
          have i2 : inP (pathUp p) p = false := by
            rw [← Bool.not_eq_true, inP_iff]
            rintro (h1 | h1)
            · exact up_ne hp h1
            · have h2 := under_lt hp h1
              rcases pathUp_less hp with h3 | ⟨h3, _⟩
              · rw [h3, not_under_root hp] at h1; cases h1
              · have := pathUp_short hp (pathOk_ne h3)
                omega
          rw [hat', i1, i2]
          simpa using d1
        · show entAt u p = none
          rw [hat', hnp, hpp]
          simp
        · show under p to = false
          rw [← Bool.not_eq_true]
          intro h1
          rw [inP_iff.2 (.inr h1)] at hnp
          cases hnp
        · intro x hx
          show pathOk (mvP to p x.path) = true
          have h1 := entAt_self (treeOk_srt hu) hx
          cases hi : inP x.path to with
          | true =>
            rw [hat', if_pos hi] at h1
            cases h2 : entAt t (mvP to p x.path) with
            | none => rw [h2] at h1; cases h1
            | some y => exact (tree_at ht h2).2.2.1
          | false =>
            rw [mvP_out hi]
            exact (tree_mem hu hx).2.1
      exact this
    · show (if inP q p = true then (entAt u (mvP p to q)).map (fun e => (⟨q, e.dir, e.data⟩ : Ent)) else if inP q to = true then none else entAt u q) = entAt t q
      by_cases h1 : inP q p = true
      · rw [if_pos h1]
        obtain ⟨x, hx1, hx2⟩ := (inP_ex hp).1 h1
        have h2 := mvP_app (b := to) hp hx2
        have h3 := mvP_app (b := p) hto hx2
        rw [hx1, h2.2, hat', if_pos h3.1, h3.2, ← hx1, Option.map_map]
        cases h4 : entAt t q with
        | none => rfl
        | some y =>
          obtain ⟨_, h5⟩ := entAt_some h4
          simp only [Option.map_some, Function.comp]
          rw [← h5]
      · rw [if_neg h1]
        by_cases h2 : inP q to = true
        · rw [if_pos h2, hfree q h2]
        · rw [if_neg h2, hat', if_neg h2, if_neg h1]
def logRun : List Ent → List Opn → List Ent × List Int
  | t, [] => (t, [])
  | t, o :: r => ((logRun (treeDo t o).1 r).1, (treeDo t o).2 :: (logRun (treeDo t o).1 r).2)
def cleanRun : List Ent → List Opn → List Opn
  | _, [] => []
  | t, o :: r => if (treeDo t o).2 = 0 then o :: cleanRun (treeDo t o).1 r else cleanRun (treeDo t o).1 r
def backRun : List Ent → List Opn → List Opn
  | _, [] => []
  | t, o :: r => backRun (treeDo t o).1 r ++ [(opBack t o).getD op0]
def logBad (t : List Ent) (ops : List Opn) : Bool := !treeOk t || decide (30 < ops.length)
def logDo (t : List Ent) (ops : List Opn) : List Ent × List Int := if logBad t ops then ([], []) else logRun t ops
def logClean (t : List Ent) (ops : List Opn) : List Opn := if logBad t ops then [] else cleanRun t ops
def logBack (t : List Ent) (ops : List Opn) : List Opn := backRun t (logClean t ops)
theorem logBad_iff {t : List Ent} {ops : List Opn} : logBad t ops = false ↔ treeOk t = true ∧ ops.length ≤ 30 := by simp [logBad]
theorem run_app : ∀ (a b : List Opn) (t : List Ent), logRun t (a ++ b) = ((logRun (logRun t a).1 b).1, (logRun t a).2 ++ (logRun (logRun t a).1 b).2)
  | [], b, t => rfl
  | o :: a, b, t => by
    have ih := run_app a b (treeDo t o).1
    simp only [List.cons_append, logRun, ih]
theorem run_len : ∀ (a : List Opn) (t : List Ent), (logRun t a).2.length = a.length
  | [], t => rfl
  | o :: a, t => by simp [logRun, run_len a (treeDo t o).1]
theorem run_ok : ∀ (a : List Opn) {t : List Ent}, treeOk t = true → treeOk (logRun t a).1 = true
  | [], t, h => h
  | o :: a, t, h => run_ok a (treeDo_ok h o)
theorem stay {t : List Ent} {o : Opn} (ht : treeOk t = true) (h : (treeDo t o).2 ≠ 0) : (treeDo t o).1 = t := by
  unfold treeDo at h ⊢
  split
  · rename_i h1; rw [ht] at h1; cases h1
  · split
    · rfl
    · split
      · rfl
      · rename_i h1 h2 h3
        rw [if_neg h1, if_neg h2, if_neg h3] at h
        exact absurd rfl h
theorem clean_run : ∀ (a : List Opn) {t : List Ent}, treeOk t = true → (logRun t (cleanRun t a)).1 = (logRun t a).1 ∧ (∀ c ∈ (logRun t (cleanRun t a)).2, c = 0) ∧ (cleanRun t a).length ≤ a.length
  | [], t, _ => ⟨rfl, by simp [cleanRun, logRun], Nat.le_refl _⟩
  | o :: a, t, h => by
    obtain ⟨i1, i2, i3⟩ := clean_run a (treeDo_ok h o)
    by_cases hc : (treeDo t o).2 = 0
    · have e : cleanRun t (o :: a) = o :: cleanRun (treeDo t o).1 a := by rw [cleanRun, if_pos hc]
      rw [e]
      refine ⟨?_, ?_, by simp; omega⟩
      · simp only [logRun, i1]
      · simp only [logRun, hc]
        intro c hm
        rcases List.mem_cons.1 hm with hm | hm
        · exact hm
        · exact i2 c hm
    · have hs := stay h hc
      have e : cleanRun t (o :: a) = cleanRun t a := by rw [cleanRun, if_neg hc, hs]
      rw [hs] at i1 i2 i3
      rw [e]
      refine ⟨?_, i2, by simp; omega⟩
      rw [i1]
      simp only [logRun, hs]
theorem opBack_zero {t : List Ent} {o : Opn} (h : (treeDo t o).2 = 0) : opBack t o = some (backV t o) := if_pos h
theorem back_run : ∀ (a : List Opn) {t : List Ent}, treeOk t = true → (∀ c ∈ (logRun t a).2, c = 0) → (logRun (logRun t a).1 (backRun t a)).1 = t ∧ (∀ c ∈ (logRun (logRun t a).1 (backRun t a)).2, c = 0) ∧ (backRun t a).length = a.length
  | [], t, _, _ => ⟨rfl, by simp [backRun, logRun], rfl⟩
  | o :: a, t, h, hz => by
    simp only [logRun] at hz
    have h0 : (treeDo t o).2 = 0 := hz _ (by simp)
    obtain ⟨i1, i2, i3⟩ := back_run a (treeDo_ok h o) fun c hc => hz c (by simp [hc])
    have hd : treeDo t o = ((treeDo t o).1, 0) := by rw [← h0]
    obtain ⟨b1, _⟩ := back_do hd
    simp only [backRun, opBack_zero h0, Option.getD_some, logRun, run_app, i1, b1]
    refine ⟨trivial, ?_, by simp [i3]⟩
    intro c hc
    rcases List.mem_append.1 hc with hc | hc
    · exact i2 c hc
    · simpa using hc
theorem clean_app : ∀ (a b : List Opn) (t : List Ent), cleanRun t (a ++ b) = cleanRun t a ++ cleanRun (logRun t a).1 b
  | [], b, t => rfl
  | o :: a, b, t => by
    have ih := clean_app a b (treeDo t o).1
    simp only [List.cons_append, cleanRun, logRun, ih]
    split <;> rfl
theorem back_len {t : List Ent} (ht : treeOk t = true) (a : List Opn) : (backRun t (cleanRun t a)).length = (cleanRun t a).length := (back_run _ ht (clean_run a ht).2.1).2.2
theorem code_zero' {t : List Ent} {o : Opn} (h : (treeDo t o).2 = 0) : treeDo t o = ((treeDo t o).1, 0) := by rw [← h]
end Go.Par
