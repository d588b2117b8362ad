/- An abstract reading of the elaborated code. Part 5: a step, by what it looks at; what is lent. -/
import Derived.Test.YtgeieehampfkcaaDoorBd
namespace Go.Ab
open Go Go.RowKit

theorem wp_value {P : Program} {o : Oper} {a : Act} {w w' : World} {v : Value} {next : Act → World → Prop} {Q : Exit → Act → World → Prop}
    (hrun : (execOp a.eval o).run P w = .ok (.value v) w') (h : next (a.put o.dst v) w') : o.wp P a w next Q := by
  unfold Oper.wp
  rw [hrun]
  exact h
theorem wp_unit {P : Program} {o : Oper} {a : Act} {w w' : World} {next : Act → World → Prop} {Q : Exit → Act → World → Prop}
    (hrun : (execOp a.eval o).run P w = .ok .skip w') (h : next (a.put o.dst undef) w') : o.wp P a w next Q := by
  unfold Oper.wp
  rw [hrun]
  exact h

theorem evK_inv {gl : Nat → Option (List D)} {tm : Tm} {x : Operand} {K : D → Prop} (h : evK gl tm x K) : ∃ d, ev gl tm x = some d ∧ K d := by
  unfold evK at h
  split at h
  · exact ⟨_, by assumption, h⟩
  · exact h.elim
theorem tyK_inv {E : Env} {t : TypeId} {K : TD → Prop} (h : tyK E t K) : ∃ d, E.ty t = some d ∧ K d := by
  unfold tyK at h
  split at h
  · exact ⟨_, by assumption, h⟩
  · exact h.elim
theorem bsplit_elim {x : Bool} {K : Bool → Prop} (h : bsplit x K) : K x := by
  cases x
  · exact h.f rfl
  · exact h.t rfl
theorem VR.vg {w : World} {Av : Nat → Prop} {ρ : Nat → Option Value} {d : D} {u : Value} (h : VR w Av ρ d u) (hn : isTup d = false) : VG w Av ρ d u := by
  cases h with
  | gr h => exact h
  | tup hl h => simp [isTup] at hn
theorem VR.undef {w : World} {Av : Nat → Prop} {ρ : Nat → Option Value} : VR w Av ρ (.tup []) undef := .tup (ds := []) (us := []) rfl (by simp)

/-- what a step does, by what it looks at -/
def LStep (E : Env) (o : Oper) (tm : Tm) (S : Store) (fp : List Nat) (nx nx' : Nat) (d : D) (out : Out) : Prop :=
  ∀ (cx : Cx) (tm' : Tm) (S' : Store) (a : Act) (w : World) (ρ : Nat → Option Value) (Q : Exit → Act → World → Prop), (∀ t, o.dst = some t → t < cx.N) →
    (∀ x ∈ o.op.operands, ev E.gl tm' x = ev E.gl tm x) → (∀ n ∈ fp, lk S' n = lk S n) → R E cx tm' S' a w ρ → (∀ n, nx ≤ n → n < nx' → ρ n = none) →
    o.wp E.P a w (fun a' w' => ∃ ρ', R E cx (put o.dst d tm') (ap out S') a' w' ρ' ∧ ∀ n, ¬ (nx ≤ n ∧ n < nx') → ρ' n = ρ n) Q
def Ok1 (E : Env) (o : Oper) (tm : Tm) (S : Store) (nx : Nat) (K : Kt) : Prop :=
  ∃ (fp : Fp) (out : Out) (nx' : Nat) (d : D) (S2 : Store), LStep E o tm S fp.all nx nx' d out ∧ (∀ n, lk out n ≠ none → n ∈ fp.wr) ∧ (∀ n ∈ fp.wr, n ∈ fp.all) ∧ nx ≤ nx' ∧
    (∀ n, nx ≤ n → n < nx' → n ∈ fp.wr) ∧ (∀ n, lk S2 n = lk (ap out S) n) ∧ K fp (put o.dst d tm) S2 nx'

section
variable {E : Env} {o : Oper} {tm : Tm} {S : Store} {nx : Nat} {K : Kt}
/-- a step that ends in a value -/
theorem Ok1.val {fp : Fp} {out : Out} {nx' : Nat} {d : D} {S2 : Store} (h1 : ∀ n, lk out n ≠ none → n ∈ fp.wr) (h2 : ∀ n ∈ fp.wr, n ∈ fp.all) (h3 : nx ≤ nx') (h4 : ∀ n, nx ≤ n → n < nx' → n ∈ fp.wr) (h5 : ∀ n, lk S2 n = lk (ap out S) n)
    (hk : K fp (put o.dst d tm) S2 nx')
    (hs : ∀ (cx : Cx) (tm' : Tm) (S' : Store) (a : Act) (w : World) (ρ : Nat → Option Value), (∀ x ∈ o.op.operands, ev E.gl tm' x = ev E.gl tm x) → (∀ n ∈ fp.all, lk S' n = lk S n) → R E cx tm' S' a w ρ → (∀ n, nx ≤ n → n < nx' → ρ n = none) →
      ∃ v w' ρ', (execOp a.eval o).run E.P w = .ok (.value v) w' ∧ R E cx tm' (ap out S') a w' ρ' ∧ VR w' (AvS cx.G (ap out S') ρ') ρ' d v ∧ ∀ n, ¬ (nx ≤ n ∧ n < nx') → ρ' n = ρ n) : Ok1 E o tm S nx K := by
  refine ⟨fp, out, nx', d, S2, fun cx tm' S' a w ρ Q hd he hf h hn => ?_, h1, h2, h3, h4, h5, hk⟩
  obtain ⟨v, w', ρ', e1, e2, e3, e4⟩ := hs cx tm' S' a w ρ he hf h hn
  exact wp_value e1 ⟨ρ', e2.value hd e3, e4⟩
/-- a step that turns no block -/
theorem Ok1.pure {fp : List Nat} {d : D} (hk : K ⟨fp, []⟩ (put o.dst d tm) S nx)
    (hs : ∀ (cx : Cx) (tm' : Tm) (S' : Store) (a : Act) (w : World) (ρ : Nat → Option Value), (∀ x ∈ o.op.operands, ev E.gl tm' x = ev E.gl tm x) → (∀ n ∈ fp, lk S' n = lk S n) → R E cx tm' S' a w ρ →
      ∃ v, (execOp a.eval o).run E.P w = .ok (.value v) w ∧ VR w (AvS cx.G S' ρ) ρ d v) : Ok1 E o tm S nx K := by
  refine Ok1.val (fp := ⟨fp, []⟩) (out := []) (nx' := nx) (d := d) (S2 := S) (by simp [lk]) (by simp) (Nat.le_refl _) (fun n h1 h2 => by omega) (fun _ => rfl) hk fun cx tm' S' a w ρ he hf h hn => ?_
  obtain ⟨v, e1, e2⟩ := hs cx tm' S' a w ρ he hf h
  exact ⟨v, w, ρ, e1, h, e2, fun _ _ => rfl⟩
end

theorem ap_append (o1 o2 : Out) (S : Store) : ap (o1 ++ o2) S = ap o1 (ap o2 S) := by
  induction o1 with
  | nil => rfl
  | cons p r ih =>
    obtain ⟨n, o⟩ := p
    cases o <;> simp [ap, ih]

section
variable {P : Program} {w : World} {Av : Nat → Prop}
/-- a slice of the call's own reads as a list where it is written no more -/
theorem VI_of_rows {e : TypeId} {sz : Nat} {xs : List (List D)} {u : Value} {us : List Value} (ho : w.ownsRow 0 e sz u xs.length us) (hc : Rows (VI w Av) sz xs us) (hav : ∀ x, blkOf u = some x → ¬ Av x) : VI w Av (.sl xs) u := by
  rcases ho.2 with ⟨rfl, hn⟩ | ⟨g, cap, cur, rfl, _, hh, hnc, hcm, hcs, htake⟩
  · have : xs = [] := List.eq_nil_of_length_eq_zero hn
    subst this
    exact .sl0
  · have key : ∀ (i j : Nat) (cs : List D) (d : D), xs[i]? = some cs → cs[j]? = some d → us[i * sz + j]? = some (us.getD (i * sz + j) undef) ∧ VI w Av d (us.getD (i * sz + j) undef) := by
      intro i j cs d h2 h3
      obtain ⟨u', h4, h5⟩ := hc.at_ i j cs d h2 h3
      have : us.getD (i * sz + j) undef = u' := by simp [List.getD, h4]
      rw [this]
      exact ⟨h4, h5⟩
    refine .sl (sz := sz) (fun i j => us.getD (i * sz + j) undef) rfl hnc hcm (fun _ => (Array.getElem?_eq_some_iff.1 hh).1) (fun _ => hav g rfl) hc.el ?_ ?_ ?_
    · intro i j cs d h2 h3
      exact ho.cells (g := g) rfl _ _ (key i j cs d h2 h3).1
    · intro i j cs d h2 h3
      exact hc.one _ (List.mem_of_getElem? (key i j cs d h2 h3).1)
    · intro i j cs d h2 h3
      exact (key i j cs d h2 h3).2
end

/-- what is lent for good -/
def frzOut (S : Store) : List Nat → Out
  | [] => []
  | n :: r => match lk S n with
    | some (.own _ xs) => (n, some (.fr xs)) :: frzOut S r
    | _ => frzOut S r
theorem lk_frz1 (t : Nat) : ∀ (S : Store) (m : Nat), lk (frz1 t S) m = match lk S m with
    | some (.own e xs) => if m = t then some (.fr xs) else some (.own e xs)
    | o => o
  | [], m => rfl
  | (n, b) :: r, m => by
    have ih := lk_frz1 t r m
    by_cases hn : n = t
    · subst hn
      by_cases hm : n = m
      · subst hm
        cases b <;> simp [frz1, Nat.beq_refl, lk_cons]
      · cases b <;> simp only [frz1, Nat.beq_refl, lk_cons, if_neg hm] <;> exact ih
    · by_cases hm : n = m
      · subst hm
        cases b <;> simp [frz1, beq_no hn, lk_cons, hn]
      · simp only [frz1, beq_no hn, lk_cons, if_neg hm]; exact ih
theorem lk_frz : ∀ (ts : List Nat) (S : Store) (m : Nat), lk (frz ts S) m = match lk S m with
    | some (.own e xs) => if m ∈ ts then some (.fr xs) else some (.own e xs)
    | o => o
  | [], S, m => by cases h : lk S m with | none => simp [frz, h] | some b => cases b <;> simp [frz, h]
  | t :: r, S, m => by
    rw [frz, lk_frz r, lk_frz1]
    cases h : lk S m with
    | none => simp
    | some b =>
      cases b with
      | own e xs => by_cases h1 : m = t <;> simp [h1]
      | box e cs => simp
      | row e cs => simp
      | fr xs => simp
theorem lk_frzOut (S : Store) : ∀ (ts : List Nat) (m : Nat), lk (frzOut S ts) m = if m ∈ ts then (match lk S m with | some (.own _ xs) => some (some (.fr xs)) | _ => none) else none
  | [], m => by simp [frzOut, lk]
  | t :: r, m => by
    have ih := lk_frzOut S r m
    simp only [frzOut]
    split
    · rename_i e xs hl
      rw [lk_cons, ih]
      by_cases h : t = m
      · subst h; simp [hl]
      · simp [h, Ne.symm h]
    · rename_i hno
      rw [ih]
      by_cases h : m = t
      · subst h
        have : (match lk S m with | some (.own _ xs) => some (some (Blk.fr xs)) | _ => none) = none := by
          split
          · rename_i e xs hl; exact absurd hl (hno e xs)
          · rfl
        simp
      · simp [h]
theorem frz_ap (ts : List Nat) (S : Store) (n : Nat) : lk (frz ts S) n = lk (ap (frzOut S ts) S) n := by
  rw [lk_frz, lk_ap, lk_frzOut]
  by_cases h : n ∈ ts
  · simp only [if_pos h]
    cases hl : lk S n with
    | none => rfl
    | some b => cases b <;> rfl
  · simp only [if_neg h]
    cases hl : lk S n with
    | none => rfl
    | some b => cases b <;> rfl

section
variable {E : Env} {cx : Cx} {tm : Tm} {S S0 : Store} {a : Act} {w : World} {ρ : Nat → Option Value}
theorem R.frz1 (h : R E cx tm S a w ρ) {n : Nat} {xs : List (List D)} (hl : (∃ e, lk S n = some (.own e xs)) ∨ lk S n = some (.fr xs)) : R E cx tm (ap [(n, some (.fr xs))] S) a w ρ := by
  have lo : ∀ m o, lk [(n, some (Blk.fr xs))] m = some o → m = n ∧ o = some (.fr xs) := by
    intro m o hm
    rw [lk_cons] at hm
    by_cases e : n = m
    · rw [if_pos e] at hm; cases hm; exact ⟨e.symm, rfl⟩
    · rw [if_neg e] at hm; simp [lk] at hm
  refine h.turn ⟨(Fr.refl _ w), fun _ _ h => h, fun m b hm hv => ?_, fun m m' b c x hm _ hv => ?_, fun hi m b hm => ?_⟩
  · obtain ⟨_, e⟩ := lo m _ hm; cases e; simp [live] at hv
  · obtain ⟨_, e⟩ := lo m _ hm; cases e; simp [live] at hv
  · obtain ⟨rfl, e⟩ := lo m _ hm
    cases e
    rcases hl with ⟨e, hl⟩ | hl
    · obtain ⟨u, us, hr, ho, hc⟩ := h.st _ _ hl
      refine ⟨u, hr, VI_of_rows ho (hc.mono hi) fun x hx => ?_⟩
      rintro (hG | ⟨t, b, q1, q2, q3⟩)
      · have h1 := h.g x hG
        rcases h.new x ⟨m, _, hl, rfl, by rw [hr]; exact hx⟩ with h2 | h2
        · omega
        · exact h.gf x hG h2
      · rw [lk_ap, lk_cons] at q1
        by_cases e : m = t
        · rw [if_pos e] at q1; simp at q1; subst q1; simp [live] at q2
        · rw [if_neg e] at q1
          exact e (h.dis m t _ b x hl (by simpa [lk] using q1) rfl q2 (by rw [hr]; exact hx) q3)
    · obtain ⟨u, hr, hv⟩ := h.st _ _ hl
      exact ⟨u, hr, hi _ _ hv⟩
theorem R.frzs (h : R E cx tm S a w ρ) : ∀ (ts : List Nat), (∀ t ∈ ts, lk S t = lk S0 t) → R E cx tm (ap (frzOut S0 ts) S) a w ρ
  | [], _ => h
  | t :: r, hs => by
    have h1 := R.frzs h r fun t ht => hs t (by simp [ht])
    simp only [frzOut]
    split
    · rename_i e xs hl
      have : (t, some (Blk.fr xs)) :: frzOut S0 r = [(t, some (Blk.fr xs))] ++ frzOut S0 r := rfl
      rw [this, ap_append]
      refine h1.frz1 ?_
      rw [lk_ap, lk_frzOut, hs t (by simp), hl]
      by_cases ht : t ∈ r
      · simp [ht]
      · simp [ht]
    · exact h1

/-- what is lent reads as a list -/
theorem immA_VI (h : R E cx tm S a w ρ) {d d' : D} {u : Value} (hS : ∀ t ∈ nmA d, ∀ xs, ((∃ e, lk S0 t = some (.own e xs)) ∨ lk S0 t = some (.fr xs)) → lk S t = some (.fr xs))
    (hv : VA w (AvS cx.G S ρ) ρ d u) (hi : immA S0 d = some d') : VI w (AvS cx.G S ρ) d' u ∧ (∀ ds, d' ≠ .agg ds) := by
  cases d with
  | own t =>
    have hr : ρ t = some u := by
      cases hv with
      | im h => cases h
      | own h => exact h
    have fin : ∀ xs, lk S t = some (.fr xs) → VI w (AvS cx.G S ρ) (.sl xs) u := by
      intro xs hl
      obtain ⟨u', hr', hvi⟩ := h.st t _ hl
      rw [hr] at hr'
      cases hr'
      exact hvi
    simp only [immA] at hi
    split at hi
    · rename_i e xs hl
      cases hi
      exact ⟨fin xs (hS t (by simp [nmA]) xs (.inl ⟨e, hl⟩)), by simp⟩
    · rename_i xs hl
      cases hi
      exact ⟨fin xs (hS t (by simp [nmA]) xs (.inr hl)), by simp⟩
    · cases hi
  | nil =>
    simp only [immA, Option.some.injEq] at hi
    subst hi
    cases hv with
    | im h => cases h; exact ⟨.sl0, by simp⟩
  | fn f cs =>
    simp only [immA] at hi
    split at hi
    · simp only [Option.some.injEq] at hi
      subst hi
      cases hv with
      | im h => exact ⟨h, by simp⟩
      | fn hl h =>
        rename_i us
        cases us with
        | nil => exact ⟨.fn f, by simp⟩
        | cons => simp at hl
    · cases hi
  | bp => simp [immA] at hi
  | op => simp [immA] at hi
  | junk => simp [immA] at hi
  | agg => simp [immA] at hi
  | tup => simp [immA] at hi
  | b x => simp only [immA, Option.some.injEq] at hi; subst hi; cases hv with | im h => exact ⟨h, by simp⟩
  | k x => simp only [immA, Option.some.injEq] at hi; subst hi; cases hv with | im h => exact ⟨h, by simp⟩
  | s x => simp only [immA, Option.some.injEq] at hi; subst hi; cases hv with | im h => exact ⟨h, by simp⟩
  | v x => simp only [immA, Option.some.injEq] at hi; subst hi; cases hv with | im h => exact ⟨h, by simp⟩
  | sl x => simp only [immA, Option.some.injEq] at hi; subst hi; cases hv with | im h => exact ⟨h, by simp⟩
  | ep x => simp only [immA, Option.some.injEq] at hi; subst hi; cases hv with | im h => exact ⟨h, by simp⟩
theorem immAs_VI (h : R E cx tm S a w ρ) : ∀ {ds ds' : List D} {us : List Value}, (∀ t ∈ nmAs ds, ∀ xs, ((∃ e, lk S0 t = some (.own e xs)) ∨ lk S0 t = some (.fr xs)) → lk S t = some (.fr xs)) →
    ds.length = us.length → (∀ (i : Nat) (d : D) (u : Value), ds[i]? = some d → us[i]? = some u → VA w (AvS cx.G S ρ) ρ d u) → immAs S0 ds = some ds' →
    ds'.length = us.length ∧ ∀ (i : Nat) (d : D) (u : Value), ds'[i]? = some d → us[i]? = some u → VI w (AvS cx.G S ρ) d u
  | [], ds', us, _, hl, _, hi => by simp only [immAs, Option.some.injEq] at hi; subst hi; exact ⟨by simpa using hl, by simp⟩
  | d :: r, ds', [], _, hl, _, _ => by simp at hl
  | d :: r, ds', u :: q, hS, hl, hv, hi => by
    simp only [immAs] at hi
    split at hi
    · rename_i d1 hd1
      split at hi
      · rename_i r1 hr1
        cases hi
        have h1 := immA_VI h (fun t ht => hS t (by simp [nmAs, ht])) (hv 0 d u rfl rfl) hd1
        have h2 := immAs_VI h (us := q) (fun t ht => hS t (by simp [nmAs, ht])) (by simpa using hl) (fun i d u p q => hv (i + 1) d u (by simpa using p) (by simpa using q)) hr1
        refine ⟨by simp [h2.1], fun i d' u' p q => ?_⟩
        cases i with
        | zero => simp at p q; subst p q; exact h1.1
        | succ i => exact h2.2 i d' u' (by simpa using p) (by simpa using q)
      · cases hi
    · cases hi
theorem immD_VI (h : R E cx tm S a w ρ) {d d' : D} {u : Value} (hS : ∀ t ∈ nmD d, ∀ xs, ((∃ e, lk S0 t = some (.own e xs)) ∨ lk S0 t = some (.fr xs)) → lk S t = some (.fr xs))
    (hv : VR w (AvS cx.G S ρ) ρ d u) (hi : immD S0 d = some d') : VI w (AvS cx.G S ρ) d' u := by
  by_cases ha : ∃ ds, d = .agg ds
  · obtain ⟨ds, rfl⟩ := ha
    simp only [immD] at hi
    split at hi
    · rename_i ds' hds
      cases hi
      have core : ∀ us : List Value, u = .agg us.toArray → ds.length = us.length → (∀ u ∈ us, u.oneCell' = true) → (∀ (i : Nat) (d : D) (u : Value), ds[i]? = some d → us[i]? = some u → VA w (AvS cx.G S ρ) ρ d u) → VI w (AvS cx.G S ρ) (.agg ds') u := by
        intro us hu hl h1 hr
        subst hu
        obtain ⟨e1, e2⟩ := immAs_VI h hS hl hr hds
        exact .agg e1 h1 e2
      cases hv with
      | gr hv =>
        cases hv with
        | atom hv =>
          cases hv with
          | im hv =>
            cases hv with
            | agg hl h1 hr => exact core _ rfl hl h1 fun i d u p q => .im (hr i d u p q)
        | agg hl h1 hr => exact core _ rfl hl h1 hr
    · cases hi
  · have hd : immD S0 d = immA S0 d := by cases d <;> first | rfl | exact absurd ⟨_, rfl⟩ ha
    rw [hd] at hi
    cases hv with
    | gr hv =>
      cases hv with
      | atom hv =>
        refine (immA_VI h ?_ hv hi).1
        intro t ht
        refine hS t ?_
        cases d <;> first | exact ht | exact absurd ⟨_, rfl⟩ ha | (simp [nmA] at ht)
      | agg => exact absurd ⟨_, rfl⟩ ha
    | tup => simp [immA] at hi
/-- behind a freeze -/
theorem frz_fits {S' : Store} {ts : List Nat} (ha : ∀ t ∈ ts, lk S' t = lk S0 t) : ∀ t ∈ ts, ∀ xs, ((∃ e, lk S0 t = some (.own e xs)) ∨ lk S0 t = some (.fr xs)) → lk (ap (frzOut S0 ts) S') t = some (.fr xs) := by
  intro t ht xs hx
  rw [lk_ap, lk_frzOut, if_pos ht]
  rcases hx with ⟨e, hx⟩ | hx
  · rw [hx]
  · rw [hx]; simp only; rw [ha t ht]; exact hx
end
end Go.Ab
