/- An abstract reading of the elaborated code. Part 14: a call does what the contract says. -/
import Derived.Test.YtgeieehampfkcaaDoorBm
namespace Go.Ab
open Go Go.RowKit

theorem noImm_res {d : D} (h : NoImmD d) : resAll NoImmA d := by
  have g : ∀ d, NoImmG d → (∀ es, d = .agg es → ∀ e ∈ es, NoImmA e) ∧ ((∀ es, d ≠ .agg es) → NoImmA d) := by
    intro d h
    cases d <;> first
      | (refine ⟨?_, fun hn => absurd rfl (hn _)⟩; intro es he; cases he; exact h)
      | (refine ⟨fun es he => (by cases he), fun _ => h⟩)
  cases d <;> first | exact fun d hd => g d (h d hd) | exact g _ h
theorem noImm_blk {b : Blk} (h : NoImmB b) : blkAll NoImmA b := by
  cases b <;> exact h
theorem all_res (d : D) : resAll (fun _ => True) d := by
  cases d <;> simp [resAll]
theorem all_blk (b : Blk) : blkAll (fun _ => True) b := by
  cases b <;> simp [blkAll]

section
variable {E : Env} {cx : Cx} {tm : Tm} {S S0 : Store} {nx : Nat} {a : Act} {w : World} {ρ : Nat → Option Value} {o : Oper} {K : Kt} {ns : List Nat}

theorem argA_VA (h : R E cx tm S a w ρ) {d d' : D} {u : Value} (hS : ∀ t ∈ nmA d, t ∉ ns → ∀ xs, ((∃ e, lk S0 t = some (.own e xs)) ∨ lk S0 t = some (.fr xs)) → lk S t = some (.fr xs))
    (hv : VA w (AvS cx.G S ρ) ρ d u) (ha : argA ns S0 d = some d') : VA w (AvS cx.G S ρ) (carρ ns ρ) d' u ∧ ∀ ds, d' ≠ .agg ds := by
  have imm : (∀ t ∈ nmA d, t ∉ ns) → immA S0 d = some d' → VA w (AvS cx.G S ρ) (carρ ns ρ) d' u ∧ ∀ ds, d' ≠ .agg ds := by
    intro hn hi
    obtain ⟨h1, h2⟩ := immA_VI (S0 := S0) h (fun t ht => hS t ht (hn t ht)) hv hi
    exact ⟨.im h1, h2⟩
  cases d with
  | own t =>
    simp only [argA] at ha
    split at ha
    · rename_i i hp
      cases ha
      cases hv with
      | im h => cases h
      | own h h1 => exact ⟨.own (by simp [carρ, posOf_get hp, h]) h1, by simp⟩
    · rename_i hp
      exact imm (fun t ht => by simp [nmA] at ht; subst ht; exact posOf_none hp) ha
  | bp t off =>
    simp only [argA] at ha
    split at ha
    · rename_i i hp
      cases ha
      cases hv with
      | im h => cases h
      | bp h => exact ⟨.bp (by simp [carρ, posOf_get hp, h]), by simp⟩
    · cases ha
  | fn f cs =>
    simp only [argA] at ha
    split at ha
    · rename_i qs hq
      cases ha
      obtain ⟨q1, q2⟩ := posAll_get hq
      refine ⟨?_, by simp⟩
      cases hv with
      | im h =>
        cases h
        have : qs = [] := List.eq_nil_of_length_eq_zero (by rw [q1]; rfl)
        subst this
        exact .fn (us := []) rfl (by simp)
      | fn hl h =>
        refine .fn (by rw [q1, hl]) fun i m u hm hu => ?_
        have hi : i < cs.length := by rw [← q1]; exact (List.getElem?_eq_some_iff.1 hm).1
        obtain ⟨h1, h2⟩ := h i cs[i] u (List.getElem?_eq_getElem hi) hu
        refine ⟨?_, h2⟩
        simp only [carρ, q2 i cs[i] m (List.getElem?_eq_getElem hi) hm, Option.bind_some]
        exact h1
    · cases ha
  | op t => simp [argA, immA] at ha
  | agg => simp [argA, immA] at ha
  | tup => simp [argA, immA] at ha
  | junk => simp [argA, immA] at ha
  | b x => exact imm (by simp [nmA]) ha
  | k x => exact imm (by simp [nmA]) ha
  | s x => exact imm (by simp [nmA]) ha
  | v x => exact imm (by simp [nmA]) ha
  | nil => exact imm (by simp [nmA]) ha
  | sl x => exact imm (by simp [nmA]) ha
  | ep x => exact imm (by simp [nmA]) ha
theorem argAs_VA (h : R E cx tm S a w ρ) : ∀ {ds ds' : List D} {us : List Value}, (∀ t ∈ nmAs ds, t ∉ ns → ∀ xs, ((∃ e, lk S0 t = some (.own e xs)) ∨ lk S0 t = some (.fr xs)) → lk S t = some (.fr xs)) →
    ds.length = us.length → (∀ (i : Nat) (d : D) (u : Value), ds[i]? = some d → us[i]? = some u → VA w (AvS cx.G S ρ) ρ d u) → argAs ns S0 ds = some ds' →
    ds'.length = us.length ∧ ∀ (i : Nat) (d : D) (u : Value), ds'[i]? = some d → us[i]? = some u → VA w (AvS cx.G S ρ) (carρ ns ρ) d u
  | [], ds', us, _, hl, _, hi => by simp only [argAs, Option.some.injEq] at hi; subst hi; exact ⟨by simpa using hl, by simp⟩
  | d :: r, ds', [], _, hl, _, _ => by simp at hl
  | d :: r, ds', u :: q, hS, hl, hv, hi => by
    simp only [argAs] at hi
    split at hi
    · rename_i d1 hd1
      split at hi
      · rename_i r1 hr1
        cases hi
        have h1 := argA_VA (S0 := S0) h (fun t ht => hS t (by simp [nmAs, ht])) (hv 0 d u rfl rfl) hd1
        have h2 := argAs_VA h (us := q) (fun t ht => hS t (by simp [nmAs, ht])) (by simpa using hl) (fun i d u p q => hv (i + 1) d u (by simpa using p) (by simpa using q)) hr1
        refine ⟨by simp [h2.1], fun i d' u' p q => ?_⟩
        cases i with
        | zero => simp at p q; subst p q; exact h1.1
        | succ i => exact h2.2 i d' u' (by simpa using p) (by simpa using q)
      · cases hi
    · cases hi
theorem argD_VG (h : R E cx tm S a w ρ) {d d' : D} {u : Value} (hS : ∀ t ∈ nmD d, t ∉ ns → ∀ xs, ((∃ e, lk S0 t = some (.own e xs)) ∨ lk S0 t = some (.fr xs)) → lk S t = some (.fr xs))
    (hv : VR w (AvS cx.G S ρ) ρ d u) (hi : argD ns S0 d = some d') : VG w (AvS cx.G S ρ) (carρ ns ρ) d' u := by
  by_cases ha : ∃ ds, d = .agg ds
  · obtain ⟨ds, rfl⟩ := ha
    simp only [argD] at hi
    split at hi
    · rename_i ds' hds
      cases hi
      obtain ⟨us, rfl, hl, h1, hr⟩ := hv.agg_inv
      obtain ⟨e1, e2⟩ := argAs_VA (S0 := S0) h hS hl hr hds
      exact .agg e1 h1 e2
    · cases hi
  · have hd : argD ns S0 d = argA ns S0 d := by cases d <;> first | rfl | exact absurd ⟨_, rfl⟩ ha
    rw [hd] at hi
    cases hv with
    | gr hv =>
      cases hv with
      | atom hv =>
        refine .atom (argA_VA (S0 := S0) h ?_ hv hi).1
        intro t ht
        refine hS t ?_
        cases d <;> first | exact ht | exact absurd ⟨_, rfl⟩ ha | (simp [nmA] at ht)
      | agg => exact absurd ⟨_, rfl⟩ ha
    | tup => simp [argA, immA] at hi
theorem argDs_get : ∀ {ds cds : List D}, argDs ns S ds = some cds → cds.length = ds.length ∧ ∀ (i : Nat) (d d' : D), ds[i]? = some d → cds[i]? = some d' → argD ns S d = some d'
  | [], cds, h => by simp [argDs] at h; subst h; simp
  | d :: r, cds, h => by
    simp only [argDs] at h
    split at h
    · rename_i d1 hd1
      split at h
      · rename_i r1 hr1
        cases h
        obtain ⟨h1, h2⟩ := argDs_get hr1
        refine ⟨by simp [h1], fun i e e' p q => ?_⟩
        cases i with
        | zero => simp at p q; subst p q; exact hd1
        | succ i => exact h2 i e e' (by simpa using p) (by simpa using q)
      · cases h
    · cases h
theorem argRows_get : ∀ {xs xs' : List (List D)}, argRows ns S xs = some xs' → xs'.length = xs.length ∧ ∀ (i : Nat) (cs cs' : List D), xs[i]? = some cs → xs'[i]? = some cs' → argAs ns S cs = some cs'
  | [], xs', h => by simp [argRows] at h; subst h; simp
  | d :: r, xs', h => by
    simp only [argRows] at h
    split at h
    · rename_i d1 hd1
      split at h
      · rename_i r1 hr1
        cases h
        obtain ⟨h1, h2⟩ := argRows_get hr1
        refine ⟨by simp [h1], fun i e e' p q => ?_⟩
        cases i with
        | zero => simp at p q; subst p q; exact hd1
        | succ i => exact h2 i e e' (by simpa using p) (by simpa using q)
      · cases h
    · cases h
theorem argAs_len : ∀ {cs cs' : List D}, argAs ns S cs = some cs' → cs'.length = cs.length
  | [], cs', h => by simp [argAs] at h; subst h; rfl
  | d :: r, cs', h => by
    simp only [argAs] at h
    split at h
    · split at h
      · rename_i hr
        cases h
        simp [argAs_len hr]
      · cases h
    · cases h
/-- what is handed over, as the callee names it -/
theorem argB_SR (h : R E cx tm S a w ρ) {n i : Nat} {b b' : Blk} (hS : ∀ t ∈ blkNames b, t ∉ ns → ∀ xs, ((∃ e, lk S0 t = some (.own e xs)) ∨ lk S0 t = some (.fr xs)) → lk S t = some (.fr xs)) (hl : lk S n = some b) (hn : ns[i]? = some n) (ha : argB ns S0 b = some b') :
    SR E.P w (AvS cx.G S ρ) (carρ ns ρ) i b' := by
  have hρ : carρ ns ρ i = ρ n := by simp [carρ, hn]
  cases b with
  | box e cs =>
    simp only [argB] at ha
    split at ha
    · rename_i cs' hcs
      cases ha
      obtain ⟨g, us, h0, hh, hlen, h1, hc⟩ := h.st _ _ hl
      obtain ⟨e1, e2⟩ := argAs_VA (S0 := S0) h hS hlen hc hcs
      exact ⟨g, us, by rw [hρ]; exact h0, hh, e1, h1, e2⟩
    · cases ha
  | own e xs =>
    simp only [argB, Option.some.injEq] at ha
    subst ha
    obtain ⟨u, us, h0, ho, hc⟩ := h.st _ _ hl
    exact ⟨u, us, by rw [hρ]; exact h0, ho, hc⟩
  | row e xs =>
    simp only [argB] at ha
    split at ha
    · rename_i xs' hxs
      cases ha
      obtain ⟨u, us, h0, ho, hc⟩ := h.st _ _ hl
      obtain ⟨q1, q2⟩ := argRows_get hxs
      refine ⟨u, us, by rw [hρ]; exact h0, by rw [q1]; exact ho, ⟨by rw [q1]; exact hc.len, fun cs hcs => ?_, hc.one, fun i' j cs d hcs hd => ?_⟩⟩
      · obtain ⟨k, hk⟩ := List.mem_iff_getElem?.1 hcs
        have hlt : k < xs.length := by rw [← q1]; exact (List.getElem?_eq_some_iff.1 hk).1
        rw [argAs_len (q2 k _ cs (List.getElem?_eq_getElem hlt) hk)]
        exact hc.el _ (List.getElem_mem hlt)
      · have hlt : i' < xs.length := by rw [← q1]; exact (List.getElem?_eq_some_iff.1 hcs).1
        have hx : xs[i']? = some xs[i'] := List.getElem?_eq_getElem hlt
        have has := q2 i' _ cs hx hcs
        have hjl : j < xs[i'].length := by rw [← argAs_len has]; exact (List.getElem?_eq_some_iff.1 hd).1
        obtain ⟨u0, e1, e2⟩ := hc.at_ i' j xs[i'] _ hx (List.getElem?_eq_getElem hjl)
        refine ⟨u0, e1, ?_⟩
        -- the one element alone
        have one : ∀ {cs cs' : List D}, argAs ns S0 cs = some cs' → ∀ (j : Nat) (d d' : D), cs[j]? = some d → cs'[j]? = some d' → argA ns S0 d = some d' := by
          intro cs
          induction cs with
          | nil => intro cs' h j d d' p; simp at p
          | cons c r ih =>
            intro cs' h j d d' p q
            simp only [argAs] at h
            split at h
            · rename_i c1 hc1
              split at h
              · rename_i r1 hr1
                cases h
                cases j with
                | zero => simp at p q; subst p q; exact hc1
                | succ j => exact ih hr1 j d d' (by simpa using p) (by simpa using q)
              · cases h
            · cases h
        have ha := one has j _ d (List.getElem?_eq_getElem hjl) hd
        exact (argA_VA (S0 := S0) h (fun t ht => hS t (by simp only [blkNames]; exact rowNames_mem (List.getElem_mem hlt) (nmAs_mem (List.getElem_mem hjl) ht))) e2 ha).1
    · cases ha
  | fr xs => simp [argB] at ha

theorem callFunc_run {f : FuncId} {args : Array Value} (hc : Callable E.P f) : (callFunc f args).run E.P w = .ok (.enter f args) w := by
  obtain ⟨fn, h1, h2, h3⟩ := hc
  have n1 : fn.name ≠ "runtime.NumGoroutine" := by simpa using h3
  have n2 : fn.body ≠ none := by intro e; rw [e] at h2; cases h2
  simp [callFunc, run_program, h1, n1, n2]

theorem ok_call {f : FuncId} {ds : List D} (hrun : ∀ (cx : Cx) (tm' : Tm) (S' : Store) (a : Act) (w : World) (ρ : Nat → Option Value), (∀ x ∈ o.op.operands, ev E.gl tm' x = ev E.gl tm x) → R E cx tm' S' a w ρ →
      ∃ vs : List Value, (execOp a.eval o).run E.P w = (callFunc f vs.toArray).run E.P w ∧ ds.length = vs.length ∧ ∀ (i : Nat) (d : D) (u : Value), ds[i]? = some d → vs[i]? = some u → ∀ S1, (∃ S2, S2 = S1 ∧ R E cx tm' S1 a w ρ) → VR w (AvS cx.G S1 ρ) ρ d u)
    (hk : callK E f ds S nx fun d fp S' nx' => K fp (put o.dst d tm) S' nx') : Ok1 E o tm S nx K := by
  obtain ⟨ns, cds, Sa, d, S', c, C, hk⟩ := hk
  obtain ⟨hst1, hst2⟩ := argS_get C.st
  obtain ⟨ha1, ha2⟩ := argDs_get C.ar
  obtain ⟨hcall, hcon⟩ := C.con
  have hdom := C.dom
  simp only [Bool.and_eq_true] at hdom
  obtain ⟨hdom1, hdom2⟩ := hdom
  have hresn := ltB_iff.1 hdom1
  -- both ways at once: what is lent is frozen (frz = true) or taken back
  have key : ∀ (frz : Bool) (p : D → Prop), (frz = true → p = fun _ => True) → (frz = false → p = NoImmA) → resAll p d → (∀ i b, lk S' i = some b → blkAll p b) →
      LStep E o tm S (nmDs ds ++ storeNames S ns ++ ns ++ news nx c) nx (nx + c) (renD (nmOf ns nx) d) (callOut (nmOf ns nx) S' (ns ++ news nx c) 0 ++ (if frz then frzOut S (lent ns ds S) else [])) := by
    intro fz p hpt hpf hpd hpb cx tm' S2 a w ρ Q hd he hf h hfresh
    have hag : ∀ n ∈ lent ns ds S, lk S2 n = lk S n := by
      intro n hn
      have := (minus_mem.1 hn).1
      refine hf n ?_
      simp only [List.mem_append] at this ⊢
      exact .inl (.inl this)
    have hag2 : ∀ n ∈ ns, lk S2 n = lk S n := fun n hn => hf n (by simp [hn])
    have h1 := h.frzs (S0 := S) (lent ns ds S) hag
    obtain ⟨vs, hex, hlen, hvs⟩ := hrun cx tm' S2 a w ρ he h
    -- the store that is lent from
    have hS1 : ∀ t, t ∈ nmDs ds ++ storeNames S ns → t ∉ ns → ∀ xs, ((∃ e, lk S t = some (.own e xs)) ∨ lk S t = some (.fr xs)) → lk (ap (frzOut S (lent ns ds S)) S2) t = some (.fr xs) :=
      fun t ht hn => frz_fits hag t (minus_mem.2 ⟨ht, hn⟩)
    have hlns : ∀ n ∈ ns, lk (ap (frzOut S (lent ns ds S)) S2) n = lk S n := by
      intro n hn
      rw [lk_ap, lk_frzOut, if_neg (show ¬ n ∈ lent ns ds S from fun hin => (minus_mem.1 hin).2 hn)]
      exact hag2 n hn
    let S1 := ap (frzOut S (lent ns ds S)) S2
    let ρc := carρ ns ρ
    let Gc : Nat → Prop := fun x => AvS cx.G S1 ρ x ∧ ¬ Held Sa ρc x
    have heldc : ∀ x, Held Sa ρc x → ∃ n b, n ∈ ns ∧ lk S n = some b ∧ lk S1 n = some b ∧ live b = true ∧ (ρ n).bind blkOf = some x := by
      rintro x ⟨t, b', hl, hv, hx⟩
      obtain ⟨j, n, b, rfl, e2, e3, e4⟩ := hst2 t b' hl
      have hn := List.mem_of_getElem? e2
      refine ⟨n, b, hn, e3, by show lk S1 n = _; rw [hlns n hn]; exact e3, (live_argB e4).1, ?_⟩
      have : ρc (0 + j) = ρ n := by simp [ρc, carρ, e2]
      rw [this] at hx
      exact hx
    have heldc1 : ∀ x, Held Sa ρc x → Held S1 ρ x := fun x hx => let ⟨n, b, _, _, e3, e4, e5⟩ := heldc x hx; ⟨n, b, e3, e4, e5⟩
    have hav : AvS Gc Sa ρc = AvS cx.G S1 ρ := by
      funext x
      apply propext
      constructor
      · rintro (⟨h, _⟩ | h)
        · exact h
        · exact .inr (heldc1 x h)
      · intro h
        by_cases hh : Held Sa ρc x
        · exact .inr hh
        · exact .inl ⟨h, hh⟩
    have hcx := hcon w vs ρc Gc (by rw [ha1, hlen]) (fun x hx => by
        rcases hx.1 with hg | hh
        · exact Nat.lt_of_lt_of_le (h.g x hg) h.fr.size
        · exact h1.held_lt hh) (fun x hx => hx.2)
      (fun i cd u hcd hu => by
        have hil : i < ds.length := by rw [← ha1]; exact (List.getElem?_eq_some_iff.1 hcd).1
        have hdi : ds[i]? = some ds[i] := List.getElem?_eq_getElem hil
        rw [hav]
        exact argD_VG (S0 := S) h1 (fun t ht => hS1 t (List.mem_append.2 (.inl (nmDs_mem (List.getElem_mem hil) ht)))) (hvs i _ u hdi hu _ ⟨_, rfl, h1⟩) (ha2 i _ cd hdi hcd))
      (fun t b' hl => by
        obtain ⟨j, n, b, rfl, e2, e3, e4⟩ := hst2 t b' hl
        have hn := List.mem_of_getElem? e2
        rw [hav]
        exact argB_SR (S0 := S) h1 (fun t ht => hS1 t (List.mem_append.2 (.inr (storeNames_mem hn e3 ht)))) (by rw [hlns n hn]; exact e3) (by simpa using e2) e4)
      (fun t t' b b' x l1 l2 v1 v2 x1 x2 => by
        obtain ⟨j, n, c1, rfl, e2, e3, e4⟩ := hst2 t b l1
        obtain ⟨j', n', c2, rfl, f2, f3, f4⟩ := hst2 t' b' l2
        have q1 : ρc (0 + j) = ρ n := by simp [ρc, carρ, e2]
        have q2 : ρc (0 + j') = ρ n' := by simp [ρc, carρ, f2]
        rw [q1] at x1
        rw [q2] at x2
        have := h1.dis n n' c1 c2 x (by rw [hlns n (List.mem_of_getElem? e2)]; exact e3) (by rw [hlns n' (List.mem_of_getElem? f2)]; exact f3) (live_argB e4).1 (live_argB f4).1 x1 x2
        subst this
        rw [nodupB_get C.nd j j' n e2 f2])
      (fun t ht => by simp [ρc, carρ, List.getElem?_eq_none ht])
      (fun g cs hg => by rw [hav]; exact h1.gl g cs hg)
    unfold Oper.wp
    rw [hex, callFunc_run hcall]
    simp only [Oper.upon]
    refine hcx.mono fun e w2 hpost => ?_
    obtain ⟨v, ρr, rfl, hvr, hsr, hdisr, hnewr, hkeep, hfrr⟩ := hpost
    simp only
    -- the names told
    let f := nmOf ns nx
    let ρ2 : Nat → Option Value := fun n => if nx ≤ n ∧ n < nx + c then ρr (ns.length + (n - nx)) else ρ n
    have hnamed : ∀ n ∈ ns, ∃ u, ρ n = some u := by
      intro n hn
      obtain ⟨j, hj⟩ := List.mem_iff_getElem?.1 hn
      obtain ⟨b, b', e1, e2, e3⟩ := hst1 j n hj
      exact h1.named (by rw [hlns n hn]; exact e1)
    have hnsout : ∀ n ∈ ns, ¬ (nx ≤ n ∧ n < nx + c) := by
      intro n hn hh
      obtain ⟨u, hu⟩ := hnamed n hn
      rw [hfresh n hh.1 hh.2] at hu
      cases hu
    have hold : ∀ t u, ρ t = some u → ρ2 t = some u := by
      intro t u ht
      have : ¬ (nx ≤ t ∧ t < nx + c) := by
        intro hh
        rw [hfresh t hh.1 hh.2] at ht
        cases ht
      simp only [ρ2, if_neg this]
      exact ht
    have hnm : ∀ t u, t < ns.length + c → ρr t = some u → ρ2 (f t) = some u := by
      intro t u ht hu
      by_cases hlt : t < ns.length
      · have hft : f t = ns[t] := by simp [f, nmOf, hlt]
        obtain ⟨u', hu'⟩ := hnamed ns[t] (List.getElem_mem hlt)
        have hc : ρc t = some u' := by simp [ρc, carρ, hlt, hu']
        have := hkeep t u' hlt hc
        rw [hu] at this
        cases this
        rw [hft]
        exact hold _ _ hu'
      · have hft : f t = nx + (t - ns.length) := by simp [f, nmOf, List.getElem?_eq_none (Nat.le_of_not_lt hlt)]
        have hin : nx ≤ f t ∧ f t < nx + c := by rw [hft]; omega
        simp only [ρ2, if_pos hin]
        rw [hft]
        have : ns.length + (nx + (t - ns.length) - nx) = t := by omega
        rw [this]
        exact hu
    have hinj : ∀ (j k m : Nat), (ns ++ news nx c)[j]? = some m → (ns ++ news nx c)[k]? = some m → j = k := by
      intro j k m hj hk
      by_cases h1 : j < ns.length <;> by_cases h2 : k < ns.length
      · rw [List.getElem?_append_left h1] at hj
        rw [List.getElem?_append_left h2] at hk
        exact nodupB_get C.nd j k m hj hk
      · rw [List.getElem?_append_left h1] at hj
        rw [List.getElem?_append_right (by omega)] at hk
        exact absurd (news_mem.1 (List.mem_of_getElem? hk)) (hnsout m (List.mem_of_getElem? hj))
      · rw [List.getElem?_append_left h2] at hk
        rw [List.getElem?_append_right (by omega)] at hj
        exact absurd (news_mem.1 (List.mem_of_getElem? hj)) (hnsout m (List.mem_of_getElem? hk))
      · rw [List.getElem?_append_right (by omega)] at hj hk
        have hj' := (List.getElem?_eq_some_iff.1 hj).1
        have hk' := (List.getElem?_eq_some_iff.1 hk).1
        rw [news_len] at hj' hk'
        rw [news_get hj'] at hj
        rw [news_get hk'] at hk
        simp at hj hk
        omega
    let out := callOut f S' (ns ++ news nx c) 0
    have hlk := fun n => lk_callOut f S' (ns ++ news nx c) 0 n hinj
    -- what stands at a name of 'out'
    have hat : ∀ n b, lk out n = some (some b) → ∃ i b0, n = f i ∧ i < ns.length + c ∧ lk S' i = some b0 ∧ b = renB f b0 ∧ ∀ u, ρr i = some u → ρ2 n = some u := by
      intro n b hb
      by_cases hin : n ∈ ns ++ news nx c
      · obtain ⟨i, hi⟩ := List.mem_iff_getElem?.1 hin
        rw [(hlk n).2 i hi] at hb
        obtain ⟨e1, e2⟩ := nmOf_get hi
        simp only [Option.some.injEq, Nat.zero_add, Option.map_eq_some_iff] at hb
        obtain ⟨b0, e3, e4⟩ := hb
        exact ⟨i, b0, e1, e2, e3, e4.symm, fun u hu => by rw [e1]; exact hnm i u e2 hu⟩
      · rw [(hlk n).1 hin] at hb
        cases hb
    have hblk : ∀ n b, lk out n = some (some b) → live b = true → ∀ x, (ρ2 n).bind blkOf = some x → ∃ i b0, n = f i ∧ lk S' i = some b0 ∧ live b0 = true ∧ (ρr i).bind blkOf = some x := by
      intro n b hb hv x hx
      obtain ⟨i, b0, e1, e2, e3, e4, e5⟩ := hat n b hb
      obtain ⟨u, hu⟩ := (hsr i b0 e3).named
      rw [e5 u hu] at hx
      refine ⟨i, b0, e1, e3, ?_, by rw [hu]; exact hx⟩
      rw [e4] at hv
      cases b0 <;> first | rfl | (simp [renB, live] at hv)
    -- the base: frozen or not
    let Sb := ap (if fz then frzOut S (lent ns ds S) else []) S2
    have hb : R E cx tm' Sb a w ρ := by
      cases fz with
      | true => exact h1
      | false => exact h
    have hSb : ∀ n ∈ ns, lk Sb n = lk S n := by
      intro n hn
      cases fz with
      | true => exact hlns n hn
      | false => exact hag2 n hn
    have houtns : ∀ n ∈ ns, lk out n ≠ none := by
      intro n hn
      obtain ⟨i, hi⟩ := List.mem_iff_getElem?.1 (List.mem_append.2 (.inl hn) : n ∈ ns ++ news nx c)
      rw [(hlk n).2 i hi]
      simp
    have hcell : ∀ x, Held Sa ρc x → ∃ n b, lk out n ≠ none ∧ lk Sb n = some b ∧ live b = true ∧ (ρ n).bind blkOf = some x := by
      intro x hx
      obtain ⟨n, b, e1, e2, e3, e4, e5⟩ := heldc x hx
      exact ⟨n, b, houtns n e1, by rw [hSb n e1]; exact e2, e4, e5⟩
    -- outside of what is turned, what stands in memory is told in the caller's way
    have htell : (∀ d u, VI w (AvS cx.G Sb ρ) d u → VI w2 (AvS cx.G (ap out Sb) ρ2) d u) → Tell w2 (AvS Gc S' ρr) (AvS cx.G (ap out Sb) ρ2) ρr ρ2 f (ns.length + c) p := by
      intro hi
      refine ⟨fun d u hv hp => ?_, hnm⟩
      cases fz with
      | false => rw [hpf rfl] at hp; exact hv.noImm hp
      | true =>
        refine hv.mono (fun _ _ _ => rfl) (Nat.le_refl _) fun x _ hx => ?_
        rcases hx with hg | ⟨t, b, hl, hlv, hxb⟩
        · left
          refine ⟨.inl hg, fun hh => ?_⟩
          have h2 := heldc1 x hh
          have h3 := h.g x hg
          rcases h1.new x h2 with h4 | h4
          · omega
          · exact h.gf x hg h4
        · rw [lk_ap] at hl
          split at hl
          · rename_i oo ho
            subst hl
            obtain ⟨i, b0, e1, e2, e3, e4⟩ := hblk t b ho hlv x hxb
            exact .inr ⟨i, b0, e2, e3, e4⟩
          · rename_i ho
            have hl1 : lk S1 t = some b := hl
            obtain ⟨u, hu⟩ := h1.named hl1
            rw [hold t u hu] at hxb
            left
            refine ⟨.inr ⟨t, b, hl1, hlv, by rw [hu]; exact hxb⟩, fun hh => ?_⟩
            obtain ⟨n, b2, e1, e2, e3, e4, e5⟩ := heldc x hh
            have := h1.dis t n b b2 x hl1 e3 hlv e4 (by rw [hu]; exact hxb) e5
            subst this
            exact houtns t e1 ho
    have hturn : Turn E cx Sb w ρ out w2 ρ2 := by
      refine ⟨hfrr.weaken hcell, hold, fun n b hb' hv x hx => ?_, fun n m b b' x hn hm hv hv' hx hx' => ?_, fun hi n b hb' => ?_⟩
      · obtain ⟨i, b0, e1, e2, e3, e4⟩ := hblk n b hb' hv x hx
        rcases hnewr x ⟨i, b0, e2, e3, e4⟩ with q | q
        · exact .inl q
        · exact .inr (hcell x q)
      · obtain ⟨i, b0, e1, e2, e3, e4⟩ := hblk n b hn hv x hx
        obtain ⟨j, b1, f1, f2, f3, f4⟩ := hblk m b' hm hv' x hx'
        have := hdisr i j b0 b1 x e2 f2 e3 f3 e4 f4
        subst this
        rw [e1, f1]
      · obtain ⟨i, b0, e1, e2, e3, e4, e5⟩ := hat n b hb'
        subst e1
        subst e4
        exact (htell hi).sr (hsr i b0 e3) e2 (domB_get hdom2 e3) (hpb i b0 e3)
    have hfin := hb.turn hturn
    have hout : ap (callOut (nmOf ns nx) S' (ns ++ news nx c) 0 ++ (if fz then frzOut S (lent ns ds S) else [])) S2 = ap out Sb := ap_append _ _ _
    refine ⟨ρ2, ?_, fun n hn => by simp only [ρ2, if_neg hn]⟩
    rw [hout]
    refine hfin.value hd ?_
    exact (htell (hturn.vi hb)).vr hvr hresn hpd
  have hmem : ∀ n, lk (callOut (nmOf ns nx) S' (ns ++ news nx c) 0) n ≠ none → n ∈ ns ++ news nx c := by
    intro n hn
    have gen : ∀ (l : List Nat) (i : Nat), lk (callOut (nmOf ns nx) S' l i) n ≠ none → n ∈ l := by
      intro l
      induction l with
      | nil => intro i h; simp [callOut, lk] at h
      | cons m r ih =>
        intro i h
        simp only [callOut, lk_cons] at h
        by_cases e : m = n
        · simp [e]
        · rw [if_neg e] at h
          exact List.mem_cons_of_mem _ (ih _ h)
    exact gen _ _ hn
  rcases hk with ⟨hn1, hn2, hk⟩ | hk
  · have := key false NoImmA (by simp) (fun _ => rfl) (noImm_res hn1) (fun i b hl => noImm_blk (hn2 _ (lk_mem hl)))
    simp only [Bool.false_eq_true, if_false, List.append_nil] at this
    refine ⟨_, _, _, _, _, this, fun n hn => hmem n hn, fun n hn => ?_, by omega, fun n h1 h2 => ?_, fun n => rfl, hk⟩
    · simp only [List.mem_append] at hn ⊢
      rcases hn with hn | hn
      · exact .inl (.inr hn)
      · exact .inr hn
    · simp only [List.mem_append]
      exact .inr (news_mem.2 ⟨h1, h2⟩)
  · have := key true (fun _ => True) (fun _ => rfl) (by simp) (all_res d) (fun i b _ => all_blk b)
    simp only [if_true] at this
    refine ⟨_, _, _, _, _, this, fun n hn => ?_, fun n hn => hn, by omega, fun n h1 h2 => ?_, fun n => ?_, hk⟩
    · rw [lk_append_none] at hn
      rcases hn with hn | hn
      · have := hmem n hn
        simp only [List.mem_append] at this ⊢
        rcases this with h | h
        · exact .inl (.inr h)
        · exact .inr h
      · rw [lk_frzOut] at hn
        by_cases hin : n ∈ lent ns ds S
        · have := (minus_mem.1 hin).1
          simp only [List.mem_append] at this ⊢
          exact .inl (.inl this)
        · rw [if_neg hin] at hn; exact absurd rfl hn
    · simp only [List.mem_append]
      exact .inr (news_mem.2 ⟨h1, h2⟩)
    · exact lk_ap2 _ _ _ (frz_ap (lent ns ds S) S) n
where
  lk_append_none {α : Type} {l r : List (Nat × α)} {n : Nat} : (lk (l ++ r) n ≠ none) = (lk l n ≠ none ∨ lk r n ≠ none) := by
    apply propext
    induction l with
    | nil => simp [lk]
    | cons p q ih =>
      obtain ⟨m, x⟩ := p
      simp only [List.cons_append, lk_cons]
      by_cases e : m = n
      · simp [e]
      · simp only [if_neg e]
        exact ih
end
end Go.Ab
