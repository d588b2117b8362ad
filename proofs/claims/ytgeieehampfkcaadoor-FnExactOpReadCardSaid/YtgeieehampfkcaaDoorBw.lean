/- A run has one end: what the symbolic run promises of SOME end is had of the one that there is; so a contract may say of its result only what is wanted. -/
import Derived.Test.YtgeieehampfkcaaDoorBs
namespace Go.Ab
open Go Go.RowKit

section
variable {E : Env}
/-- the end, all of it -/
abbrev EqQ (e : Ex) (t : Tm) (S : Store) (n : Nat) : Ex → Tm → Store → Nat → Prop := fun e1 t1 S1 n1 => e1 = e ∧ t1 = t ∧ S1 = S ∧ n1 = n

theorem land_pick {k0 : Nat} {tm : Tm} {S : Store} {nx : Nat} {J : Tm → Store → Nat → Prop} (h : landK k0 tm S nx J) : ∃ t1 S1 n1, J t1 S1 n1 ∧ landK k0 tm S nx fun t s n => t = t1 ∧ s = S1 ∧ n = n1 := by
  obtain ⟨ms, ts, ns, h⟩ := h
  match hm : mvs ms tm S nx with
  | some (tm1, S1, nx1) =>
    rw [hm] at h
    obtain ⟨h1, h2, h3⟩ := h
    refine ⟨_, _, _, h3, ms, ts, ns, ?_⟩
    rw [hm]
    exact ⟨h1, h2, rfl, rfl, rfl⟩
  | none => rw [hm] at h; exact h.elim

/-- the body of a loop, and all rounds behind it -/
def InLoop (P : Program) (c : Code) (Q : Exit → Act → World → Prop) (a : Act) (w : World) : Prop :=
  ∀ b k cs, ∃ e a' w', Q e a' w' ∧ Arrives P (lone (b.at a (.code c :: .inLoop c :: k)) cs w) b k cs e a' w'
theorem InLoop.go {P : Program} {c : Code} {Q : Exit → Act → World → Prop} {a : Act} {w : World} (h : InLoop P c Q a w) : (Code.loop c).wp P Q a w := by
  intro b k cs
  obtain ⟨e, a', w', hq, harr⟩ := h b k cs
  exact ⟨e, a', w', hq, .of_steps (.one step_loop) harr⟩
theorem InLoop.of {P : Program} {c : Code} {Q : Exit → Act → World → Prop} {a : Act} {w : World} (h : c.wp P (Exit.then (InLoop P c Q) Q) a w) : InLoop P c Q a w := by
  intro b k cs
  obtain ⟨e, a₁, w₁, hq, harr⟩ := h b (.inLoop c :: k) cs
  cases e with
  | normal =>
    obtain ⟨e₂, a₂, w₂, hq₂, harr₂⟩ := hq b k cs
    exact ⟨e₂, a₂, w₂, hq₂, .of_steps (Steps.trans harr (.one step_inLoop)) harr₂⟩
  | exit id => exact ⟨_, a₁, w₁, hq, .pass (x := .inLoop c) rfl (fun _ _ => .inl (by simp)) harr⟩
  | goto l => exact ⟨_, a₁, w₁, hq, .pass (x := .inLoop c) rfl (fun _ _ => .inl (by simp)) harr⟩
  | ret => exact ⟨_, a₁, w₁, hq, .pass (x := .inLoop c) rfl (fun _ _ => .inl (by simp)) harr⟩
  | panic ch => exact ⟨_, a₁, w₁, hq, .pass (x := .inLoop c) rfl (fun _ _ => .inl (by simp)) harr⟩
  | outgrown => exact ⟨_, a₁, w₁, hq, .pass (x := .inLoop c) rfl (fun _ _ => .inl (by simp)) harr⟩

theorem awp_pick (hty : TyOk E) (hmix : E.P.follows .mixedOrders = true) {N k0 : Nat} : ∀ (c : Code) (tm : Tm) (S : Store) (nx : Nat) (Q : Ex → Tm → Store → Nat → Prop), codeOk N c = true → awp E k0 c tm S nx Q →
    ∃ e t S' n, Q e t S' n ∧ AW E N k0 c tm S nx (EqQ e t S' n) := by
  intro c
  induction c with
  | skip => intro tm S nx Q _ hk; exact ⟨.normal, tm, S, nx, hk, fun cx a w ρ Q' _ _ h hf hQ => wp_skip (hQ .normal _ _ ⟨_, _, _, _, h, hf, rfl, rfl, rfl, rfl⟩)⟩
  | region id ops draw =>
    intro tm S nx Q hok hk
    cases draw with
    | true =>
      obtain ⟨ms, tm', S', nx', h1, h2⟩ := run_of_awp hty _ _ _ _ _ _ hk
      obtain ⟨h2, h3⟩ := h2
      simp only [List.append_nil, List.reverse_reverse] at h2
      refine ⟨.normal, tm', S', nx', h3, fun cx a w ρ Q' hN _ h hf hQ => ?_⟩
      subst hN
      exact wp_region_any hmix (draw_sound (fun a w ρ h hf => hQ .normal a w ⟨_, _, _, _, h, hf, rfl, rfl, rfl, rfl⟩) h1 h2 hok (h.drew) hf)
    | false =>
      obtain ⟨ms, tm', S', nx', h1, h2⟩ := run_of_awp hty _ _ _ _ _ _ hk
      refine ⟨.normal, tm', S', nx', h2, fun cx a w ρ Q' hN _ h hf hQ => ?_⟩
      subst hN
      exact wp_region_list (run_sound (fun a w ρ h hf => hQ .normal a w ⟨_, _, _, _, h, hf, rfl, rfl, rfl, rfl⟩) _ _ _ _ _ _ _ _ hok h1 h hf)
  | seq x y ihx ihy =>
    intro tm S nx Q hok hk
    simp only [codeOk, Bool.and_eq_true] at hok
    obtain ⟨e, t, S1, n, hq, hx⟩ := ihx tm S nx _ hok.1 hk
    cases e with
    | normal =>
      obtain ⟨e2, t2, S2, n2, hq2, hy⟩ := ihy t S1 n Q hok.2 hq
      refine ⟨e2, t2, S2, n2, hq2, fun cx a w ρ Q' hN hk0 h hf hQ => wp_seq (hx cx a w ρ _ hN hk0 h hf fun e a w hn => ?_)⟩
      obtain ⟨tm, S, nx, ρ, h, hf, rfl, rfl, rfl, rfl⟩ := hn
      exact hy cx a w ρ Q' hN hk0 h hf hQ
    | exit i =>
      refine ⟨.exit i, t, S1, n, hq, fun cx a w ρ Q' hN hk0 h hf hQ => wp_seq (hx cx a w ρ _ hN hk0 h hf fun e a w hn => ?_)⟩
      obtain ⟨tm, S, nx, ρ, h, hf, rfl, rfl, rfl, rfl⟩ := hn
      exact hQ (.exit i) _ _ ⟨_, _, _, _, h, hf, rfl, rfl, rfl, rfl⟩
    | ret =>
      refine ⟨.ret, t, S1, n, hq, fun cx a w ρ Q' hN hk0 h hf hQ => wp_seq (hx cx a w ρ _ hN hk0 h hf fun e a w hn => ?_)⟩
      obtain ⟨tm, S, nx, ρ, h, hf, rfl, rfl, rfl, rfl⟩ := hn
      exact hQ .ret _ _ ⟨_, _, _, _, h, hf, rfl, rfl, rfl, rfl⟩
  | cond c x y ihx ihy =>
    intro tm S nx Q hok hk
    simp only [codeOk, Bool.and_eq_true] at hok
    unfold awp at hk
    split at hk
    · rename_i t
      split at hk
      · rename_i b hb
        have hk := bsplit_elim hk
        cases b
        · obtain ⟨e, t1, S1, n, hq, hy⟩ := ihy _ S nx Q hok.2 hk
          refine ⟨e, t1, S1, n, hq, fun cx a w ρ Q' hN hk0 h hf hQ => ?_⟩
          have hv : a.eval (.tmp t) = .bool false := (h.tm t _ hb).b_inv
          exact wp_cond hv (hy cx a w ρ Q' hN hk0 (h.again hb) hf hQ)
        · obtain ⟨e, t1, S1, n, hq, hx⟩ := ihx _ S nx Q hok.1 hk
          refine ⟨e, t1, S1, n, hq, fun cx a w ρ Q' hN hk0 h hf hQ => ?_⟩
          have hv : a.eval (.tmp t) = .bool true := (h.tm t _ hb).b_inv
          exact wp_cond hv (hx cx a w ρ Q' hN hk0 (h.again hb) hf hQ)
      · exact hk.elim
    · obtain ⟨e, t1, S1, n, hq, hx⟩ := ihx _ S nx Q hok.1 hk
      exact ⟨e, t1, S1, n, hq, fun cx a w ρ Q' hN hk0 h hf hQ => wp_cond (t := true) rfl (hx cx a w ρ Q' hN hk0 h hf hQ)⟩
    · obtain ⟨e, t1, S1, n, hq, hy⟩ := ihy _ S nx Q hok.2 hk
      exact ⟨e, t1, S1, n, hq, fun cx a w ρ Q' hN hk0 h hf hQ => wp_cond (t := false) rfl (hy cx a w ρ Q' hN hk0 h hf hQ)⟩
    · exact hk.elim
  | block id b ih =>
    intro tm S nx Q hok hk
    obtain ⟨e, t, S1, n, hq, hb⟩ := ih tm S nx _ hok hk
    cases e with
    | normal =>
      refine ⟨.normal, t, S1, n, hq, fun cx a w ρ Q' hN hk0 h hf hQ => wp_block (hb cx a w ρ _ hN hk0 h hf fun e a w hn => ?_)⟩
      obtain ⟨tm, S, nx, ρ, h, hf, rfl, rfl, rfl, rfl⟩ := hn
      exact hQ .normal _ _ ⟨_, _, _, _, h, hf, rfl, rfl, rfl, rfl⟩
    | ret =>
      refine ⟨.ret, t, S1, n, hq, fun cx a w ρ Q' hN hk0 h hf hQ => wp_block (hb cx a w ρ _ hN hk0 h hf fun e a w hn => ?_)⟩
      obtain ⟨tm, S, nx, ρ, h, hf, rfl, rfl, rfl, rfl⟩ := hn
      exact hQ .ret _ _ ⟨_, _, _, _, h, hf, rfl, rfl, rfl, rfl⟩
    | exit i =>
      simp only at hq
      split at hq
      · rename_i hbq
        refine ⟨.normal, t, S1, n, hq, fun cx a w ρ Q' hN hk0 h hf hQ => wp_block (hb cx a w ρ _ hN hk0 h hf fun e a w hn => ?_)⟩
        obtain ⟨tm, S, nx, ρ, h, hf, rfl, rfl, rfl, rfl⟩ := hn
        simp only [exOf, Exit.inBlock]
        rw [if_pos (Nat.eq_of_beq_eq_true hbq)]
        exact hQ .normal _ _ ⟨_, _, _, _, h, hf, rfl, rfl, rfl, rfl⟩
      · rename_i hbq
        refine ⟨.exit i, t, S1, n, hq, fun cx a w ρ Q' hN hk0 h hf hQ => wp_block (hb cx a w ρ _ hN hk0 h hf fun e a w hn => ?_)⟩
        obtain ⟨tm, S, nx, ρ, h, hf, rfl, rfl, rfl, rfl⟩ := hn
        simp only [exOf, Exit.inBlock]
        rw [if_neg (by rintro rfl; rw [Nat.beq_refl] at hbq; cases hbq)]
        exact hQ (.exit i) _ _ ⟨_, _, _, _, h, hf, rfl, rfl, rfl, rfl⟩
  | loop b ih =>
    intro tm S nx Q hok hk
    obtain ⟨I, ⟨m, hI⟩, hr⟩ := hk
    obtain ⟨t0, S0, n0, hI0, hl0⟩ := land_pick hI
    have key : ∀ (m : Nat) (t : Tm) (S : Store) (n : Nat), I m t S n → ∃ e t' S' n', Q e t' S' n' ∧ ∀ (cx : Cx) (a : Act) (w : World) (ρ : Nat → Option Value) (Q' : Exit → Act → World → Prop), cx.N = N → cx.k0 = k0 → R E cx t S a w ρ → Fresh n ρ →
        (∀ e1 a w, Nx E cx (EqQ e t' S' n' e1) a w → Q' (exOf e1) a w) → InLoop E.P b Q' a w := by
      intro m
      induction m using Nat.strongRecOn with
      | _ m ihm =>
        intro t S n hm
        obtain ⟨e, t1, S1, n1, hq, hb⟩ := ih t S n _ hok (hr m t S n hm)
        cases e with
        | normal =>
          obtain ⟨m', hlt, hl⟩ := hq
          obtain ⟨t2, S2, n2, hI2, hl2⟩ := land_pick hl
          obtain ⟨e3, t3, S3, n3, hq3, h3⟩ := ihm m' hlt t2 S2 n2 hI2
          refine ⟨e3, t3, S3, n3, hq3, fun cx a w ρ Q' hN hk0 h hf hQ => InLoop.of (hb cx a w ρ _ hN hk0 h hf fun e a w hn => ?_)⟩
          obtain ⟨tm, S, nx, ρ, h, hf, rfl, rfl, rfl, rfl⟩ := hn
          subst hk0
          obtain ⟨_, _, _, ρ2, h2, hf2, rfl, rfl, rfl⟩ := land_sound hl2 h hf
          exact h3 cx a w ρ2 Q' hN rfl h2 hf2 hQ
        | exit i =>
          refine ⟨.exit i, t1, S1, n1, hq, fun cx a w ρ Q' hN hk0 h hf hQ => InLoop.of (hb cx a w ρ _ hN hk0 h hf fun e a w hn => ?_)⟩
          obtain ⟨tm, S, nx, ρ, h, hf, rfl, rfl, rfl, rfl⟩ := hn
          exact hQ (.exit i) _ _ ⟨_, _, _, _, h, hf, rfl, rfl, rfl, rfl⟩
        | ret =>
          refine ⟨.ret, t1, S1, n1, hq, fun cx a w ρ Q' hN hk0 h hf hQ => InLoop.of (hb cx a w ρ _ hN hk0 h hf fun e a w hn => ?_)⟩
          obtain ⟨tm, S, nx, ρ, h, hf, rfl, rfl, rfl, rfl⟩ := hn
          exact hQ .ret _ _ ⟨_, _, _, _, h, hf, rfl, rfl, rfl, rfl⟩
    obtain ⟨e, t', S', n', hq, hgo⟩ := key m t0 S0 n0 hI0
    refine ⟨e, t', S', n', hq, fun cx a w ρ Q' hN hk0 h hf hQ => InLoop.go ?_⟩
    subst hk0
    obtain ⟨_, _, _, ρ2, h2, hf2, rfl, rfl, rfl⟩ := land_sound hl0 h hf
    exact hgo cx a w ρ2 Q' hN rfl h2 hf2 hQ
  | exit id => intro tm S nx Q _ hk; exact ⟨.exit id, tm, S, nx, hk, fun cx a w ρ Q' _ _ h hf hQ => wp_exit (hQ (.exit id) _ _ ⟨_, _, _, _, h, hf, rfl, rfl, rfl, rfl⟩)⟩
  | ret => intro tm S nx Q _ hk; exact ⟨.ret, tm, S, nx, hk, fun cx a w ρ Q' _ _ h hf hQ => wp_ret (hQ .ret _ _ ⟨_, _, _, _, h, hf, rfl, rfl, rfl, rfl⟩)⟩
  | rangeFunc => intro tm S nx Q _ hk; exact hk.elim
  | scope => intro tm S nx Q _ hk; exact hk.elim
  | label => intro tm S nx Q _ hk; exact hk.elim
  | goto => intro tm S nx Q _ hk; exact hk.elim
  | refuse => intro tm S nx Q _ hk; exact hk.elim

/-- the end of a run of which only this is wanted -/
def anyQ (E : Env) (k0 : Nat) (rv : List ResultVar) (G : D → Store → Prop) : Ex → Tm → Store → Nat → Prop
  | .exit _, _, _, _ => False
  | .normal, tm, S, nx => ∃ d S', finK E k0 rv d S' tm S nx ∧ G d S'
  | .ret, tm, S, nx => ∃ d S', finK E k0 rv d S' tm S nx ∧ G d S'
theorem con_any (hty : TyOk E) (hmix : E.P.follows .mixedOrders = true) {f : FuncId} {fn : Func} {c : Code} (hf : E.P.funcs[f]? = some fn) (hb : fn.body = some c) (hname : (fn.name == "runtime.NumGoroutine") = false) (hok : codeOk fn.ntmps c = true)
    {k : Nat} {cds : List D} {Sa : Store} {G : D → Store → Prop} (hle : cds.length ≤ fn.ntmps) (h : awp E k c (parTm 0 cds) Sa k (anyQ E k fn.results.toList G)) : ∃ d S', G d S' ∧ Con E f k cds Sa d S' := by
  obtain ⟨e, t, S, n, hq, ha⟩ := awp_pick hty hmix c _ _ _ _ hok h
  have fin : ∀ d S', finQ E k fn.results.toList d S' e t S n → G d S' → ∃ d S', G d S' ∧ Con E f k cds Sa d S' := by
    intro d S' hfin hg
    refine ⟨d, S', hg, con_of_AW hty hf hb hname hle fun cx a w ρ Q' hN hk0 h hf hQ => ha cx a w ρ Q' hN hk0 h hf fun e1 a w hn => ?_⟩
    obtain ⟨tm, S, nx, ρ, h, hf, rfl, rfl, rfl, rfl⟩ := hn
    exact hQ _ _ _ ⟨_, _, _, _, h, hf, hfin⟩
  cases e with
  | normal => obtain ⟨d, S', h1, h2⟩ := hq; exact fin d S' h1 h2
  | ret => obtain ⟨d, S', h1, h2⟩ := hq; exact fin d S' h1 h2
  | exit i => exact hq.elim
end
end Go.Ab
