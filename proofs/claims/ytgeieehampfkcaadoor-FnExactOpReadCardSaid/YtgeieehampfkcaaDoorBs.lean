/- An abstract reading of the elaborated code. Part 19: the code, and the contract of a function. -/
import Derived.Test.YtgeieehampfkcaaDoorBr
namespace Go.Ab
open Go Go.RowKit

section
variable {E : Env} {cx : Cx}

/-- what a step of the symbolic run promises of the machine -/
def Nx (E : Env) (cx : Cx) (K : Tm → Store → Nat → Prop) (a : Act) (w : World) : Prop :=
  ∃ tm S nx ρ, R E cx tm S a w ρ ∧ Fresh nx ρ ∧ K tm S nx
def exOf : Ex → Exit
  | .normal => .normal
  | .exit i => .exit i
  | .ret => .ret
def codeOk (N : Nat) : Code → Bool
  | .region _ ops _ => opersOk N ops.toList
  | .seq a b => codeOk N a && codeOk N b
  | .cond _ a b => codeOk N a && codeOk N b
  | .block _ b => codeOk N b
  | .loop b => codeOk N b
  | _ => true

theorem R.drew {tm : Tm} {S : Store} {a : Act} {w : World} {ρ : Nat → Option Value} (h : R E cx tm S a w ρ) : R E cx tm S a { w with drawn := w.drawn + 1 } ρ := by
  have hi : ∀ d u, VI w (AvS cx.G S ρ) d u → VI { w with drawn := w.drawn + 1 } (AvS cx.G S ρ) d u := fun d u hv => VI.mono (w := w) (w' := { w with drawn := w.drawn + 1 }) (fun _ _ _ => rfl) (Nat.le_refl _) (fun _ _ h => h) hv
  exact ⟨fun t d ht => (h.tm t d ht).mono hi fun _ _ h => h, fun t b hl => (h.st t b hl).mono hi (fun _ _ h => h) fun _ _ _ => rfl, h.dis, h.new, h.keep, fun g cs hg => hi _ _ (h.gl g cs hg), ⟨h.fr.os, h.fr.tape, h.fr.output, h.fr.size, h.fr.block⟩, h.g, h.gf, h.defers, h.num⟩
/-- a loop whose rounds lower a number that stands in no slot -/
theorem wp_loop_at {P : Program} {c : Code} {Q : Exit → Act → World → Prop} (I : Nat → Act → World → Prop) {m : Nat} {a : Act} {w : World} (h₀ : I m a w)
    (round : ∀ m a w, I m a w → c.wp P (Exit.then (fun a' w' => ∃ m', m' < m ∧ I m' a' w') Q) a w) : (Code.loop c).wp P Q a w := by
  intro b k cs
  have key : ∀ n a w, I n a w → ∃ e a' w', Q e a' w' ∧ Arrives P (lone (b.at a (.code c :: .inLoop c :: k)) cs w) b k cs e a' w' := by
    intro n
    induction n using Nat.strongRecOn with
    | _ n ih =>
      intro a w hI
      obtain ⟨e, a₁, w₁, hq, harr⟩ := round n a w hI b (.inLoop c :: k) cs
      cases e with
      | normal =>
        obtain ⟨m', hlt, hI₁⟩ := hq
        obtain ⟨e₂, a₂, w₂, hq₂, harr₂⟩ := ih m' hlt a₁ w₁ hI₁
        exact ⟨e₂, a₂, w₂, hq₂, .of_steps (Steps.trans harr (.one step_inLoop)) harr₂⟩
      | exit id => exact ⟨_, a₁, w₁, hq, .pass (x := .inLoop c) rfl (fun _ _ => .inl (by simp)) harr⟩
      | goto l => exact ⟨_, a₁, w₁, hq, .pass (x := .inLoop c) rfl (fun _ _ => .inl (by simp)) harr⟩
      | ret => exact ⟨_, a₁, w₁, hq, .pass (x := .inLoop c) rfl (fun _ _ => .inl (by simp)) harr⟩
      | panic ch => exact ⟨_, a₁, w₁, hq, .pass (x := .inLoop c) rfl (fun _ _ => .inl (by simp)) harr⟩
      | outgrown => exact ⟨_, a₁, w₁, hq, .pass (x := .inLoop c) rfl (fun _ _ => .inl (by simp)) harr⟩
  obtain ⟨e, a', w', hq, harr⟩ := key m a w h₀
  exact ⟨e, a', w', hq, .of_steps (.one step_loop) harr⟩

/-- what the symbolic run means -/
def AW (E : Env) (N k0 : Nat) (c : Code) (tm : Tm) (S : Store) (nx : Nat) (Q : Ex → Tm → Store → Nat → Prop) : Prop :=
  ∀ (cx : Cx) (a : Act) (w : World) (ρ : Nat → Option Value) (Q' : Exit → Act → World → Prop), cx.N = N → cx.k0 = k0 → R E cx tm S a w ρ → Fresh nx ρ → (∀ e a w, Nx E cx (Q e) a w → Q' (exOf e) a w) → c.wp E.P Q' a w

theorem awp_sound (hty : TyOk E) (hmix : E.P.follows .mixedOrders = true) {N k0 : Nat} : ∀ (c : Code) (tm : Tm) (S : Store) (nx : Nat) (Q : Ex → Tm → Store → Nat → Prop), codeOk N c = true → awp E k0 c tm S nx Q → AW E N k0 c tm S nx Q := by
  intro c
  induction c with
  | skip => intro tm S nx Q _ hk cx a w ρ Q' _ _ h hf hQ; exact wp_skip (hQ .normal _ _ ⟨_, _, _, _, h, hf, hk⟩)
  | region id ops draw =>
    intro tm S nx Q hok hk cx a w ρ Q' hN _ h hf hQ
    subst hN
    cases draw with
    | true =>
      obtain ⟨ms, tm', S', nx', h1, h2⟩ := run_of_awp hty _ _ _ _ _ _ hk
      obtain ⟨h2, h3⟩ := h2
      simp only [List.append_nil, List.reverse_reverse] at h2
      exact wp_region_any hmix (draw_sound (fun a w ρ h hf => hQ .normal a w ⟨_, _, _, _, h, hf, h3⟩) h1 h2 hok (h.drew) hf)
    | false =>
      obtain ⟨ms, tm', S', nx', h1, h2⟩ := run_of_awp hty _ _ _ _ _ _ hk
      exact wp_region_list (run_sound (fun a w ρ h hf => hQ .normal a w ⟨_, _, _, _, h, hf, h2⟩) _ _ _ _ _ _ _ _ hok h1 h hf)
  | seq x y ihx ihy =>
    intro tm S nx Q hok hk cx a w ρ Q' hN hk0 h hf hQ
    simp only [codeOk, Bool.and_eq_true] at hok
    refine wp_seq (ihx tm S nx _ hok.1 hk cx a w ρ _ hN hk0 h hf fun e a w hn => ?_)
    obtain ⟨tm, S, nx, ρ, h, hf, hk⟩ := hn
    cases e with
    | normal => exact ihy tm S nx Q hok.2 hk cx a w ρ Q' hN hk0 h hf hQ
    | exit i => exact hQ (.exit i) _ _ ⟨_, _, _, _, h, hf, hk⟩
    | ret => exact hQ .ret _ _ ⟨_, _, _, _, h, hf, hk⟩
  | cond c x y ihx ihy =>
    intro tm S nx Q hok hk cx a w ρ Q' hN hk0 h hf hQ
    simp only [codeOk, Bool.and_eq_true] at hok
    unfold awp at hk
    split at hk
    · rename_i t
      split at hk
      · rename_i b hb
        have hv : a.eval (.tmp t) = .bool b := (h.tm t _ hb).b_inv
        have hk := bsplit_elim hk
        have h' := h.again hb
        refine wp_cond hv ?_
        cases b
        · exact ihy _ S nx Q hok.2 hk cx a w ρ Q' hN hk0 h' hf hQ
        · exact ihx _ S nx Q hok.1 hk cx a w ρ Q' hN hk0 h' hf hQ
      · exact hk.elim
    · exact wp_cond (t := true) rfl (ihx _ S nx Q hok.1 hk cx a w ρ Q' hN hk0 h hf hQ)
    · exact wp_cond (t := false) rfl (ihy _ S nx Q hok.2 hk cx a w ρ Q' hN hk0 h hf hQ)
    · exact hk.elim
  | block id b ih =>
    intro tm S nx Q hok hk cx a w ρ Q' hN hk0 h hf hQ
    refine wp_block (ih tm S nx _ hok hk cx a w ρ _ hN hk0 h hf fun e a w hn => ?_)
    obtain ⟨tm, S, nx, ρ, h, hf, hk⟩ := hn
    cases e with
    | normal => exact hQ .normal _ _ ⟨_, _, _, _, h, hf, hk⟩
    | ret => exact hQ .ret _ _ ⟨_, _, _, _, h, hf, hk⟩
    | exit i =>
      simp only [exOf, Exit.inBlock]
      simp only at hk
      split at hk
      · rename_i hb
        rw [if_pos (Nat.eq_of_beq_eq_true hb)]
        exact hQ .normal _ _ ⟨_, _, _, _, h, hf, hk⟩
      · rename_i hb
        rw [if_neg (by rintro rfl; rw [Nat.beq_refl] at hb; cases hb)]
        exact hQ (.exit i) _ _ ⟨_, _, _, _, h, hf, hk⟩
  | loop b ih =>
    intro tm S nx Q hok hk cx a w ρ Q' hN hk0 h hf hQ
    subst hk0
    obtain ⟨I, ⟨m, hI⟩, hr⟩ := hk
    obtain ⟨tm1, S1, nx1, ρ1, h1, hf1, hI⟩ := land_sound hI h hf
    refine wp_loop_at (fun m a w => Nx E cx (I m) a w) (m := m) ⟨_, _, _, _, h1, hf1, hI⟩ fun m a w hm => ?_
    obtain ⟨tm, S, nx, ρ, h, hf, hI⟩ := hm
    refine ih tm S nx _ hok (hr m tm S nx hI) cx a w ρ _ hN rfl h hf fun e a w hn => ?_
    obtain ⟨tm, S, nx, ρ, h, hf, hk⟩ := hn
    cases e with
    | normal =>
      obtain ⟨m', hlt, hl⟩ := hk
      obtain ⟨tm2, S2, nx2, ρ2, h2, hf2, hI2⟩ := land_sound hl h hf
      exact ⟨m', hlt, _, _, _, _, h2, hf2, hI2⟩
    | exit i => exact hQ (.exit i) _ _ ⟨_, _, _, _, h, hf, hk⟩
    | ret => exact hQ .ret _ _ ⟨_, _, _, _, h, hf, hk⟩
  | exit id => intro tm S nx Q _ hk cx a w ρ Q' _ _ h hf hQ; exact wp_exit (hQ (.exit id) _ _ ⟨_, _, _, _, h, hf, hk⟩)
  | ret => intro tm S nx Q _ hk cx a w ρ Q' _ _ h hf hQ; exact wp_ret (hQ .ret _ _ ⟨_, _, _, _, h, hf, hk⟩)
  | rangeFunc => intro tm S nx Q _ hk; exact hk.elim
  | scope => intro tm S nx Q _ hk; exact hk.elim
  | label => intro tm S nx Q _ hk; exact hk.elim
  | goto => intro tm S nx Q _ hk; exact hk.elim
  | refuse => intro tm S nx Q _ hk; exact hk.elim

/-- a cut: what is behind it is run once -/
theorem AW.seq {N k0 : Nat} {x y : Code} {tm : Tm} {S : Store} {nx : Nat} {Q : Ex → Tm → Store → Nat → Prop} (J : Tm → Store → Nat → Prop)
    (hx : AW E N k0 x tm S nx fun e tm S nx => match e with
      | .normal => landK k0 tm S nx J
      | e => Q e tm S nx) (hy : ∀ tm S nx, J tm S nx → AW E N k0 y tm S nx Q) : AW E N k0 (.seq x y) tm S nx Q := by
  intro cx a w ρ Q' hN hk0 h hf hQ
  refine wp_seq (hx cx a w ρ _ hN hk0 h hf fun e a w hn => ?_)
  obtain ⟨tm, S, nx, ρ, h, hf, hk⟩ := hn
  cases e with
  | normal =>
    subst hk0
    obtain ⟨tm1, S1, nx1, ρ1, h1, hf1, hJ⟩ := land_sound hk h hf
    exact hy tm1 S1 nx1 hJ cx a w ρ1 Q' hN rfl h1 hf1 hQ
  | exit i => exact hQ (.exit i) _ _ ⟨_, _, _, _, h, hf, hk⟩
  | ret => exact hQ .ret _ _ ⟨_, _, _, _, h, hf, hk⟩

def parTm : Nat → List D → Tm
  | _, [] => []
  | i, d :: r => (i, d) :: parTm (i + 1) r
theorem lk_parTm : ∀ (ds : List D) (i t : Nat), lk (parTm i ds) t = if i ≤ t then ds[t - i]? else none
  | [], i, t => by simp [parTm, lk]
  | d :: r, i, t => by
    rw [parTm, lk_cons, lk_parTm r]
    by_cases h : i = t
    · subst h; simp
    · rw [if_neg h]
      by_cases h2 : i + 1 ≤ t
      · rw [if_pos h2, if_pos (by omega)]
        have : t - i = (t - (i + 1)) + 1 := by omega
        rw [this]; simp
      · rw [if_neg h2, if_neg (by omega)]

def resOne (tmps : Array Value) (rv : ResultVar) : Sem Value :=
  match rv with
  | .tmp t => pure (tmps.getD t undef)
  | .cell x t => do loadVar t (← asAddr (tmps.getD x undef))
theorem resK_run (hty : TyOk E) {tm : Tm} {S : Store} {a : Act} {w : World} {ρ : Nat → Option Value} (h : R E cx tm S a w ρ) : ∀ (rv : List ResultVar) (K : List D → Prop), resK E tm S rv K →
    ∃ ds us, (rv.mapM (resOne a.tmps)).run E.P w = .ok us w ∧ ds.length = us.length ∧
      (∀ (i : Nat) (d : D) (u : Value), ds[i]? = some d → us[i]? = some u → VR w (AvS cx.G S ρ) ρ d u) ∧ K ds
  | [], K, hk => ⟨[], [], by simp, rfl, by simp, hk⟩
  | .tmp t :: r, K, hk => by
    unfold resK at hk
    split at hk
    · rename_i d hd
      obtain ⟨ds, us, e1, e2, e3, e4⟩ := resK_run hty h r _ hk
      refine ⟨d :: ds, a.tmps.getD t undef :: us, by rw [List.mapM_cons]; simp only [resOne, Sem.run_bind, Sem.run_pure, Result.andThen_ok, e1], by simp [e2], fun i d' u' p q => ?_, e4⟩
      cases i with
      | zero => simp only [List.getElem?_cons_zero, Option.some.injEq] at p q; subst p q; exact h.tm t _ hd
      | succ i => exact e3 i d' u' (by simpa using p) (by simpa using q)
    · exact hk.elim
  | .cell x t :: r, K, hk => by
    unfold resK at hk
    split at hk
    · rename_i d hd
      obtain ⟨td, ht, hk⟩ := tyK_inv hk
      obtain ⟨d', u, hrun, hg, hk⟩ := addrK_run hty h ht (h.tm x d hd) hk
      obtain ⟨ds, us, e1, e2, e3, e4⟩ := resK_run hty h r _ hk
      have hrun' : (resOne a.tmps (.cell x t)).run E.P w = .ok u w := by
        rw [← hrun]
        unfold resOne
        simp only
        generalize a.tmps.getD x undef = v at hrun ⊢
        cases v with
        | pointer p => cases p <;> simp [Instr.loadAt, Instr.sureAddr, asAddr] at hrun ⊢
        | _ => simp [Instr.loadAt, Instr.sureAddr] at hrun ⊢
      refine ⟨d' :: ds, u :: us, ?_, by simp [e2], fun i d2 u2 p q => ?_, e4⟩
      · rw [List.mapM_cons]
        simp only [Sem.run_bind, hrun', Result.andThen_ok, e1, Sem.run_pure]
      · cases i with
        | zero => simp at p q; subst p q; exact .gr hg
        | succ i => exact e3 i d2 u2 (by simpa using p) (by simpa using q)
    · exact hk.elim

theorem VR.carG {w : World} {Av Av' : Nat → Prop} {ρ : Nat → Option Value} {ns : List Nat} (hi : ∀ d u, VI w Av d u → VI w Av' d u) {d d' : D} {u : Value} (h : VR w Av ρ d u) (hc : carD ns d = some d') : VG w Av' (carρ ns ρ) d' u := by
  cases h with
  | gr h => exact h.car hi hc
  | tup => simp [carD] at hc
theorem carGs_get {ns : List Nat} : ∀ {ds ds' : List D}, carGs ns ds = some ds' → ds'.length = ds.length ∧ ∀ (i : Nat) (d d' : D), ds[i]? = some d → ds'[i]? = some d' → carD ns d = some d'
  | [], ds', h => by simp [carGs] at h; subst h; simp
  | d :: r, ds', h => by
    simp only [carGs] at h
    split at h
    · rename_i d1 hd1
      split at h
      · rename_i r1 hr1
        cases h
        obtain ⟨h1, h2⟩ := carGs_get hr1
        refine ⟨by simp [h1], fun i e e' p q => ?_⟩
        cases i with
        | zero => simp at p q; subst p q; exact hd1
        | succ i => exact h2 i e e' (by simpa using p) (by simpa using q)
      · cases h
    · cases h

theorem results_run {P : Program} {fn : Func} {tmps : Array Value} {w : World} {us : List Value} (h : (fn.results.toList.mapM (resOne tmps)).run P w = .ok us w) :
    (results fn tmps).run P w = .ok (match us with | [u] => u | us => .tuple us.toArray) w := by
  have he : results fn tmps = (do
      let vs ← fn.results.mapM (resOne tmps)
      pure (if h : vs.size = 1 then vs[0] else .tuple vs)) := by
    unfold results
    congr 1
  rw [he]
  simp only [Sem.run_bind, Array.mapM_eq_mapM_toList, Sem.run_map, h, Result.andThen_ok, Sem.run_pure]
  match us with
  | [] => rfl
  | [u] => rfl
  | u :: v :: r => simp

theorem con_of_AW (hty : TyOk E) {f : FuncId} {fn : Func} {c : Code} (hf : E.P.funcs[f]? = some fn) (hb : fn.body = some c) (hname : (fn.name == "runtime.NumGoroutine") = false)
    {k : Nat} {cds : List D} {Sa : Store} {d : D} {S' : Store} (hle : cds.length ≤ fn.ntmps) (h : AW E fn.ntmps k c (parTm 0 cds) Sa k (finQ E k fn.results.toList d S')) : Con E f k cds Sa d S' := by
  refine ⟨⟨fn, hf, by simp [hb], hname⟩, fun w vs ρ G hl hG hGF hargs hst hdis hdom hgl => ?_⟩
  refine calls_of_wp hf hb ?_
  let cx : Cx := ⟨fn.ntmps, w, ρ, k, Held Sa ρ, G⟩
  have hR : R E cx (parTm 0 cds) Sa { tmps := vs.toArray ++ Array.replicate (fn.ntmps - vs.toArray.size) undef, defers := [] } w ρ := by
    refine ⟨fun t d ht => ?_, hst, hdis, fun x hx => .inr hx, fun _ _ _ h => h, hgl, Fr.refl _ _, hG, hGF, rfl, ?_⟩
    · rw [lk_parTm, if_pos (Nat.zero_le _)] at ht
      simp only [Nat.sub_zero] at ht
      have hlt : t < vs.length := by rw [← hl]; exact (List.getElem?_eq_some_iff.1 ht).1
      have hv := hargs t d vs[t] ht (List.getElem?_eq_getElem hlt)
      have : (vs.toArray ++ Array.replicate (fn.ntmps - vs.toArray.size) undef).getD t undef = vs[t] := by
        rw [Array.getD_eq_getD_getElem?, Array.getElem?_append_left (by simpa using hlt)]
        simp [hlt]
      show VR w _ ρ d ((vs.toArray ++ Array.replicate (fn.ntmps - vs.toArray.size) undef).getD t undef)
      rw [this]
      exact .gr hv
    · simp [cx]
      omega
  refine h cx _ w ρ _ rfl rfl hR hdom fun e a w' hn => ?_
  obtain ⟨tm0, S0, nx0, ρ0, h0, hf0, hk⟩ := hn
  have fin : finK E k fn.results.toList d S' tm0 S0 nx0 → a.defers = [] ∧ ∃ v, (results fn a.tmps).run E.P w' = .ok v w' ∧ ∃ v' ρ', Ending.returned v = .returned v' ∧ VR w' (AvS G S' ρ') ρ' d v' ∧ (∀ t b, lk S' t = some b → SR E.P w' (AvS G S' ρ') ρ' t b) ∧ Dis S' ρ' ∧
      (∀ x, Held S' ρ' x → w.heap.size ≤ x ∨ Held Sa ρ x) ∧ (∀ t u, t < k → ρ t = some u → ρ' t = some u) ∧ Fr (Held Sa ρ) w w' := by
    intro hk
    obtain ⟨ms, ns, hk⟩ := hk
    split at hk
    · rename_i tm S nx hm
      obtain ⟨ρ1, h1, hf1⟩ := mvs_sound hm h0 hf0
      obtain ⟨ds, us, e1, e2, e3, hn, hp, hcr, hcs⟩ := resK_run hty h1 _ _ hk
      obtain ⟨hc, hi⟩ := h1.carry [] hn hp
      rw [hcs] at hc hi
      refine ⟨h1.defers, _, results_run e1, _, carρ ns ρ1, rfl, ?_, hc.st, hc.dis, hc.new, hc.keep, hc.fr⟩
      -- one result, or several
      have several : ∀ (ds' : List D), ds'.length = us.length → (∀ (i : Nat) (d' : D) (u : Value), ds'[i]? = some d' → us[i]? = some u → VG w' (AvS G S' (carρ ns ρ1)) (carρ ns ρ1) d' u) → VR w' (AvS G S' (carρ ns ρ1)) (carρ ns ρ1) (.tup ds') (.tuple us.toArray) := fun ds' hl h => .tup hl h
      have each : ∀ {ds' : List D}, carGs ns ds = some ds' → ds'.length = us.length ∧ ∀ (i : Nat) (d' : D) (u : Value), ds'[i]? = some d' → us[i]? = some u → VG w' (AvS G S' (carρ ns ρ1)) (carρ ns ρ1) d' u := by
        intro ds' hg
        obtain ⟨g1, g2⟩ := carGs_get hg
        refine ⟨by rw [g1, e2], fun i d' u p q => ?_⟩
        have hlt : i < ds.length := by rw [← g1]; exact (List.getElem?_eq_some_iff.1 p).1
        have hdi : ds[i]? = some ds[i] := List.getElem?_eq_getElem hlt
        exact (e3 i _ u hdi q).carG hi (g2 i _ d' hdi p)
      have tupled : carR ns (.tup ds) = some d → VR w' (AvS G S' (carρ ns ρ1)) (carρ ns ρ1) d (.tuple us.toArray) := by
        intro hcr
        simp only [carR] at hcr
        split at hcr
        · rename_i ds' hg
          cases hcr
          obtain ⟨g1, g2⟩ := each hg
          exact several ds' g1 g2
        · cases hcr
      have lone : ∀ (x : D) (u : Value), ds = [x] → us = [u] → VR w' (AvS G S' (carρ ns ρ1)) (carρ ns ρ1) d u := by
        intro x u hds hus
        subst hds
        subst hus
        simp only [oneRes] at hcr
        have hx := e3 0 x u rfl rfl
        by_cases ht : ∃ ys, x = .tup ys
        · obtain ⟨ys, rfl⟩ := ht
          simp only [carR] at hcr
          split at hcr
          · rename_i ys' hg
            cases hcr
            obtain ⟨vs, rfl, q1, q2⟩ := hx.tup_inv
            obtain ⟨g1, g2⟩ := carGs_get hg
            refine .tup (by rw [g1, q1]) fun i d' u p q => ?_
            have hlt : i < ys.length := by rw [← g1]; exact (List.getElem?_eq_some_iff.1 p).1
            have hdi : ys[i]? = some ys[i] := List.getElem?_eq_getElem hlt
            exact (q2 i _ u hdi q).car hi (g2 i _ d' hdi p)
          · cases hcr
        · have : carR ns x = carD ns x := by cases x <;> first | rfl | exact absurd ⟨_, rfl⟩ ht
          rw [this] at hcr
          exact .gr (hx.carG hi hcr)
      clear several each
      cases us with
      | nil =>
        have : ds = [] := List.eq_nil_of_length_eq_zero e2
        subst this
        exact tupled hcr
      | cons u q =>
        cases q with
        | nil =>
          have : ∃ x, ds = [x] := by
            match ds, e2 with
            | [x], _ => exact ⟨x, rfl⟩
          obtain ⟨x, hx⟩ := this
          exact lone x u hx rfl
        | cons v q =>
          refine tupled ?_
          have : oneRes ds = .tup ds := by
            match ds, e2 with
            | x :: y :: r, _ => rfl
          rw [this] at hcr
          exact hcr
    · exact hk.elim
  cases e with
  | normal => exact fin hk
  | ret => exact fin hk
  | exit i => exact hk.elim
theorem con_of_awp (hty : TyOk E) (hmix : E.P.follows .mixedOrders = true) {f : FuncId} {fn : Func} {c : Code} (hf : E.P.funcs[f]? = some fn) (hb : fn.body = some c) (hname : (fn.name == "runtime.NumGoroutine") = false) (hok : codeOk fn.ntmps c = true)
    {k : Nat} {cds : List D} {Sa : Store} {d : D} {S' : Store} (hle : cds.length ≤ fn.ntmps) (h : awp E k c (parTm 0 cds) Sa k (finQ E k fn.results.toList d S')) : Con E f k cds Sa d S' :=
  con_of_AW hty hf hb hname hle (awp_sound hty hmix c _ _ _ _ hok h)
end
end Go.Ab
