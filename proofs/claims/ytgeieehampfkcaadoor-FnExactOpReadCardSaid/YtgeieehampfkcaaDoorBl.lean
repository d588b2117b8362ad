/- An abstract reading of the elaborated code. Part 12: slices of slices, least and greatest, function values. -/
import Derived.Test.YtgeieehampfkcaaDoorBk
namespace Go.Ab
open Go Go.RowKit

section
variable {E : Env} {cx : Cx} {tm : Tm} {S S0 : Store} {nx : Nat} {a : Act} {w : World} {ρ : Nat → Option Value} {o : Oper} {K : Kt}

/-- a bound, by its operand -/
def Bd (gl : Nat → Option (List D)) (tm : Tm) (x : Option Operand) (dflt i : Nat) : Prop :=
  match x with
  | none => i = dflt
  | some y => ∃ kd, ev gl tm y = some (.k kd (i : Int))
theorem boundK_inv {gl : Nat → Option (List D)} {x : Option Operand} {dflt : Nat} {K : Nat → Prop} (h : boundK gl tm x dflt K) : ∃ i, Bd gl tm x dflt i ∧ K i := by
  unfold boundK at h
  split at h
  · exact ⟨_, rfl, h⟩
  · split at h
    · rename_i kd n hy
      obtain ⟨j, rfl, h⟩ := h
      exact ⟨j, ⟨kd, hy⟩, h⟩
    · exact h.elim
theorem cutK_inv {gl : Nat → Option (List D)} {lo hi : Option Operand} {n : Nat} {K : Nat → Nat → Prop} (h : cutK gl tm lo hi n K) : ∃ i j, Bd gl tm lo 0 i ∧ Bd gl tm hi n j ∧ i ≤ j ∧ j ≤ n ∧ K i j := by
  obtain ⟨i, h1, h⟩ := boundK_inv h
  obtain ⟨j, h2, h3, h4, h5⟩ := boundK_inv h
  exact ⟨i, j, h1, h2, h3, h4, h5⟩
theorem bounds_run {P : Program} {ρ' : Operand → Value} {lo hi : Option Operand} {len cap i j : Nat} (sl : Bool) (hlo : Bd E.gl tm lo 0 i) (hhi : Bd E.gl tm hi len j) (hij : i ≤ j) (hj : j ≤ len) (hc : len ≤ cap)
    (hev : ∀ x ∈ lo.toList ++ hi.toList, ∀ kd n, ev E.gl tm x = some (.k kd n) → ρ' x = .int kd n) : (Instr.sliceBounds sl len cap (lo.map ρ') (hi.map ρ') none).run P w = .ok (i, j, cap) w := by
  have bound : ∀ (x : Operand) (kd : IntKind) (k y : Nat) (c : BoundsCode), ρ' x = .int kd (k : Int) → k ≤ y → (Instr.sliceBound (ρ' x) y c).run P w = .ok k w := by
    intro x kd k y c hx hk
    have h1 : (0 : Int) ≤ (k : Int) ∧ (k : Int) ≤ (y : Int) := by omega
    simp [Instr.sliceBound, hx, asIntOf, hk]
  unfold Bd at hlo hhi
  cases lo with
  | none =>
    simp only at hlo
    subst hlo
    cases hi with
    | none =>
      simp only at hhi
      subst hhi
      simp [Instr.sliceBounds]
    | some y =>
      simp only at hhi
      obtain ⟨kd, hy⟩ := hhi
      have := bound y kd j cap (if sl then .sliceAcap else .sliceAlen) (hev y (by simp) _ _ hy) (by omega)
      simp [Instr.sliceBounds, this]
  | some x =>
    simp only at hlo
    obtain ⟨kx, hx⟩ := hlo
    have hx' := hev x (by simp) _ _ hx
    cases hi with
    | none =>
      simp only at hhi
      subst hhi
      have := bound x kx i j .sliceB hx' hij
      simp [Instr.sliceBounds, this]
    | some y =>
      simp only at hhi
      obtain ⟨kd, hy⟩ := hhi
      have h1 := bound y kd j cap (if sl then .sliceAcap else .sliceAlen) (hev y (by simp) _ _ hy) (by omega)
      have h2 := bound x kx i j .sliceB hx' hij
      simp [Instr.sliceBounds, h1, h2]

theorem ba_extract (l : List UInt8) (i j : Nat) : (⟨l.toArray⟩ : ByteArray).extract i j = ⟨((l.take j).drop i).toArray⟩ := by
  apply ByteArray.ext
  rw [ByteArray.data_extract]
  apply Array.ext'
  simp [List.extract_eq_take_drop, List.drop_take]

/-- a part of what is only read -/
theorem VI.cut {P : Program} {Av : Nat → Prop} {xs : List (List D)} {v : Value} (hv : VI w Av (.sl xs) v) {t e : TypeId} {te : Nat} (hu : P.underlying t = some (.slice e)) (hz : (Go.sizeOf e).run P w = .ok te w) (hel : ∀ cs ∈ xs, cs.length = te) {i j : Nat} (hij : i ≤ j) (hj : j ≤ xs.length) {lo hi : Option Value}
    (hb : ∀ n c, xs.length = n → n ≤ c → (Instr.sliceBounds true n c lo hi none).run P w = .ok (i, j, c) w) :
    ∃ u, (Instr.sliceAt t v lo hi none).run P w = .ok u w ∧ VI w Av (.sl ((xs.take j).drop i)) u := by
  obtain ⟨A, n, c, rfl, hn, hnc, hc, hnone, hsome⟩ := hv.sl_inv
  have hrun : (Instr.sliceAt t (.slice A n c) lo hi none).run P w = .ok (.slice (if c = i then A else A.map (·.add (i * te))) (j - i) (c - i)) w := by
    simp [Instr.sliceAt, Instr.slice, run_underlying hu, hb n c hn hnc, hz]
  refine ⟨_, hrun, ?_⟩
  cases A with
  | none =>
    obtain ⟨rfl, rfl⟩ := hnone rfl
    have hn0 : n = 0 := by simpa using hn.symm
    subst hn0
    have hj0 : j = 0 := by simpa using hj
    subst hj0
    have hi0 : i = 0 := by omega
    subst hi0
    simp
    exact .sl0
  | some ad =>
    obtain ⟨hbk, hav, sz, hsz, hcell⟩ := hsome ad rfl
    have hlen : ((xs.take j).drop i).length = j - i := by simp; omega
    by_cases hci : c = i
    · have hx : (xs.take j).drop i = [] := List.eq_nil_of_length_eq_zero (by rw [hlen]; omega)
      rw [if_pos hci, hx]
      exact .sl (sz := 0) (fun _ _ => undef) (by simp; omega) (by omega) (by simp only [maxLen] at *; omega) (fun h => absurd rfl h) (fun h => absurd rfl h) (by simp) (by simp) (by simp) (by simp)
    · rw [if_neg hci]
      have at_ : ∀ (k m : Nat) (cs : List D) (d : D), ((xs.take j).drop i)[k]? = some cs → cs[m]? = some d → ∃ u, w.cell? ((ad.add (i * te)).add (k * te + m)) = some u ∧ u.oneCell' = true ∧ VI w Av d u := by
        intro k m cs d hk hm
        rw [List.getElem?_drop, List.getElem?_take] at hk
        split at hk
        · have hte : sz = te := by rw [← hsz cs (List.mem_of_getElem? hk), hel cs (List.mem_of_getElem? hk)]
          obtain ⟨u, e1, e2, e3⟩ := hcell (i + k) m cs d hk hm
          refine ⟨u, ?_, e2, e3⟩
          rw [add_add, ← e1, hte, Nat.add_mul]
          congr 2
          omega
        · cases hk
      have U : ∀ k m, ∃ u, ∀ (cs : List D) (d : D), ((xs.take j).drop i)[k]? = some cs → cs[m]? = some d → w.cell? ((ad.add (i * te)).add (k * te + m)) = some u ∧ u.oneCell' = true ∧ VI w Av d u := by
        intro k m
        by_cases h : ∃ cs d, ((xs.take j).drop i)[k]? = some cs ∧ cs[m]? = some d
        · obtain ⟨cs, d, h1, h2⟩ := h
          obtain ⟨u, e1, e2, e3⟩ := at_ k m cs d h1 h2
          refine ⟨u, fun cs' d' h1' h2' => ?_⟩
          rw [h1] at h1'
          cases h1'
          rw [h2] at h2'
          cases h2'
          exact ⟨e1, e2, e3⟩
        · exact ⟨undef, fun cs d h1 h2 => absurd ⟨cs, d, h1, h2⟩ h⟩
      refine .sl (sz := te) (fun k m => (U k m).choose) hlen (by omega) (by simp only [maxLen] at *; omega) (fun hne => by rw [add_block]; exact hbk (fun e => hne (by rw [e]; simp))) (fun hne => by rw [add_block]; exact hav (fun e => hne (by rw [e]; simp))) (fun cs hcs => hel cs (List.mem_of_mem_take (List.mem_of_mem_drop hcs))) ?_ ?_ ?_
      · exact fun k m cs d h1 h2 => ((U k m).choose_spec cs d h1 h2).1
      · exact fun k m cs d h1 h2 => ((U k m).choose_spec cs d h1 h2).2.1
      · exact fun k m cs d h1 h2 => ((U k m).choose_spec cs d h1 h2).2.2

theorem Bd.agree {tm' : Tm} {x : Option Operand} {dflt i : Nat} (h : Bd E.gl tm x dflt i) (he : ∀ y ∈ x.toList, ev E.gl tm' y = ev E.gl tm y) : Bd E.gl tm' x dflt i := by
  unfold Bd at h ⊢
  cases x with
  | none => exact h
  | some y => simp only at h ⊢; rw [he y (by simp)]; exact h
theorem ok_slice (hty : TyOk E) {t : TypeId} {x : Operand} {lo hi : Option Operand} (ho : o.op = .slice t x lo hi none) {d : D} (hx : ev E.gl tm x = some d) {td : TD} (ht : E.ty t = some td)
    (hk : sliceK E E.gl td.kind S d tm lo hi fun d' wr S' => K ⟨nmD d, wr⟩ (put o.dst d' tm) S' nx) : Ok1 E o tm S nx K := by
  have hkc := hty.kind ht
  have ops : ∀ y ∈ lo.toList ++ hi.toList, y ∈ o.op.operands := by
    intro y hy
    rw [ho]
    simp only [Op.operands]
    cases lo <;> cases hi <;> simp at hy ⊢
    · exact .inr hy
    · exact .inr hy
    · rcases hy with rfl | rfl
      · exact .inr (.inl rfl)
      · exact .inr (.inr rfl)
  have evs : ∀ {cx : Cx} {tm' : Tm} {S' : Store} {a : Act} {w : World} {ρ : Nat → Option Value}, R E cx tm' S' a w ρ → (∀ x ∈ o.op.operands, ev E.gl tm' x = ev E.gl tm x) → ∀ y ∈ lo.toList ++ hi.toList, ∀ kd n, ev E.gl tm y = some (.k kd n) → a.eval y = .int kd n := by
    intro cx tm' S' a w ρ h he y hy kd n hn
    exact (h.eval ((he y (ops y hy)).trans hn)).k_inv
  unfold sliceK at hk
  split at hk
  · rename_i hkd
    split at hk
    · rename_i l
      obtain ⟨i, j, h1, h2, h3, h4, h5⟩ := cutK_inv hk
      refine Ok1.pure (fp := nmD (.s l)) h5 fun cx tm' S' a w ρ he _ h => ?_
      have hv := (h.eval ((he x (by simp [ho, Op.operands])).trans hx)).s_inv
      rw [hkd] at hkc
      have hl : (⟨l.toArray⟩ : ByteArray).size = l.length := by simp [ByteArray.size]
      have hb := bounds_run (P := E.P) (w := w) (cap := l.length) false h1 h2 h3 h4 (Nat.le_refl _) (evs h he)
      refine ⟨.string ⟨((l.take j).drop i).toArray⟩, ?_, .gr (.atom (.im (.s _)))⟩
      simp only [execOp, ho, hv, Instr.sliceAt, Instr.slice, Sem.run_bind, run_underlying (kind_str hkc), Result.andThen_ok, hl, Option.map_none, Option.isSome_none, Sem.run_pure, ba_extract]
      simp [hb]
    · exact hk.elim
  · rename_i e hkd
    rw [hkd] at hkc
    have hu := kind_slice hkc
    obtain ⟨te, hte, hk'⟩ := tyK_inv hk
    clear hk
    -- what is only read
    have fin : ∀ {cx : Cx} {tm' : Tm} {S' : Store} {a : Act} {w : World} {ρ : Nat → Option Value} (xs : List (List D)) (i j : Nat), R E cx tm' S' a w ρ → (∀ x ∈ o.op.operands, ev E.gl tm' x = ev E.gl tm x) → VI w (AvS cx.G S' ρ) (.sl xs) (a.eval x) → (∀ cs ∈ xs, cs.length = te.size) →
        Bd E.gl tm lo 0 i → Bd E.gl tm hi xs.length j → i ≤ j → j ≤ xs.length → ∃ v, (execOp a.eval o).run E.P w = .ok (.value v) w ∧ VR w (AvS cx.G S' ρ) ρ (.sl ((xs.take j).drop i)) v := by
      intro cx tm' S' a w ρ xs i j h he hvi hxs h1 h2 h3 h4
      obtain ⟨u, e1, e2⟩ := hvi.cut hu (sizeOf_run hty hte) hxs h3 h4 (lo := lo.map a.eval) (hi := hi.map a.eval) (fun n c hn hc => by
        subst hn
        exact bounds_run (P := E.P) true h1 h2 h3 h4 hc (evs h he))
      exact ⟨u, by simp [execOp, ho, e1], .gr (.atom (.im e2))⟩
    cases d with
    | sl xs =>
      obtain ⟨hel, hk⟩ := hk'
      obtain ⟨i, j, h1, h2, h3, h4, h5⟩ := cutK_inv hk
      refine Ok1.pure (fp := nmD (.sl xs)) h5 fun cx tm' S' a w ρ he _ h => ?_
      exact fin xs i j h he (h.eval ((he x (by simp [ho, Op.operands])).trans hx)).sl_inv hel h1 h2 h3 h4
    | nil =>
      obtain ⟨i, j, h1, h2, h3, h4, h5⟩ := cutK_inv hk'
      refine Ok1.pure (fp := nmD .nil) h5 fun cx tm' S' a w ρ he _ h => ?_
      have hv := (h.eval ((he x (by simp [ho, Op.operands])).trans hx)).nil_inv
      have hj : j = 0 := by omega
      have hi0 : i = 0 := by omega
      subst hj
      subst hi0
      have hb := bounds_run (P := E.P) (w := w) (cap := 0) true h1 h2 h3 h4 (Nat.le_refl _) (evs h he)
      refine ⟨.slice none 0 0, ?_, .gr (.atom (.im .nil))⟩
      simp [execOp, ho, hv, Instr.sliceAt, Instr.slice, run_underlying hu, hb, sizeOf_run hty hte]
    | own t0 =>
      simp only at hk'
      split at hk'
      · rename_i xs himm
        obtain ⟨hel, hk⟩ := hk'
        obtain ⟨i, j, h1, h2, h3, h4, h5⟩ := cutK_inv hk
        refine Ok1.val (fp := ⟨nmD (.own t0), [t0]⟩) (out := frzOut S [t0]) (nx' := nx) (d := .sl ((xs.take j).drop i)) (fun n hn => ?_) (fun n hn => by simpa [nmD, nmA] using hn) (Nat.le_refl _) (fun n q1 q2 => by omega) (fun n => frz_ap [t0] S n) h5 ?_
        · rw [lk_frzOut] at hn
          by_cases hin : n ∈ [t0]
          · exact hin
          · rw [if_neg hin] at hn; exact absurd rfl hn
        · intro cx tm' S' a w ρ he hf h hfr
          have hag : ∀ m ∈ [t0], lk S' m = lk S m := fun m hm => hf m (by simpa [nmD, nmA] using hm)
          have h' := h.frzs (S0 := S) [t0] hag
          have hvi := immD_VI (S0 := S) h' (d := .own t0) (fun t ht => frz_fits hag t (by simpa [nmD, nmA] using ht)) (h'.eval ((he x (by simp [ho, Op.operands])).trans hx)) himm
          obtain ⟨v, e1, e2⟩ := fin xs i j h' he hvi hel h1 h2 h3 h4
          exact ⟨v, w, ρ, e1, h', e2, fun _ _ => rfl⟩
      · exact hk'.elim
    | _ => exact hk'.elim
  · exact hk.elim

theorem ok_minmax {x y : Operand} {b : Builtin} {ts : Array TypeId} (ho : o.op = .call { callee := .builtin b, args := #[x, y], argTypes := ts }) (hb : b = .min ∨ b = .max) {m n : Int} (hx : ev E.gl tm x = some (.k .i64 m)) (hy : ev E.gl tm y = some (.k .i64 n))
    (hk : K ⟨[], []⟩ (put o.dst (.k .i64 (if b = .min then min m n else max m n)) tm) S nx) : Ok1 E o tm S nx K := by
  refine Ok1.pure (fp := []) hk fun cx tm' S' a w ρ he _ h => ?_
  have e1 := (h.eval ((he x (by simp [ho, Op.operands, Call.operands])).trans hx)).k_inv
  have e2 := (h.eval ((he y (by simp [ho, Op.operands, Call.operands])).trans hy)).k_inv
  rcases hb with rfl | rfl
  · refine ⟨.int .i64 (min m n), ?_, .gr (.atom (.im (.k _ _)))⟩
    have : (if n < m then n else m) = min m n := by omega
    simp [execOp, ho, resolve, invoke, builtin, e1, e2, Builtin.min_, Builtin.min2, this]
  · refine ⟨.int .i64 (max m n), ?_, .gr (.atom (.im (.k _ _)))⟩
    have : (if m < n then n else m) = max m n := by omega
    simp [execOp, ho, resolve, invoke, builtin, e1, e2, Builtin.max_, Builtin.max2, this]

theorem evs_get {gl : Nat → Option (List D)} : ∀ {xs : List Operand} {K : List D → Prop}, evsK gl tm xs K → ∃ ds, K ds ∧ ds.length = xs.length ∧ ∀ (i : Nat) (x : Operand) (d : D), xs[i]? = some x → ds[i]? = some d → ev gl tm x = some d
  | [], K, h => ⟨[], h, rfl, by simp⟩
  | x :: r, K, h => by
    unfold evsK at h
    split at h
    · rename_i d hd
      obtain ⟨ds, h1, h2, h3⟩ := evs_get h
      refine ⟨d :: ds, h1, by simp [h2], fun i y e hy he => ?_⟩
      cases i with
      | zero => simp at hy he; subst hy he; exact hd
      | succ i => exact h3 i y e (by simpa using hy) (by simpa using he)
    · exact h.elim
theorem boxes_get : ∀ {ds : List D} {cs : List Nat}, awpOp.boxes ds = some cs → cs.length = ds.length ∧ ∀ (i n : Nat), cs[i]? = some n → ds[i]? = some (.bp n 0)
  | [], cs, h => by simp [awpOp.boxes] at h; subst h; simp
  | d :: r, cs, h => by
    unfold awpOp.boxes at h
    split at h
    · rename_i heq; cases heq
    · rename_i n r' heq
      cases heq
      split at h
      · rename_i q hq
        cases h
        obtain ⟨h1, h2⟩ := boxes_get hq
        refine ⟨by simp [h1], fun i m hm => ?_⟩
        cases i with
        | zero => simp at hm; subst hm; rfl
        | succ i => exact h2 i m (by simpa using hm)
      · cases h
    · cases h
theorem ok_makeFunc {f : FuncId} {first caps : Array Operand} (ho : o.op = .makeFunc (.func f) first caps) (hf : first.toList = []) {ds : List D} (hl : ds.length = caps.toList.length) (hds : ∀ (i : Nat) (x : Operand) (d : D), caps.toList[i]? = some x → ds[i]? = some d → ev E.gl tm x = some d) {cs : List Nat} (hb : awpOp.boxes ds = some cs)
    (hk : K fp0 (put o.dst (.fn f cs) tm) S nx) : Ok1 E o tm S nx K := by
  obtain ⟨b1, b2⟩ := boxes_get hb
  refine Ok1.pure (fp := []) hk fun cx tm' S' a w ρ he _ h => ?_
  have hfirst : first = #[] := by apply Array.ext'; simpa using hf
  refine ⟨.func (.func f) #[] (caps.toList.map a.eval).toArray, ?_, .gr (.atom (.fn (by simp [b1, hl]) fun i n u hn hu => ?_))⟩
  · have : Array.map a.eval caps = (List.map a.eval caps.toList).toArray := by apply Array.ext'; simp
    simp [execOp, ho, Instr.makeFunc, hfirst]
    exact this
  · simp only [List.getElem?_map, Option.map_eq_some_iff] at hu
    obtain ⟨x, hx, rfl⟩ := hu
    have hd := b2 i n hn
    have hev := h.eval ((he x (by rw [ho]; simp only [Op.operands]; simp; exact .inr (by simpa using List.mem_of_getElem? hx))).trans (hds i x _ hx hd))
    obtain ⟨b, e1, e2⟩ := hev.bp_inv
    rw [e2]
    exact ⟨e1, b, rfl⟩
end
end Go.Ab
