/- An abstract reading of the elaborated code. Part 12: slices of slices, least and greatest, function values. -/
import Derived.Test.YtplhgbcpeohpgaaX1
import Derived.Orders
import Derived.ProofKit
import Derived.OpenShut
import Derived.Deep.Slices
import Derived.WideKeyArgs
import Derived.HandedShaped
import Derived.IntWalk
import Derived.FnData
import Derived.ChangeVars
import Derived.MakeChecks
import Derived.Sort.Row
import Derived.Sort.Grow
namespace Go.Ab
open Go Go.RowKit

section
variable {E : Env} {cx : Cx} {tm : Tm} {S S0 : Store} {nx : Nat} {a : Act} {w : World} {ρ : Nat → Option Value} {o : Oper} {K : Kt}

/-- a bound, by its operand -/
def Bd (gl : Nat → Option (List D)) (tm : Tm) (x : Option Operand) (dflt i : Nat) : Prop :=
  match x with
  | none => i = dflt
  | some y => ∃ kd, ev gl tm y = some (.k kd (i : Int))
theorem boundK_inv {gl : Nat → Option (List D)} {x : Option Operand} {dflt : Nat} {K : Nat → Prop} (h : boundK gl tm x dflt K) : ∃ i, Bd gl tm x dflt i ∧ K i := by
  unfold boundK at h
  split at h
  · exact ⟨_, rfl, h⟩
  · split at h
    · rename_i kd n hy
      obtain ⟨j, rfl, h⟩ := h
      exact ⟨j, ⟨kd, hy⟩, h⟩
    · exact h.elim
theorem cutK_inv {gl : Nat → Option (List D)} {lo hi : Option Operand} {n : Nat} {K : Nat → Nat → Prop} (h : cutK gl tm lo hi n K) : ∃ i j, Bd gl tm lo 0 i ∧ Bd gl tm hi n j ∧ i ≤ j ∧ j ≤ n ∧ K i j := by
  obtain ⟨i, h1, h⟩ := boundK_inv h
  obtain ⟨j, h2, h3, h4, h5⟩ := boundK_inv h
  exact ⟨i, j, h1, h2, h3, h4, h5⟩
theorem bounds_run {P : Program} {ρ' : Operand → Value} {lo hi : Option Operand} {len cap i j : Nat} (sl : Bool) (hlo : Bd E.gl tm lo 0 i) (hhi : Bd E.gl tm hi len j) (hij : i ≤ j) (hj : j ≤ len) (hc : len ≤ cap)
    (hev : ∀ x ∈ lo.toList ++ hi.toList, ∀ kd n, ev E.gl tm x = some (.k kd n) → ρ' x = .int kd n) : (Instr.sliceBounds sl len cap (lo.map ρ') (hi.map ρ') none).run P w = .ok (i, j, cap) w := by
  have bound : ∀ (x : Operand) (kd : IntKind) (k y : Nat) (c : BoundsCode), ρ' x = .int kd (k : Int) → k ≤ y → (Instr.sliceBound (ρ' x) y c).run P w = .ok k w := by
    intro x kd k y c hx hk
    have h1 : (0 : Int) ≤ (k : Int) ∧ (k : Int) ≤ (y : Int) := by omega
    simp [Instr.sliceBound, hx, asIntOf, hk]
  unfold Bd at hlo hhi
  cases lo with
  | none =>
    simp only at hlo
    subst hlo
    cases hi with
    | none =>
      simp only at hhi
      subst hhi
      simp [Instr.sliceBounds]
    | some y =>
      simp only at hhi
      obtain ⟨kd, hy⟩ := hhi
      have := bound y kd j cap (if sl then .sliceAcap else .sliceAlen) (hev y (by simp) _ _ hy) (by omega)
      simp [Instr.sliceBounds, this]
  | some x =>
    simp only at hlo
    obtain ⟨kx, hx⟩ := hlo
    have hx' := hev x (by simp) _ _ hx
    cases hi with
    | none =>
      simp only at hhi
      subst hhi
      have := bound x kx i j .sliceB hx' hij
      simp [Instr.sliceBounds, this]
    | some y =>
      simp only at hhi
      obtain ⟨kd, hy⟩ := hhi
      have h1 := bound y kd j cap (if sl then .sliceAcap else .sliceAlen) (hev y (by simp) _ _ hy) (by omega)
      have h2 := bound x kx i j .sliceB hx' hij
      simp [Instr.sliceBounds, h1, h2]

theorem ba_extract (l : List UInt8) (i j : Nat) : (⟨l.toArray⟩ : ByteArray).extract i j = ⟨((l.take j).drop i).toArray⟩ := by
  apply ByteArray.ext
  rw [ByteArray.data_extract]
  apply Array.ext'
  simp [List.extract_eq_take_drop, List.drop_take]

/-- a part of what is only read -/
theorem VI.cut {P : Program} {Av : Nat → Prop} {xs : List (List D)} {v : Value} (hv : VI w Av (.sl xs) v) {t e : TypeId} {te : Nat} (hu : P.underlying t = some (.slice e)) (hz : (Go.sizeOf e).run P w = .ok te w) (hel : ∀ cs ∈ xs, cs.length = te) {i j : Nat} (hij : i ≤ j) (hj : j ≤ xs.length) {lo hi : Option Value}
    (hb : ∀ n c, xs.length = n → n ≤ c → (Instr.sliceBounds true n c lo hi none).run P w = .ok (i, j, c) w) :
    ∃ u, (Instr.sliceAt t v lo hi none).run P w = .ok u w ∧ VI w Av (.sl ((xs.take j).drop i)) u := by
  obtain ⟨A, n, c, rfl, hn, hnc, hc, hnone, hsome⟩ := hv.sl_inv
  have hrun : (Instr.sliceAt t (.slice A n c) lo hi none).run P w = .ok (.slice (if c = i then A else A.map (·.add (i * te))) (j - i) (c - i)) w := by
    simp [Instr.sliceAt, Instr.slice, run_underlying hu, hb n c hn hnc, hz]
  refine ⟨_, hrun, ?_⟩
  cases A with
  | none =>
    obtain ⟨rfl, rfl⟩ := hnone rfl
    have hn0 : n = 0 := by simpa using hn.symm
    subst hn0
    have hj0 : j = 0 := by simpa using hj
    subst hj0
    have hi0 : i = 0 := by omega
    subst hi0
    simp
    exact .sl0
  | some ad =>
    obtain ⟨hbk, hav, sz, hsz, hcell⟩ := hsome ad rfl
    have hlen : ((xs.take j).drop i).length = j - i := by simp; omega
    by_cases hci : c = i
    · have hx : (xs.take j).drop i = [] := List.eq_nil_of_length_eq_zero (by rw [hlen]; omega)
      rw [if_pos hci, hx]
      exact .sl (sz := 0) (fun _ _ => undef) (by simp; omega) (by omega) (by simp only [maxLen] at *; omega) (fun h => absurd rfl h) (fun h => absurd rfl h) (by simp) (by simp) (by simp) (by simp)
    · rw [if_neg hci]
      have at_ : ∀ (k m : Nat) (cs : List D) (d : D), ((xs.take j).drop i)[k]? = some cs → cs[m]? = some d → ∃ u, w.cell? ((ad.add (i * te)).add (k * te + m)) = some u ∧ u.oneCell' = true ∧ VI w Av d u := by
        intro k m cs d hk hm
        rw [List.getElem?_drop, List.getElem?_take] at hk
        split at hk
        · have hte : sz = te := by rw [← hsz cs (List.mem_of_getElem? hk), hel cs (List.mem_of_getElem? hk)]
          obtain ⟨u, e1, e2, e3⟩ := hcell (i + k) m cs d hk hm
          refine ⟨u, ?_, e2, e3⟩
          rw [add_add, ← e1, hte, Nat.add_mul]
          congr 2
          omega
        · cases hk
      have U : ∀ k m, ∃ u, ∀ (cs : List D) (d : D), ((xs.take j).drop i)[k]? = some cs → cs[m]? = some d → w.cell? ((ad.add (i * te)).add (k * te + m)) = some u ∧ u.oneCell' = true ∧ VI w Av d u := by
        intro k m
        by_cases h : ∃ cs d, ((xs.take j).drop i)[k]? = some cs ∧ cs[m]? = some d
        · obtain ⟨cs, d, h1, h2⟩ := h
          obtain ⟨u, e1, e2, e3⟩ := at_ k m cs d h1 h2
          refine ⟨u, fun cs' d' h1' h2' => ?_⟩
          rw [h1] at h1'
          cases h1'
          rw [h2] at h2'
          cases h2'
          exact ⟨e1, e2, e3⟩
        · exact ⟨undef, fun cs d h1 h2 => absurd ⟨cs, d, h1, h2⟩ h⟩
      refine .sl (sz := te) (fun k m => (U k m).choose) hlen (by omega) (by simp only [maxLen] at *; omega) (fun hne => by rw [add_block]; exact hbk (fun e => hne (by rw [e]; simp))) (fun hne => by rw [add_block]; exact hav (fun e => hne (by rw [e]; simp))) (fun cs hcs => hel cs (List.mem_of_mem_take (List.mem_of_mem_drop hcs))) ?_ ?_ ?_
      · exact fun k m cs d h1 h2 => ((U k m).choose_spec cs d h1 h2).1
      · exact fun k m cs d h1 h2 => ((U k m).choose_spec cs d h1 h2).2.1
      · exact fun k m cs d h1 h2 => ((U k m).choose_spec cs d h1 h2).2.2

theorem Bd.agree {tm' : Tm} {x : Option Operand} {dflt i : Nat} (h : Bd E.gl tm x dflt i) (he : ∀ y ∈ x.toList, ev E.gl tm' y = ev E.gl tm y) : Bd E.gl tm' x dflt i := by
  unfold Bd at h ⊢
  cases x with
  | none => exact h
  | some y => simp only at h ⊢; rw [he y (by simp)]; exact h
theorem ok_slice (hty : TyOk E) {t : TypeId} {x : Operand} {lo hi : Option Operand} (ho : o.op = .slice t x lo hi none) {d : D} (hx : ev E.gl tm x = some d) {td : TD} (ht : E.ty t = some td)
    (hk : sliceK E E.gl td.kind S d tm lo hi fun d' wr S' => K ⟨nmD d, wr⟩ (put o.dst d' tm) S' nx) : Ok1 E o tm S nx K := by
  have hkc := hty.kind ht
  have ops : ∀ y ∈ lo.toList ++ hi.toList, y ∈ o.op.operands := by
    intro y hy
    rw [ho]
    simp only [Op.operands]
    cases lo <;> cases hi <;> simp at hy ⊢
    · exact .inr hy
    · exact .inr hy
    · rcases hy with rfl | rfl
      · exact .inr (.inl rfl)
      · exact .inr (.inr rfl)
  have evs : ∀ {cx : Cx} {tm' : Tm} {S' : Store} {a : Act} {w : World} {ρ : Nat → Option Value}, R E cx tm' S' a w ρ → (∀ x ∈ o.op.operands, ev E.gl tm' x = ev E.gl tm x) → ∀ y ∈ lo.toList ++ hi.toList, ∀ kd n, ev E.gl tm y = some (.k kd n) → a.eval y = .int kd n := by
    intro cx tm' S' a w ρ h he y hy kd n hn
    exact (h.eval ((he y (ops y hy)).trans hn)).k_inv
  unfold sliceK at hk
  split at hk
  · rename_i hkd
    split at hk
    · rename_i l
      obtain ⟨i, j, h1, h2, h3, h4, h5⟩ := cutK_inv hk
      refine Ok1.pure (fp := nmD (.s l)) h5 fun cx tm' S' a w ρ he _ h => ?_
      have hv := (h.eval ((he x (by simp [ho, Op.operands])).trans hx)).s_inv
      rw [hkd] at hkc
      have hl : (⟨l.toArray⟩ : ByteArray).size = l.length := by simp [ByteArray.size]
      have hb := bounds_run (P := E.P) (w := w) (cap := l.length) false h1 h2 h3 h4 (Nat.le_refl _) (evs h he)
      refine ⟨.string ⟨((l.take j).drop i).toArray⟩, ?_, .gr (.atom (.im (.s _)))⟩
      simp only [execOp, ho, hv, Instr.sliceAt, Instr.slice, Sem.run_bind, run_underlying (kind_str hkc), Result.andThen_ok, hl, Option.map_none, Option.isSome_none, Sem.run_pure, ba_extract]
      simp [hb]
    · exact hk.elim
  · rename_i e hkd
    rw [hkd] at hkc
    have hu := kind_slice hkc
    obtain ⟨te, hte, hk'⟩ := tyK_inv hk
    clear hk
    -- what is only read
    have fin : ∀ {cx : Cx} {tm' : Tm} {S' : Store} {a : Act} {w : World} {ρ : Nat → Option Value} (xs : List (List D)) (i j : Nat), R E cx tm' S' a w ρ → (∀ x ∈ o.op.operands, ev E.gl tm' x = ev E.gl tm x) → VI w (AvS cx.G S' ρ) (.sl xs) (a.eval x) → (∀ cs ∈ xs, cs.length = te.size) →
        Bd E.gl tm lo 0 i → Bd E.gl tm hi xs.length j → i ≤ j → j ≤ xs.length → ∃ v, (execOp a.eval o).run E.P w = .ok (.value v) w ∧ VR w (AvS cx.G S' ρ) ρ (.sl ((xs.take j).drop i)) v := by
      intro cx tm' S' a w ρ xs i j h he hvi hxs h1 h2 h3 h4
      obtain ⟨u, e1, e2⟩ := hvi.cut hu (sizeOf_run hty hte) hxs h3 h4 (lo := lo.map a.eval) (hi := hi.map a.eval) (fun n c hn hc => by
        subst hn
        exact bounds_run (P := E.P) true h1 h2 h3 h4 hc (evs h he))
      exact ⟨u, by simp [execOp, ho, e1], .gr (.atom (.im e2))⟩
    cases d with
    | sl xs =>
      obtain ⟨hel, hk⟩ := hk'
      obtain ⟨i, j, h1, h2, h3, h4, h5⟩ := cutK_inv hk
      refine Ok1.pure (fp := nmD (.sl xs)) h5 fun cx tm' S' a w ρ he _ h => ?_
      exact fin xs i j h he (h.eval ((he x (by simp [ho, Op.operands])).trans hx)).sl_inv hel h1 h2 h3 h4
    | nil =>
      obtain ⟨i, j, h1, h2, h3, h4, h5⟩ := cutK_inv hk'
      refine Ok1.pure (fp := nmD .nil) h5 fun cx tm' S' a w ρ he _ h => ?_
      have hv := (h.eval ((he x (by simp [ho, Op.operands])).trans hx)).nil_inv
      have hj : j = 0 := by omega
      have hi0 : i = 0 := by omega
      subst hj
      subst hi0
      have hb := bounds_run (P := E.P) (w := w) (cap := 0) true h1 h2 h3 h4 (Nat.le_refl _) (evs h he)
      refine ⟨.slice none 0 0, ?_, .gr (.atom (.im .nil))⟩
      simp [execOp, ho, hv, Instr.sliceAt, Instr.slice, run_underlying hu, hb, sizeOf_run hty hte]
    | own t0 =>
      simp only at hk'
      split at hk'
      · rename_i xs himm
        obtain ⟨hel, hk⟩ := hk'
        obtain ⟨i, j, h1, h2, h3, h4, h5⟩ := cutK_inv hk
        refine Ok1.val (fp := ⟨nmD (.own t0), [t0]⟩) (out := frzOut S [t0]) (nx' := nx) (d := .sl ((xs.take j).drop i)) (fun n hn => ?_) (fun n hn => by simpa [nmD, nmA] using hn) (Nat.le_refl _) (fun n q1 q2 => by omega) (fun n => frz_ap [t0] S n) h5 ?_
        · rw [lk_frzOut] at hn
          by_cases hin : n ∈ [t0]
          · exact hin
          · rw [if_neg hin] at hn; exact absurd rfl hn
        · intro cx tm' S' a w ρ he hf h hfr
          have hag : ∀ m ∈ [t0], lk S' m = lk S m := fun m hm => hf m (by simpa [nmD, nmA] using hm)
          have h' := h.frzs (S0 := S) [t0] hag
          have hvi := immD_VI (S0 := S) h' (d := .own t0) (fun t ht => frz_fits hag t (by simpa [nmD, nmA] using ht)) (h'.eval ((he x (by simp [ho, Op.operands])).trans hx)) himm
          obtain ⟨v, e1, e2⟩ := fin xs i j h' he hvi hel h1 h2 h3 h4
          exact ⟨v, w, ρ, e1, h', e2, fun _ _ => rfl⟩
      · exact hk'.elim
    | _ => exact hk'.elim
  · exact hk.elim

theorem ok_minmax {x y : Operand} {b : Builtin} {ts : Array TypeId} (ho : o.op = .call { callee := .builtin b, args := #[x, y], argTypes := ts }) (hb : b = .min ∨ b = .max) {m n : Int} (hx : ev E.gl tm x = some (.k .i64 m)) (hy : ev E.gl tm y = some (.k .i64 n))
    (hk : K ⟨[], []⟩ (put o.dst (.k .i64 (if b = .min then min m n else max m n)) tm) S nx) : Ok1 E o tm S nx K := by
  refine Ok1.pure (fp := []) hk fun cx tm' S' a w ρ he _ h => ?_
  have e1 := (h.eval ((he x (by simp [ho, Op.operands, Call.operands])).trans hx)).k_inv
  have e2 := (h.eval ((he y (by simp [ho, Op.operands, Call.operands])).trans hy)).k_inv
  rcases hb with rfl | rfl
  · refine ⟨.int .i64 (min m n), ?_, .gr (.atom (.im (.k _ _)))⟩
    have : (if n < m then n else m) = min m n := by omega
    simp [execOp, ho, resolve, invoke, builtin, e1, e2, Builtin.min_, Builtin.min2, this]
  · refine ⟨.int .i64 (max m n), ?_, .gr (.atom (.im (.k _ _)))⟩
    have : (if m < n then n else m) = max m n := by omega
    simp [execOp, ho, resolve, invoke, builtin, e1, e2, Builtin.max_, Builtin.max2, this]

theorem evs_get {gl : Nat → Option (List D)} : ∀ {xs : List Operand} {K : List D → Prop}, evsK gl tm xs K → ∃ ds, K ds ∧ ds.length = xs.length ∧ ∀ (i : Nat) (x : Operand) (d : D), xs[i]? = some x → ds[i]? = some d → ev gl tm x = some d
  | [], K, h => ⟨[], h, rfl, by simp⟩
  | x :: r, K, h => by
    unfold evsK at h
    split at h
    · rename_i d hd
      obtain ⟨ds, h1, h2, h3⟩ := evs_get h
      refine ⟨d :: ds, h1, by simp [h2], fun i y e hy he => ?_⟩
      cases i with
      | zero => simp at hy he; subst hy he; exact hd
      | succ i => exact h3 i y e (by simpa using hy) (by simpa using he)
    · exact h.elim
theorem boxes_get : ∀ {ds : List D} {cs : List Nat}, awpOp.boxes ds = some cs → cs.length = ds.length ∧ ∀ (i n : Nat), cs[i]? = some n → ds[i]? = some (.bp n 0)
  | [], cs, h => by simp [awpOp.boxes] at h; subst h; simp
  | d :: r, cs, h => by
    unfold awpOp.boxes at h
    split at h
    · rename_i heq; cases heq
    · rename_i n r' heq
      cases heq
      split at h
      · rename_i q hq
        cases h
        obtain ⟨h1, h2⟩ := boxes_get hq
        refine ⟨by simp [h1], fun i m hm => ?_⟩
        cases i with
        | zero => simp at hm; subst hm; rfl
        | succ i => exact h2 i m (by simpa using hm)
      · cases h
    · cases h
theorem ok_makeFunc {f : FuncId} {first caps : Array Operand} (ho : o.op = .makeFunc (.func f) first caps) (hf : first.toList = []) {ds : List D} (hl : ds.length = caps.toList.length) (hds : ∀ (i : Nat) (x : Operand) (d : D), caps.toList[i]? = some x → ds[i]? = some d → ev E.gl tm x = some d) {cs : List Nat} (hb : awpOp.boxes ds = some cs)
    (hk : K fp0 (put o.dst (.fn f cs) tm) S nx) : Ok1 E o tm S nx K := by
  obtain ⟨b1, b2⟩ := boxes_get hb
  refine Ok1.pure (fp := []) hk fun cx tm' S' a w ρ he _ h => ?_
  have hfirst : first = #[] := by apply Array.ext'; simpa using hf
  refine ⟨.func (.func f) #[] (caps.toList.map a.eval).toArray, ?_, .gr (.atom (.fn (by simp [b1, hl]) fun i n u hn hu => ?_))⟩
  · have : Array.map a.eval caps = (List.map a.eval caps.toList).toArray := by apply Array.ext'; simp
    simp [execOp, ho, Instr.makeFunc, hfirst]
    exact this
  · simp only [List.getElem?_map, Option.map_eq_some_iff] at hu
    obtain ⟨x, hx, rfl⟩ := hu
    have hd := b2 i n hn
    have hev := h.eval ((he x (by rw [ho]; simp only [Op.operands]; simp; exact .inr (by simpa using List.mem_of_getElem? hx))).trans (hds i x _ hx hd))
    obtain ⟨b, e1, e2⟩ := hev.bp_inv
    rw [e2]
    exact ⟨e1, b, rfl⟩
end
end Go.Ab
/- An abstract reading of the elaborated code. Part 13: calls. -/
namespace Go.Ab
open Go Go.RowKit

/-- what a name means behind a change of names -/
def carρ (ns : List Nat) (ρ : Nat → Option Value) (i : Nat) : Option Value := (ns[i]?).bind ρ

theorem minus_mem {ns : List Nat} : ∀ {l : List Nat} {n : Nat}, n ∈ minus ns l ↔ n ∈ l ∧ n ∉ ns
  | [], n => by simp [minus]
  | m :: r, n => by
    simp only [minus]
    split
    · rename_i h
      have hm := memB_iff.1 h
      rw [minus_mem]
      constructor
      · rintro ⟨h1, h2⟩; exact ⟨by simp [h1], h2⟩
      · rintro ⟨h1, h2⟩
        rcases List.mem_cons.1 h1 with rfl | h1
        · exact absurd hm h2
        · exact ⟨h1, h2⟩
    · rename_i h
      have hm : m ∉ ns := fun hin => by rw [memB_iff.2 hin] at h; cases h
      rw [List.mem_cons, minus_mem, List.mem_cons]
      constructor
      · rintro (rfl | ⟨h1, h2⟩)
        · exact ⟨.inl rfl, hm⟩
        · exact ⟨.inr h1, h2⟩
      · rintro ⟨rfl | h1, h2⟩
        · exact .inl rfl
        · exact .inr ⟨h1, h2⟩
theorem news_mem : ∀ {c nx n : Nat}, n ∈ news nx c ↔ nx ≤ n ∧ n < nx + c
  | 0, nx, n => by simp only [news, List.not_mem_nil, false_iff]; omega
  | c + 1, nx, n => by
    simp only [news, List.mem_cons, news_mem]
    omega
theorem news_len : ∀ (c nx : Nat), (news nx c).length = c
  | 0, nx => rfl
  | c + 1, nx => by simp [news, news_len c]
theorem news_get : ∀ {c nx j : Nat}, j < c → (news nx c)[j]? = some (nx + j)
  | 0, nx, j, h => by omega
  | c + 1, nx, j, h => by
    cases j with
    | zero => simp [news]
    | succ j =>
      simp only [news, List.getElem?_cons_succ]
      rw [news_get (by omega)]
      congr 1
      omega
theorem nmOf_get {ns : List Nat} {nx c j n : Nat} (h : (ns ++ news nx c)[j]? = some n) : n = nmOf ns nx j ∧ j < ns.length + c := by
  have hj : j < (ns ++ news nx c).length := (List.getElem?_eq_some_iff.1 h).1
  rw [List.length_append, news_len] at hj
  refine ⟨?_, hj⟩
  unfold nmOf
  by_cases hlt : j < ns.length
  · rw [List.getElem?_append_left hlt] at h
    rw [h]
  · rw [List.getElem?_append_right (by omega), news_get (by omega)] at h
    rw [List.getElem?_eq_none (by omega)]
    simpa using h.symm
theorem get_nmOf {ns : List Nat} {nx c j : Nat} (h : j < ns.length + c) : (ns ++ news nx c)[j]? = some (nmOf ns nx j) := by
  have : j < (ns ++ news nx c).length := by rw [List.length_append, news_len]; exact h
  obtain ⟨n, hn⟩ : ∃ n, (ns ++ news nx c)[j]? = some n := ⟨_, List.getElem?_eq_getElem this⟩
  rw [hn, (nmOf_get hn).1]

theorem lk_callOut (f : Nat → Nat) (S' : Store) : ∀ (l : List Nat) (i : Nat) (n : Nat), (∀ (j k m : Nat), l[j]? = some m → l[k]? = some m → j = k) →
    (n ∉ l → lk (callOut f S' l i) n = none) ∧ ∀ j : Nat, l[j]? = some n → lk (callOut f S' l i) n = some ((lk S' (i + j)).map (renB f))
  | [], i, n, _ => ⟨fun _ => rfl, by simp⟩
  | m :: r, i, n, hd => by
    have ih := lk_callOut f S' r (i + 1) n (fun j k m h1 h2 => by have := hd (j + 1) (k + 1) m (by simpa using h1) (by simpa using h2); omega)
    simp only [callOut, lk_cons]
    constructor
    · intro hn
      have hmn : m ≠ n := by rintro rfl; simp at hn
      rw [if_neg hmn]
      exact ih.1 (by simp at hn; exact hn.2)
    · intro j hj
      cases j with
      | zero =>
        simp at hj
        subst hj
        rw [if_pos rfl]
        cases lk S' i <;> simp [Option.map]
      | succ j =>
        simp at hj
        have hmn : m ≠ n := by
          rintro rfl
          have := hd 0 (j + 1) m rfl (by simpa using hj)
          omega
        rw [if_neg hmn, ih.2 j hj]
        congr 3
        omega

theorem argS_get {ns : List Nat} {S : Store} : ∀ {l : List Nat} {i : Nat} {Sa : Store}, argS ns S l i = some Sa →
    (∀ (j n : Nat), l[j]? = some n → ∃ b b', lk S n = some b ∧ argB ns S b = some b' ∧ lk Sa (i + j) = some b') ∧ (∀ (t : Nat) (b' : Blk), lk Sa t = some b' → ∃ j n b, t = i + j ∧ l[j]? = some n ∧ lk S n = some b ∧ argB ns S b = some b')
  | [], i, Sa, h => by simp [argS] at h; subst h; simp [lk]
  | n :: r, i, Sa, h => by
    simp only [argS] at h
    split at h
    · rename_i b hb
      split at h
      · rename_i b' hb'
        split at h
        · rename_i q hq
          cases h
          obtain ⟨h1, h2⟩ := argS_get hq
          constructor
          · intro j m hj
            cases j with
            | zero =>
              simp at hj
              subst hj
              exact ⟨b, b', hb, hb', by simp [lk_cons]⟩
            | succ j =>
              obtain ⟨c, c', e1, e2, e3⟩ := h1 j m (by simpa using hj)
              refine ⟨c, c', e1, e2, ?_⟩
              rw [lk_cons, if_neg (by omega), ← e3]
              congr 1
              omega
          · intro t c' ht
            rw [lk_cons] at ht
            by_cases e : i = t
            · rw [if_pos e] at ht
              cases ht
              exact ⟨0, n, b, by omega, rfl, hb, hb'⟩
            · rw [if_neg e] at ht
              obtain ⟨j, m, c, e1, e2, e3, e4⟩ := h2 t c' ht
              exact ⟨j + 1, m, c, by omega, by simpa using e2, e3, e4⟩
        · cases h
      · cases h
    · cases h
theorem live_argB {ns : List Nat} {S : Store} {b b' : Blk} (h : argB ns S b = some b') : live b = true ∧ live b' = true := by
  cases b <;> simp only [argB] at h
  · split at h <;> cases h; exact ⟨rfl, rfl⟩
  · cases h; exact ⟨rfl, rfl⟩
  · split at h <;> cases h; exact ⟨rfl, rfl⟩
  · cases h

theorem ltB_iff {k : Nat} {l : List Nat} : ltB k l = true ↔ ∀ n ∈ l, n < k := by
  induction l with
  | nil => simp [ltB]
  | cons m r ih =>
    simp only [ltB, Bool.and_eq_true, ih, List.mem_cons]
    constructor
    · rintro ⟨h1, h2⟩ n (rfl | hn)
      · exact Nat.le_of_ble_eq_true h1
      · exact h2 n hn
    · intro h
      exact ⟨Nat.ble_eq_true_of_le (h m (.inl rfl)), fun n hn => h n (.inr hn)⟩
theorem domB_get {k : Nat} {S : Store} (h : domB k S = true) {n : Nat} {b : Blk} (hl : lk S n = some b) : ∀ m ∈ blkNames b, m < k := by
  induction S with
  | nil => simp [lk] at hl
  | cons p r ih =>
    obtain ⟨m, c⟩ := p
    simp only [domB, Bool.and_eq_true] at h
    rw [lk_cons] at hl
    by_cases e : m = n
    · rw [if_pos e] at hl; cases hl; exact ltB_iff.1 h.1
    · rw [if_neg e] at hl; exact ih h.2 hl
theorem keysB_get {k : Nat} {S : Store} (h : keysB k S = true) {n : Nat} {b : Blk} (hl : lk S n = some b) : n < k := by
  induction S with
  | nil => simp [lk] at hl
  | cons p r ih =>
    obtain ⟨m, c⟩ := p
    simp only [keysB, Bool.and_eq_true] at h
    rw [lk_cons] at hl
    by_cases e : m = n
    · subst e; exact Nat.le_of_ble_eq_true h.1
    · rw [if_neg e] at hl; exact ih h.2 hl
theorem nmAs_mem {ds : List D} {d : D} (h : d ∈ ds) {n : Nat} (hn : n ∈ nmA d) : n ∈ nmAs ds := by
  induction ds with
  | nil => cases h
  | cons e r ih =>
    simp only [nmAs, List.mem_append]
    rcases List.mem_cons.1 h with rfl | h
    · exact .inl hn
    · exact .inr (ih h)
theorem nmDs_mem {ds : List D} {d : D} (h : d ∈ ds) {n : Nat} (hn : n ∈ nmD d) : n ∈ nmDs ds := by
  induction ds with
  | nil => cases h
  | cons e r ih =>
    simp only [nmDs, List.mem_append]
    rcases List.mem_cons.1 h with rfl | h
    · exact .inl hn
    · exact .inr (ih h)
theorem rowNames_mem {xs : List (List D)} {cs : List D} (h : cs ∈ xs) {n : Nat} (hn : n ∈ nmAs cs) : n ∈ rowNames xs := by
  induction xs with
  | nil => cases h
  | cons e r ih =>
    simp only [rowNames, List.mem_append]
    rcases List.mem_cons.1 h with rfl | h
    · exact .inl hn
    · exact .inr (ih h)
theorem storeNames_mem {S : Store} {l : List Nat} {n : Nat} (h : n ∈ l) {b : Blk} (hl : lk S n = some b) {m : Nat} (hm : m ∈ blkNames b) : m ∈ storeNames S l := by
  induction l with
  | nil => cases h
  | cons e r ih =>
    simp only [storeNames]
    rcases List.mem_cons.1 h with rfl | h
    · rw [hl]; simp [hm]
    · split
      · simp [ih h]
      · exact ih h

/-! a change of names -/
/-- what is handed back is told in the caller's names -/
structure Tell (w : World) (Av Av' : Nat → Prop) (ρ ρ' : Nat → Option Value) (f : Nat → Nat) (k : Nat) (p : D → Prop) : Prop where
  im : ∀ d u, VI w Av d u → p d → VI w Av' d u
  nm : ∀ t u, t < k → ρ t = some u → ρ' (f t) = some u
section tell
variable {w : World} {Av Av' : Nat → Prop} {ρ ρ' : Nat → Option Value} {f : Nat → Nat} {k : Nat} {p : D → Prop} (T : Tell w Av Av' ρ ρ' f k p)
include T
theorem Tell.va {d : D} {u : Value} (h : VA w Av ρ d u) (hk : ∀ n ∈ nmA d, n < k) (hp : p d) : VA w Av' ρ' (renA f d) u := by
  cases h with
  | im h =>
    have hr : renA f d = d := by cases h <;> rfl
    rw [hr]
    exact .im (T.im _ _ h hp)
  | own h h1 => exact .own (T.nm _ _ (hk _ (by simp [nmA])) h) h1
  | bp h => exact .bp (T.nm _ _ (hk _ (by simp [nmA])) h)
  | op h => exact .op (T.nm _ _ (hk _ (by simp [nmA])) h)
  | fn hl h =>
    refine .fn (by simpa using hl) fun i n u hn hu => ?_
    simp only [List.getElem?_map, Option.map_eq_some_iff] at hn
    obtain ⟨m, hm, rfl⟩ := hn
    obtain ⟨h1, h2⟩ := h i m u hm hu
    exact ⟨T.nm _ _ (hk _ (by simp only [nmA]; exact List.mem_of_getElem? hm)) h1, h2⟩
  | junk h1 => exact .junk h1
theorem Tell.cells {ds : List D} {us : List Value} (h : ∀ (i : Nat) (d : D) (u : Value), ds[i]? = some d → us[i]? = some u → VA w Av ρ d u) (hk : ∀ n ∈ nmAs ds, n < k) (hp : ∀ d ∈ ds, p d) :
    ∀ (i : Nat) (d : D) (u : Value), (ds.map (renA f))[i]? = some d → us[i]? = some u → VA w Av' ρ' d u := by
  intro i d u hd hu
  simp only [List.getElem?_map, Option.map_eq_some_iff] at hd
  obtain ⟨e, he, rfl⟩ := hd
  have hm := List.mem_of_getElem? he
  exact T.va (h i e u he hu) (fun n hn => hk n (nmAs_mem hm hn)) (hp e hm)
theorem Tell.vg {d : D} {u : Value} (h : VG w Av ρ d u) (hk : ∀ n ∈ nmD d, n < k) (hp : (∀ ds, d = .agg ds → ∀ e ∈ ds, p e) ∧ ((∀ ds, d ≠ .agg ds) → p d)) : VG w Av' ρ' (renG f d) u := by
  by_cases ha : ∃ ds, d = .agg ds
  · obtain ⟨ds, rfl⟩ := ha
    have core : ∀ us : List Value, u = .agg us.toArray → ds.length = us.length → (∀ u ∈ us, u.oneCell' = true) → (∀ (i : Nat) (d : D) (u : Value), ds[i]? = some d → us[i]? = some u → VA w Av ρ d u) → VG w Av' ρ' (renG f (.agg ds)) u := by
      intro us hu hl h1 hr
      subst hu
      exact .agg (by simpa using hl) h1 (T.cells hr hk (hp.1 ds rfl))
    cases h with
    | atom h =>
      cases h with
      | im h => cases h with | agg hl h1 hr => exact core _ rfl hl h1 fun i d u a b => .im (hr i d u a b)
    | agg hl h1 hr => exact core _ rfl hl h1 hr
  · have hr : renG f d = renA f d := by cases d <;> first | rfl | exact absurd ⟨_, rfl⟩ ha
    rw [hr]
    cases h with
    | atom h =>
      refine .atom (T.va h ?_ (hp.2 fun ds e => ha ⟨ds, e⟩))
      intro n hn
      refine hk n ?_
      cases d <;> first | exact hn | exact absurd ⟨_, rfl⟩ ha | (simp [nmA] at hn)
    | agg => exact absurd ⟨_, rfl⟩ ha
theorem Tell.rows {sz : Nat} {xs : List (List D)} {us : List Value} (h : Rows (VA w Av ρ) sz xs us) (hk : ∀ n ∈ rowNames xs, n < k) (hp : ∀ cs ∈ xs, ∀ d ∈ cs, p d) : Rows (VA w Av' ρ') sz (xs.map fun cs => cs.map (renA f)) us := by
  refine ⟨by rw [List.length_map]; exact h.len, fun cs hcs => ?_, h.one, fun i j cs d hc hd => ?_⟩
  · obtain ⟨cs0, h0, rfl⟩ := List.mem_map.1 hcs
    rw [List.length_map]; exact h.el cs0 h0
  · simp only [List.getElem?_map, Option.map_eq_some_iff] at hc
    obtain ⟨cs0, h0, rfl⟩ := hc
    simp only [List.getElem?_map, Option.map_eq_some_iff] at hd
    obtain ⟨d0, h1, rfl⟩ := hd
    obtain ⟨u, e1, e2⟩ := h.at_ i j cs0 d0 h0 h1
    have m0 := List.mem_of_getElem? h0
    have m1 := List.mem_of_getElem? h1
    exact ⟨u, e1, T.va e2 (fun n hn => hk n (rowNames_mem m0 (nmAs_mem m1 hn))) (hp cs0 m0 d0 m1)⟩
def blkAll (p : D → Prop) : Blk → Prop
  | .box _ cs => ∀ d ∈ cs, p d
  | .own _ xs => ∀ cs ∈ xs, ∀ d ∈ cs, p d
  | .row _ xs => ∀ cs ∈ xs, ∀ d ∈ cs, p d
  | .fr xs => p (.sl xs)
theorem Tell.sr {P : Program} {t : Nat} {b : Blk} (h : SR P w Av ρ t b) (ht : t < k) (hk : ∀ n ∈ blkNames b, n < k) (hp : blkAll p b) : SR P w Av' ρ' (f t) (renB f b) := by
  cases b with
  | box e cs =>
    obtain ⟨g, us, h0, hh, hl, h1, hc⟩ := h
    exact ⟨g, us, T.nm _ _ ht h0, hh, by simpa using hl, h1, T.cells hc hk hp⟩
  | own e xs =>
    obtain ⟨u, us, h0, ho, hc⟩ := h
    refine ⟨u, us, T.nm _ _ ht h0, ho, ⟨hc.len, hc.el, hc.one, fun i j cs d a b => ?_⟩⟩
    obtain ⟨v, e1, e2⟩ := hc.at_ i j cs d a b
    exact ⟨v, e1, T.im _ _ e2 (hp cs (List.mem_of_getElem? a) d (List.mem_of_getElem? b))⟩
  | row e xs =>
    obtain ⟨u, us, h0, ho, hc⟩ := h
    exact ⟨u, us, T.nm _ _ ht h0, by rw [List.length_map]; exact ho, T.rows hc hk hp⟩
  | fr xs =>
    obtain ⟨u, h0, hv⟩ := h
    exact ⟨u, T.nm _ _ ht h0, T.im _ _ hv hp⟩
def resAll (p : D → Prop) : D → Prop
  | .tup ds => ∀ d ∈ ds, (∀ es, d = .agg es → ∀ e ∈ es, p e) ∧ ((∀ es, d ≠ .agg es) → p d)
  | d => (∀ es, d = .agg es → ∀ e ∈ es, p e) ∧ ((∀ es, d ≠ .agg es) → p d)
theorem Tell.vr {d : D} {u : Value} (h : VR w Av ρ d u) (hk : ∀ n ∈ nmR d, n < k) (hp : resAll p d) : VR w Av' ρ' (renD f d) u := by
  by_cases ht : ∃ ds, d = .tup ds
  · obtain ⟨ds, rfl⟩ := ht
    cases h with
    | gr h => cases h with | atom h => cases h with | im h => cases h
    | tup hl h =>
      rename_i us
      refine .tup (by simpa using hl) fun i d u hd hu => ?_
      simp only [List.getElem?_map, Option.map_eq_some_iff] at hd
      obtain ⟨e, he, rfl⟩ := hd
      have hm := List.mem_of_getElem? he
      exact T.vg (h i e u he hu) (fun n hn => hk n (nmDs_mem hm hn)) (hp e hm)
  · have hr : renD f d = renG f d := by cases d <;> first | rfl | exact absurd ⟨_, rfl⟩ ht
    rw [hr]
    cases h with
    | gr h =>
      refine .gr (T.vg h ?_ ?_)
      · intro n hn
        refine hk n ?_
        cases d <;> first | exact hn | exact absurd ⟨_, rfl⟩ ht
      · cases d <;> first | exact hp | exact absurd ⟨_, rfl⟩ ht
    | tup => exact absurd ⟨_, rfl⟩ ht
end tell
end Go.Ab
/- An abstract reading of the elaborated code. Part 14: a call does what the contract says. -/
namespace Go.Ab
open Go Go.RowKit

theorem noImm_res {d : D} (h : NoImmD d) : resAll NoImmA d := by
  have g : ∀ d, NoImmG d → (∀ es, d = .agg es → ∀ e ∈ es, NoImmA e) ∧ ((∀ es, d ≠ .agg es) → NoImmA d) := by
    intro d h
    cases d <;> first
      | (refine ⟨?_, fun hn => absurd rfl (hn _)⟩; intro es he; cases he; exact h)
      | (refine ⟨fun es he => (by cases he), fun _ => h⟩)
  cases d <;> first | exact fun d hd => g d (h d hd) | exact g _ h
theorem noImm_blk {b : Blk} (h : NoImmB b) : blkAll NoImmA b := by
  cases b <;> exact h
theorem all_res (d : D) : resAll (fun _ => True) d := by
  cases d <;> simp [resAll]
theorem all_blk (b : Blk) : blkAll (fun _ => True) b := by
  cases b <;> simp [blkAll]

section
variable {E : Env} {cx : Cx} {tm : Tm} {S S0 : Store} {nx : Nat} {a : Act} {w : World} {ρ : Nat → Option Value} {o : Oper} {K : Kt} {ns : List Nat}

theorem argA_VA (h : R E cx tm S a w ρ) {d d' : D} {u : Value} (hS : ∀ t ∈ nmA d, t ∉ ns → ∀ xs, ((∃ e, lk S0 t = some (.own e xs)) ∨ lk S0 t = some (.fr xs)) → lk S t = some (.fr xs))
    (hv : VA w (AvS cx.G S ρ) ρ d u) (ha : argA ns S0 d = some d') : VA w (AvS cx.G S ρ) (carρ ns ρ) d' u ∧ ∀ ds, d' ≠ .agg ds := by
  have imm : (∀ t ∈ nmA d, t ∉ ns) → immA S0 d = some d' → VA w (AvS cx.G S ρ) (carρ ns ρ) d' u ∧ ∀ ds, d' ≠ .agg ds := by
    intro hn hi
    obtain ⟨h1, h2⟩ := immA_VI (S0 := S0) h (fun t ht => hS t ht (hn t ht)) hv hi
    exact ⟨.im h1, h2⟩
  cases d with
  | own t =>
    simp only [argA] at ha
    split at ha
    · rename_i i hp
      cases ha
      cases hv with
      | im h => cases h
      | own h h1 => exact ⟨.own (by simp [carρ, posOf_get hp, h]) h1, by simp⟩
    · rename_i hp
      exact imm (fun t ht => by simp [nmA] at ht; subst ht; exact posOf_none hp) ha
  | bp t off =>
    simp only [argA] at ha
    split at ha
    · rename_i i hp
      cases ha
      cases hv with
      | im h => cases h
      | bp h => exact ⟨.bp (by simp [carρ, posOf_get hp, h]), by simp⟩
    · cases ha
  | fn f cs =>
    simp only [argA] at ha
    split at ha
    · rename_i qs hq
      cases ha
      obtain ⟨q1, q2⟩ := posAll_get hq
      refine ⟨?_, by simp⟩
      cases hv with
      | im h =>
        cases h
        have : qs = [] := List.eq_nil_of_length_eq_zero (by rw [q1]; rfl)
        subst this
        exact .fn (us := []) rfl (by simp)
      | fn hl h =>
        refine .fn (by rw [q1, hl]) fun i m u hm hu => ?_
        have hi : i < cs.length := by rw [← q1]; exact (List.getElem?_eq_some_iff.1 hm).1
        obtain ⟨h1, h2⟩ := h i cs[i] u (List.getElem?_eq_getElem hi) hu
        refine ⟨?_, h2⟩
        simp only [carρ, q2 i cs[i] m (List.getElem?_eq_getElem hi) hm, Option.bind_some]
        exact h1
    · cases ha
  | op t => simp [argA, immA] at ha
  | agg => simp [argA, immA] at ha
  | tup => simp [argA, immA] at ha
  | junk => simp [argA, immA] at ha
  | b x => exact imm (by simp [nmA]) ha
  | k x => exact imm (by simp [nmA]) ha
  | s x => exact imm (by simp [nmA]) ha
  | v x => exact imm (by simp [nmA]) ha
  | nil => exact imm (by simp [nmA]) ha
  | sl x => exact imm (by simp [nmA]) ha
  | ep x => exact imm (by simp [nmA]) ha
theorem argAs_VA (h : R E cx tm S a w ρ) : ∀ {ds ds' : List D} {us : List Value}, (∀ t ∈ nmAs ds, t ∉ ns → ∀ xs, ((∃ e, lk S0 t = some (.own e xs)) ∨ lk S0 t = some (.fr xs)) → lk S t = some (.fr xs)) →
    ds.length = us.length → (∀ (i : Nat) (d : D) (u : Value), ds[i]? = some d → us[i]? = some u → VA w (AvS cx.G S ρ) ρ d u) → argAs ns S0 ds = some ds' →
    ds'.length = us.length ∧ ∀ (i : Nat) (d : D) (u : Value), ds'[i]? = some d → us[i]? = some u → VA w (AvS cx.G S ρ) (carρ ns ρ) d u
  | [], ds', us, _, hl, _, hi => by simp only [argAs, Option.some.injEq] at hi; subst hi; exact ⟨by simpa using hl, by simp⟩
  | d :: r, ds', [], _, hl, _, _ => by simp at hl
  | d :: r, ds', u :: q, hS, hl, hv, hi => by
    simp only [argAs] at hi
    split at hi
    · rename_i d1 hd1
      split at hi
      · rename_i r1 hr1
        cases hi
        have h1 := argA_VA (S0 := S0) h (fun t ht => hS t (by simp [nmAs, ht])) (hv 0 d u rfl rfl) hd1
        have h2 := argAs_VA h (us := q) (fun t ht => hS t (by simp [nmAs, ht])) (by simpa using hl) (fun i d u p q => hv (i + 1) d u (by simpa using p) (by simpa using q)) hr1
        refine ⟨by simp [h2.1], fun i d' u' p q => ?_⟩
        cases i with
        | zero => simp at p q; subst p q; exact h1.1
        | succ i => exact h2.2 i d' u' (by simpa using p) (by simpa using q)
      · cases hi
    · cases hi
theorem argD_VG (h : R E cx tm S a w ρ) {d d' : D} {u : Value} (hS : ∀ t ∈ nmD d, t ∉ ns → ∀ xs, ((∃ e, lk S0 t = some (.own e xs)) ∨ lk S0 t = some (.fr xs)) → lk S t = some (.fr xs))
    (hv : VR w (AvS cx.G S ρ) ρ d u) (hi : argD ns S0 d = some d') : VG w (AvS cx.G S ρ) (carρ ns ρ) d' u := by
  by_cases ha : ∃ ds, d = .agg ds
  · obtain ⟨ds, rfl⟩ := ha
    simp only [argD] at hi
    split at hi
    · rename_i ds' hds
      cases hi
      obtain ⟨us, rfl, hl, h1, hr⟩ := hv.agg_inv
      obtain ⟨e1, e2⟩ := argAs_VA (S0 := S0) h hS hl hr hds
      exact .agg e1 h1 e2
    · cases hi
  · have hd : argD ns S0 d = argA ns S0 d := by cases d <;> first | rfl | exact absurd ⟨_, rfl⟩ ha
    rw [hd] at hi
    cases hv with
    | gr hv =>
      cases hv with
      | atom hv =>
        refine .atom (argA_VA (S0 := S0) h ?_ hv hi).1
        intro t ht
        refine hS t ?_
        cases d <;> first | exact ht | exact absurd ⟨_, rfl⟩ ha | (simp [nmA] at ht)
      | agg => exact absurd ⟨_, rfl⟩ ha
    | tup => simp [argA, immA] at hi
theorem argDs_get : ∀ {ds cds : List D}, argDs ns S ds = some cds → cds.length = ds.length ∧ ∀ (i : Nat) (d d' : D), ds[i]? = some d → cds[i]? = some d' → argD ns S d = some d'
  | [], cds, h => by simp [argDs] at h; subst h; simp
  | d :: r, cds, h => by
    simp only [argDs] at h
    split at h
    · rename_i d1 hd1
      split at h
      · rename_i r1 hr1
        cases h
        obtain ⟨h1, h2⟩ := argDs_get hr1
        refine ⟨by simp [h1], fun i e e' p q => ?_⟩
        cases i with
        | zero => simp at p q; subst p q; exact hd1
        | succ i => exact h2 i e e' (by simpa using p) (by simpa using q)
      · cases h
    · cases h
theorem argRows_get : ∀ {xs xs' : List (List D)}, argRows ns S xs = some xs' → xs'.length = xs.length ∧ ∀ (i : Nat) (cs cs' : List D), xs[i]? = some cs → xs'[i]? = some cs' → argAs ns S cs = some cs'
  | [], xs', h => by simp [argRows] at h; subst h; simp
  | d :: r, xs', h => by
    simp only [argRows] at h
    split at h
    · rename_i d1 hd1
      split at h
      · rename_i r1 hr1
        cases h
        obtain ⟨h1, h2⟩ := argRows_get hr1
        refine ⟨by simp [h1], fun i e e' p q => ?_⟩
        cases i with
        | zero => simp at p q; subst p q; exact hd1
        | succ i => exact h2 i e e' (by simpa using p) (by simpa using q)
      · cases h
    · cases h
theorem argAs_len : ∀ {cs cs' : List D}, argAs ns S cs = some cs' → cs'.length = cs.length
  | [], cs', h => by simp [argAs] at h; subst h; rfl
  | d :: r, cs', h => by
    simp only [argAs] at h
    split at h
    · split at h
      · rename_i hr
        cases h
        simp [argAs_len hr]
      · cases h
    · cases h
/-- what is handed over, as the callee names it -/
theorem argB_SR (h : R E cx tm S a w ρ) {n i : Nat} {b b' : Blk} (hS : ∀ t ∈ blkNames b, t ∉ ns → ∀ xs, ((∃ e, lk S0 t = some (.own e xs)) ∨ lk S0 t = some (.fr xs)) → lk S t = some (.fr xs)) (hl : lk S n = some b) (hn : ns[i]? = some n) (ha : argB ns S0 b = some b') :
    SR E.P w (AvS cx.G S ρ) (carρ ns ρ) i b' := by
  have hρ : carρ ns ρ i = ρ n := by simp [carρ, hn]
  cases b with
  | box e cs =>
    simp only [argB] at ha
    split at ha
    · rename_i cs' hcs
      cases ha
      obtain ⟨g, us, h0, hh, hlen, h1, hc⟩ := h.st _ _ hl
      obtain ⟨e1, e2⟩ := argAs_VA (S0 := S0) h hS hlen hc hcs
      exact ⟨g, us, by rw [hρ]; exact h0, hh, e1, h1, e2⟩
    · cases ha
  | own e xs =>
    simp only [argB, Option.some.injEq] at ha
    subst ha
    obtain ⟨u, us, h0, ho, hc⟩ := h.st _ _ hl
    exact ⟨u, us, by rw [hρ]; exact h0, ho, hc⟩
  | row e xs =>
    simp only [argB] at ha
    split at ha
    · rename_i xs' hxs
      cases ha
      obtain ⟨u, us, h0, ho, hc⟩ := h.st _ _ hl
      obtain ⟨q1, q2⟩ := argRows_get hxs
      refine ⟨u, us, by rw [hρ]; exact h0, by rw [q1]; exact ho, ⟨by rw [q1]; exact hc.len, fun cs hcs => ?_, hc.one, fun i' j cs d hcs hd => ?_⟩⟩
      · obtain ⟨k, hk⟩ := List.mem_iff_getElem?.1 hcs
        have hlt : k < xs.length := by rw [← q1]; exact (List.getElem?_eq_some_iff.1 hk).1
        rw [argAs_len (q2 k _ cs (List.getElem?_eq_getElem hlt) hk)]
        exact hc.el _ (List.getElem_mem hlt)
      · have hlt : i' < xs.length := by rw [← q1]; exact (List.getElem?_eq_some_iff.1 hcs).1
        have hx : xs[i']? = some xs[i'] := List.getElem?_eq_getElem hlt
        have has := q2 i' _ cs hx hcs
        have hjl : j < xs[i'].length := by rw [← argAs_len has]; exact (List.getElem?_eq_some_iff.1 hd).1
        obtain ⟨u0, e1, e2⟩ := hc.at_ i' j xs[i'] _ hx (List.getElem?_eq_getElem hjl)
        refine ⟨u0, e1, ?_⟩
        -- the one element alone
        have one : ∀ {cs cs' : List D}, argAs ns S0 cs = some cs' → ∀ (j : Nat) (d d' : D), cs[j]? = some d → cs'[j]? = some d' → argA ns S0 d = some d' := by
          intro cs
          induction cs with
          | nil => intro cs' h j d d' p; simp at p
          | cons c r ih =>
            intro cs' h j d d' p q
            simp only [argAs] at h
            split at h
            · rename_i c1 hc1
              split at h
              · rename_i r1 hr1
                cases h
                cases j with
                | zero => simp at p q; subst p q; exact hc1
                | succ j => exact ih hr1 j d d' (by simpa using p) (by simpa using q)
              · cases h
            · cases h
        have ha := one has j _ d (List.getElem?_eq_getElem hjl) hd
        exact (argA_VA (S0 := S0) h (fun t ht => hS t (by simp only [blkNames]; exact rowNames_mem (List.getElem_mem hlt) (nmAs_mem (List.getElem_mem hjl) ht))) e2 ha).1
    · cases ha
  | fr xs => simp [argB] at ha

theorem callFunc_run {f : FuncId} {args : Array Value} (hc : Callable E.P f) : (callFunc f args).run E.P w = .ok (.enter f args) w := by
  obtain ⟨fn, h1, h2, h3⟩ := hc
  have n1 : fn.name ≠ "runtime.NumGoroutine" := by simpa using h3
  have n2 : fn.body ≠ none := by intro e; rw [e] at h2; cases h2
  simp [callFunc, run_program, h1, n1, n2]

theorem ok_call {f : FuncId} {ds : List D} (hrun : ∀ (cx : Cx) (tm' : Tm) (S' : Store) (a : Act) (w : World) (ρ : Nat → Option Value), (∀ x ∈ o.op.operands, ev E.gl tm' x = ev E.gl tm x) → R E cx tm' S' a w ρ →
      ∃ vs : List Value, (execOp a.eval o).run E.P w = (callFunc f vs.toArray).run E.P w ∧ ds.length = vs.length ∧ ∀ (i : Nat) (d : D) (u : Value), ds[i]? = some d → vs[i]? = some u → ∀ S1, (∃ S2, S2 = S1 ∧ R E cx tm' S1 a w ρ) → VR w (AvS cx.G S1 ρ) ρ d u)
    (hk : callK E f ds S nx fun d fp S' nx' => K fp (put o.dst d tm) S' nx') : Ok1 E o tm S nx K := by
  obtain ⟨ns, cds, Sa, d, S', c, C, hk⟩ := hk
  obtain ⟨hst1, hst2⟩ := argS_get C.st
  obtain ⟨ha1, ha2⟩ := argDs_get C.ar
  obtain ⟨hcall, hcon⟩ := C.con
  have hdom := C.dom
  simp only [Bool.and_eq_true] at hdom
  obtain ⟨hdom1, hdom2⟩ := hdom
  have hresn := ltB_iff.1 hdom1
  -- both ways at once: what is lent is frozen (frz = true) or taken back
  have key : ∀ (frz : Bool) (p : D → Prop), (frz = true → p = fun _ => True) → (frz = false → p = NoImmA) → resAll p d → (∀ i b, lk S' i = some b → blkAll p b) →
      LStep E o tm S (nmDs ds ++ storeNames S ns ++ ns ++ news nx c) nx (nx + c) (renD (nmOf ns nx) d) (callOut (nmOf ns nx) S' (ns ++ news nx c) 0 ++ (if frz then frzOut S (lent ns ds S) else [])) := by
    intro fz p hpt hpf hpd hpb cx tm' S2 a w ρ Q hd he hf h hfresh
    have hag : ∀ n ∈ lent ns ds S, lk S2 n = lk S n := by
      intro n hn
      have := (minus_mem.1 hn).1
      refine hf n ?_
      simp only [List.mem_append] at this ⊢
      exact .inl (.inl this)
    have hag2 : ∀ n ∈ ns, lk S2 n = lk S n := fun n hn => hf n (by simp [hn])
    have h1 := h.frzs (S0 := S) (lent ns ds S) hag
    obtain ⟨vs, hex, hlen, hvs⟩ := hrun cx tm' S2 a w ρ he h
    -- the store that is lent from
    have hS1 : ∀ t, t ∈ nmDs ds ++ storeNames S ns → t ∉ ns → ∀ xs, ((∃ e, lk S t = some (.own e xs)) ∨ lk S t = some (.fr xs)) → lk (ap (frzOut S (lent ns ds S)) S2) t = some (.fr xs) :=
      fun t ht hn => frz_fits hag t (minus_mem.2 ⟨ht, hn⟩)
    have hlns : ∀ n ∈ ns, lk (ap (frzOut S (lent ns ds S)) S2) n = lk S n := by
      intro n hn
      rw [lk_ap, lk_frzOut, if_neg (show ¬ n ∈ lent ns ds S from fun hin => (minus_mem.1 hin).2 hn)]
      exact hag2 n hn
    let S1 := ap (frzOut S (lent ns ds S)) S2
    let ρc := carρ ns ρ
    let Gc : Nat → Prop := fun x => AvS cx.G S1 ρ x ∧ ¬ Held Sa ρc x
    have heldc : ∀ x, Held Sa ρc x → ∃ n b, n ∈ ns ∧ lk S n = some b ∧ lk S1 n = some b ∧ live b = true ∧ (ρ n).bind blkOf = some x := by
      rintro x ⟨t, b', hl, hv, hx⟩
      obtain ⟨j, n, b, rfl, e2, e3, e4⟩ := hst2 t b' hl
      have hn := List.mem_of_getElem? e2
      refine ⟨n, b, hn, e3, by show lk S1 n = _; rw [hlns n hn]; exact e3, (live_argB e4).1, ?_⟩
      have : ρc (0 + j) = ρ n := by simp [ρc, carρ, e2]
      rw [this] at hx
      exact hx
    have heldc1 : ∀ x, Held Sa ρc x → Held S1 ρ x := fun x hx => let ⟨n, b, _, _, e3, e4, e5⟩ := heldc x hx; ⟨n, b, e3, e4, e5⟩
    have hav : AvS Gc Sa ρc = AvS cx.G S1 ρ := by
      funext x
      apply propext
      constructor
      · rintro (⟨h, _⟩ | h)
        · exact h
        · exact .inr (heldc1 x h)
      · intro h
        by_cases hh : Held Sa ρc x
        · exact .inr hh
        · exact .inl ⟨h, hh⟩
    have hcx := hcon w vs ρc Gc (by rw [ha1, hlen]) (fun x hx => by
        rcases hx.1 with hg | hh
        · exact Nat.lt_of_lt_of_le (h.g x hg) h.fr.size
        · exact h1.held_lt hh) (fun x hx => hx.2)
      (fun i cd u hcd hu => by
        have hil : i < ds.length := by rw [← ha1]; exact (List.getElem?_eq_some_iff.1 hcd).1
        have hdi : ds[i]? = some ds[i] := List.getElem?_eq_getElem hil
        rw [hav]
        exact argD_VG (S0 := S) h1 (fun t ht => hS1 t (List.mem_append.2 (.inl (nmDs_mem (List.getElem_mem hil) ht)))) (hvs i _ u hdi hu _ ⟨_, rfl, h1⟩) (ha2 i _ cd hdi hcd))
      (fun t b' hl => by
        obtain ⟨j, n, b, rfl, e2, e3, e4⟩ := hst2 t b' hl
        have hn := List.mem_of_getElem? e2
        rw [hav]
        exact argB_SR (S0 := S) h1 (fun t ht => hS1 t (List.mem_append.2 (.inr (storeNames_mem hn e3 ht)))) (by rw [hlns n hn]; exact e3) (by simpa using e2) e4)
      (fun t t' b b' x l1 l2 v1 v2 x1 x2 => by
        obtain ⟨j, n, c1, rfl, e2, e3, e4⟩ := hst2 t b l1
        obtain ⟨j', n', c2, rfl, f2, f3, f4⟩ := hst2 t' b' l2
        have q1 : ρc (0 + j) = ρ n := by simp [ρc, carρ, e2]
        have q2 : ρc (0 + j') = ρ n' := by simp [ρc, carρ, f2]
        rw [q1] at x1
        rw [q2] at x2
        have := h1.dis n n' c1 c2 x (by rw [hlns n (List.mem_of_getElem? e2)]; exact e3) (by rw [hlns n' (List.mem_of_getElem? f2)]; exact f3) (live_argB e4).1 (live_argB f4).1 x1 x2
        subst this
        rw [nodupB_get C.nd j j' n e2 f2])
      (fun t ht => by simp [ρc, carρ, List.getElem?_eq_none ht])
      (fun g cs hg => by rw [hav]; exact h1.gl g cs hg)
    unfold Oper.wp
    rw [hex, callFunc_run hcall]
    simp only [Oper.upon]
    refine hcx.mono fun e w2 hpost => ?_
    obtain ⟨v, ρr, rfl, hvr, hsr, hdisr, hnewr, hkeep, hfrr⟩ := hpost
    simp only
    -- the names told
    let f := nmOf ns nx
    let ρ2 : Nat → Option Value := fun n => if nx ≤ n ∧ n < nx + c then ρr (ns.length + (n - nx)) else ρ n
    have hnamed : ∀ n ∈ ns, ∃ u, ρ n = some u := by
      intro n hn
      obtain ⟨j, hj⟩ := List.mem_iff_getElem?.1 hn
      obtain ⟨b, b', e1, e2, e3⟩ := hst1 j n hj
      exact h1.named (by rw [hlns n hn]; exact e1)
    have hnsout : ∀ n ∈ ns, ¬ (nx ≤ n ∧ n < nx + c) := by
      intro n hn hh
      obtain ⟨u, hu⟩ := hnamed n hn
      rw [hfresh n hh.1 hh.2] at hu
      cases hu
    have hold : ∀ t u, ρ t = some u → ρ2 t = some u := by
      intro t u ht
      have : ¬ (nx ≤ t ∧ t < nx + c) := by
        intro hh
        rw [hfresh t hh.1 hh.2] at ht
        cases ht
      simp only [ρ2, if_neg this]
      exact ht
    have hnm : ∀ t u, t < ns.length + c → ρr t = some u → ρ2 (f t) = some u := by
      intro t u ht hu
      by_cases hlt : t < ns.length
      · have hft : f t = ns[t] := by simp [f, nmOf, hlt]
        obtain ⟨u', hu'⟩ := hnamed ns[t] (List.getElem_mem hlt)
        have hc : ρc t = some u' := by simp [ρc, carρ, hlt, hu']
        have := hkeep t u' hlt hc
        rw [hu] at this
        cases this
        rw [hft]
        exact hold _ _ hu'
      · have hft : f t = nx + (t - ns.length) := by simp [f, nmOf, List.getElem?_eq_none (Nat.le_of_not_lt hlt)]
        have hin : nx ≤ f t ∧ f t < nx + c := by rw [hft]; omega
        simp only [ρ2, if_pos hin]
        rw [hft]
        have : ns.length + (nx + (t - ns.length) - nx) = t := by omega
        rw [this]
        exact hu
    have hinj : ∀ (j k m : Nat), (ns ++ news nx c)[j]? = some m → (ns ++ news nx c)[k]? = some m → j = k := by
      intro j k m hj hk
      by_cases h1 : j < ns.length <;> by_cases h2 : k < ns.length
      · rw [List.getElem?_append_left h1] at hj
        rw [List.getElem?_append_left h2] at hk
        exact nodupB_get C.nd j k m hj hk
      · rw [List.getElem?_append_left h1] at hj
        rw [List.getElem?_append_right (by omega)] at hk
        exact absurd (news_mem.1 (List.mem_of_getElem? hk)) (hnsout m (List.mem_of_getElem? hj))
      · rw [List.getElem?_append_left h2] at hk
        rw [List.getElem?_append_right (by omega)] at hj
        exact absurd (news_mem.1 (List.mem_of_getElem? hj)) (hnsout m (List.mem_of_getElem? hk))
      · rw [List.getElem?_append_right (by omega)] at hj hk
        have hj' := (List.getElem?_eq_some_iff.1 hj).1
        have hk' := (List.getElem?_eq_some_iff.1 hk).1
        rw [news_len] at hj' hk'
        rw [news_get hj'] at hj
        rw [news_get hk'] at hk
        simp at hj hk
        omega
    let out := callOut f S' (ns ++ news nx c) 0
    have hlk := fun n => lk_callOut f S' (ns ++ news nx c) 0 n hinj
    -- what stands at a name of 'out'
    have hat : ∀ n b, lk out n = some (some b) → ∃ i b0, n = f i ∧ i < ns.length + c ∧ lk S' i = some b0 ∧ b = renB f b0 ∧ ∀ u, ρr i = some u → ρ2 n = some u := by
      intro n b hb
      by_cases hin : n ∈ ns ++ news nx c
      · obtain ⟨i, hi⟩ := List.mem_iff_getElem?.1 hin
        rw [(hlk n).2 i hi] at hb
        obtain ⟨e1, e2⟩ := nmOf_get hi
        simp only [Option.some.injEq, Nat.zero_add, Option.map_eq_some_iff] at hb
        obtain ⟨b0, e3, e4⟩ := hb
        exact ⟨i, b0, e1, e2, e3, e4.symm, fun u hu => by rw [e1]; exact hnm i u e2 hu⟩
      · rw [(hlk n).1 hin] at hb
        cases hb
    have hblk : ∀ n b, lk out n = some (some b) → live b = true → ∀ x, (ρ2 n).bind blkOf = some x → ∃ i b0, n = f i ∧ lk S' i = some b0 ∧ live b0 = true ∧ (ρr i).bind blkOf = some x := by
      intro n b hb hv x hx
      obtain ⟨i, b0, e1, e2, e3, e4, e5⟩ := hat n b hb
      obtain ⟨u, hu⟩ := (hsr i b0 e3).named
      rw [e5 u hu] at hx
      refine ⟨i, b0, e1, e3, ?_, by rw [hu]; exact hx⟩
      rw [e4] at hv
      cases b0 <;> first | rfl | (simp [renB, live] at hv)
    -- the base: frozen or not
    let Sb := ap (if fz then frzOut S (lent ns ds S) else []) S2
    have hb : R E cx tm' Sb a w ρ := by
      cases fz with
      | true => exact h1
      | false => exact h
    have hSb : ∀ n ∈ ns, lk Sb n = lk S n := by
      intro n hn
      cases fz with
      | true => exact hlns n hn
      | false => exact hag2 n hn
    have houtns : ∀ n ∈ ns, lk out n ≠ none := by
      intro n hn
      obtain ⟨i, hi⟩ := List.mem_iff_getElem?.1 (List.mem_append.2 (.inl hn) : n ∈ ns ++ news nx c)
      rw [(hlk n).2 i hi]
      simp
    have hcell : ∀ x, Held Sa ρc x → ∃ n b, lk out n ≠ none ∧ lk Sb n = some b ∧ live b = true ∧ (ρ n).bind blkOf = some x := by
      intro x hx
      obtain ⟨n, b, e1, e2, e3, e4, e5⟩ := heldc x hx
      exact ⟨n, b, houtns n e1, by rw [hSb n e1]; exact e2, e4, e5⟩
    -- outside of what is turned, what stands in memory is told in the caller's way
    have htell : (∀ d u, VI w (AvS cx.G Sb ρ) d u → VI w2 (AvS cx.G (ap out Sb) ρ2) d u) → Tell w2 (AvS Gc S' ρr) (AvS cx.G (ap out Sb) ρ2) ρr ρ2 f (ns.length + c) p := by
      intro hi
      refine ⟨fun d u hv hp => ?_, hnm⟩
      cases fz with
      | false => rw [hpf rfl] at hp; exact hv.noImm hp
      | true =>
        refine hv.mono (fun _ _ _ => rfl) (Nat.le_refl _) fun x _ hx => ?_
        rcases hx with hg | ⟨t, b, hl, hlv, hxb⟩
        · left
          refine ⟨.inl hg, fun hh => ?_⟩
          have h2 := heldc1 x hh
          have h3 := h.g x hg
          rcases h1.new x h2 with h4 | h4
          · omega
          · exact h.gf x hg h4
        · rw [lk_ap] at hl
          split at hl
          · rename_i oo ho
            subst hl
            obtain ⟨i, b0, e1, e2, e3, e4⟩ := hblk t b ho hlv x hxb
            exact .inr ⟨i, b0, e2, e3, e4⟩
          · rename_i ho
            have hl1 : lk S1 t = some b := hl
            obtain ⟨u, hu⟩ := h1.named hl1
            rw [hold t u hu] at hxb
            left
            refine ⟨.inr ⟨t, b, hl1, hlv, by rw [hu]; exact hxb⟩, fun hh => ?_⟩
            obtain ⟨n, b2, e1, e2, e3, e4, e5⟩ := heldc x hh
            have := h1.dis t n b b2 x hl1 e3 hlv e4 (by rw [hu]; exact hxb) e5
            subst this
            exact houtns t e1 ho
    have hturn : Turn E cx Sb w ρ out w2 ρ2 := by
      refine ⟨hfrr.weaken hcell, hold, fun n b hb' hv x hx => ?_, fun n m b b' x hn hm hv hv' hx hx' => ?_, fun hi n b hb' => ?_⟩
      · obtain ⟨i, b0, e1, e2, e3, e4⟩ := hblk n b hb' hv x hx
        rcases hnewr x ⟨i, b0, e2, e3, e4⟩ with q | q
        · exact .inl q
        · exact .inr (hcell x q)
      · obtain ⟨i, b0, e1, e2, e3, e4⟩ := hblk n b hn hv x hx
        obtain ⟨j, b1, f1, f2, f3, f4⟩ := hblk m b' hm hv' x hx'
        have := hdisr i j b0 b1 x e2 f2 e3 f3 e4 f4
        subst this
        rw [e1, f1]
      · obtain ⟨i, b0, e1, e2, e3, e4, e5⟩ := hat n b hb'
        subst e1
        subst e4
        exact (htell hi).sr (hsr i b0 e3) e2 (domB_get hdom2 e3) (hpb i b0 e3)
    have hfin := hb.turn hturn
    have hout : ap (callOut (nmOf ns nx) S' (ns ++ news nx c) 0 ++ (if fz then frzOut S (lent ns ds S) else [])) S2 = ap out Sb := ap_append _ _ _
    refine ⟨ρ2, ?_, fun n hn => by simp only [ρ2, if_neg hn]⟩
    rw [hout]
    refine hfin.value hd ?_
    exact (htell (hturn.vi hb)).vr hvr hresn hpd
  have hmem : ∀ n, lk (callOut (nmOf ns nx) S' (ns ++ news nx c) 0) n ≠ none → n ∈ ns ++ news nx c := by
    intro n hn
    have gen : ∀ (l : List Nat) (i : Nat), lk (callOut (nmOf ns nx) S' l i) n ≠ none → n ∈ l := by
      intro l
      induction l with
      | nil => intro i h; simp [callOut, lk] at h
      | cons m r ih =>
        intro i h
        simp only [callOut, lk_cons] at h
        by_cases e : m = n
        · simp [e]
        · rw [if_neg e] at h
          exact List.mem_cons_of_mem _ (ih _ h)
    exact gen _ _ hn
  rcases hk with ⟨hn1, hn2, hk⟩ | hk
  · have := key false NoImmA (by simp) (fun _ => rfl) (noImm_res hn1) (fun i b hl => noImm_blk (hn2 _ (lk_mem hl)))
    simp only [Bool.false_eq_true, if_false, List.append_nil] at this
    refine ⟨_, _, _, _, _, this, fun n hn => hmem n hn, fun n hn => ?_, by omega, fun n h1 h2 => ?_, fun n => rfl, hk⟩
    · simp only [List.mem_append] at hn ⊢
      rcases hn with hn | hn
      · exact .inl (.inr hn)
      · exact .inr hn
    · simp only [List.mem_append]
      exact .inr (news_mem.2 ⟨h1, h2⟩)
  · have := key true (fun _ => True) (fun _ => rfl) (by simp) (all_res d) (fun i b _ => all_blk b)
    simp only [if_true] at this
    refine ⟨_, _, _, _, _, this, fun n hn => ?_, fun n hn => hn, by omega, fun n h1 h2 => ?_, fun n => ?_, hk⟩
    · rw [lk_append_none] at hn
      rcases hn with hn | hn
      · have := hmem n hn
        simp only [List.mem_append] at this ⊢
        rcases this with h | h
        · exact .inl (.inr h)
        · exact .inr h
      · rw [lk_frzOut] at hn
        by_cases hin : n ∈ lent ns ds S
        · have := (minus_mem.1 hin).1
          simp only [List.mem_append] at this ⊢
          exact .inl (.inl this)
        · rw [if_neg hin] at hn; exact absurd rfl hn
    · simp only [List.mem_append]
      exact .inr (news_mem.2 ⟨h1, h2⟩)
    · exact lk_ap2 _ _ _ (frz_ap (lent ns ds S) S) n
where
  lk_append_none {α : Type} {l r : List (Nat × α)} {n : Nat} : (lk (l ++ r) n ≠ none) = (lk l n ≠ none ∨ lk r n ≠ none) := by
    apply propext
    induction l with
    | nil => simp [lk]
    | cons p q ih =>
      obtain ⟨m, x⟩ := p
      simp only [List.cons_append, lk_cons]
      by_cases e : m = n
      · simp [e]
      · simp only [if_neg e]
        exact ih
end
end Go.Ab
/- An abstract reading of the elaborated code. Part 15: every operation does what the symbolic run says. -/
namespace Go.Ab
open Go Go.RowKit

section
variable {E : Env} {tm : Tm} {S : Store} {nx : Nat} {o : Oper} {K : Kt}

theorem args_eval {cx : Cx} {tm' : Tm} {S' : Store} {a : Act} {w : World} {ρ : Nat → Option Value} (h : R E cx tm' S' a w ρ) {args : List Operand} {ds : List D} (_hl : ds.length = args.length) (hev : ∀ (i : Nat) (x : Operand) (d : D), args[i]? = some x → ds[i]? = some d → ev E.gl tm x = some d) (he : ∀ x ∈ args, ev E.gl tm' x = ev E.gl tm x) :
    ∀ (i : Nat) (d : D) (u : Value), ds[i]? = some d → (args.map a.eval)[i]? = some u → VR w (AvS cx.G S' ρ) ρ d u := by
  intro i d u hd hu
  simp only [List.getElem?_map, Option.map_eq_some_iff] at hu
  obtain ⟨x, hx, rfl⟩ := hu
  exact h.eval ((he x (List.mem_of_getElem? hx)).trans (hev i x d hx hd))

theorem ok_callFn {f : FuncId} {args : Array Operand} {tys : Array TypeId} (ho : o.op = .call { callee := .value (.func f), args := args, argTypes := tys }) {ds : List D} (hl : ds.length = args.toList.length)
    (hev : ∀ (i : Nat) (x : Operand) (d : D), args.toList[i]? = some x → ds[i]? = some d → ev E.gl tm x = some d) (hk : callK E f ds S nx fun d fp S' nx' => K fp (put o.dst d tm) S' nx') : Ok1 E o tm S nx K := by
  refine ok_call (fun cx tm' S' a w ρ he h => ⟨args.toList.map a.eval, ?_, by simpa using hl, fun i d u hd hu S1 hS1 => ?_⟩) hk
  · have : (args.toList.map a.eval).toArray = args.map a.eval := by apply Array.ext'; simp
    rw [this]
    simp [execOp, ho, resolve, Deferred.ofValue, Act.eval, invoke]
  · obtain ⟨_, _, h1⟩ := hS1
    refine args_eval h1 hl hev (fun x hx => he x ?_) i d u hd hu
    rw [ho]
    simp only [Op.operands, Call.operands]
    simp
    exact .inr (by simpa using hx)
theorem ok_callVal {t : Nat} {args : Array Operand} {tys : Array TypeId} (ho : o.op = .call { callee := .value (.tmp t), args := args, argTypes := tys }) {f : FuncId} {cs : List Nat} (ht : lk tm t = some (.fn f cs)) {ds : List D} (hl : ds.length = args.toList.length)
    (hev : ∀ (i : Nat) (x : Operand) (d : D), args.toList[i]? = some x → ds[i]? = some d → ev E.gl tm x = some d) (hk : callK E f (ds ++ cs.map fun n => .bp n 0) S nx fun d fp S' nx' => K fp (put o.dst d tm) S' nx') : Ok1 E o tm S nx K := by
  refine ok_call (fun cx tm' S' a w ρ he h => ?_) hk
  have hft : ev E.gl tm' (.tmp t) = some (.fn f cs) := (he (.tmp t) (by rw [ho]; simp [Op.operands, Call.operands])).trans ht
  have hfv := h.eval hft
  have hform : ∃ us : List Value, a.eval (.tmp t) = .func (.func f) #[] us.toArray ∧ cs.length = us.length ∧ ∀ (i n : Nat) (u : Value), cs[i]? = some n → us[i]? = some u → ρ n = some u ∧ ∃ b, u = .pointer (some ⟨b, 0, none⟩) := by
    generalize a.eval (.tmp t) = v at hfv
    cases hfv with
    | gr hv =>
      cases hv with
      | atom hv =>
        cases hv with
        | im hv => cases hv; exact ⟨[], rfl, rfl, by simp⟩
        | fn hl hr => exact ⟨_, rfl, hl, hr⟩
  obtain ⟨us, hfu, hul, hus⟩ := hform
  refine ⟨args.toList.map a.eval ++ us, ?_, by simp [hl, hul], fun i d u hd hu S1 hS1 => ?_⟩
  · have : (args.toList.map a.eval ++ us).toArray = args.map a.eval ++ us.toArray := by apply Array.ext'; simp
    rw [this]
    simp [execOp, ho, resolve, Deferred.ofValue, hfu, invoke]
  · obtain ⟨_, _, h1⟩ := hS1
    by_cases hi : i < ds.length
    · rw [List.getElem?_append_left hi] at hd
      rw [List.getElem?_append_left (by rw [List.length_map, ← hl]; exact hi)] at hu
      refine args_eval h1 hl hev (fun x hx => he x ?_) i d u hd hu
      rw [ho]
      simp only [Op.operands, Call.operands]
      simp
      exact .inr (by simpa using hx)
    · have hml : (args.toList.map a.eval).length = ds.length := by simp [hl]
      rw [List.getElem?_append_right (by omega)] at hd
      rw [List.getElem?_append_right (by omega), hml] at hu
      simp only [List.getElem?_map, Option.map_eq_some_iff] at hd
      obtain ⟨n, hn, rfl⟩ := hd
      obtain ⟨e1, b, rfl⟩ := hus _ n u hn hu
      exact .gr (.atom (.bp e1))

theorem evsK_two {gl : Nat → Option (List D)} {args : List Operand} {K : List D → Prop} (h : evsK gl tm args K) : ∃ ds, K ds ∧ ds.length = args.length ∧ ∀ (i : Nat) (x : Operand) (d : D), args[i]? = some x → ds[i]? = some d → ev gl tm x = some d := evs_get h

theorem op_sound (hty : TyOk E) (hk : awpOp E o tm S nx K) : Ok1 E o tm S nx K := by
  unfold awpOp at hk
  split at hk
  · -- move
    rename_i x ho
    replace hk := evK_inv hk
    obtain ⟨d, hx, hk⟩ := hk
    exact ok_move (.inl ho) hx hk
  · -- assign
    rename_i x ho
    replace hk := evK_inv hk
    obtain ⟨d, hx, hk⟩ := hk
    split at hk
    · split at hk
      · split at hk
        · exact ok_nil ho hx hk
        · exact ok_move (.inr ho) hx hk
      · exact ok_move (.inr ho) hx hk
    · exact ok_move (.inr ho) hx hk
  · -- pick
    rename_i c x y ho
    replace hk := evK_inv hk
    obtain ⟨d, hx, hk⟩ := hk
    split at hk
    · rename_i z
      replace hk := bsplit_elim hk
      cases z
      · replace hk := evK_inv hk
        obtain ⟨d, hy, hk⟩ := hk
        exact ok_pick ho hx hy hk
      · replace hk := evK_inv hk
        obtain ⟨d, hy, hk⟩ := hk
        exact ok_pick ho hx hy hk
    · exact hk.elim
  · -- alloc
    rename_i e ho
    replace hk := tyK_inv hk
    obtain ⟨td, ht, hk⟩ := hk
    exact ok_alloc hty ho ht hk
  · -- box
    rename_i e x ho
    replace hk := evK_inv hk
    obtain ⟨d, hx, hk⟩ := hk
    split at hk
    · exact hk.elim
    · rename_i ht
      exact ok_box ho hx ht hk
  · -- build
    rename_i t parts ho
    replace hk := tyK_inv hk
    obtain ⟨td, ht, hk⟩ := hk
    split at hk
    · rename_i pl hkd
      exact ok_build hty ho ht hkd hk
    · exact hk.elim
  · -- buildSlice
    rename_i t n parts ho
    replace hk := tyK_inv hk
    obtain ⟨td, ht, hk⟩ := hk
    split at hk
    · rename_i e hkd
      replace hk := tyK_inv hk
      obtain ⟨te, hte, hk⟩ := hk
      exact ok_buildSlice hty ho ht hkd hte hk
    · exact hk.elim
  · -- load
    rename_i t x ho
    replace hk := evK_inv hk
    obtain ⟨d, hx, hk⟩ := hk
    replace hk := tyK_inv hk
    obtain ⟨td, ht, hk⟩ := hk
    exact ok_load hty ho hx ht hk
  · -- store
    rename_i t x y ho
    replace hk := evK_inv hk
    obtain ⟨da, hx, hk⟩ := hk
    replace hk := evK_inv hk
    obtain ⟨dx, hy, hk⟩ := hk
    replace hk := tyK_inv hk
    obtain ⟨td, ht, hk⟩ := hk
    split at hk
    · rename_i hb
      simp only [Bool.and_eq_true] at hb
      exact ok_store hty ho hx hy ht (Nat.eq_of_beq_eq_true hb.1) (by simpa using hb.2) hk
    · exact hk.elim
  · -- fieldAddr
    rename_i t x f ho
    replace hk := evK_inv hk
    obtain ⟨d, hx, hk⟩ := hk
    replace hk := tyK_inv hk
    obtain ⟨td, ht, hk⟩ := hk
    split at hk
    · rename_i pl hkd
      exact ok_fieldAddr hty ho hx ht hkd hk
    · exact hk.elim
  · -- indexAddr
    rename_i t x i ho
    replace hk := evK_inv hk
    obtain ⟨d, hx, hk⟩ := hk
    replace hk := evK_inv hk
    obtain ⟨di, hi, hk⟩ := hk
    replace hk := tyK_inv hk
    obtain ⟨td, ht, hk⟩ := hk
    split at hk
    · rename_i e kd n hkd
      replace hk := tyK_inv hk
      obtain ⟨te, hte, hk⟩ := hk
      exact ok_indexAddr hty ho hx hi ht hkd hte hk
    · rename_i m e kd n hkd
      replace hk := tyK_inv hk
      obtain ⟨te, hte, hk⟩ := hk
      split at hk
      · rename_i cs hz
        obtain ⟨j, c, rfl, hj, hc, hk⟩ := hk
        exact ok_indexArr hty ho hx hi ht hkd hte (Nat.eq_of_beq_eq_true hz) hj hc hk
      · exact hk.elim
    · exact hk.elim
  · -- index
    rename_i t x i ho
    replace hk := evK_inv hk
    obtain ⟨d, hx, hk⟩ := hk
    replace hk := evK_inv hk
    obtain ⟨di, hi, hk⟩ := hk
    replace hk := tyK_inv hk
    obtain ⟨td, ht, hk⟩ := hk
    split at hk
    · rename_i l kd n hkd
      obtain ⟨j, c, rfl, hc, hk⟩ := hk
      exact ok_index hty ho hx hi ht hkd hc hk
    · exact hk.elim
  · -- binOp
    rename_i op t x y yt ho
    replace hk := evK_inv hk
    obtain ⟨dx, hx, hk⟩ := hk
    replace hk := evK_inv hk
    obtain ⟨dy, hy, hk⟩ := hk
    split at hk
    · replace hk := tyK_inv hk
      obtain ⟨td, ht, hk⟩ := hk
      split at hk
      · rename_i hkd
        exact ok_bool hty ho hx hy ht hkd hk
      · exact hk.elim
    · replace hk := tyK_inv hk
      obtain ⟨td, ht, hk⟩ := hk
      split at hk
      · rename_i c hc
        exact ok_agg hty ho hx hy ht hc hk
      · exact hk.elim
    · unfold binOpK at hk
      split at hk
      · split at hk
        · rename_i hkk
          have := of_decide_eq_true hkk
          subst this
          exact ok_int ho hx hy hk
        · exact hk.elim
      · exact ok_str ho hx hy hk
      · exact hk.elim
  · -- unOp
    rename_i op t x ho
    replace hk := evK_inv hk
    obtain ⟨d, hx, hk⟩ := hk
    split at hk
    · exact ok_not ho hx hk
    · obtain ⟨r, rfl, hk⟩ := hk
      exact ok_neg ho hx hk
    · exact hk.elim
  · -- convert
    rename_i s t x ho
    replace hk := evK_inv hk
    obtain ⟨d, hx, hk⟩ := hk
    replace hk := tyK_inv hk
    obtain ⟨ts, hs, hk⟩ := hk
    replace hk := tyK_inv hk
    obtain ⟨td, ht, hk⟩ := hk
    unfold convK at hk
    split at hk
    · rename_i h1 h2
      obtain ⟨r, rfl, hk⟩ := hk
      exact ok_convInt hty ho hx hs ht h1 h2 hk
    · rename_i h1 h2
      exact ok_convStr hty ho hx hs ht h1 h2 hk
    · rename_i e d' h1 h2
      replace hk := tyK_inv hk
      obtain ⟨te, hte, hk⟩ := hk
      split at hk
      · rename_i xs h3 h4
        obtain ⟨l, rfl, hl, hk⟩ := hk
        exact ok_convBytes hty ho hx hs ht hte h1 h2 h3 h4 hk
      · exact hk.elim
    · exact hk.elim
  · -- slice
    rename_i t x lo hi ho
    replace hk := evK_inv hk
    obtain ⟨d, hx, hk⟩ := hk
    replace hk := tyK_inv hk
    obtain ⟨td, ht, hk⟩ := hk
    exact ok_slice hty ho hx ht hk
  · -- makeSlice
    rename_i t l c ho
    replace hk := evK_inv hk
    obtain ⟨dl, hl, hk⟩ := hk
    replace hk := evK_inv hk
    obtain ⟨dc, hc, hk⟩ := hk
    replace hk := tyK_inv hk
    obtain ⟨td, ht, hk⟩ := hk
    split at hk
    · rename_i e k1 m k2 m' hkd
      replace hk := tyK_inv hk
      obtain ⟨te, hte, hk⟩ := hk
      obtain ⟨n, rfl, rfl, hn, hb, hk⟩ := hk
      exact ok_make hty ho ht hkd hte hl hc hn hb hk
    · exact hk.elim
  · -- extract
    rename_i x i ho
    replace hk := evK_inv hk
    obtain ⟨d, hx, hk⟩ := hk
    split at hk
    · split at hk
      · rename_i d' hd
        exact ok_extract ho hx hd hk
      · exact hk.elim
    · exact hk.elim
  · -- nilCheck
    rename_i x ho
    replace hk := evK_inv hk
    obtain ⟨d, hx, hk⟩ := hk
    split at hk
    · exact ok_nilCheck ho hx (.inl ⟨_, _, rfl⟩) hk
    · exact ok_nilCheck ho hx (.inr (.inl ⟨_, _, _, _, rfl⟩)) hk
    · exact ok_nilCheck ho hx (.inr (.inr ⟨_, rfl⟩)) hk
    · exact hk.elim
  · -- makeFunc
    rename_i f first caps ho
    replace hk := evs_get hk
    obtain ⟨ds, hk, hl, hev⟩ := hk
    split at hk
    · rename_i hf hb
      exact ok_makeFunc ho hf hl hev hb hk
    · exact hk.elim
  · -- call
    rename_i c ho
    obtain ⟨callee, args, tys⟩ := c
    replace hk := evs_get hk
    obtain ⟨ds, hk, hl, hev⟩ := hk
    split at hk
    · -- builtin
      rename_i b hcal
      simp only at hcal hk hl hev
      subst hcal
      unfold builtinK at hk
      split at hk
      · -- len
        rename_i d
        split at hk
        · rename_i t htys
          replace hk := tyK_inv hk
          obtain ⟨td, ht, hk⟩ := hk
          obtain ⟨x, hx⟩ : ∃ x, args = #[x] := by
            obtain ⟨l⟩ := args
            match l, hl with
            | [x], _ => exact ⟨x, rfl⟩
          refine ok_len hty ho hx (by apply Array.ext'; simpa using htys) (hev 0 x d (by simp [hx]) rfl) ht hk
        · exact hk.elim
      · -- append
        rename_i dx dy
        split at hk
        · rename_i t t' htys
          obtain ⟨x, y, hxy⟩ : ∃ x y, args = #[x, y] := by
            obtain ⟨l⟩ := args
            match l, hl with
            | [x, y], _ => exact ⟨x, y, rfl⟩
          have hty2 : tys = #[t, t'] := by apply Array.ext'; simpa using htys
          subst hxy
          subst hty2
          have hx := hev 0 x dx rfl rfl
          have hy := hev 1 y dy rfl rfl
          split at hk
          · rename_i hb
            have htt : t' = t := (Nat.eq_of_beq_eq_true hb).symm
            exact ok_append hty ho hx hy (dy := dy) (.inl ⟨htt, rfl⟩) hk (fun h => absurd htt h)
          · replace hk := tyK_inv hk
            obtain ⟨td', ht', hk⟩ := hk
            replace hk := tyK_inv hk
            obtain ⟨td, ht, hk⟩ := hk
            split at hk
            · rename_i l e h1 h2
              replace hk := tyK_inv hk
              obtain ⟨te, hte, hbt, hk⟩ := hk
              refine ok_append hty ho hx hy (dy := .sl (bytesOf l)) (.inr ⟨l, td', rfl, rfl, ht', h1⟩) hk fun _ td2 e2 te2 q1 q2 q3 => ?_
              rw [ht] at q1
              cases q1
              rw [h2] at q2
              cases q2
              rw [hte] at q3
              cases q3
              exact hbt
            · exact hk.elim
        · exact hk.elim
      · rename_i m n
        obtain ⟨x, y, hxy⟩ : ∃ x y, args = #[x, y] := by
          obtain ⟨l⟩ := args
          match l, hl with
          | [x, y], _ => exact ⟨x, y, rfl⟩
        subst hxy
        exact ok_minmax ho (.inl rfl) (hev 0 x _ rfl rfl) (hev 1 y _ rfl rfl) (by simpa using hk)
      · rename_i m n
        obtain ⟨x, y, hxy⟩ : ∃ x y, args = #[x, y] := by
          obtain ⟨l⟩ := args
          match l, hl with
          | [x, y], _ => exact ⟨x, y, rfl⟩
        subst hxy
        exact ok_minmax ho (.inr rfl) (hev 0 x _ rfl rfl) (hev 1 y _ rfl rfl) (by simpa using hk)
      · exact hk.elim
    · rename_i f hcal
      simp only at hcal
      subst hcal
      exact ok_callFn ho hl hev hk
    · rename_i t hcal
      simp only at hcal
      subst hcal
      split at hk
      · rename_i f cs ht
        exact ok_callVal ho ht hl hev hk
      · exact hk.elim
    · exact hk.elim
  · exact hk.elim
end
end Go.Ab
/- An abstract reading of the elaborated code. Part 16: operations in every order. -/
namespace Go.Ab
open Go Go.RowKit

/-! what holds at a place behind some of the steps -/
section trace
variable {κ β : Type} (W : Nat → κ → Option β) (base : κ → β)
def atL (L : Nat → Bool) : Nat → κ → β
  | 0, c => base c
  | m + 1, c => if L m then (W m c).getD (atL L m c) else atL L m c
def all_ : Nat → Bool := fun _ => true
variable {W base}
theorem atL_upto {L : Nat → Bool} {c : κ} {i : Nat} (h : ∀ m, m < i → (W m c).isSome → L m = true) : ∀ m, m ≤ i → atL W base L m c = atL W base all_ m c
  | 0, _ => rfl
  | m + 1, hm => by
    have ih := atL_upto h m (by omega)
    simp only [atL, all_, if_true]
    cases hw : W m c with
    | none => simp [ih]
    | some b => simp [h m (by omega) (by rw [hw]; rfl), ih]
theorem atL_from {L : Nat → Bool} {c : κ} {i : Nat} : ∀ (n : Nat), i ≤ n → (∀ m, i ≤ m → m < n → L m = true → W m c = none) → atL W base L n c = atL W base L i c
  | 0, hn, _ => by have : i = 0 := by omega
                   subst this; rfl
  | n + 1, hn, h => by
    by_cases e : i = n + 1
    · subst e; rfl
    · have ih := atL_from n (by omega) (fun m h1 h2 => h m h1 (by omega))
      simp only [atL]
      split
      · rename_i hl
        rw [h n (by omega) (by omega) hl]
        exact ih
      · exact ih
/-- what a step that is ready finds is what it found in the order of the text -/
theorem atL_ready {L : Nat → Bool} {c : κ} {i n : Nat} (hi : i ≤ n) (h1 : ∀ m, m < i → (W m c).isSome → L m = true) (h2 : ∀ m, i ≤ m → m < n → L m = true → W m c = none) : atL W base L n c = atL W base all_ i c := by
  rw [atL_from n hi h2, atL_upto h1 i (Nat.le_refl _)]
def setL (L : Nat → Bool) (i : Nat) : Nat → Bool := fun j => if j = i then true else L j
theorem atL_set_below {L : Nat → Bool} {c : κ} {i : Nat} : ∀ m, m ≤ i → atL W base (setL L i) m c = atL W base L m c
  | 0, _ => rfl
  | m + 1, hm => by
    have : setL L i m = L m := by simp [setL]; omega
    have ih := atL_set_below (L := L) (c := c) (i := i) m (by omega)
    simp only [atL, this, ih]
theorem atL_set {L : Nat → Bool} {c : κ} {i n : Nat} (hi : i < n) (hL : L i = false) (h : (W i c).isSome → ∀ m, i < m → m < n → L m = true → W m c = none) : atL W base (setL L i) n c = (W i c).getD (atL W base L n c) := by
  have key : ∀ m, i < m → m ≤ n → atL W base (setL L i) m c = (W i c).getD (atL W base L m c) := by
    intro m
    induction m with
    | zero => intro h; omega
    | succ m ih =>
      intro h1 h2
      by_cases e : m = i
      · subst e
        have e1 : setL L m m = true := by simp [setL]
        simp only [atL, e1, if_true, hL, Bool.false_eq_true, if_false, atL_set_below m (Nat.le_refl _)]
      · have ih := ih (by omega) (by omega)
        have e1 : setL L i m = L m := by simp [setL, e]
        simp only [atL, e1]
        split
        · rename_i hl
          cases hw : W i c with
          | none => rw [hw] at ih; simp only [Option.getD_none] at ih ⊢; rw [ih]
          | some b =>
            rw [hw] at ih
            have := h (by rw [hw]; rfl) m (by omega) (by omega) hl
            rw [this]
            simpa using ih
        · exact ih
  exact key n hi (Nat.le_refl _)
end trace

/-- how many are not listed -/
def cntL (L : Nat → Bool) : Nat → Nat
  | 0 => 0
  | n + 1 => cntL L n + if L n then 0 else 1
theorem cntL_set {L : Nat → Bool} {i : Nat} (hL : L i = false) : ∀ n, i < n → cntL (setL L i) n + 1 = cntL L n
  | 0, h => by omega
  | n + 1, h => by
    by_cases e : n = i
    · subst e
      have same : ∀ m, m ≤ n → cntL (setL L n) m = cntL L m := by
        intro m
        induction m with
        | zero => intro _; rfl
        | succ m ih =>
          intro hm
          have : setL L n m = L m := by simp [setL]; omega
          simp only [cntL, this, ih (by omega)]
      simp [cntL, same n (Nat.le_refl _), hL, setL]
    · have := cntL_set hL n (by omega)
      have e1 : setL L i n = L n := by simp [setL, e]
      simp only [cntL, e1]
      omega
theorem cntL_zero {L : Nat → Bool} : ∀ n, cntL L n = 0 → ∀ i, i < n → L i = true
  | 0, _, i, h => by omega
  | n + 1, hz, i, h => by
    simp only [cntL] at hz
    by_cases e : i = n
    · subst e
      cases hl : L i with
      | true => rfl
      | false => rw [hl] at hz; simp at hz
    · exact cntL_zero n (by omega) i (by omega)

section
variable {E : Env} {cx : Cx} {ops : Array Oper}

def Fresh (nx : Nat) (ρ : Nat → Option Value) : Prop := ∀ n, nx ≤ n → ρ n = none
/-- a step in the order of the text -/
structure Mk where
  fp : Fp
  d : D
  out : Out
  nx : Nat
  nx' : Nat
  go : Bool
  tm : Tm
  S : Store
def wantedA (ops : Array Oper) (o : Oper) (tm : Tm) : Option Bool :=
  match o.guard with
  | none => some true
  | some (j, want) => match (ops[j]?).bind (·.dst) with
    | none => none
    | some t => match lk tm t with
      | some (.b x) => some (x == want)
      | some (.tup []) => some false
      | _ => none
structure Stp (E : Env) (ops : Array Oper) (o : Oper) (m : Mk) (tm' : Tm) (S' : Store) : Prop where
  want : wantedA ops o m.tm = some m.go
  run : m.go = true → LStep E o m.tm m.S m.fp.all m.nx m.nx' m.d m.out
  skip : m.go = false → m.d = .tup [] ∧ m.out = [] ∧ m.nx' = m.nx
  wr : ∀ n, lk m.out n ≠ none → n ∈ m.fp.wr
  sub : ∀ n ∈ m.fp.wr, n ∈ m.fp.all
  le : m.nx ≤ m.nx'
  tm' : ∀ t, lk tm' t = lk (put o.dst m.d m.tm) t
  S' : ∀ n, lk S' n = lk (ap m.out m.S) n
def Run (E : Env) (ops : Array Oper) : List Oper → Tm → Store → Nat → List Mk → Tm → Store → Nat → Prop
  | [], tm, S, nx, ms, tm', S', nx' => ms = [] ∧ tm' = tm ∧ S' = S ∧ nx' = nx
  | o :: r, tm, S, nx, ms, tm', S', nx' => ∃ m q tm1 S1, ms = m :: q ∧ m.tm = tm ∧ m.S = S ∧ m.nx = nx ∧ Stp E ops o m tm1 S1 ∧ Run E ops r tm1 S1 m.nx' q tm' S' nx'

theorem LStep.ext {o : Oper} {tm tm1 : Tm} {S : Store} {fp : List Nat} {nx nx' : Nat} {d : D} {out : Out} (h : LStep E o tm1 S fp nx nx' d out) (ht : ∀ t, lk tm1 t = lk tm t) : LStep E o tm S fp nx nx' d out := by
  intro cx tm' S' a w ρ Q hd he
  refine h cx tm' S' a w ρ Q hd fun x hx => ?_
  rw [he x hx]
  cases x <;> simp [ev, ht]

theorem run_of_awp (hty : TyOk E) : ∀ (l : List Oper) (tm : Tm) (S : Store) (nx : Nat) (fs : List Fp) (K : List Fp → Tm → Store → Nat → Prop), awpOps E ops l tm S nx fs K →
    ∃ ms tm' S' nx', Run E ops l tm S nx ms tm' S' nx' ∧ K ((ms.map (·.fp)).reverse ++ fs) tm' S' nx'
  | [], tm, S, nx, fs, K, h => ⟨[], tm, S, nx, ⟨rfl, rfl, rfl, rfl⟩, h⟩
  | o :: r, tm, S, nx, fs, K, h => by
    have go : ∀ tm1 : Tm, (∀ t, lk tm1 t = lk tm t) → wantedA ops o tm = some true → awpOp E o tm1 S nx (fun fp tm S nx => awpOps E ops r tm S nx (fp :: fs) K) →
        ∃ ms tm' S' nx', Run E ops (o :: r) tm S nx ms tm' S' nx' ∧ K ((ms.map (·.fp)).reverse ++ fs) tm' S' nx' := by
      intro tm1 ht hw h
      obtain ⟨fp, out, nx1, d, S2, h1, h2, h3, h4, _, h5, h6⟩ := op_sound hty h
      obtain ⟨ms, tm', S', nx', h7, h8⟩ := run_of_awp hty r _ _ _ _ _ h6
      refine ⟨⟨fp, d, out, nx, nx1, true, tm, S⟩ :: ms, tm', S', nx', ⟨_, _, _, _, rfl, rfl, rfl, rfl, ⟨hw, fun _ => h1.ext ht, by simp, h2, h3, h4, fun t => ?_, h5⟩, h7⟩, by simpa using h8⟩
      cases hdst : o.dst <;> simp [put, ht, lk_cons]
    have skip : ∀ tm1 : Tm, (∀ t, lk tm1 t = lk tm t) → wantedA ops o tm = some false → awpOps E ops r (put o.dst (.tup []) tm1) S nx (fp0 :: fs) K →
        ∃ ms tm' S' nx', Run E ops (o :: r) tm S nx ms tm' S' nx' ∧ K ((ms.map (·.fp)).reverse ++ fs) tm' S' nx' := by
      intro tm1 ht hw h
      obtain ⟨ms, tm', S', nx', h7, h8⟩ := run_of_awp hty r _ _ _ _ _ h
      refine ⟨⟨fp0, .tup [], [], nx, nx, false, tm, S⟩ :: ms, tm', S', nx', ⟨_, _, _, _, rfl, rfl, rfl, rfl, ⟨hw, by simp, fun _ => ⟨rfl, rfl, rfl⟩, by simp [lk], by simp [fp0], Nat.le_refl _, fun t => ?_, fun n => rfl⟩, h7⟩, by simpa using h8⟩
      cases hdst : o.dst <;> simp [put, ht, lk_cons]
    unfold awpOps at h
    split at h
    · rename_i hg
      exact go tm (fun _ => rfl) (by simp [wantedA, hg]) h
    · rename_i j want hg
      split at h
      · exact h.elim
      · rename_i t hj
        split at h
        · rename_i x hx
          have h := bsplit_elim h
          have hsame : ∀ t', lk ((t, D.b x) :: tm) t' = lk tm t' := by
            intro t'
            rw [lk_cons]
            by_cases e : t = t'
            · subst e; rw [if_pos rfl, hx]
            · rw [if_neg e]
          have hw : wantedA ops o tm = some (x == want) := by simp [wantedA, hg, hj, hx]
          cases want <;> cases x
          · exact go _ hsame (by rw [hw]; rfl) h
          · exact skip _ hsame (by rw [hw]; rfl) h
          · exact skip _ hsame (by rw [hw]; rfl) h
          · exact go _ hsame (by rw [hw]; rfl) h
        · rename_i hx
          exact skip tm (fun _ => rfl) (by simp [wantedA, hg, hj, hx]) h
        · exact h.elim

theorem yielded_at {tmps : Array Value} {j t : Nat} (hj : (ops[j]?).bind (·.dst) = some t) : yielded ops tmps j = match tmps[t]? with | some (.bool b) => some b | _ => none := by
  unfold yielded
  rw [hj]
  rfl
theorem getD_bool {tmps : Array Value} {t : Nat} {x : Bool} (h : tmps.getD t undef = .bool x) : tmps[t]? = some (.bool x) := by
  rw [Array.getD_eq_getD_getElem?] at h
  cases hc : tmps[t]? with
  | none => rw [hc] at h; simp [undef] at h
  | some v => rw [hc] at h; simp at h; rw [h]
/-- whether an operation is carried out, is known -/
theorem wanted_of {o : Oper} {tm : Tm} {S : Store} {a : Act} {w : World} {ρ : Nat → Option Value} (h : R E cx tm S a w ρ) {x : Bool} (hw : wantedA ops o tm = some x) : Region.wanted o (yielded ops a.tmps) = x := by
  unfold wantedA at hw
  split at hw
  · rename_i hg
    cases hw
    simp [Region.wanted, hg]
  · rename_i j want hg
    split at hw
    · cases hw
    · rename_i t hj
      split at hw
      · rename_i y hy
        cases hw
        have hv : a.tmps[t]? = some (.bool y) := getD_bool (h.tm t _ hy).b_inv
        have hyl : yielded ops a.tmps j = some y := by rw [yielded_at hj, hv]
        simp [Region.wanted, hg, hyl]
      · rename_i hy
        cases hw
        have hv : a.tmps.getD t undef = undef := by
          obtain ⟨us, h1, h2, _⟩ := (h.tm t _ hy).tup_inv
          have : us = [] := List.eq_nil_of_length_eq_zero h2.symm
          rw [h1, this]
          rfl
        have hyl : yielded ops a.tmps j = none := by
          rw [yielded_at hj]
          cases hc : a.tmps[t]? with
          | none => rfl
          | some v =>
            rw [Array.getD_eq_getD_getElem?, hc] at hv
            simp at hv
            subst hv
            rfl
        simp [Region.wanted, hg, hyl]
      · cases hw

def operOk (N : Nat) (o : Oper) : Bool :=
  match o.dst with
  | some t => Nat.blt t N
  | none => true
def opersOk (N : Nat) : List Oper → Bool
  | [] => true
  | o :: r => operOk N o && opersOk N r
theorem operOk_dst {N : Nat} {o : Oper} (h : operOk N o = true) : ∀ t, o.dst = some t → t < N := by
  intro t ht
  unfold operOk at h
  rw [ht] at h
  exact Nat.le_of_ble_eq_true h

/-- one after the other, as the text has them -/
theorem run_sound {Q : Exit → Act → World → Prop} {tmf : Tm} {Sf : Store} {nxf : Nat} (hQ : ∀ a w ρ, R E cx tmf Sf a w ρ → Fresh nxf ρ → Q .normal a w) :
    ∀ (l : List Oper) (tm : Tm) (S : Store) (nx : Nat) (ms : List Mk) (a : Act) (w : World) (ρ : Nat → Option Value), opersOk cx.N l = true → Run E ops l tm S nx ms tmf Sf nxf → R E cx tm S a w ρ → Fresh nx ρ → wpList E.P ops Q l a w
  | [], tm, S, nx, ms, a, w, ρ, _, ⟨_, h1, h2, h3⟩, h, hf => by subst h1 h2 h3; exact wpList_nil (hQ _ _ _ h hf)
  | o :: r, tm, S, nx, ms, a, w, ρ, hok, ⟨m, q, tm1, S1, _, e1, e2, e3, hs, hr⟩, h, hf => by
    subst e1 e2 e3
    simp only [opersOk, Bool.and_eq_true] at hok
    refine wpList_step fun K' hK' => ?_
    rw [wanted_of h hs.want]
    cases hgo : m.go with
    | true =>
      rw [if_pos rfl]
      have := hs.run hgo cx m.tm m.S a w ρ Q (operOk_dst hok.1) (fun _ _ => rfl) (fun _ _ => rfl) h (fun n h1 _ => hf n h1)
      refine Oper.wp_mono (fun a' w' hn => ?_) this
      obtain ⟨ρ', h1, h2⟩ := hn
      have hf' : Fresh m.nx' ρ' := by
        intro n hn
        rw [h2 n (by omega)]
        exact hf n (Nat.le_trans hs.le hn)
      exact hK' _ _ (run_sound hQ r tm1 S1 m.nx' q a' w' ρ' hok.2 hr (h1.ext hs.tm' hs.S') hf')
    | false =>
      rw [if_neg (by simp)]
      obtain ⟨k1, k2, k3⟩ := hs.skip hgo
      have h1 := h.value (operOk_dst hok.1) (VR.undef)
      refine hK' _ _ (run_sound hQ r tm1 S1 m.nx' q _ w ρ hok.2 hr (h1.ext (fun t => ?_) (fun n => ?_)) (by rw [k3]; exact hf))
      · rw [hs.tm', k1]
      · rw [hs.S', k2]; rfl

/-! in every order -/
theorem bit_or (a b i : Nat) : bitAt (Nat.lor a b) i = (bitAt a i || bitAt b i) := by
  have h : ∀ m, bitAt m i = m.testBit i := by
    intro m
    unfold bitAt
    rw [Nat.testBit_eq_decide_div_mod_eq]
    show Nat.beq (m >>> i % 2) 1 = _
    rw [Nat.shiftRight_eq_div_pow]
    by_cases e : m / 2 ^ i % 2 = 1
    · rw [e]; simp
    · simp [e, beq_no e]
  rw [h, h, h]
  exact Nat.testBit_or a b i
theorem bit_one (k i : Nat) : bitAt (Nat.shiftLeft 1 k) i = decide (i = k) := by
  have h : bitAt (Nat.shiftLeft 1 k) i = (1 <<< k).testBit i := by
    unfold bitAt
    rw [Nat.testBit_eq_decide_div_mod_eq]
    show Nat.beq ((1 <<< k) >>> i % 2) 1 = _
    rw [Nat.shiftRight_eq_div_pow]
    by_cases e : (1 <<< k) / 2 ^ i % 2 = 1
    · rw [e]; simp
    · simp [e, beq_no e]
  rw [h, Nat.one_shiftLeft, Nat.testBit_two_pow]
  by_cases e : i = k
  · subst e; simp
  · have : ¬ k = i := fun h => e h.symm
    simp [e, this]
theorem bit_zero (i : Nat) : bitAt 0 i = false := by
  unfold bitAt
  show Nat.beq (0 >>> i % 2) 1 = false
  simp
  rfl
theorem aheadOf_bit {bs : List Nat} {i : Nat} : ∀ {l : List Edge}, bitAt (aheadOf bs l) i = true → ∃ e ∈ l, Region.binds .any e = true ∧ (i = e.on ∨ bitAt (bs.getD e.on 0) i = true)
  | [], h => by simp [aheadOf, bit_zero] at h
  | e :: r, h => by
    simp only [aheadOf] at h
    split at h
    · rename_i hb
      rw [bit_or, bit_or, bit_one] at h
      simp only [Bool.or_eq_true, decide_eq_true_eq] at h
      rcases h with (h | h) | h
      · exact ⟨e, by simp, hb, .inl h⟩
      · exact ⟨e, by simp, hb, .inr h⟩
      · obtain ⟨e', h1, h2, h3⟩ := aheadOf_bit h
        exact ⟨e', by simp [h1], h2, h3⟩
    · obtain ⟨e', h1, h2, h3⟩ := aheadOf_bit h
      exact ⟨e', by simp [h1], h2, h3⟩
/-- the bits of the operations, one after the other -/
theorem aheads_spec : ∀ (l : List Oper) (bs : List Nat), (∀ (j : Nat), j < bs.length → (aheads l bs)[j]? = bs[j]?) ∧ (aheads l bs).length = bs.length + l.length ∧
    ∀ (j : Nat) (o : Oper), l[j]? = some o → (∀ e ∈ o.after.toList, Region.binds .any e = true → e.on < bs.length + j) → ∀ i, bitAt ((aheads l bs).getD (bs.length + j) 0) i = true → ∃ e ∈ o.after.toList, Region.binds .any e = true ∧ (i = e.on ∨ bitAt ((aheads l bs).getD e.on 0) i = true)
  | [], bs => ⟨fun j _ => rfl, rfl, by simp⟩
  | o :: r, bs => by
    obtain ⟨h1, h2, h3⟩ := aheads_spec r (bs ++ [aheadOf bs o.after.toList])
    refine ⟨fun j hj => ?_, by simp only [aheads, h2]; simp; omega, fun j o' hj he i hb => ?_⟩
    · simp only [aheads]
      rw [h1 j (by simp; omega), List.getElem?_append_left hj]
    · cases j with
      | zero =>
        simp at hj
        subst hj
        simp only [aheads, Nat.add_zero] at hb ⊢
        have hat : (aheads r (bs ++ [aheadOf bs o.after.toList])).getD bs.length 0 = aheadOf bs o.after.toList := by
          simp only [List.getD]
          rw [h1 bs.length (by simp), List.getElem?_append_right (Nat.le_refl _)]
          simp
        rw [hat] at hb
        obtain ⟨e, q1, q2, q3⟩ := aheadOf_bit hb
        refine ⟨e, q1, q2, q3.imp id fun q => ?_⟩
        have hlt := he e q1 q2
        have : (aheads r (bs ++ [aheadOf bs o.after.toList])).getD e.on 0 = bs.getD e.on 0 := by
          simp only [List.getD]
          rw [h1 e.on (by simp; omega), List.getElem?_append_left (by omega)]
        rw [this]
        exact q
      | succ j =>
        have := h3 j o' (by simpa using hj) (fun e q1 q2 => by have := he e q1 q2; simp; omega) i
        simp only [aheads]
        simp only [aheads] at hb
        have hlen : (bs ++ [aheadOf bs o.after.toList]).length + j = bs.length + (j + 1) := by simp; omega
        rw [hlen] at this
        exact this hb

theorem meets_iff {l q : List Nat} : meets l q = true ↔ ∃ n, n ∈ l ∧ n ∈ q := by
  induction l with
  | nil => simp [meets]
  | cons m r ih =>
    simp only [meets, Bool.or_eq_true, memB_iff, ih]
    constructor
    · rintro (h | ⟨n, h1, h2⟩)
      · exact ⟨m, by simp, h⟩
      · exact ⟨n, by simp [h1], h2⟩
    · rintro ⟨n, h1, h2⟩
      rcases List.mem_cons.1 h1 with rfl | h1
      · exact .inl h2
      · exact .inr ⟨n, h1, h2⟩
theorem clearOf_get {fp : Fp} {ms : List Nat} {dst : Option Nat} {m : Nat} : ∀ {acc : List (Fp × List Nat × Option Nat)} {k : Nat}, clearOf fp ms dst m acc k = true → ∀ (i : Nat) (fq : Fp) (mq : List Nat) (dq : Option Nat), acc[i]? = some (fq, mq, dq) →
    bitAt m (k + i) = true ∨ ((∀ n, n ∈ fp.wr → n ∉ fq.all) ∧ (∀ n, n ∈ fq.wr → n ∉ fp.all) ∧ (∀ t, dst = some t → t ∉ mq) ∧ ∀ t, dq = some t → t ∉ ms)
  | [], k, h, i, fq, mq, dq, hi => by simp at hi
  | (f0, m0, d0) :: r, k, h, i, fq, mq, dq, hi => by
    simp only [clearOf, Bool.and_eq_true] at h
    obtain ⟨h1, h2⟩ := h
    cases i with
    | zero =>
      simp at hi
      obtain ⟨rfl, rfl, rfl⟩ := hi
      simp only [Bool.or_eq_true, Bool.not_eq_true', Nat.add_zero] at h1 ⊢
      refine h1.imp id fun h1 => ?_
      simp only [Bool.or_eq_false_iff] at h1
      obtain ⟨⟨⟨c1, c2⟩, c3⟩, c4⟩ := h1
      refine ⟨fun n p q => ?_, fun n p q => ?_, fun t ht hm => ?_, fun t ht hm => ?_⟩
      · rw [meets_iff.2 ⟨n, p, q⟩] at c1; cases c1
      · rw [meets_iff.2 ⟨n, p, q⟩] at c2; cases c2
      · subst ht; simp only at c3; rw [memB_iff.2 hm] at c3; cases c3
      · subst ht; simp only at c4; rw [memB_iff.2 hm] at c4; cases c4
    | succ i =>
      have := clearOf_get h2 i fq mq dq (by simpa using hi)
      have e : k + 1 + i = k + (i + 1) := by omega
      rw [e] at this
      exact this
theorem clearAll_get {bs : List Nat} : ∀ {l : List Oper} {fs : List Fp} {acc : List (Fp × List Nat × Option Nat)} {k : Nat}, clearAll ops bs l fs acc k = true → acc.length = k → ∀ (j : Nat) (o : Oper) (fp : Fp), l[j]? = some o → fs[j]? = some fp →
    clearOf fp (mentions ops o) o.dst (bs.getD (k + j) 0) (acc ++ (((l.zip fs).take j).map fun (o, f) => (f, mentions ops o, o.dst))) 0 = true
  | [], fs, acc, k, h, ha, j, o, fp, hj, _ => by simp at hj
  | o0 :: r, [], acc, k, h, ha, j, o, fp, hj, hf => by simp at hf
  | o0 :: r, f0 :: fs, acc, k, h, ha, j, o, fp, hj, hf => by
    simp only [clearAll, Bool.and_eq_true] at h
    obtain ⟨h1, h2⟩ := h
    cases j with
    | zero => simp at hj hf; subst hj hf; simpa using h1
    | succ j =>
      have := clearAll_get h2 (by simp [ha]) j o fp (by simpa using hj) (by simpa using hf)
      have e : k + 1 + j = k + (j + 1) := by omega
      rw [e] at this
      simpa using this
end
end Go.Ab
/- An abstract reading of the elaborated code. Part 17: a region that draws its order. -/
namespace Go.Ab
open Go Go.RowKit

section
variable {E : Env} {cx : Cx} {ops : Array Oper}

theorem run_get : ∀ (l : List Oper) (tm : Tm) (S : Store) (nx : Nat) (ms : List Mk) (tmf : Tm) (Sf : Store) (nxf : Nat), Run E ops l tm S nx ms tmf Sf nxf →
    ms.length = l.length ∧ nx ≤ nxf ∧ (∀ m, ms[0]? = some m → m.tm = tm ∧ m.S = S ∧ m.nx = nx) ∧ (l = [] → tmf = tm ∧ Sf = S ∧ nxf = nx) ∧
    ∀ (i : Nat) (o : Oper), l[i]? = some o → ∃ m tm1 S1, ms[i]? = some m ∧ Stp E ops o m tm1 S1 ∧ nx ≤ m.nx ∧ m.nx' ≤ nxf ∧
      (∀ m2, ms[i + 1]? = some m2 → m2.tm = tm1 ∧ m2.S = S1 ∧ m2.nx = m.nx') ∧ (i + 1 = l.length → tmf = tm1 ∧ Sf = S1 ∧ nxf = m.nx')
  | [], tm, S, nx, ms, tmf, Sf, nxf, ⟨h0, h1, h2, h3⟩ => by subst h0 h1 h2 h3; simp
  | o :: r, tm, S, nx, ms, tmf, Sf, nxf, ⟨m, q, tm1, S1, e0, e1, e2, e3, hs, hr⟩ => by
    subst e0
    obtain ⟨g1, g2, g3, g4, g5⟩ := run_get r tm1 S1 m.nx' q tmf Sf nxf hr
    have hle := hs.le
    refine ⟨by simp [g1], by omega, fun m' hm => by simp at hm; subst hm; exact ⟨e1, e2, e3⟩, by simp, fun i o' ho => ?_⟩
    cases i with
    | zero =>
      simp at ho
      subst ho
      refine ⟨m, tm1, S1, rfl, hs, by omega, g2, fun m2 h2 => g3 m2 (by simpa using h2), fun hl => ?_⟩
      have : r = [] := List.eq_nil_of_length_eq_zero (by simp only [List.length_cons] at hl; omega)
      exact g4 this
    | succ i =>
      obtain ⟨m', tm2, S2, q1, q2, q3, q4, q5, q6⟩ := g5 i o' (by simpa using ho)
      exact ⟨m', tm2, S2, by simpa using q1, q2, by omega, q4, fun m2 h2 => q5 m2 (by simpa using h2), fun hl => q6 (by simp only [List.length_cons] at hl; omega)⟩

def Wt (l : List Oper) (ms : List Mk) (i : Nat) (t : Nat) : Option (Option D) :=
  match l[i]?, ms[i]? with
  | some o, some m => if o.dst = some t then some (some m.d) else none
  | _, _ => none
def Ws (ms : List Mk) (i : Nat) (n : Nat) : Option (Option Blk) :=
  match ms[i]? with
  | some m => lk m.out n
  | none => none

theorem lk_put (dst : Option Nat) (d : D) (tm : Tm) (t : Nat) : lk (put dst d tm) t = if dst = some t then some d else lk tm t := by
  cases dst with
  | none => simp [put]
  | some t0 =>
    simp only [put, lk_cons]
    by_cases e : t0 = t
    · simp [e]
    · simp [e]

section
variable {l : List Oper} {tm : Tm} {S : Store} {nx : Nat} {ms : List Mk} {tmf : Tm} {Sf : Store} {nxf : Nat} (hr : Run E ops l tm S nx ms tmf Sf nxf)
include hr
omit hr in
theorem run_step {i : Nat} {o : Oper} {m : Mk} (ho : l[i]? = some o) (hm : ms[i]? = some m) (t : Nat) : lk (put o.dst m.d m.tm) t = (Wt l ms i t).getD (lk m.tm t) := by
  rw [lk_put]
  simp only [Wt, ho, hm]
  by_cases e : o.dst = some t <;> simp [e]
theorem run_at : ∀ (i : Nat) (m : Mk), ms[i]? = some m → (∀ t, lk m.tm t = atL (Wt l ms) (lk tm) all_ i t) ∧ (∀ n, lk m.S n = atL (Ws ms) (lk S) all_ i n) ∧ ∀ (j : Nat) (m' : Mk), j < i → ms[j]? = some m' → m'.nx' ≤ m.nx := by
  obtain ⟨g1, g2, g3, g4, g5⟩ := run_get l tm S nx ms tmf Sf nxf hr
  intro i
  induction i with
  | zero =>
    intro m hm
    obtain ⟨e1, e2, e3⟩ := g3 m hm
    exact ⟨fun t => by rw [e1]; rfl, fun n => by rw [e2]; rfl, fun j _ hj => by omega⟩
  | succ i ih =>
    intro m hm
    have hi : i < l.length := by rw [← g1]; have := (List.getElem?_eq_some_iff.1 hm).1; omega
    obtain ⟨m0, tm1, S1, q1, q2, q3, q4, q5, q6⟩ := g5 i l[i] (List.getElem?_eq_getElem hi)
    obtain ⟨e1, e2, e3⟩ := q5 m hm
    obtain ⟨f1, f2, f3⟩ := ih m0 q1
    refine ⟨fun t => ?_, fun n => ?_, fun j m' hj hm' => ?_⟩
    · rw [e1, q2.tm', run_step (List.getElem?_eq_getElem hi) q1, f1]
      simp [atL, all_]
    · rw [e2, q2.S', lk_ap, f2]
      have hws : Ws ms i n = lk m0.out n := by simp only [Ws, q1]
      simp only [atL, all_, if_true, hws]
      cases lk m0.out n <;> rfl
    · rw [e3]
      by_cases e : j = i
      · subst e
        rw [q1] at hm'
        cases hm'
        exact Nat.le_refl _
      · have := f3 j m' (by omega) hm'
        have := q2.le
        omega
theorem run_end : (∀ t, lk tmf t = atL (Wt l ms) (lk tm) all_ l.length t) ∧ (∀ n, lk Sf n = atL (Ws ms) (lk S) all_ l.length n) := by
  obtain ⟨g1, g2, g3, g4, g5⟩ := run_get l tm S nx ms tmf Sf nxf hr
  cases hl : l.length with
  | zero =>
    have := List.eq_nil_of_length_eq_zero hl
    obtain ⟨e1, e2, _⟩ := g4 this
    exact ⟨fun t => by rw [e1]; rfl, fun n => by rw [e2]; rfl⟩
  | succ k =>
    have hk : k < l.length := by omega
    obtain ⟨m0, tm1, S1, q1, q2, q3, q4, q5, q6⟩ := g5 k l[k] (List.getElem?_eq_getElem hk)
    obtain ⟨e1, e2, e3⟩ := q6 (by omega)
    obtain ⟨f1, f2, f3⟩ := run_at hr k m0 q1
    refine ⟨fun t => ?_, fun n => ?_⟩
    · rw [e1, q2.tm', run_step (List.getElem?_eq_getElem hk) q1, f1]
      simp [atL, all_]
    · rw [e2, q2.S', lk_ap, f2]
      have hws : Ws ms k n = lk m0.out n := by simp only [Ws, q1]
      simp only [atL, all_, if_true, hws]
      cases lk m0.out n <;> rfl
end

theorem edgesB_get : ∀ {l : List Oper} {k : Nat}, edgesB l k = true → ∀ (j : Nat) (o : Oper), l[j]? = some o → ∀ e ∈ o.after.toList, Region.binds .any e = true → e.on < k + j
  | [], k, h, j, o, hj => by simp at hj
  | o0 :: r, k, h, j, o, hj => by
    simp only [edgesB, Bool.and_eq_true] at h
    obtain ⟨h1, h2⟩ := h
    cases j with
    | zero =>
      simp at hj
      subst hj
      intro e he hb
      have := List.all_eq_true.1 h1 e he
      simp only [Bool.or_eq_true, Bool.not_eq_true'] at this
      rcases this with h | h
      · rw [hb] at h; cases h
      · exact Nat.le_of_ble_eq_true h
    | succ j =>
      intro e he hb
      have := edgesB_get h2 j o (by simpa using hj) e he hb
      omega

theorem draw_sound {Q : Exit → Act → World → Prop} {tm : Tm} {S : Store} {nx : Nat} {ms : List Mk} {tmf : Tm} {Sf : Store} {nxf : Nat} (hQ : ∀ a w ρ, R E cx tmf Sf a w ρ → Fresh nxf ρ → Q .normal a w)
    (hr : Run E ops ops.toList tm S nx ms tmf Sf nxf) (hd : drawB ops (ms.map (·.fp)) = true) (hok : opersOk cx.N ops.toList = true) {a : Act} {w : World} {ρ : Nat → Option Value} (h : R E cx tm S a w ρ) (hf : Fresh nx ρ) :
    wpAny E.P .any ops Q ops.size (Array.replicate ops.size false) a w := by
  obtain ⟨g1, g2, g3, g4, g5⟩ := run_get ops.toList tm S nx ms tmf Sf nxf hr
  simp only [drawB, Bool.and_eq_true] at hd
  obtain ⟨⟨hed, _⟩, hcl⟩ := hd
  have hlen : ops.toList.length = ops.size := by simp
  have ho_of : ∀ (i : Nat) (o : Oper), ops[i]? = some o → ops.toList[i]? = some o := fun i o h => by simpa using h
  -- the bits
  have hbits := aheads_spec ops.toList []
  simp only [List.length_nil, Nat.zero_add] at hbits
  have hbit : ∀ (j : Nat) (o : Oper), ops[j]? = some o → ∀ i, bitAt ((aheads ops.toList []).getD j 0) i = true → ∃ e ∈ o.after.toList, Region.binds .any e = true ∧ (i = e.on ∨ bitAt ((aheads ops.toList []).getD e.on 0) i = true) :=
    fun j o ho => hbits.2.2 j o (ho_of j o ho) (fun e he hb => by have := edgesB_get hed j o (ho_of j o ho) e he hb; omega)
  -- what two operations do to one another
  have hclear : ∀ (i j : Nat) (oi oj : Oper) (mi mj : Mk), i < j → ops[i]? = some oi → ops[j]? = some oj → ms[i]? = some mi → ms[j]? = some mj →
      bitAt ((aheads ops.toList []).getD j 0) i = true ∨ ((∀ n, n ∈ mj.fp.wr → n ∉ mi.fp.all) ∧ (∀ n, n ∈ mi.fp.wr → n ∉ mj.fp.all) ∧ (∀ t, oj.dst = some t → t ∉ mentions ops oi) ∧ ∀ t, oi.dst = some t → t ∉ mentions ops oj) := by
    intro i j oi oj mi mj hij hoi hoj hmi hmj
    have h1 := clearAll_get hcl rfl j oj mj.fp (ho_of j oj hoj) (by simp [hmj])
    have h2 := clearOf_get h1 i mi.fp (mentions ops oi) oi.dst (by
      have hz : (ops.toList.zip (ms.map (·.fp)))[i]? = some (oi, mi.fp) := by
        rw [List.getElem?_zip_eq_some]
        exact ⟨ho_of i oi hoi, by simp [hmi]⟩
      simp only [List.nil_append, List.getElem?_map]
      rw [List.getElem?_take, if_pos hij, hz]
      rfl)
    simpa using h2
  have key : ∀ (fuel : Nat) (listed : Array Bool) (a : Act) (w : World), listed.size = ops.size → (∀ j, listed.getD j false = true → ∀ i, bitAt ((aheads ops.toList []).getD j 0) i = true → listed.getD i false = true) →
      cntL (fun i => listed.getD i false) ops.size ≤ fuel →
      (∃ TM ST ρ, R E cx TM ST a w ρ ∧ (∀ t, lk TM t = atL (Wt ops.toList ms) (lk tm) (fun i => listed.getD i false) ops.size t) ∧ (∀ n, lk ST n = atL (Ws ms) (lk S) (fun i => listed.getD i false) ops.size n) ∧
        (∀ i m, ms[i]? = some m → listed.getD i false = false → ∀ k, m.nx ≤ k → k < m.nx' → ρ k = none) ∧ ∀ k, nxf ≤ k → ρ k = none) → wpAny E.P .any ops Q fuel listed a w := by
    intro fuel
    induction fuel with
    | zero =>
      intro listed a w hsz hdc hcnt hst
      have hall := cntL_zero (L := fun i => listed.getD i false) ops.size (by omega)
      refine ⟨?_, ?_⟩
      · cases hrd : Region.ready .any ops listed with
        | nil => rfl
        | cons i r =>
          have hi : i ∈ Region.ready .any ops listed := by rw [hrd]; simp
          obtain ⟨h1, o, h2, _⟩ := mem_ready.1 hi
          have hlt : i < ops.size := (Array.getElem?_eq_some_iff.1 h2).1
          have := hall i hlt
          have hls : i < listed.size := by omega
          simp [Array.getD, hls] at h1 this
          rw [h1] at this
          cases this
      · obtain ⟨TM, ST, ρ, q1, q2, q3, q4, q5⟩ := hst
        have e := run_end hr
        rw [hlen] at e
        refine hQ a w ρ (q1.ext (fun t => ?_) (fun n => ?_)) q5
        · rw [e.1, q2]; exact (atL_upto (fun m hm _ => hall m hm) _ (Nat.le_refl _)).symm
        · rw [e.2, q3]; exact (atL_upto (fun m hm _ => hall m hm) _ (Nat.le_refl _)).symm
    | succ fuel ih =>
      intro listed a w hsz hdc hcnt hst
      constructor
      · intro hrd
        -- all are listed
        have hall : ∀ i, i < ops.size → listed.getD i false = true := by
          intro i
          induction i using Nat.strongRecOn with
          | _ i ihi =>
            intro hi
            cases hl : listed.getD i false with
            | true => rfl
            | false =>
              have hls : i < listed.size := by omega
              have ho : ops[i]? = some ops[i] := by simp [hi]
              have : i ∈ Region.ready .any ops listed := by
                refine mem_ready.2 ⟨?_, ops[i], ho, fun e he hb => ?_⟩
                · simp [Array.getD, hls] at hl ⊢; exact hl
                · have hlt := edgesB_get hed i ops[i] (ho_of i _ ho) e (by simpa using he) hb
                  exact ihi e.on (by omega) (by omega)
              rw [hrd] at this
              cases this
        obtain ⟨TM, ST, ρ, q1, q2, q3, q4, q5⟩ := hst
        have e := run_end hr
        rw [hlen] at e
        refine hQ a w ρ (q1.ext (fun t => ?_) (fun n => ?_)) q5
        · rw [e.1, q2]; exact (atL_upto (fun m hm _ => hall m hm) _ (Nat.le_refl _)).symm
        · rw [e.2, q3]; exact (atL_upto (fun m hm _ => hall m hm) _ (Nat.le_refl _)).symm
      · intro i hi
        obtain ⟨h1, o, ho, hedges⟩ := mem_ready.1 hi
        have hlt : i < ops.size := (Array.getElem?_eq_some_iff.1 ho).1
        have hls : i < listed.size := by omega
        have hLi : listed.getD i false = false := by simp [Array.getD, hls] at h1 ⊢; exact h1
        obtain ⟨TM, ST, ρ, q1, q2, q3, q4, q5⟩ := hst
        obtain ⟨m, tm1, S1, hm, hs, hnx, hnx', _, _⟩ := g5 i o (ho_of i o ho)
        obtain ⟨f1, f2, f3⟩ := run_at hr i m hm
        -- what is ahead is listed
        have hahead : ∀ j, bitAt ((aheads ops.toList []).getD i 0) j = true → listed.getD j false = true := by
          intro j hj
          obtain ⟨e, he, hb, hor⟩ := hbit i o ho j hj
          have hle := hedges e (by simpa using he) hb
          rcases hor with rfl | hor
          · exact hle
          · exact hdc e.on hle j hor
        have hbehind : ∀ j, bitAt ((aheads ops.toList []).getD j 0) i = true → listed.getD j false = false := by
          intro j hj
          cases hl : listed.getD j false with
          | false => rfl
          | true => rw [hdc j hl i hj] at hLi; cases hLi
        have wS : ∀ (j : Nat) (mj : Mk) (n : Nat), ms[j]? = some mj → (Ws ms j n).isSome → n ∈ mj.fp.wr := by
          intro j mj n hj hw
          simp only [Ws, hj] at hw
          have hjl : j < ops.toList.length := by rw [← g1]; exact (List.getElem?_eq_some_iff.1 hj).1
          obtain ⟨m', _, _, e1, e2, _⟩ := g5 j _ (List.getElem?_eq_getElem hjl)
          rw [hj] at e1
          cases e1
          exact e2.wr n (by intro hn; rw [hn] at hw; cases hw)
        have wT : ∀ (j : Nat) (oj : Oper) (t : Nat), ops[j]? = some oj → (Wt ops.toList ms j t).isSome → oj.dst = some t := by
          intro j oj t hj hw
          simp only [Wt, ho_of j oj hj] at hw
          cases hmj : ms[j]? with
          | none => rw [hmj] at hw; simp at hw
          | some mj =>
            rw [hmj] at hw
            simp only at hw
            by_cases e : oj.dst = some t
            · exact e
            · rw [if_neg e] at hw; cases hw
        have sub_of : ∀ (j : Nat) (mj : Mk) (n : Nat), ms[j]? = some mj → n ∈ mj.fp.wr → n ∈ mj.fp.all := by
          intro j mj n hj hn
          have hjl : j < ops.toList.length := by rw [← g1]; exact (List.getElem?_eq_some_iff.1 hj).1
          obtain ⟨m', _, _, e1, e2, _⟩ := g5 j _ (List.getElem?_eq_getElem hjl)
          rw [hj] at e1
          cases e1
          exact e2.sub n hn
        have dst_men : ∀ (oj : Oper) t, oj.dst = some t → t ∈ mentions ops oj := by
          intro oj t ht
          unfold mentions
          rw [ht]
          simp
        have noneOr : ∀ {β : Type} (x : Option β), x.isSome = true ∨ x = none := by intro β x; cases x <;> simp
        have ms_of : ∀ j, j < ops.size → ∃ mj, ms[j]? = some mj := by
          intro j hj
          exact ⟨_, List.getElem?_eq_getElem (by rw [g1, hlen]; exact hj)⟩
        have ops_of : ∀ j, j < ops.size → ∃ oj, ops[j]? = some oj := fun j hj => ⟨ops[j], by simp [hj]⟩
        -- the slots that the operation looks at
        have rdT : ∀ t, t ∈ mentions ops o → lk TM t = lk m.tm t := by
          intro t ht
          rw [q2, f1]
          refine atL_ready (Nat.le_of_lt hlt) (fun j hj hw => ?_) (fun j h1 h2 hl => ?_)
          · obtain ⟨oj, hoj⟩ := ops_of j (by omega)
            obtain ⟨mj, hmj⟩ := ms_of j (by omega)
            have hdj := wT j oj t hoj hw
            rcases hclear j i oj o mj m hj hoj ho hmj hm with hb | ⟨_, _, _, c4⟩
            · exact hahead j hb
            · exact absurd ht (c4 t hdj)
          · rcases noneOr (Wt ops.toList ms j t) with hw | hw
            · obtain ⟨oj, hoj⟩ := ops_of j h2
              obtain ⟨mj, hmj⟩ := ms_of j h2
              have hdj := wT j oj t hoj hw
              by_cases e : j = i
              · subst e; replace hl : listed.getD _ false = true := hl; rw [hLi] at hl; cases hl
              · rcases hclear i j o oj m mj (by omega) ho hoj hm hmj with hb | ⟨_, _, c3, _⟩
                · replace hl : listed.getD _ false = true := hl; rw [hbehind j hb] at hl; cases hl
                · exact absurd ht (c3 t hdj)
            · exact hw
        have rdS : ∀ n, n ∈ m.fp.all → lk ST n = lk m.S n := by
          intro n hn
          rw [q3, f2]
          refine atL_ready (Nat.le_of_lt hlt) (fun j hj hw => ?_) (fun j h1 h2 hl => ?_)
          · obtain ⟨oj, hoj⟩ := ops_of j (by omega)
            obtain ⟨mj, hmj⟩ := ms_of j (by omega)
            have hdj := wS j mj n hmj hw
            rcases hclear j i oj o mj m hj hoj ho hmj hm with hb | ⟨_, c2, _, _⟩
            · exact hahead j hb
            · exact absurd hn (c2 n hdj)
          · rcases noneOr (Ws ms j n) with hw | hw
            · obtain ⟨oj, hoj⟩ := ops_of j h2
              obtain ⟨mj, hmj⟩ := ms_of j h2
              have hdj := wS j mj n hmj hw
              by_cases e : j = i
              · subst e; replace hl : listed.getD _ false = true := hl; rw [hLi] at hl; cases hl
              · rcases hclear i j o oj m mj (by omega) ho hoj hm hmj with hb | ⟨c1, _, _, _⟩
                · replace hl : listed.getD _ false = true := hl; rw [hbehind j hb] at hl; cases hl
                · exact absurd hn (c1 n hdj)
            · exact hw
        have hL' : (fun j => (listed.setIfInBounds i true).getD j false) = setL (fun j => listed.getD j false) i := by
          funext j
          by_cases e : j = i
          · subst e
            simp [setL, Array.getD, hls]
          · rw [getD_set_ne false (Ne.symm e)]
            simp [setL, e]
        -- behind it
        have next : ∀ (a' : Act) (w' : World) (ρ' : Nat → Option Value), R E cx (put o.dst m.d TM) (ap m.out ST) a' w' ρ' → (∀ n, ¬ (m.nx ≤ n ∧ n < m.nx') → ρ' n = ρ n) → wpAny E.P .any ops Q fuel (listed.setIfInBounds i true) a' w' := by
          intro a' w' ρ' hR hρ
          refine ih _ a' w' (by simp [hsz]) (fun j hj k hk => ?_) ?_ ⟨_, _, ρ', hR, fun t => ?_, fun n => ?_, fun j mj hmj hlj k k1 k2 => ?_, fun k hk => ?_⟩
          · have e1 := congrFun hL' j
            have e2 := congrFun hL' k
            rw [e1] at hj
            rw [e2]
            simp only [setL] at hj ⊢
            by_cases ek : k = i
            · simp [ek]
            · rw [if_neg ek]
              by_cases ej : j = i
              · subst ej; exact hahead k hk
              · rw [if_neg ej] at hj; exact hdc j hj k hk
          · rw [hL']
            have := cntL_set (L := fun j => listed.getD j false) hLi ops.size hlt
            omega
          · rw [hL', lk_put]
            have hset := atL_set (W := Wt ops.toList ms) (base := lk tm) (L := fun j => listed.getD j false) (c := t) hlt hLi (fun hw j h1 h2 hl => by
              rcases noneOr (Wt ops.toList ms j t) with hwj | hwj
              · obtain ⟨oj, hoj⟩ := ops_of j h2
                obtain ⟨mj, hmj⟩ := ms_of j h2
                have d1 := wT i o t ho hw
                have d2 := wT j oj t hoj hwj
                rcases hclear i j o oj m mj h1 ho hoj hm hmj with hb | ⟨_, _, c3, _⟩
                · replace hl : listed.getD _ false = true := hl; rw [hbehind j hb] at hl; cases hl
                · exact absurd (dst_men o t d1) (c3 t d2)
              · exact hwj)
            rw [hset, ← q2]
            simp only [Wt, ho_of i o ho, hm]
            by_cases e : o.dst = some t <;> simp [e]
          · rw [hL', lk_ap]
            have hset := atL_set (W := Ws ms) (base := lk S) (L := fun j => listed.getD j false) (c := n) hlt hLi (fun hw j h1 h2 hl => by
              rcases noneOr (Ws ms j n) with hwj | hwj
              · obtain ⟨oj, hoj⟩ := ops_of j h2
                obtain ⟨mj, hmj⟩ := ms_of j h2
                have d1 := wS i m n hm hw
                have d2 := wS j mj n hmj hwj
                rcases hclear i j o oj m mj h1 ho hoj hm hmj with hb | ⟨c1, _, _, _⟩
                · replace hl : listed.getD _ false = true := hl; rw [hbehind j hb] at hl; cases hl
                · exact absurd (sub_of i m n hm d1) (c1 n d2)
              · exact hwj)
            rw [hset, ← q3]
            have : Ws ms i n = lk m.out n := by simp only [Ws, hm]
            rw [this]
            cases lk m.out n <;> rfl
          · have hji : j ≠ i := by
              rintro rfl
              have := congrFun hL' j
              rw [this] at hlj
              simp [setL] at hlj
            have hlj' : listed.getD j false = false := by rw [getD_set_ne false (Ne.symm hji)] at hlj; exact hlj
            have hout : ¬ (m.nx ≤ k ∧ k < m.nx') := by
              rintro ⟨p1, p2⟩
              rcases Nat.lt_or_gt_of_ne hji with hlt2 | hgt
              · have := f3 j mj hlt2 hmj
                omega
              · have := (run_at hr j mj hmj).2.2 i m hgt hm
                omega
            rw [hρ k hout]
            exact q4 j mj hmj hlj' k k1 k2
          · rw [hρ k (by omega)]
            exact q5 k hk
        have hdst := operOk_dst (N := cx.N) (o := o) (by
          have all : ∀ (l : List Oper), opersOk cx.N l = true → ∀ o ∈ l, operOk cx.N o = true := by
            intro l
            induction l with
            | nil => intro _ o h; cases h
            | cons p r ih =>
              intro h o ho
              simp only [opersOk, Bool.and_eq_true] at h
              rcases List.mem_cons.1 ho with rfl | ho
              · exact h.1
              · exact ih h.2 o ho
          exact all _ hok o (List.mem_of_getElem? (ho_of i o ho)))
        have hwant : wantedA ops o TM = some m.go := by
          rw [← hs.want]
          unfold wantedA
          cases hg : o.guard with
          | none => rfl
          | some g =>
            obtain ⟨j, want⟩ := g
            simp only
            cases hj : (ops[j]?).bind (·.dst) with
            | none => rfl
            | some t =>
              simp only
              rw [rdT t (by unfold mentions; rw [hg]; simp only [hj]; simp)]
        have hwv := wanted_of q1 hwant
        show wpOp E.P ops Q i _ a w
        unfold wpOp
        rw [ho]
        simp only [hwv]
        cases hgo : m.go with
        | true =>
          rw [if_pos rfl]
          left
          have hst := hs.run hgo cx TM ST a w ρ Q hdst (fun x hx => by
            cases x with
            | tmp t =>
              simp only [ev]
              refine rdT t ?_
              unfold mentions
              simp only [List.mem_append, List.mem_filterMap]
              exact .inr ⟨.tmp t, by simpa using hx, rfl⟩
            | _ => rfl) rdS q1 (fun n n1 n2 => q4 i m hm hLi n n1 n2)
          exact Oper.wp_mono (fun a' w' hn => let ⟨ρ', k1, k2⟩ := hn; next a' w' ρ' k1 k2) hst
        | false =>
          rw [if_neg (by simp)]
          obtain ⟨k1, k2, k3⟩ := hs.skip hgo
          refine next _ w ρ ?_ (fun _ _ => rfl)
          rw [k1, k2]
          exact q1.value hdst VR.undef
  refine key ops.size (Array.replicate ops.size false) a w (by simp) (fun j hj => ?_) ?_ ⟨tm, S, ρ, h, fun t => ?_, fun n => ?_, fun i m hm _ k k1 k2 => hf k ?_, fun k hk => hf k (by omega)⟩
  · rw [getD_replicate] at hj; cases hj
  · have : ∀ n, cntL (fun i => (Array.replicate ops.size false).getD i false) n ≤ n := by
      intro n
      induction n with
      | zero => simp [cntL]
      | succ n ih => simp only [cntL]; split <;> omega
    exact this _
  · have : ∀ n, atL (Wt ops.toList ms) (lk tm) (fun i => (Array.replicate ops.size false).getD i false) n t = lk tm t := by
      intro n
      induction n with
      | zero => rfl
      | succ n ih => simp only [atL, getD_replicate, Bool.false_eq_true, if_false] at ih ⊢; exact ih
    exact (this _).symm
  · have : ∀ k, atL (Ws ms) (lk S) (fun i => (Array.replicate ops.size false).getD i false) k n = lk S n := by
      intro k
      induction k with
      | zero => rfl
      | succ k ih => simp only [atL, getD_replicate, Bool.false_eq_true, if_false] at ih ⊢; exact ih
    exact (this _).symm
  · have hi : i < ops.toList.length := by rw [← g1]; exact (List.getElem?_eq_some_iff.1 hm).1
    obtain ⟨m', _, _, e1, _, e3, _⟩ := g5 i _ (List.getElem?_eq_getElem hi)
    rw [hm] at e1
    cases e1
    omega
where
  getD_replicate {n j : Nat} : (Array.replicate n false).getD j false = false := by
    simp only [Array.getD]
    split <;> simp
end
end Go.Ab
/- An abstract reading of the elaborated code. Part 18: turns of the view; a change of names. -/
namespace Go.Ab
open Go Go.RowKit

section
variable {E : Env} {cx : Cx} {tm : Tm} {S : Store} {nx : Nat} {a : Act} {w : World} {ρ : Nat → Option Value}

theorem preB_get : ∀ {k i : Nat} {ns : List Nat}, preB i k ns = true → ∀ j, j < k → ns[j]? = some (i + j)
  | 0, i, ns, h, j, hj => by omega
  | k + 1, i, [], h, j, hj => by simp [preB] at h
  | k + 1, i, n :: r, h, j, hj => by
    simp only [preB, Bool.and_eq_true] at h
    cases j with
    | zero => simp; exact Nat.eq_of_beq_eq_true h.1
    | succ j =>
      have := preB_get h.2 j (by omega)
      simp only [List.getElem?_cons_succ, this]
      congr 1
      omega

theorem lk_carS (ns : List Nat) (S : Store) : ∀ (l : List Nat) (k i : Nat), lk (carS ns S l k) i = if k ≤ i then ((l[i - k]?).bind (lk S)).map (carB ns) else none
  | [], k, i => by simp [carS, lk]
  | n :: r, k, i => by
    have ih := lk_carS ns S r (k + 1) i
    have step : i ≠ k → (if k ≤ i then (((n :: r)[i - k]?).bind (lk S)).map (carB ns) else none) = lk (carS ns S r (k + 1)) i := by
      intro hne
      rw [ih]
      by_cases hk : k + 1 ≤ i
      · rw [if_pos hk, if_pos (by omega)]
        have : i - k = (i - (k + 1)) + 1 := by omega
        rw [this]
        simp
      · rw [if_neg hk, if_neg (by omega)]
    simp only [carS]
    cases hl : lk S n with
    | none =>
      simp only
      by_cases hik : i = k
      · subst hik
        rw [ih, if_neg (by omega)]
        simp [hl]
      · rw [step hik]
    | some b =>
      simp only [lk_cons]
      by_cases hik : i = k
      · subst hik
        simp [hl]
      · rw [if_neg (Ne.symm hik), step hik]

theorem live_carB (ns : List Nat) (b : Blk) : live (carB ns b) = live b := by cases b <;> rfl
theorem held_car {ns : List Nat} {x : Nat} (h : Held (carS ns S ns 0) (carρ ns ρ) x) : ∃ (i n : Nat) (b : Blk), ns[i]? = some n ∧ lk S n = some b ∧ live b = true ∧ (ρ n).bind blkOf = some x := by
  obtain ⟨i, b, hl, hlv, hx⟩ := h
  rw [lk_carS, if_pos (Nat.zero_le _)] at hl
  simp only [Nat.sub_zero] at hl
  cases hn : ns[i]? with
  | none => rw [hn] at hl; simp at hl
  | some n =>
    rw [hn] at hl
    simp only [Option.bind_some, Option.map_eq_some_iff] at hl
    obtain ⟨b0, h1, rfl⟩ := hl
    rw [live_carB] at hlv
    exact ⟨i, n, b0, hn, h1, hlv, by simpa [carρ, hn] using hx⟩
theorem VA.car {Av Av' : Nat → Prop} {ns : List Nat} (hi : ∀ d u, VI w Av d u → VI w Av' d u) {d d' : D} {u : Value} (h : VA w Av ρ d u) (hc : carA ns d = some d') : VA w Av' (carρ ns ρ) d' u := by
  cases h with
  | im h =>
    cases h with
    | fn f =>
      simp only [carA, posAll, Option.some.injEq] at hc
      subst hc
      exact .im (.fn f)
    | b => simp [carA] at hc; subst hc; exact .im (hi _ _ (.b _))
    | k => simp [carA] at hc; subst hc; exact .im (hi _ _ (.k _ _))
    | s => simp [carA] at hc; subst hc; exact .im (hi _ _ (.s _))
    | v h => simp [carA] at hc; subst hc; exact .im (hi _ _ (.v h))
    | nil => simp [carA] at hc; subst hc; exact .im (hi _ _ .nil)
    | sl0 => simp [carA] at hc; subst hc; exact .im (hi _ _ .sl0)
    | sl U a1 a2 a3 a4 a5 a6 a7 a8 a9 => simp [carA] at hc; subst hc; exact .im (hi _ _ (.sl U a1 a2 a3 a4 a5 a6 a7 a8 a9))
    | ep U a1 a2 a3 a4 a5 => simp [carA] at hc; subst hc; exact .im (hi _ _ (.ep U a1 a2 a3 a4 a5))
    | agg hl h1 hr => simp [carA] at hc; subst hc; exact .im (hi _ _ (.agg hl h1 hr))
  | own h h1 =>
    simp only [carA] at hc
    split at hc
    · rename_i i hp
      cases hc
      exact .own (by simp [carρ, posOf_get hp, h]) h1
    · cases hc
  | bp h =>
    simp only [carA] at hc
    split at hc
    · rename_i i hp
      cases hc
      exact .bp (by simp [carρ, posOf_get hp, h])
    · cases hc
  | op h => simp [carA] at hc
  | @fn f cs us hl h =>
    simp only [carA] at hc
    split at hc
    · rename_i qs hq
      cases hc
      obtain ⟨q1, q2⟩ := posAll_get hq
      refine .fn (by rw [q1, hl]) fun i m u hm hu => ?_
      have hlt : i < cs.length := by rw [← q1]; exact (List.getElem?_eq_some_iff.1 hm).1
      obtain ⟨h1, h2⟩ := h i cs[i] u (List.getElem?_eq_getElem hlt) hu
      exact ⟨by simp [carρ, q2 i cs[i] m (List.getElem?_eq_getElem hlt) hm, h1], h2⟩
    · cases hc
  | junk h1 => simp [carA] at hc
theorem carAs_spec (ns : List Nat) : ∀ (ds : List D), (carAs ns ds).length = ds.length ∧ ∀ (i : Nat) (d' : D), (carAs ns ds)[i]? = some d' → ∃ d, ds[i]? = some d ∧ (carA ns d = some d' ∨ d' = .junk)
  | [] => by simp [carAs]
  | d :: r => by
    obtain ⟨i1, i2⟩ := carAs_spec ns r
    simp only [carAs]
    split
    · rename_i d1 hd1
      refine ⟨by simp [i1], fun i d' h => ?_⟩
      cases i with
      | zero => simp at h; subst h; exact ⟨d, rfl, .inl hd1⟩
      | succ i => simpa using i2 i d' (by simpa using h)
    · refine ⟨by simp [i1], fun i d' h => ?_⟩
      cases i with
      | zero => simp at h; subst h; exact ⟨d, rfl, .inr rfl⟩
      | succ i => simpa using i2 i d' (by simpa using h)
theorem cells_car {Av Av' : Nat → Prop} {ns : List Nat} (hi : ∀ d u, VI w Av d u → VI w Av' d u) {ds : List D} {us : List Value} (h1 : ∀ u ∈ us, u.oneCell' = true)
    (h : ∀ (i : Nat) (d : D) (u : Value), ds[i]? = some d → us[i]? = some u → VA w Av ρ d u) :
    ∀ (i : Nat) (d : D) (u : Value), (carAs ns ds)[i]? = some d → us[i]? = some u → VA w Av' (carρ ns ρ) d u := by
  intro i d' u hd hu
  obtain ⟨d, e1, e2⟩ := (carAs_spec ns ds).2 i d' hd
  rcases e2 with e2 | rfl
  · exact (h i d u e1 hu).car hi e2
  · exact .junk (h1 _ (List.mem_of_getElem? hu))
theorem VG.car {Av Av' : Nat → Prop} {ns : List Nat} (hi : ∀ d u, VI w Av d u → VI w Av' d u) {d d' : D} {u : Value} (h : VG w Av ρ d u) (hc : carD ns d = some d') : VG w Av' (carρ ns ρ) d' u := by
  by_cases ha : ∃ ds, d = .agg ds
  · obtain ⟨ds, rfl⟩ := ha
    simp only [carD, Option.some.injEq] at hc
    subst hc
    obtain ⟨us, rfl, hl, h1, hr⟩ := (VR.gr h).agg_inv
    exact .agg (by rw [(carAs_spec ns ds).1]; exact hl) h1 (cells_car hi h1 hr)
  · have hd : carD ns d = carA ns d ∨ carD ns d = none := by cases d <;> first | exact .inl rfl | exact .inr rfl | exact absurd ⟨_, rfl⟩ ha
    rcases hd with hd | hd
    · rw [hd] at hc
      cases h with
      | atom h => exact .atom (h.car hi hc)
      | agg => exact absurd ⟨_, rfl⟩ ha
    · rw [hd] at hc; cases hc
theorem VR.car {Av Av' : Nat → Prop} {ns : List Nat} (hi : ∀ d u, VI w Av d u → VI w Av' d u) {d d' : D} {u : Value} (h : VR w Av ρ d u) (hc : carD ns d = some d') : VG w Av' (carρ ns ρ) d' u := by
  cases h with
  | gr h => exact h.car hi hc
  | tup => simp [carD] at hc
theorem lk_carTm (ns : List Nat) : ∀ (ts : List Nat) (t : Nat) (d' : D), lk (carTm ns tm ts) t = some d' → ∃ d, lk tm t = some d ∧ carD ns d = some d'
  | [], t, d', h => by simp [carTm, lk] at h
  | t0 :: r, t, d', h => by
    simp only [carTm] at h
    split at h
    · rename_i d hd
      split at h
      · rename_i d1 hd1
        rw [lk_cons] at h
        by_cases e : t0 = t
        · subst e
          rw [if_pos rfl] at h
          cases h
          exact ⟨d, hd, hd1⟩
        · rw [if_neg e] at h
          exact lk_carTm ns r t d' h
      · exact lk_carTm ns r t d' h
    · exact lk_carTm ns r t d' h

theorem R.carry (h : R E cx tm S a w ρ) (ts : List Nat) {ns : List Nat} (hn : nodupB ns = true) (hp : preB 0 cx.k0 ns = true) :
    R E cx (carTm ns tm ts) (carS ns S ns 0) a w (carρ ns ρ) ∧ ∀ d u, VI w (AvS cx.G S ρ) d u → VI w (AvS cx.G (carS ns S ns 0) (carρ ns ρ)) d u := by
  have hheld : ∀ x, Held (carS ns S ns 0) (carρ ns ρ) x → Held S ρ x := fun x hx => let ⟨i, n, b, _, h2, h3, h4⟩ := held_car hx; ⟨n, b, h2, h3, h4⟩
  have hi : ∀ d u, VI w (AvS cx.G S ρ) d u → VI w (AvS cx.G (carS ns S ns 0) (carρ ns ρ)) d u := fun d u hv =>
    hv.mono (fun _ _ _ => rfl) (Nat.le_refl _) fun x _ hav => hav.imp id (hheld x)
  have look : ∀ i b, lk (carS ns S ns 0) i = some b → ∃ n b0, ns[i]? = some n ∧ lk S n = some b0 ∧ b = carB ns b0 := by
    intro i b hl
    rw [lk_carS, if_pos (Nat.zero_le _)] at hl
    simp only [Nat.sub_zero] at hl
    cases hn : ns[i]? with
    | none => rw [hn] at hl; simp at hl
    | some n =>
      rw [hn] at hl
      simp only [Option.bind_some, Option.map_eq_some_iff] at hl
      obtain ⟨b0, h1, h2⟩ := hl
      exact ⟨n, b0, rfl, h1, h2.symm⟩
  refine ⟨⟨fun t d' ht => ?_, fun i b hl => ?_, ?_, fun x hx => h.new x (hheld x hx), fun t u ht hu => ?_, fun g cs hg => hi _ _ (h.gl g cs hg), h.fr, h.g, h.gf, h.defers, h.num⟩, hi⟩
  · obtain ⟨d, e1, e2⟩ := lk_carTm ns ts t d' ht
    exact .gr ((h.tm t d e1).car hi e2)
  · obtain ⟨n, b0, e1, e2, rfl⟩ := look i b hl
    have hρ : carρ ns ρ i = ρ n := by simp [carρ, e1]
    cases b0 with
    | box e cs =>
      obtain ⟨g, us, f1, f2, f3, f4, f5⟩ := h.st n _ e2
      exact ⟨g, us, by rw [hρ]; exact f1, f2, by rw [(carAs_spec ns cs).1]; exact f3, f4, cells_car hi f4 f5⟩
    | own e xs =>
      obtain ⟨u, us, f1, f2, f3⟩ := h.st n _ e2
      exact ⟨u, us, by rw [hρ]; exact f1, f2, f3.mono hi⟩
    | row e xs =>
      obtain ⟨u, us, f1, f2, f3⟩ := h.st n _ e2
      refine ⟨u, us, by rw [hρ]; exact f1, by rw [List.length_map]; exact f2, ⟨by rw [List.length_map]; exact f3.len, fun cs hcs => ?_, f3.one, fun i' j cs d p q => ?_⟩⟩
      · obtain ⟨cs0, h0, rfl⟩ := List.mem_map.1 hcs
        rw [(carAs_spec ns cs0).1]; exact f3.el cs0 h0
      · simp only [List.getElem?_map, Option.map_eq_some_iff] at p
        obtain ⟨cs0, h0, rfl⟩ := p
        obtain ⟨d0, e3, e4⟩ := (carAs_spec ns cs0).2 j d q
        obtain ⟨u', g1, g2⟩ := f3.at_ i' j cs0 d0 h0 e3
        refine ⟨u', g1, ?_⟩
        rcases e4 with e4 | rfl
        · exact g2.car hi e4
        · exact .junk (f3.one _ (List.mem_of_getElem? g1))
    | fr xs =>
      obtain ⟨u, f1, f2⟩ := h.st n _ e2
      exact ⟨u, by rw [hρ]; exact f1, hi _ _ f2⟩
  · intro i j b b' x h1 h2 l1 l2 x1 x2
    obtain ⟨n, c, e1, e2, rfl⟩ := look i b h1
    obtain ⟨n', c', e1', e2', rfl⟩ := look j b' h2
    rw [live_carB] at l1 l2
    have := h.dis n n' c c' x e2 e2' l1 l2 (by simpa [carρ, e1] using x1) (by simpa [carρ, e1'] using x2)
    subst this
    exact nodupB_get hn i j n e1 e1'
  · have := preB_get hp t ht
    simp only [Nat.zero_add] at this
    simp only [carρ, this, Option.bind_some]
    exact h.keep t u ht hu
theorem fresh_car (ns : List Nat) : Fresh ns.length (carρ ns ρ) := by
  intro n hn
  simp [carρ, List.getElem?_eq_none hn]

/-! ice -/
theorem VA.ice {Av Av' : Nat → Prop} {n : Nat} {xs : List (List D)} (hi : ∀ d u, VI w Av d u → VI w Av' d u) (hx : ∀ u, ρ n = some u → VI w Av' (.sl xs) u) {d : D} {u : Value} (h : VA w Av ρ d u) : VA w Av' ρ (iceA n xs d) u := by
  cases h with
  | im h =>
    have : iceA n xs d = d := by cases h <;> rfl
    rw [this]
    exact .im (hi _ _ h)
  | own h h1 =>
    rename_i t
    simp only [iceA]
    split
    · rename_i hb
      have := Nat.eq_of_beq_eq_true hb
      subst this
      exact .im (hx _ h)
    · exact .own h h1
  | bp h => exact .bp h
  | op h => exact .op h
  | fn hl h => exact .fn hl h
  | junk h1 => exact .junk h1
theorem cells_ice {Av Av' : Nat → Prop} {n : Nat} {xs : List (List D)} (hi : ∀ d u, VI w Av d u → VI w Av' d u) (hx : ∀ u, ρ n = some u → VI w Av' (.sl xs) u) {ds : List D} {us : List Value}
    (h : ∀ (i : Nat) (d : D) (u : Value), ds[i]? = some d → us[i]? = some u → VA w Av ρ d u) : ∀ (i : Nat) (d : D) (u : Value), (ds.map (iceA n xs))[i]? = some d → us[i]? = some u → VA w Av' ρ d u := by
  intro i d u hd hu
  simp only [List.getElem?_map, Option.map_eq_some_iff] at hd
  obtain ⟨e, he, rfl⟩ := hd
  exact (h i e u he hu).ice hi hx
theorem VG.ice {Av Av' : Nat → Prop} {n : Nat} {xs : List (List D)} (hi : ∀ d u, VI w Av d u → VI w Av' d u) (hx : ∀ u, ρ n = some u → VI w Av' (.sl xs) u) {d : D} {u : Value} (h : VG w Av ρ d u) : VG w Av' ρ (iceD n xs d) u := by
  by_cases ha : ∃ ds, d = .agg ds
  · obtain ⟨ds, rfl⟩ := ha
    obtain ⟨us, rfl, hl, h1, hr⟩ := (VR.gr h).agg_inv
    exact .agg (by simpa using hl) h1 (cells_ice hi hx hr)
  · have hd : iceD n xs d = iceA n xs d := by cases d <;> first | rfl | exact absurd ⟨_, rfl⟩ ha
    rw [hd]
    cases h with
    | atom h => exact .atom (h.ice hi hx)
    | agg => exact absurd ⟨_, rfl⟩ ha
theorem VR.ice {Av Av' : Nat → Prop} {n : Nat} {xs : List (List D)} (hi : ∀ d u, VI w Av d u → VI w Av' d u) (hx : ∀ u, ρ n = some u → VI w Av' (.sl xs) u) {d : D} {u : Value} (h : VR w Av ρ d u) : VR w Av' ρ (iceD n xs d) u := by
  cases h with
  | gr h => exact .gr (h.ice hi hx)
  | tup hl h => exact .tup hl fun i d u p q => (h i d u p q).mono hi (fun _ _ h => h)
theorem live_iceB (n : Nat) (xs : List (List D)) (b : Blk) : live (iceB n xs b) = live b := by cases b <;> rfl
theorem R.ice (h0 : R E cx tm S a w ρ) {n : Nat} {xs : List (List D)} (hl0 : (∃ e, lk S n = some (.own e xs)) ∨ lk S n = some (.fr xs)) :
    R E cx (tm.map fun (t, d) => (t, iceD n xs d)) ((del n S).map fun (t, b) => (t, iceB n xs b)) a w ρ := by
  have h := h0.frz1 hl0
  obtain ⟨u0, hr0, hv0⟩ := h.st n (.fr xs) (by rw [lk_ap, lk_cons, if_pos rfl])
  have look : ∀ t b, lk ((del n S).map fun (t, b) => (t, iceB n xs b)) t = some b → t ≠ n ∧ ∃ b0, lk (ap [(n, some (.fr xs))] S) t = some b0 ∧ b = iceB n xs b0 := by
    intro t b hl
    rw [lk_map, lk_del] at hl
    by_cases e : t = n
    · rw [if_pos e] at hl; simp at hl
    · rw [if_neg e] at hl
      simp only [Option.map_eq_some_iff] at hl
      obtain ⟨b0, h1, h2⟩ := hl
      refine ⟨e, b0, ?_, h2.symm⟩
      rw [lk_ap, lk_cons, if_neg (Ne.symm e)]
      exact h1
  have hheld : ∀ x, Held ((del n S).map fun (t, b) => (t, iceB n xs b)) ρ x → Held (ap [(n, some (.fr xs))] S) ρ x := by
    rintro x ⟨t, b, hl, hv, hx⟩
    obtain ⟨_, b0, h1, rfl⟩ := look t b hl
    rw [live_iceB] at hv
    exact ⟨t, b0, h1, hv, hx⟩
  have hi : ∀ d u, VI w (AvS cx.G (ap [(n, some (.fr xs))] S) ρ) d u → VI w (AvS cx.G ((del n S).map fun (t, b) => (t, iceB n xs b)) ρ) d u := fun d u hv =>
    hv.mono (fun _ _ _ => rfl) (Nat.le_refl _) fun x _ hav => hav.imp id (hheld x)
  have hx : ∀ u, ρ n = some u → VI w (AvS cx.G ((del n S).map fun (t, b) => (t, iceB n xs b)) ρ) (.sl xs) u := by
    intro u hu
    rw [hr0] at hu
    cases hu
    exact hi _ _ hv0
  refine ⟨fun t d ht => ?_, fun t b hl => ?_, fun t t' b b' x h1 h2 l1 l2 x1 x2 => ?_, fun x hx => h.new x (hheld x hx), h.keep, fun g cs hg => hi _ _ (h.gl g cs hg), h.fr, h.g, h.gf, h.defers, h.num⟩
  · rw [lk_map] at ht
    simp only [Option.map_eq_some_iff] at ht
    obtain ⟨d0, e1, rfl⟩ := ht
    exact (h.tm t d0 e1).ice hi hx
  · obtain ⟨_, b0, e1, rfl⟩ := look t b hl
    cases b0 with
    | box e cs =>
      obtain ⟨g, us, f1, f2, f3, f4, f5⟩ := h.st t _ e1
      exact ⟨g, us, f1, f2, by simpa using f3, f4, cells_ice hi hx f5⟩
    | own e ys =>
      obtain ⟨u, us, f1, f2, f3⟩ := h.st t _ e1
      exact ⟨u, us, f1, f2, f3.mono hi⟩
    | row e ys =>
      obtain ⟨u, us, f1, f2, f3⟩ := h.st t _ e1
      refine ⟨u, us, f1, by rw [List.length_map]; exact f2, ⟨by rw [List.length_map]; exact f3.len, fun cs hcs => ?_, f3.one, fun i' j cs d p q => ?_⟩⟩
      · obtain ⟨cs0, h0, rfl⟩ := List.mem_map.1 hcs
        rw [List.length_map]; exact f3.el cs0 h0
      · simp only [List.getElem?_map, Option.map_eq_some_iff] at p
        obtain ⟨cs0, h0, rfl⟩ := p
        simp only [List.getElem?_map, Option.map_eq_some_iff] at q
        obtain ⟨d0, h1, rfl⟩ := q
        obtain ⟨u', g1, g2⟩ := f3.at_ i' j cs0 d0 h0 h1
        exact ⟨u', g1, g2.ice hi hx⟩
    | fr ys =>
      obtain ⟨u, f1, f2⟩ := h.st t _ e1
      exact ⟨u, f1, hi _ _ f2⟩
  · obtain ⟨_, c, e1, rfl⟩ := look t b h1
    obtain ⟨_, c', e2, rfl⟩ := look t' b' h2
    rw [live_iceB] at l1 l2
    exact h.dis t t' c c' x e1 e2 l1 l2 x1 x2

theorem R.slot (h : R E cx tm S a w ρ) {t : Nat} {d : D} (hv : VR w (AvS cx.G S ρ) ρ d (a.tmps.getD t undef)) : R E cx ((t, d) :: tm) S a w ρ := by
  refine ⟨fun t' d' hd => ?_, h.st, h.dis, h.new, h.keep, h.gl, h.fr, h.g, h.gf, h.defers, h.num⟩
  rw [lk_cons] at hd
  by_cases e : t = t'
  · subst e
    rw [if_pos rfl] at hd
    cases hd
    exact hv
  · rw [if_neg e] at hd
    exact h.tm t' d' hd
theorem R.again (h : R E cx tm S a w ρ) {t : Nat} {x : Bool} (ht : lk tm t = some (.b x)) : R E cx ((t, .b x) :: tm) S a w ρ := h.slot (h.tm t _ ht)
theorem isNil_eq {d : D} (h : isNil d = true) : d = .nil := by cases d <;> first | rfl | cases h
/-- a new slice of the call's own that has nothing -/
theorem R.thawed (h : R E cx tm S a w ρ) (hf : Fresh nx ρ) (e : TypeId) : R E cx tm ((nx, .own e []) :: S) a w (withName ρ nx (.slice none 0 0)) ∧ Fresh (nx + 1) (withName ρ nx (.slice none 0 0)) ∧
    VA w (AvS cx.G ((nx, .own e []) :: S) (withName ρ nx (.slice none 0 0))) (withName ρ nx (.slice none 0 0)) (.own nx) (.slice none 0 0) := by
  obtain ⟨h', _⟩ := h.own (hf nx (Nat.le_refl _)) (e := e) (xs := []) (us := []) (u := .slice none 0 0) (w' := w) ⟨by simp, by simp, by simp, by simp⟩ (Fr.refl _ w) (World.ownsRow_nil _ _ _ _)
  refine ⟨h'.ext (fun _ => rfl) (fun n => lk_ap_one' n), fun n hn => ?_, .own (withName_same _ _) rfl⟩
  rw [withName_other _ (by omega)]
  exact hf n (by omega)
theorem mv_sound {m : Mv} {tm' : Tm} {S' : Store} {nx' : Nat} (hm : mv m tm S nx = some (tm', S', nx')) (h : R E cx tm S a w ρ) (hf : Fresh nx ρ) : ∃ ρ', R E cx tm' S' a w ρ' ∧ Fresh nx' ρ' := by
  cases m with
  | ice n =>
    simp only [mv] at hm
    split at hm
    · rename_i e xs hl
      cases hm
      exact ⟨ρ, h.ice (.inl ⟨e, hl⟩), hf⟩
    · rename_i xs hl
      cases hm
      exact ⟨ρ, h.ice (.inr hl), hf⟩
    · cases hm
  | thaw t e =>
    simp only [mv] at hm
    split at hm
    · rename_i d hd
      split at hm
      · rename_i hn
        cases hm
        have := isNil_eq hn
        subst this
        have hv := (h.tm t _ hd).nil_inv
        obtain ⟨h1, h2, h3⟩ := h.thawed hf e
        refine ⟨_, h1.slot ?_, h2⟩
        rw [hv]
        exact .gr (.atom h3)
      · cases hm
    · cases hm
  | thawB n i e =>
    simp only [mv] at hm
    split at hm
    · rename_i e' cs hl
      split at hm
      · rename_i d hd
        split at hm
        · rename_i hn
          cases hm
          have := isNil_eq hn
          subst this
          obtain ⟨h1, h2, h3⟩ := h.thawed hf e
          have hne : n ≠ nx := by
            rintro rfl
            obtain ⟨u, hu⟩ := h.named hl
            rw [hf n (Nat.le_refl _)] at hu
            cases hu
          have hl' : lk ((nx, Blk.own e []) :: S) n = some (.box e' cs) := by rw [lk_cons, if_neg (Ne.symm hne)]; exact hl
          refine ⟨_, ?_, h2⟩
          obtain ⟨b, us, f1, f2, f3, f4, f5⟩ := h1.st n _ hl'
          have hw := h1.write (b' := .box e' (cs.set i (.own nx))) hl' rfl (g := b) (by rw [f1]; rfl) (Fr.refl _ w |>.weaken fun _ h => h) fun hi => by
            refine ⟨b, us, f1, f2, by rw [List.length_set]; exact f3, f4, fun j d u p q => ?_⟩
            rw [List.getElem?_set] at p
            by_cases e1 : i = j
            · subst e1
              rw [if_pos rfl] at p
              split at p
              · cases p
                have hu : u = .slice none 0 0 := by
                  have := f5 i .nil u hd q
                  cases this with | im h => cases h; rfl
                subst hu
                exact h3.mono hi (fun _ _ h => h)
              · cases p
            · rw [if_neg e1] at p
              exact (f5 j d u p q).mono hi (fun _ _ h => h)
          refine hw.ext (fun _ => rfl) fun m => ?_
          rw [lk_ap]
          simp only [setB, lk_cons, lk_del]
          by_cases e1 : nx = m
          · have : n ≠ m := by rintro rfl; exact hne e1.symm
            simp [e1, this, lk]
          · by_cases e2 : n = m
            · simp [e1, e2]
            · simp [e1, e2, Ne.symm e2, lk]
        · cases hm
      · cases hm
    · cases hm
theorem mvs_sound : ∀ {l : List Mv} {tm : Tm} {S : Store} {nx : Nat} {ρ : Nat → Option Value} {tm' : Tm} {S' : Store} {nx' : Nat}, mvs l tm S nx = some (tm', S', nx') → R E cx tm S a w ρ → Fresh nx ρ → ∃ ρ', R E cx tm' S' a w ρ' ∧ Fresh nx' ρ'
  | [], _, _, _, _, _, _, _, hm, h, hf => by simp [mvs] at hm; obtain ⟨rfl, rfl, rfl⟩ := hm; exact ⟨_, h, hf⟩
  | m :: r, tm, S, nx, ρ, tm', S', nx', hm, h, hf => by
    simp only [mvs] at hm
    split at hm
    · rename_i tm1 S1 nx1 h1
      obtain ⟨ρ1, h2, h3⟩ := mv_sound h1 h hf
      exact mvs_sound hm h2 h3
    · cases hm
theorem land_sound {J : Tm → Store → Nat → Prop} (hj : landK cx.k0 tm S nx J) (h : R E cx tm S a w ρ) (hf : Fresh nx ρ) : ∃ tm' S' nx' ρ', R E cx tm' S' a w ρ' ∧ Fresh nx' ρ' ∧ J tm' S' nx' := by
  obtain ⟨ms, ts, ns, hj⟩ := hj
  split at hj
  · rename_i tm1 S1 nx1 hm
    obtain ⟨h1, h2, h3⟩ := hj
    obtain ⟨ρ1, h4, h5⟩ := mvs_sound hm h hf
    exact ⟨_, _, _, _, (h4.carry ts h1 h2).1, fresh_car ns, h3⟩
  · exact hj.elim
end
end Go.Ab
/- An abstract reading of the elaborated code. Part 19: the code, and the contract of a function. -/
namespace Go.Ab
open Go Go.RowKit

section
variable {E : Env} {cx : Cx}

/-- what a step of the symbolic run promises of the machine -/
def Nx (E : Env) (cx : Cx) (K : Tm → Store → Nat → Prop) (a : Act) (w : World) : Prop :=
  ∃ tm S nx ρ, R E cx tm S a w ρ ∧ Fresh nx ρ ∧ K tm S nx
def exOf : Ex → Exit
  | .normal => .normal
  | .exit i => .exit i
  | .ret => .ret
def codeOk (N : Nat) : Code → Bool
  | .region _ ops _ => opersOk N ops.toList
  | .seq a b => codeOk N a && codeOk N b
  | .cond _ a b => codeOk N a && codeOk N b
  | .block _ b => codeOk N b
  | .loop b => codeOk N b
  | _ => true

theorem R.drew {tm : Tm} {S : Store} {a : Act} {w : World} {ρ : Nat → Option Value} (h : R E cx tm S a w ρ) : R E cx tm S a { w with drawn := w.drawn + 1 } ρ := by
  have hi : ∀ d u, VI w (AvS cx.G S ρ) d u → VI { w with drawn := w.drawn + 1 } (AvS cx.G S ρ) d u := fun d u hv => VI.mono (w := w) (w' := { w with drawn := w.drawn + 1 }) (fun _ _ _ => rfl) (Nat.le_refl _) (fun _ _ h => h) hv
  exact ⟨fun t d ht => (h.tm t d ht).mono hi fun _ _ h => h, fun t b hl => (h.st t b hl).mono hi (fun _ _ h => h) fun _ _ _ => rfl, h.dis, h.new, h.keep, fun g cs hg => hi _ _ (h.gl g cs hg), ⟨h.fr.os, h.fr.tape, h.fr.output, h.fr.size, h.fr.block⟩, h.g, h.gf, h.defers, h.num⟩
/-- a loop whose rounds lower a number that stands in no slot -/
theorem wp_loop_at {P : Program} {c : Code} {Q : Exit → Act → World → Prop} (I : Nat → Act → World → Prop) {m : Nat} {a : Act} {w : World} (h₀ : I m a w)
    (round : ∀ m a w, I m a w → c.wp P (Exit.then (fun a' w' => ∃ m', m' < m ∧ I m' a' w') Q) a w) : (Code.loop c).wp P Q a w := by
  intro b k cs
  have key : ∀ n a w, I n a w → ∃ e a' w', Q e a' w' ∧ Arrives P (lone (b.at a (.code c :: .inLoop c :: k)) cs w) b k cs e a' w' := by
    intro n
    induction n using Nat.strongRecOn with
    | _ n ih =>
      intro a w hI
      obtain ⟨e, a₁, w₁, hq, harr⟩ := round n a w hI b (.inLoop c :: k) cs
      cases e with
      | normal =>
        obtain ⟨m', hlt, hI₁⟩ := hq
        obtain ⟨e₂, a₂, w₂, hq₂, harr₂⟩ := ih m' hlt a₁ w₁ hI₁
        exact ⟨e₂, a₂, w₂, hq₂, .of_steps (Steps.trans harr (.one step_inLoop)) harr₂⟩
      | exit id => exact ⟨_, a₁, w₁, hq, .pass (x := .inLoop c) rfl (fun _ _ => .inl (by simp)) harr⟩
      | goto l => exact ⟨_, a₁, w₁, hq, .pass (x := .inLoop c) rfl (fun _ _ => .inl (by simp)) harr⟩
      | ret => exact ⟨_, a₁, w₁, hq, .pass (x := .inLoop c) rfl (fun _ _ => .inl (by simp)) harr⟩
      | panic ch => exact ⟨_, a₁, w₁, hq, .pass (x := .inLoop c) rfl (fun _ _ => .inl (by simp)) harr⟩
      | outgrown => exact ⟨_, a₁, w₁, hq, .pass (x := .inLoop c) rfl (fun _ _ => .inl (by simp)) harr⟩
  obtain ⟨e, a', w', hq, harr⟩ := key m a w h₀
  exact ⟨e, a', w', hq, .of_steps (.one step_loop) harr⟩

/-- what the symbolic run means -/
def AW (E : Env) (N k0 : Nat) (c : Code) (tm : Tm) (S : Store) (nx : Nat) (Q : Ex → Tm → Store → Nat → Prop) : Prop :=
  ∀ (cx : Cx) (a : Act) (w : World) (ρ : Nat → Option Value) (Q' : Exit → Act → World → Prop), cx.N = N → cx.k0 = k0 → R E cx tm S a w ρ → Fresh nx ρ → (∀ e a w, Nx E cx (Q e) a w → Q' (exOf e) a w) → c.wp E.P Q' a w

theorem awp_sound (hty : TyOk E) (hmix : E.P.follows .mixedOrders = true) {N k0 : Nat} : ∀ (c : Code) (tm : Tm) (S : Store) (nx : Nat) (Q : Ex → Tm → Store → Nat → Prop), codeOk N c = true → awp E k0 c tm S nx Q → AW E N k0 c tm S nx Q := by
  intro c
  induction c with
  | skip => intro tm S nx Q _ hk cx a w ρ Q' _ _ h hf hQ; exact wp_skip (hQ .normal _ _ ⟨_, _, _, _, h, hf, hk⟩)
  | region id ops draw =>
    intro tm S nx Q hok hk cx a w ρ Q' hN _ h hf hQ
    subst hN
    cases draw with
    | true =>
      obtain ⟨ms, tm', S', nx', h1, h2⟩ := run_of_awp hty _ _ _ _ _ _ hk
      obtain ⟨h2, h3⟩ := h2
      simp only [List.append_nil, List.reverse_reverse] at h2
      exact wp_region_any hmix (draw_sound (fun a w ρ h hf => hQ .normal a w ⟨_, _, _, _, h, hf, h3⟩) h1 h2 hok (h.drew) hf)
    | false =>
      obtain ⟨ms, tm', S', nx', h1, h2⟩ := run_of_awp hty _ _ _ _ _ _ hk
      exact wp_region_list (run_sound (fun a w ρ h hf => hQ .normal a w ⟨_, _, _, _, h, hf, h2⟩) _ _ _ _ _ _ _ _ hok h1 h hf)
  | seq x y ihx ihy =>
    intro tm S nx Q hok hk cx a w ρ Q' hN hk0 h hf hQ
    simp only [codeOk, Bool.and_eq_true] at hok
    refine wp_seq (ihx tm S nx _ hok.1 hk cx a w ρ _ hN hk0 h hf fun e a w hn => ?_)
    obtain ⟨tm, S, nx, ρ, h, hf, hk⟩ := hn
    cases e with
    | normal => exact ihy tm S nx Q hok.2 hk cx a w ρ Q' hN hk0 h hf hQ
    | exit i => exact hQ (.exit i) _ _ ⟨_, _, _, _, h, hf, hk⟩
    | ret => exact hQ .ret _ _ ⟨_, _, _, _, h, hf, hk⟩
  | cond c x y ihx ihy =>
    intro tm S nx Q hok hk cx a w ρ Q' hN hk0 h hf hQ
    simp only [codeOk, Bool.and_eq_true] at hok
    unfold awp at hk
    split at hk
    · rename_i t
      split at hk
      · rename_i b hb
        have hv : a.eval (.tmp t) = .bool b := (h.tm t _ hb).b_inv
        have hk := bsplit_elim hk
        have h' := h.again hb
        refine wp_cond hv ?_
        cases b
        · exact ihy _ S nx Q hok.2 hk cx a w ρ Q' hN hk0 h' hf hQ
        · exact ihx _ S nx Q hok.1 hk cx a w ρ Q' hN hk0 h' hf hQ
      · exact hk.elim
    · exact wp_cond (t := true) rfl (ihx _ S nx Q hok.1 hk cx a w ρ Q' hN hk0 h hf hQ)
    · exact wp_cond (t := false) rfl (ihy _ S nx Q hok.2 hk cx a w ρ Q' hN hk0 h hf hQ)
    · exact hk.elim
  | block id b ih =>
    intro tm S nx Q hok hk cx a w ρ Q' hN hk0 h hf hQ
    refine wp_block (ih tm S nx _ hok hk cx a w ρ _ hN hk0 h hf fun e a w hn => ?_)
    obtain ⟨tm, S, nx, ρ, h, hf, hk⟩ := hn
    cases e with
    | normal => exact hQ .normal _ _ ⟨_, _, _, _, h, hf, hk⟩
    | ret => exact hQ .ret _ _ ⟨_, _, _, _, h, hf, hk⟩
    | exit i =>
      simp only [exOf, Exit.inBlock]
      simp only at hk
      split at hk
      · rename_i hb
        rw [if_pos (Nat.eq_of_beq_eq_true hb)]
        exact hQ .normal _ _ ⟨_, _, _, _, h, hf, hk⟩
      · rename_i hb
        rw [if_neg (by rintro rfl; rw [Nat.beq_refl] at hb; cases hb)]
        exact hQ (.exit i) _ _ ⟨_, _, _, _, h, hf, hk⟩
  | loop b ih =>
    intro tm S nx Q hok hk cx a w ρ Q' hN hk0 h hf hQ
    subst hk0
    obtain ⟨I, ⟨m, hI⟩, hr⟩ := hk
    obtain ⟨tm1, S1, nx1, ρ1, h1, hf1, hI⟩ := land_sound hI h hf
    refine wp_loop_at (fun m a w => Nx E cx (I m) a w) (m := m) ⟨_, _, _, _, h1, hf1, hI⟩ fun m a w hm => ?_
    obtain ⟨tm, S, nx, ρ, h, hf, hI⟩ := hm
    refine ih tm S nx _ hok (hr m tm S nx hI) cx a w ρ _ hN rfl h hf fun e a w hn => ?_
    obtain ⟨tm, S, nx, ρ, h, hf, hk⟩ := hn
    cases e with
    | normal =>
      obtain ⟨m', hlt, hl⟩ := hk
      obtain ⟨tm2, S2, nx2, ρ2, h2, hf2, hI2⟩ := land_sound hl h hf
      exact ⟨m', hlt, _, _, _, _, h2, hf2, hI2⟩
    | exit i => exact hQ (.exit i) _ _ ⟨_, _, _, _, h, hf, hk⟩
    | ret => exact hQ .ret _ _ ⟨_, _, _, _, h, hf, hk⟩
  | exit id => intro tm S nx Q _ hk cx a w ρ Q' _ _ h hf hQ; exact wp_exit (hQ (.exit id) _ _ ⟨_, _, _, _, h, hf, hk⟩)
  | ret => intro tm S nx Q _ hk cx a w ρ Q' _ _ h hf hQ; exact wp_ret (hQ .ret _ _ ⟨_, _, _, _, h, hf, hk⟩)
  | rangeFunc => intro tm S nx Q _ hk; exact hk.elim
  | scope => intro tm S nx Q _ hk; exact hk.elim
  | label => intro tm S nx Q _ hk; exact hk.elim
  | goto => intro tm S nx Q _ hk; exact hk.elim
  | refuse => intro tm S nx Q _ hk; exact hk.elim

/-- a cut: what is behind it is run once -/
theorem AW.seq {N k0 : Nat} {x y : Code} {tm : Tm} {S : Store} {nx : Nat} {Q : Ex → Tm → Store → Nat → Prop} (J : Tm → Store → Nat → Prop)
    (hx : AW E N k0 x tm S nx fun e tm S nx => match e with
      | .normal => landK k0 tm S nx J
      | e => Q e tm S nx) (hy : ∀ tm S nx, J tm S nx → AW E N k0 y tm S nx Q) : AW E N k0 (.seq x y) tm S nx Q := by
  intro cx a w ρ Q' hN hk0 h hf hQ
  refine wp_seq (hx cx a w ρ _ hN hk0 h hf fun e a w hn => ?_)
  obtain ⟨tm, S, nx, ρ, h, hf, hk⟩ := hn
  cases e with
  | normal =>
    subst hk0
    obtain ⟨tm1, S1, nx1, ρ1, h1, hf1, hJ⟩ := land_sound hk h hf
    exact hy tm1 S1 nx1 hJ cx a w ρ1 Q' hN rfl h1 hf1 hQ
  | exit i => exact hQ (.exit i) _ _ ⟨_, _, _, _, h, hf, hk⟩
  | ret => exact hQ .ret _ _ ⟨_, _, _, _, h, hf, hk⟩

def parTm : Nat → List D → Tm
  | _, [] => []
  | i, d :: r => (i, d) :: parTm (i + 1) r
theorem lk_parTm : ∀ (ds : List D) (i t : Nat), lk (parTm i ds) t = if i ≤ t then ds[t - i]? else none
  | [], i, t => by simp [parTm, lk]
  | d :: r, i, t => by
    rw [parTm, lk_cons, lk_parTm r]
    by_cases h : i = t
    · subst h; simp
    · rw [if_neg h]
      by_cases h2 : i + 1 ≤ t
      · rw [if_pos h2, if_pos (by omega)]
        have : t - i = (t - (i + 1)) + 1 := by omega
        rw [this]; simp
      · rw [if_neg h2, if_neg (by omega)]

def resOne (tmps : Array Value) (rv : ResultVar) : Sem Value :=
  match rv with
  | .tmp t => pure (tmps.getD t undef)
  | .cell x t => do loadVar t (← asAddr (tmps.getD x undef))
theorem resK_run (hty : TyOk E) {tm : Tm} {S : Store} {a : Act} {w : World} {ρ : Nat → Option Value} (h : R E cx tm S a w ρ) : ∀ (rv : List ResultVar) (K : List D → Prop), resK E tm S rv K →
    ∃ ds us, (rv.mapM (resOne a.tmps)).run E.P w = .ok us w ∧ ds.length = us.length ∧
      (∀ (i : Nat) (d : D) (u : Value), ds[i]? = some d → us[i]? = some u → VR w (AvS cx.G S ρ) ρ d u) ∧ K ds
  | [], K, hk => ⟨[], [], by simp, rfl, by simp, hk⟩
  | .tmp t :: r, K, hk => by
    unfold resK at hk
    split at hk
    · rename_i d hd
      obtain ⟨ds, us, e1, e2, e3, e4⟩ := resK_run hty h r _ hk
      refine ⟨d :: ds, a.tmps.getD t undef :: us, by rw [List.mapM_cons]; simp only [resOne, Sem.run_bind, Sem.run_pure, Result.andThen_ok, e1], by simp [e2], fun i d' u' p q => ?_, e4⟩
      cases i with
      | zero => simp only [List.getElem?_cons_zero, Option.some.injEq] at p q; subst p q; exact h.tm t _ hd
      | succ i => exact e3 i d' u' (by simpa using p) (by simpa using q)
    · exact hk.elim
  | .cell x t :: r, K, hk => by
    unfold resK at hk
    split at hk
    · rename_i d hd
      obtain ⟨td, ht, hk⟩ := tyK_inv hk
      obtain ⟨d', u, hrun, hg, hk⟩ := addrK_run hty h ht (h.tm x d hd) hk
      obtain ⟨ds, us, e1, e2, e3, e4⟩ := resK_run hty h r _ hk
      have hrun' : (resOne a.tmps (.cell x t)).run E.P w = .ok u w := by
        rw [← hrun]
        unfold resOne
        simp only
        generalize a.tmps.getD x undef = v at hrun ⊢
        cases v with
        | pointer p => cases p <;> simp [Instr.loadAt, Instr.sureAddr, asAddr] at hrun ⊢
        | _ => simp [Instr.loadAt, Instr.sureAddr] at hrun ⊢
      refine ⟨d' :: ds, u :: us, ?_, by simp [e2], fun i d2 u2 p q => ?_, e4⟩
      · rw [List.mapM_cons]
        simp only [Sem.run_bind, hrun', Result.andThen_ok, e1, Sem.run_pure]
      · cases i with
        | zero => simp at p q; subst p q; exact .gr hg
        | succ i => exact e3 i d2 u2 (by simpa using p) (by simpa using q)
    · exact hk.elim

theorem VR.carG {w : World} {Av Av' : Nat → Prop} {ρ : Nat → Option Value} {ns : List Nat} (hi : ∀ d u, VI w Av d u → VI w Av' d u) {d d' : D} {u : Value} (h : VR w Av ρ d u) (hc : carD ns d = some d') : VG w Av' (carρ ns ρ) d' u := by
  cases h with
  | gr h => exact h.car hi hc
  | tup => simp [carD] at hc
theorem carGs_get {ns : List Nat} : ∀ {ds ds' : List D}, carGs ns ds = some ds' → ds'.length = ds.length ∧ ∀ (i : Nat) (d d' : D), ds[i]? = some d → ds'[i]? = some d' → carD ns d = some d'
  | [], ds', h => by simp [carGs] at h; subst h; simp
  | d :: r, ds', h => by
    simp only [carGs] at h
    split at h
    · rename_i d1 hd1
      split at h
      · rename_i r1 hr1
        cases h
        obtain ⟨h1, h2⟩ := carGs_get hr1
        refine ⟨by simp [h1], fun i e e' p q => ?_⟩
        cases i with
        | zero => simp at p q; subst p q; exact hd1
        | succ i => exact h2 i e e' (by simpa using p) (by simpa using q)
      · cases h
    · cases h

theorem results_run {P : Program} {fn : Func} {tmps : Array Value} {w : World} {us : List Value} (h : (fn.results.toList.mapM (resOne tmps)).run P w = .ok us w) :
    (results fn tmps).run P w = .ok (match us with | [u] => u | us => .tuple us.toArray) w := by
  have he : results fn tmps = (do
      let vs ← fn.results.mapM (resOne tmps)
      pure (if h : vs.size = 1 then vs[0] else .tuple vs)) := by
    unfold results
    congr 1
  rw [he]
  simp only [Sem.run_bind, Array.mapM_eq_mapM_toList, Sem.run_map, h, Result.andThen_ok, Sem.run_pure]
  match us with
  | [] => rfl
  | [u] => rfl
  | u :: v :: r => simp

theorem con_of_AW (hty : TyOk E) {f : FuncId} {fn : Func} {c : Code} (hf : E.P.funcs[f]? = some fn) (hb : fn.body = some c) (hname : (fn.name == "runtime.NumGoroutine") = false)
    {k : Nat} {cds : List D} {Sa : Store} {d : D} {S' : Store} (hle : cds.length ≤ fn.ntmps) (h : AW E fn.ntmps k c (parTm 0 cds) Sa k (finQ E k fn.results.toList d S')) : Con E f k cds Sa d S' := by
  refine ⟨⟨fn, hf, by simp [hb], hname⟩, fun w vs ρ G hl hG hGF hargs hst hdis hdom hgl => ?_⟩
  refine calls_of_wp hf hb ?_
  let cx : Cx := ⟨fn.ntmps, w, ρ, k, Held Sa ρ, G⟩
  have hR : R E cx (parTm 0 cds) Sa { tmps := vs.toArray ++ Array.replicate (fn.ntmps - vs.toArray.size) undef, defers := [] } w ρ := by
    refine ⟨fun t d ht => ?_, hst, hdis, fun x hx => .inr hx, fun _ _ _ h => h, hgl, Fr.refl _ _, hG, hGF, rfl, ?_⟩
    · rw [lk_parTm, if_pos (Nat.zero_le _)] at ht
      simp only [Nat.sub_zero] at ht
      have hlt : t < vs.length := by rw [← hl]; exact (List.getElem?_eq_some_iff.1 ht).1
      have hv := hargs t d vs[t] ht (List.getElem?_eq_getElem hlt)
      have : (vs.toArray ++ Array.replicate (fn.ntmps - vs.toArray.size) undef).getD t undef = vs[t] := by
        rw [Array.getD_eq_getD_getElem?, Array.getElem?_append_left (by simpa using hlt)]
        simp [hlt]
      show VR w _ ρ d ((vs.toArray ++ Array.replicate (fn.ntmps - vs.toArray.size) undef).getD t undef)
      rw [this]
      exact .gr hv
    · simp [cx]
      omega
  refine h cx _ w ρ _ rfl rfl hR hdom fun e a w' hn => ?_
  obtain ⟨tm0, S0, nx0, ρ0, h0, hf0, hk⟩ := hn
  have fin : finK E k fn.results.toList d S' tm0 S0 nx0 → a.defers = [] ∧ ∃ v, (results fn a.tmps).run E.P w' = .ok v w' ∧ ∃ v' ρ', Ending.returned v = .returned v' ∧ VR w' (AvS G S' ρ') ρ' d v' ∧ (∀ t b, lk S' t = some b → SR E.P w' (AvS G S' ρ') ρ' t b) ∧ Dis S' ρ' ∧
      (∀ x, Held S' ρ' x → w.heap.size ≤ x ∨ Held Sa ρ x) ∧ (∀ t u, t < k → ρ t = some u → ρ' t = some u) ∧ Fr (Held Sa ρ) w w' := by
    intro hk
    obtain ⟨ms, ns, hk⟩ := hk
    split at hk
    · rename_i tm S nx hm
      obtain ⟨ρ1, h1, hf1⟩ := mvs_sound hm h0 hf0
      obtain ⟨ds, us, e1, e2, e3, hn, hp, hcr, hcs⟩ := resK_run hty h1 _ _ hk
      obtain ⟨hc, hi⟩ := h1.carry [] hn hp
      rw [hcs] at hc hi
      refine ⟨h1.defers, _, results_run e1, _, carρ ns ρ1, rfl, ?_, hc.st, hc.dis, hc.new, hc.keep, hc.fr⟩
      -- one result, or several
      have several : ∀ (ds' : List D), ds'.length = us.length → (∀ (i : Nat) (d' : D) (u : Value), ds'[i]? = some d' → us[i]? = some u → VG w' (AvS G S' (carρ ns ρ1)) (carρ ns ρ1) d' u) → VR w' (AvS G S' (carρ ns ρ1)) (carρ ns ρ1) (.tup ds') (.tuple us.toArray) := fun ds' hl h => .tup hl h
      have each : ∀ {ds' : List D}, carGs ns ds = some ds' → ds'.length = us.length ∧ ∀ (i : Nat) (d' : D) (u : Value), ds'[i]? = some d' → us[i]? = some u → VG w' (AvS G S' (carρ ns ρ1)) (carρ ns ρ1) d' u := by
        intro ds' hg
        obtain ⟨g1, g2⟩ := carGs_get hg
        refine ⟨by rw [g1, e2], fun i d' u p q => ?_⟩
        have hlt : i < ds.length := by rw [← g1]; exact (List.getElem?_eq_some_iff.1 p).1
        have hdi : ds[i]? = some ds[i] := List.getElem?_eq_getElem hlt
        exact (e3 i _ u hdi q).carG hi (g2 i _ d' hdi p)
      have tupled : carR ns (.tup ds) = some d → VR w' (AvS G S' (carρ ns ρ1)) (carρ ns ρ1) d (.tuple us.toArray) := by
        intro hcr
        simp only [carR] at hcr
        split at hcr
        · rename_i ds' hg
          cases hcr
          obtain ⟨g1, g2⟩ := each hg
          exact several ds' g1 g2
        · cases hcr
      have lone : ∀ (x : D) (u : Value), ds = [x] → us = [u] → VR w' (AvS G S' (carρ ns ρ1)) (carρ ns ρ1) d u := by
        intro x u hds hus
        subst hds
        subst hus
        simp only [oneRes] at hcr
        have hx := e3 0 x u rfl rfl
        by_cases ht : ∃ ys, x = .tup ys
        · obtain ⟨ys, rfl⟩ := ht
          simp only [carR] at hcr
          split at hcr
          · rename_i ys' hg
            cases hcr
            obtain ⟨vs, rfl, q1, q2⟩ := hx.tup_inv
            obtain ⟨g1, g2⟩ := carGs_get hg
            refine .tup (by rw [g1, q1]) fun i d' u p q => ?_
            have hlt : i < ys.length := by rw [← g1]; exact (List.getElem?_eq_some_iff.1 p).1
            have hdi : ys[i]? = some ys[i] := List.getElem?_eq_getElem hlt
            exact (q2 i _ u hdi q).car hi (g2 i _ d' hdi p)
          · cases hcr
        · have : carR ns x = carD ns x := by cases x <;> first | rfl | exact absurd ⟨_, rfl⟩ ht
          rw [this] at hcr
          exact .gr (hx.carG hi hcr)
      clear several each
      cases us with
      | nil =>
        have : ds = [] := List.eq_nil_of_length_eq_zero e2
        subst this
        exact tupled hcr
      | cons u q =>
        cases q with
        | nil =>
          have : ∃ x, ds = [x] := by
            match ds, e2 with
            | [x], _ => exact ⟨x, rfl⟩
          obtain ⟨x, hx⟩ := this
          exact lone x u hx rfl
        | cons v q =>
          refine tupled ?_
          have : oneRes ds = .tup ds := by
            match ds, e2 with
            | x :: y :: r, _ => rfl
          rw [this] at hcr
          exact hcr
    · exact hk.elim
  cases e with
  | normal => exact fin hk
  | ret => exact fin hk
  | exit i => exact hk.elim
theorem con_of_awp (hty : TyOk E) (hmix : E.P.follows .mixedOrders = true) {f : FuncId} {fn : Func} {c : Code} (hf : E.P.funcs[f]? = some fn) (hb : fn.body = some c) (hname : (fn.name == "runtime.NumGoroutine") = false) (hok : codeOk fn.ntmps c = true)
    {k : Nat} {cds : List D} {Sa : Store} {d : D} {S' : Store} (hle : cds.length ≤ fn.ntmps) (h : awp E k c (parTm 0 cds) Sa k (finQ E k fn.results.toList d S')) : Con E f k cds Sa d S' :=
  con_of_AW hty hf hb hname hle (awp_sound hty hmix c _ _ _ _ hok h)
end
end Go.Ab
/- From the contract of a law (for all data of its types it answers true) to the statement's own form. -/
namespace Go.Ab
open Go Go.RowKit Go.ChangeShapes Go.WideShapes Go.ChangeAt

/-- types of plain data: strings, numbers, bools, slices and structs of these -/
def argFields (P : Program) (rec : TypeId → Bool) : List Field → Nat → Nat → Bool
  | [], off, n => Nat.beq off n
  | f :: fs, off, n => Nat.beq f.offset off && rec f.type && argFields P rec fs (off + P.cellsOf f.type) n
def argTy (P : Program) : Nat → TypeId → Bool
  | 0, _ => false
  | d + 1, t => match P.underlying t with
    | some .string => Nat.beq (P.cellsOf t) 1
    | some .bool => Nat.beq (P.cellsOf t) 1
    | some (.int _) => Nat.beq (P.cellsOf t) 1
    | some (.slice e) => Nat.beq (P.cellsOf t) 1 && Nat.blt 0 (P.cellsOf e) && argTy P d e
    | some (.struct fs) => argFields P (argTy P d) fs.toList 0 (P.cellsOf t)
    | _ => false

/-- the cells of a value of a type -/
inductive Shp (P : Program) : TypeId → List D → Prop
  | str {t : TypeId} (h : P.underlying t = some .string) (l : List UInt8) (hl : l.length ≤ maxLen) : Shp P t [.s l]
  | int {t : TypeId} {k : IntKind} (h : P.underlying t = some (.int k)) (n : Int) (hn : (Lit.int k n).wf = true) : Shp P t [.k k n]
  | bool {t : TypeId} (h : P.underlying t = some .bool) (b : Bool) : Shp P t [.b b]
  | slice {t e : TypeId} (h : P.underlying t = some (.slice e)) (xs : List (List D)) (hl : xs.length ≤ maxLen) (hx : ∀ cs ∈ xs, Shp P e cs) : Shp P t [.sl xs]
  | struct {t : TypeId} {fs : Array Field} (h : P.underlying t = some (.struct fs)) (dss : List (List D)) (hl : dss.length = fs.toList.length) (hx : ∀ (i : Nat) (f : Field) (ds : List D), fs.toList[i]? = some f → dss[i]? = some ds → Shp P f.type ds) : Shp P t dss.flatten

section
variable {H : Type} {enc : TypeId × Value → H} {P : Program} {W : World} {sp : Nat → Bool} {held : Bool}
abbrev noAv : Nat → Prop := fun _ => False

theorem fields_shp {fuel : Nat} {rec : TypeId → Bool}
    (ih : ∀ (t : TypeId) (cs : List Value) (x : DataW H × List MemPlace), rec t = true → DataW.trod enc P W 0 sp held fuel t cs = some x → cs.length = P.cellsOf t ∧ (∀ u ∈ cs, u.oneCell' = true) ∧ ∃ ds, ds.length = cs.length ∧ (∀ (i : Nat) (d : D) (u : Value), ds[i]? = some d → cs[i]? = some u → VI W noAv d u) ∧ Shp P t ds) :
    ∀ (fs : List Field) (off : Nat) (cs : List Value), argFields P rec fs off cs.length = true → (∀ (i : Nat) (f : Field), fs[i]? = some f → ∃ x, DataW.trod enc P W 0 sp held fuel f.type ((cs.drop f.offset).take (P.cellsOf f.type)) = some x) →
      off ≤ cs.length ∧ (∀ u ∈ cs.drop off, u.oneCell' = true) ∧ ∃ dss : List (List D), dss.length = fs.length ∧ (∀ (i : Nat) (f : Field) (ds : List D), fs[i]? = some f → dss[i]? = some ds → Shp P f.type ds) ∧ dss.flatten.length = cs.length - off ∧
        ∀ (i : Nat) (d : D) (u : Value), dss.flatten[i]? = some d → (cs.drop off)[i]? = some u → VI W noAv d u
  | [], off, cs, ha, _ => by
    simp only [argFields] at ha
    have := Nat.eq_of_beq_eq_true ha
    refine ⟨by omega, by simp [this], [], rfl, by simp, by simp [this], by simp⟩
  | f :: fs, off, cs, ha, hm => by
    simp only [argFields, Bool.and_eq_true] at ha
    obtain ⟨⟨h1, h2⟩, h3⟩ := ha
    have hoff := Nat.eq_of_beq_eq_true h1
    obtain ⟨x, hx⟩ := hm 0 f rfl
    rw [hoff] at hx
    obtain ⟨g1, g2, ds, g3, g4, g5⟩ := ih f.type _ x h2 hx
    obtain ⟨q1, q2, dss, q3, q4, q5, q6⟩ := fields_shp ih fs (off + P.cellsOf f.type) cs h3 (fun i f' hf => hm (i + 1) f' (by simpa using hf))
    have hl : ((cs.drop off).take (P.cellsOf f.type)).length = P.cellsOf f.type := g1
    simp only [List.length_take, List.length_drop] at hl
    have hsplit : cs.drop off = (cs.drop off).take (P.cellsOf f.type) ++ cs.drop (off + P.cellsOf f.type) := by
      rw [← List.drop_drop, List.take_append_drop]
    refine ⟨by omega, fun u hu => ?_, ds :: dss, by simp [q3], fun i f' ds' hf hd => ?_, ?_, fun i d u hd hu => ?_⟩
    · rw [hsplit] at hu
      rcases List.mem_append.1 hu with h | h
      · exact g2 u h
      · exact q2 u h
    · cases i with
      | zero => simp at hf hd; subst hf hd; exact g5
      | succ i => exact q4 i f' ds' (by simpa using hf) (by simpa using hd)
    · simp only [List.flatten_cons, List.length_append, q5, g3, g1]
      omega
    · rw [hsplit] at hu
      simp only [List.flatten_cons] at hd
      by_cases hi : i < ds.length
      · rw [List.getElem?_append_left hi] at hd
        rw [List.getElem?_append_left (by rw [← g3]; exact hi)] at hu
        exact g4 i d u hd hu
      · rw [List.getElem?_append_right (by omega)] at hd
        rw [List.getElem?_append_right (by rw [← g3]; omega), ← g3] at hu
        exact q6 _ d u hd hu

theorem trod_shp : ∀ (dp : Nat) (fuel : Nat) (t : TypeId) (cs : List Value) (x : DataW H × List MemPlace), argTy P dp t = true → DataW.trod enc P W 0 sp held fuel t cs = some x →
    cs.length = P.cellsOf t ∧ (∀ u ∈ cs, u.oneCell' = true) ∧ ∃ ds, ds.length = cs.length ∧ (∀ (i : Nat) (d : D) (u : Value), ds[i]? = some d → cs[i]? = some u → VI W noAv d u) ∧ Shp P t ds := by
  intro dp
  induction dp with
  | zero => intro fuel t cs x h; simp [argTy] at h
  | succ dp ih =>
    intro fuel t cs x h hx
    cases fuel with
    | zero => simp [DataW.trod] at hx
    | succ fuel =>
    unfold argTy at h
    have one : ∀ (v : Value) (d : D), v.oneCell' = true → VI W noAv d v → Shp P t [d] → Nat.beq (P.cellsOf t) 1 = true → cs = [v] → cs.length = P.cellsOf t ∧ (∀ u ∈ cs, u.oneCell' = true) ∧ ∃ ds, ds.length = cs.length ∧ (∀ (i : Nat) (d : D) (u : Value), ds[i]? = some d → cs[i]? = some u → VI W noAv d u) ∧ Shp P t ds := by
      intro v d h1 hv hs hz hc
      subst hc
      refine ⟨by rw [Nat.eq_of_beq_eq_true hz]; rfl, by simpa using h1, [d], rfl, fun i d' u p q => ?_, hs⟩
      cases i with
      | zero => simp at p q; subst p q; exact hv
      | succ i => simp at p
    split at h
    · -- string
      rename_i hu
      obtain ⟨v, rfl, _, hs⟩ := DataW.trod_string hu hx
      have hse : v = ⟨v.data.toList.toArray⟩ := by cases v; simp
      refine one (.string v) (.s v.data.toList) rfl ?_ (.str hu _ (by rw [Array.length_toList]; exact hs)) h rfl
      have := VI.s (w := W) (Av := noAv) v.data.toList
      rw [← hse] at this
      exact this
    · rename_i hu
      obtain ⟨b, rfl, _⟩ := DataW.trod_bool hu hx
      exact one (.bool b) (.b b) rfl (.b b) (.bool hu b) h rfl
    · rename_i k hu
      obtain ⟨n, rfl, _, hw⟩ := DataW.trod_int hu hx
      exact one (.int k n) (.k k n) rfl (.k k n) (.int hu n hw) h rfl
    · rename_i e hu
      simp only [Bool.and_eq_true] at h
      obtain ⟨⟨hz, hce0⟩, he⟩ := h
      have hce0 : 0 < P.cellsOf e := Nat.le_of_ble_eq_true hce0
      rcases Go.Deep.open_slice hu hx with ⟨rfl, _⟩ | ⟨a, len, cap, m, n, Dd, Pl, rfl, _, hlc, hcm, hm, _, hel⟩
      · exact one (.slice none 0 0) (.sl []) rfl .sl0 (.slice hu [] (by simp) (by simp)) hz rfl
      · have hlm : len ≤ m := by rw [hm]; split <;> omega
        have elem : ∀ i, i < len → ∃ (ds : List D) (us : List Value), ds.length = P.cellsOf e ∧ us.length = P.cellsOf e ∧ (∀ u ∈ us, u.oneCell' = true) ∧ (∀ (j : Nat) (d : D) (u : Value), ds[j]? = some d → us[j]? = some u → VI W noAv d u) ∧ Shp P e ds ∧ ∀ j u, us[j]? = some u → W.cell? (a.add (i * P.cellsOf e + j)) = some u := by
          intro i hi
          obtain ⟨cs', h1, h2⟩ := hel i (by omega)
          obtain ⟨g1, g2, ds, g3, g4, g5⟩ := ih n e cs' _ he h2
          obtain ⟨_, c1, c2⟩ := World.cells?_some h1
          refine ⟨ds, cs', by rw [g3, g1], g1, g2, g4, g5, fun j u hu => ?_⟩
          have hj : j < P.cellsOf e := by rw [← c1]; exact (List.getElem?_eq_some_iff.1 hu).1
          have := c2 j hj
          rw [add_add] at this
          rw [this]; exact hu
        have cho : ∃ (F : Nat → List D) (G : Nat → List Value), ∀ i, i < len → (F i).length = P.cellsOf e ∧ (G i).length = P.cellsOf e ∧ (∀ u ∈ G i, u.oneCell' = true) ∧ (∀ (j : Nat) (d : D) (u : Value), (F i)[j]? = some d → (G i)[j]? = some u → VI W noAv d u) ∧ Shp P e (F i) ∧ ∀ j u, (G i)[j]? = some u → W.cell? (a.add (i * P.cellsOf e + j)) = some u := by
          refine ⟨fun i => if hi : i < len then (elem i hi).choose else [], fun i => if hi : i < len then (elem i hi).choose_spec.choose else [], fun i hi => ?_⟩
          simp only [hi, dif_pos]
          exact (elem i hi).choose_spec.choose_spec
        obtain ⟨F, G, hFG⟩ := cho
        have hxs : ∀ (i : Nat) (cs : List D), ((List.range len).map F)[i]? = some cs → i < len ∧ cs = F i := by
          intro i cs hc
          simp only [List.getElem?_map, Option.map_eq_some_iff] at hc
          obtain ⟨k, hk, rfl⟩ := hc
          have hlt : i < len := by have := (List.getElem?_eq_some_iff.1 hk).1; simpa using this
          rw [List.getElem?_range hlt] at hk
          cases hk
          exact ⟨hlt, rfl⟩
        have hcell : ∀ (i j : Nat) (cs : List D) (d : D), ((List.range len).map F)[i]? = some cs → cs[j]? = some d → W.cell? (a.add (i * P.cellsOf e + j)) = some ((G i).getD j undef) ∧ ((G i).getD j undef).oneCell' = true ∧ VI W noAv d ((G i).getD j undef) := by
          intro i j cs d hc hd
          obtain ⟨hi, rfl⟩ := hxs i cs hc
          obtain ⟨f1, f2, f3, f4, f5, f6⟩ := hFG i hi
          have hj : j < (G i).length := by rw [f2, ← f1]; exact (List.getElem?_eq_some_iff.1 hd).1
          have hg : (G i)[j]? = some ((G i).getD j undef) := by simp [List.getD, hj]
          exact ⟨f6 j _ hg, f3 _ (List.mem_of_getElem? hg), f4 j d _ hd hg⟩
        refine one (.slice (some a) len cap) (.sl ((List.range len).map F)) rfl ?_ (.slice hu _ (by simp; omega) fun cs hcs => ?_) hz rfl
        · refine .sl (sz := P.cellsOf e) (fun i j => (G i).getD j undef) (by simp) hlc hcm (fun hne => ?_) (fun _ h => h) (fun cs hcs => ?_) (fun i j cs d p q => (hcell i j cs d p q).1) (fun i j cs d p q => (hcell i j cs d p q).2.1) (fun i j cs d p q => (hcell i j cs d p q).2.2)
          · have hl0 : 0 < len := by
              cases hlen : len with
              | zero => rw [hlen] at hne; simp at hne
              | succ k => omega
            obtain ⟨f1, f2, f3, f4, f5, f6⟩ := hFG 0 hl0
            have hg : (G 0)[0]? = some ((G 0).getD 0 undef) := by
              have : 0 < (G 0).length := by omega
              simp [List.getD, this]
            have := f6 0 _ hg
            simp only [Nat.zero_mul, Nat.add_zero] at this
            have hc : W.cell? a = some ((G 0).getD 0 undef) := this
            unfold World.cell? at hc
            split at hc
            · rename_i hh; exact (Array.getElem?_eq_some_iff.1 hh).1
            · cases hc
          · obtain ⟨i, hi⟩ := List.mem_iff_getElem?.1 hcs
            obtain ⟨hlt, rfl⟩ := hxs i cs hi
            exact (hFG i hlt).1
        · obtain ⟨i, hi⟩ := List.mem_iff_getElem?.1 hcs
          obtain ⟨hlt, rfl⟩ := hxs i cs hi
          exact (hFG i hlt).2.2.2.2.1
    · rename_i fs hu
      obtain ⟨xs, n, rfl', _, hl, hxl, hf⟩ := DataW.trod_struct hu hx
      obtain ⟨q1, q2, dss, q3, q4, q5, q6⟩ := fields_shp (rec := argTy P dp) (fun t cs x h1 h2 => ih n t cs x h1 h2) fs.toList 0 cs (by rw [hl]; exact h) (fun i f hi => by
        have hi' : fs[i]? = some f := by simpa using hi
        have hlt : i < xs.length := by rw [hxl]; exact (Array.getElem?_eq_some_iff.1 hi').1
        exact ⟨xs[i], by rw [hf i f hi']; exact List.getElem?_eq_getElem hlt⟩)
      simp only [List.drop_zero, Nat.sub_zero] at q2 q5 q6
      exact ⟨hl, q2, dss.flatten, q5, q6, .struct hu dss q3 q4⟩
    · cases h

/-- an argument, as the symbolic run sees it -/
def ShpV (P : Program) (t : TypeId) (d : D) : Prop :=
  match P.underlying t with
  | some (.struct _) => ∃ ds, d = .agg ds ∧ Shp P t ds
  | _ => Shp P t [d]
theorem arg_shp {dp : Nat} {t : TypeId} (ha : argTy P dp t = true) {v : Value} {x : DataW H} {ps : List MemPlace} (h : DataW.Trod enc P W 0 sp held t v x ps) {b0 : Nat} (hok : Value.okWide P W .any b0 t v) : ∃ d, (∀ Av ρ, (∀ y, ¬ Av y) → VG W Av ρ d v) ∧ ShpV P t d := by
  obtain ⟨fuel, hx⟩ := h
  obtain ⟨h1, h2, ds, h3, h4, h5⟩ := trod_shp dp fuel t _ _ ha hx
  have up : ∀ (Av : Nat → Prop), (∀ y, ¬ Av y) → ∀ d u, VI W noAv d u → VI W Av d u := fun Av hA d u hv => hv.mono (fun _ _ _ => rfl) (Nat.le_refl _) fun x _ hx => (hA x hx).elim
  have one : v.oneCell' = true → ∃ d, (∀ Av ρ, (∀ y, ¬ Av y) → VG W Av ρ d v) ∧ Shp P t [d] := by
    intro hone
    rw [cells_one hone] at h3 h4
    match ds, h3, h4, h5 with
    | [d], _, h4, h5 => exact ⟨d, fun Av ρ hA => .atom (.im (up Av hA d v (h4 0 d v rfl rfl))), h5⟩
  unfold Value.okWide at hok
  unfold ShpV
  cases dp with
  | zero => simp [argTy] at ha
  | succ dp =>
  unfold argTy at ha
  split at ha
  · rename_i hu
    rw [hu] at hok ⊢
    exact one (by cases v <;> first | rfl | (simp [Cell.okWide, hu, Cell.ok] at hok))
  · rename_i hu
    rw [hu] at hok ⊢
    exact one (by cases v <;> first | rfl | (simp [Cell.okWide, hu, Cell.ok] at hok))
  · rename_i hu
    rw [hu] at hok ⊢
    exact one (by cases v <;> first | rfl | (simp [Cell.okWide, hu, Cell.ok] at hok))
  · rename_i hu
    rw [hu] at hok ⊢
    exact one (by cases v <;> first | rfl | (simp [Cell.okWide, hu, Cell.ok] at hok))
  · rename_i hu
    rw [hu] at hok ⊢
    obtain ⟨cs, rfl, _, _⟩ := hok
    exact ⟨.agg ds, fun Av ρ hA => .agg (us := cs.toList) (by simpa [Value.cells] using h3) (by simpa [Value.cells] using h2) fun i d u p q => .im (up Av hA d u (h4 i d u p (by simpa [Value.cells] using q))), ds, rfl, h5⟩
  · cases ha
end

section
variable {H : Type} {enc : TypeId × Value → H} {P : Program}
theorem post_below {f : Func} {s : ChangeSpec} {apart fresh handsOn again : Bool} {W W' : World} {args : Array Value} {v : Value} {ds gs : List (DataW H)} {before pa pv : List MemPlace}
    (hW : DataW.Whole enc P f.params.toList s.vars apart W args.toList ds gs before)
    (hres : ∀ (b : Nat) (sp : Nat → Bool) (hd : Bool), DataW.TrodAll enc P W' b sp hd f.resultTypes.toList (v.resultList f.resultTypes.size) (s.fn H (ds ++ gs)).results [])
    (hargs : ∀ sp : Nat → Bool, (∀ p ∈ before, sp p.block = true) → DataW.TrodAll enc P W' 0 sp true f.params.toList args.toList (s.fn H (ds ++ gs)).args pa)
    (hvars : ∀ sp : Nat → Bool, (∀ p ∈ before, sp p.block = true) → DataW.TrodVars enc P W' sp s.vars (s.fn H (ds ++ gs)).vars pv)
    (hps : before = pa ++ pv) (hb : Below W.heap.size W W')
    (hok : ∀ (j : Nat) (t : TypeId) (r : Value), f.resultTypes[j]? = some t → (v.resultList f.resultTypes.size)[j]? = some r → Value.okWide P W' .any 0 t r) :
    s.post enc P f apart fresh handsOn again W args v W' := by
  have hlt : ∀ p ∈ before, p.block < W.heap.size := fun p hp => hW.lt p hp
  have hold : ∀ p ∈ before, (fun b => decide (b < W.heap.size)) p.block = true := fun p hp => by simpa using hlt p hp
  refine ⟨ds, gs, before, [], pa, pv, hW, hres _ _ _, hargs _ hold, hvars _ hold, World.keptBut_mono (fun p hp => ⟨hp, ?_⟩) (hb.frame (· ∈ before)), fun _ => ?_⟩
  · rw [hps, List.mem_append] at hp
    exact Or.inr hp
  · obtain ⟨_, _, _, _, _, hz, hn⟩ := hW
    refine ⟨hok, _, _, ([] ++ pa) ++ pv, ⟨[] ++ pa, pv, trodAll_append (hargs _ (fun _ _ => rfl)) (hres _ _ _), hvars _ (fun _ _ => rfl), rfl, ?_, ?_⟩, ?_⟩
    · intro b off hp
      have hin : MemPlace.cell b off ∈ before := by rw [hps]; simpa using hp
      rw [hb.frozen (hlt _ hin)]
      exact hz b off hin
    · intro ha
      have := hn ha
      rw [hps] at this
      simpa using this
    · intro p hp _
      rw [hps]
      simpa using hp

theorem trodAll_len {W : World} {sp : Nat → Bool} {held : Bool} : ∀ {ts : List TypeId} {vs : List Value} {ds : List (DataW H)} {ps : List MemPlace}, DataW.TrodAll enc P W 0 sp held ts vs ds ps → vs.length = ts.length ∧ ds.length = ts.length
  | [], [], [], _, _ => ⟨rfl, rfl⟩
  | t :: ts, v :: vs, d :: ds, ps, h => by
    obtain ⟨p, q, _, h2, _⟩ := h
    have := trodAll_len h2
    simp [this.1, this.2]
  | [], _ :: _, _, _, h => h.elim
  | [], [], _ :: _, _, h => h.elim
  | _ :: _, [], _, _, h => h.elim
  | _ :: _, _ :: _, [], _, h => h.elim
/-- the arguments, as the symbolic run sees them -/
def ShpAll (P : Program) : List TypeId → List D → Prop
  | [], [] => True
  | t :: ts, d :: ds => ShpV P t d ∧ ShpAll P ts ds
  | _, _ => False
theorem args_shp {dp : Nat} {W : World} {sp : Nat → Bool} {held : Bool} {b0 : Nat} : ∀ {ts : List TypeId} {vs : List Value} {ds : List (DataW H)} {ps : List MemPlace}, ts.all (argTy P dp) = true → (∀ (j : Nat) (t : TypeId) (v : Value), ts[j]? = some t → vs[j]? = some v → Value.okWide P W .any b0 t v) →
    DataW.TrodAll enc P W 0 sp held ts vs ds ps → ∃ cds, cds.length = vs.length ∧ ShpAll P ts cds ∧ ∀ (i : Nat) (d : D) (u : Value), cds[i]? = some d → vs[i]? = some u → ∀ Av ρ, (∀ y, ¬ Av y) → VG W Av ρ d u
  | [], [], [], _, _, _, _ => ⟨[], rfl, trivial, by simp⟩
  | t :: ts, v :: vs, d :: ds, ps, ha, hok, h => by
    obtain ⟨p, q, h1, h2, _⟩ := h
    simp only [List.all_cons, Bool.and_eq_true] at ha
    obtain ⟨c, g1, g2⟩ := arg_shp ha.1 h1 (hok 0 t v rfl rfl)
    obtain ⟨cs, k1, k2, k3⟩ := args_shp ha.2 (fun j t v p q => hok (j + 1) t v (by simpa using p) (by simpa using q)) h2
    refine ⟨c :: cs, by simp [k1], ⟨g2, k2⟩, fun i d u p q => ?_⟩
    cases i with
    | zero => simp at p q; subst p q; exact g1
    | succ i => exact k3 i d u (by simpa using p) (by simpa using q)
  | [], _ :: _, _, _, _, _, h => h.elim
  | [], [], _ :: _, _, _, _, h => h.elim
  | _ :: _, [], _, _, _, _, h => h.elim
  | _ :: _, _ :: _, [], _, _, _, h => h.elim
theorem args_stay {W W' : World} {sp' : Nat → Bool} (hl : laidOutB P = true) (hb : Below W.heap.size W W') : ∀ {ts : List TypeId} {vs : List Value} {ds : List (DataW H)} {ps : List MemPlace}, (∀ t ∈ ts, P.readableRec t = true ∧ t < P.types.size) → (∀ x ∈ ps, x.block < W.heap.size) → (∀ x ∈ ps, sp' x.block = true) →
    DataW.TrodAll enc P W 0 (fun _ => true) true ts vs ds ps → DataW.TrodAll enc P W' 0 sp' true ts vs ds ps
  | [], [], [], _, _, _, _, h => h
  | t :: ts, v :: vs, d :: ds, ps, hr, hlt, hsp, h => by
    obtain ⟨p, q, h1, h2, rfl⟩ := h
    obtain ⟨r1, r2⟩ := hr t (by simp)
    exact ⟨p, q, WideElems.Trod_stays hl r1 r2 h1 (fun x hx => hb.same (hlt x (by simp [hx]))) (fun x hx => hsp x (by simp [hx])),
      args_stay hl hb (fun t ht => hr t (by simp [ht])) (fun x hx => hlt x (by simp [hx])) (fun x hx => hsp x (by simp [hx])) h2, rfl⟩
  | [], _ :: _, _, _, _, _, _, h => h.elim
  | [], [], _ :: _, _, _, _, _, h => h.elim
  | _ :: _, [], _, _, _, _, _, h => h.elim
  | _ :: _, _ :: _, [], _, _, _, _, h => h.elim

/-- the law's contract gives what the row asks of a call -/
theorem law_calls {E : Env} {f : FuncId} {fn : Func} {s : ChangeSpec} {bt : TypeId} {dp : Nat} (hgl : ∀ g, E.gl g = none) (hl : laidOutB E.P = true) (hr : ∀ t ∈ fn.params.toList, E.P.readableRec t = true ∧ t < E.P.types.size) (ha : fn.params.toList.all (argTy E.P dp) = true)
    (hbt : E.P.underlying bt = some .bool) (hres : fn.resultTypes = #[bt]) (hvars : s.vars = []) (hspec : ∀ (H : Type) (ds : List (DataW H)), ds.length = fn.params.size → s.fn H ds = { results := [.lit (.bool true)], args := ds })
    (hcon : ∀ cds, ShpAll E.P fn.params.toList cds → Con E f 0 cds [] (.b true) [])
    (W : World) (base : Nat) (args : Array Value) (ds gs : List (DataW H)) (before : List MemPlace) (hval : ∀ (j : Nat) t v, fn.params[j]? = some t → args[j]? = some v → Value.okWide E.P W .any base t v)
    (hW : DataW.Whole enc E.P fn.params.toList s.vars false W args.toList ds gs before) :
    Calls E.P f args W fun e W' => ∃ v, e = .returned v ∧ s.post enc E.P fn false true false false W args v W' := by
  have hW' := hW
  obtain ⟨p, q, hA, hV, rfl, hfz, hnd⟩ := hW
  rw [hvars] at hV
  obtain ⟨rfl, rfl⟩ := trodVars_none hV
  obtain ⟨cds, c1, c2, c3⟩ := args_shp ha (fun j t v h1 h2 => hval j t v (by simpa using h1) (by simpa using h2)) hA
  have hheld : ∀ x, ¬ Held [] (fun _ => none) x := by rintro x ⟨t, b, h, _⟩; simp [lk] at h
  have hav : ∀ y, ¬ AvS (fun _ => False) [] (fun _ => none) y := by
    rintro y (h | h)
    · exact h
    · exact hheld y h
  have hc := (hcon cds c2).2 W args.toList (fun _ => none) (fun _ => False) c1 (fun _ h => h.elim) (fun _ h => h.elim) (fun i d u h1 h2 => c3 i d u h1 h2 _ _ hav) (fun t b h => by simp [lk] at h) (fun t t' b b' x h => by simp [lk] at h) (fun _ _ => rfl) (fun g cs h => by rw [hgl] at h; cases h)
  have hargs : args.toList.toArray = args := by simp
  rw [hargs] at hc
  refine hc.mono fun e W2 hpost => ?_
  obtain ⟨v, ρ', rfl, hv, _, _, _, _, hfr⟩ := hpost
  obtain rfl := hv.b_inv
  refine ⟨_, rfl, ?_⟩
  have hb : Below W.heap.size W W2 := ⟨hfr.os, hfr.tape, hfr.output, hfr.size, fun k hk => hfr.block k hk (hheld k)⟩
  have hlen := (trodAll_len hA).2
  have hs := hspec H ds (by simpa using hlen)
  have hlt : ∀ x ∈ p, x.block < W.heap.size := fun x hx => hW'.lt x (by simpa using hx)
  refine post_below (pa := p) (pv := []) hW' (fun b sp hd => ?_) (fun sp hsp => ?_) (fun sp _ => ?_) rfl hb ?_
  · rw [hres, List.append_nil, hs]
    exact trodAll_mk1 (shut_bool hbt true)
  · rw [List.append_nil, hs]
    exact args_stay hl hb hr hlt (fun x hx => hsp x (by simpa using hx)) hA
  · rw [hvars, List.append_nil, hs]
    rfl
  · exact ok_one hres rfl (okWide_bool_mk hbt true)
end
end Go.Ab
/- Shapes of arguments, opened; and steps that the runs of a seat share. -/
namespace Go.Ab
open Go Go.RowKit
/-! shapes, opened -/
section
variable {P : Program}
theorem Shp.str_inv {t : TypeId} {ds : List D} (hu : P.underlying t = some .string) (h : Shp P t ds) : ∃ l : List UInt8, ds = [.s l] ∧ l.length ≤ maxLen := by
  cases h with
  | str h l hl => exact ⟨l, rfl, hl⟩
  | int h => rw [hu] at h; cases h
  | bool h => rw [hu] at h; cases h
  | slice h => rw [hu] at h; cases h
  | struct h => rw [hu] at h; cases h
theorem Shp.int_inv {t : TypeId} {ds : List D} {k : IntKind} (hu : P.underlying t = some (.int k)) (h : Shp P t ds) : ∃ n : Int, ds = [.k k n] ∧ (Lit.int k n).wf = true := by
  cases h with
  | str h => rw [hu] at h; cases h
  | int h n hn => rw [hu] at h; cases h; exact ⟨n, rfl, hn⟩
  | bool h => rw [hu] at h; cases h
  | slice h => rw [hu] at h; cases h
  | struct h => rw [hu] at h; cases h
theorem Shp.bool_inv {t : TypeId} {ds : List D} (hu : P.underlying t = some .bool) (h : Shp P t ds) : ∃ b : Bool, ds = [.b b] := by
  cases h with
  | str h => rw [hu] at h; cases h
  | int h => rw [hu] at h; cases h
  | bool h b => exact ⟨b, rfl⟩
  | slice h => rw [hu] at h; cases h
  | struct h => rw [hu] at h; cases h
theorem Shp.slice_inv {t e : TypeId} {ds : List D} (hu : P.underlying t = some (.slice e)) (h : Shp P t ds) : ∃ xs : List (List D), ds = [.sl xs] ∧ xs.length ≤ maxLen ∧ ∀ cs ∈ xs, Shp P e cs := by
  cases h with
  | str h => rw [hu] at h; cases h
  | int h => rw [hu] at h; cases h
  | bool h => rw [hu] at h; cases h
  | slice h xs hl hx => rw [hu] at h; cases h; exact ⟨xs, rfl, hl, hx⟩
  | struct h => rw [hu] at h; cases h
/-- the cells of a row of fields -/
def ShpF (P : Program) : List TypeId → List D → Prop
  | [], ds => ds = []
  | t :: ts, ds => ∃ a b, ds = a ++ b ∧ Shp P t a ∧ ShpF P ts b
theorem shpF_of {ts : List TypeId} : ∀ {dss : List (List D)}, dss.length = ts.length → (∀ (i : Nat) (t : TypeId) (ds : List D), ts[i]? = some t → dss[i]? = some ds → Shp P t ds) → ShpF P ts dss.flatten := by
  induction ts with
  | nil => intro dss hl _; match dss, hl with | [], _ => rfl
  | cons t ts ih =>
    intro dss hl hx
    match dss, hl with
    | d :: dss, hl =>
      exact ⟨d, dss.flatten, rfl, hx 0 t d rfl rfl, ih (by simpa using hl) fun i t ds h1 h2 => hx (i + 1) t ds (by simpa using h1) (by simpa using h2)⟩
theorem Shp.struct_inv {t : TypeId} {ds : List D} {fs : Array Field} (hu : P.underlying t = some (.struct fs)) (h : Shp P t ds) : ShpF P (fs.toList.map (·.type)) ds := by
  cases h with
  | str h => rw [hu] at h; cases h
  | int h => rw [hu] at h; cases h
  | bool h => rw [hu] at h; cases h
  | slice h => rw [hu] at h; cases h
  | struct h dss hl hx =>
    rw [hu] at h; cases h
    refine shpF_of (by simpa using hl) fun i t ds h1 h2 => ?_
    simp only [List.getElem?_map, Option.map_eq_some_iff] at h1
    obtain ⟨f, hf, rfl⟩ := h1
    exact hx i f ds hf h2
theorem ShpV.one {t : TypeId} {d : D} (hu : ∀ fs, P.underlying t ≠ some (.struct fs)) (h : ShpV P t d) : Shp P t [d] := by
  unfold ShpV at h
  split at h
  · rename_i fs hf; exact absurd hf (hu fs)
  · exact h
theorem ShpV.struct {t : TypeId} {d : D} {fs : Array Field} (hu : P.underlying t = some (.struct fs)) (h : ShpV P t d) : ∃ ds, d = .agg ds ∧ ShpF P (fs.toList.map (·.type)) ds := by
  unfold ShpV at h
  rw [hu] at h
  obtain ⟨ds, rfl, h⟩ := h
  exact ⟨ds, rfl, h.struct_inv hu⟩
theorem readB_mem {ts : List TypeId} (h : (ts.all fun t => P.readableRec t && Nat.blt t P.types.size) = true) : ∀ t ∈ ts, P.readableRec t = true ∧ t < P.types.size := by
  intro t ht
  have := List.all_eq_true.1 h t ht
  simp only [Bool.and_eq_true] at this
  exact ⟨this.1, Nat.le_of_ble_eq_true this.2⟩
end
end Go.Ab
/- Contracts of library functions out of what the kit's shelf says of their calls; a law over package variables. -/
namespace Go.Ab
open Go Go.RowKit Go.ChangeShapes Go.WideShapes Go.ChangeAt

section
variable {E : Env} {f : FuncId} {cds : List D}
/-- arguments in a world -/
structure Meets (E : Env) (w : World) (Av : Nat → Prop) (cds : List D) (vs : List Value) : Prop where
  len : cds.length = vs.length
  arg : ∀ (i : Nat) (d : D) (u : Value), cds[i]? = some d → vs[i]? = some u → VG w Av (fun _ => none) d u
  gl : ∀ g cs, E.gl g = some cs → VI w Av (.ep cs) (.pointer (some ⟨g, 0, none⟩))
theorem VG.s_inv {w : World} {Av : Nat → Prop} {ρ : Nat → Option Value} {l : List UInt8} {v : Value} (h : VG w Av ρ (.s l) v) : v = .string ⟨l.toArray⟩ := VR.s_inv (.gr h)
theorem VG.k_inv {w : World} {Av : Nat → Prop} {ρ : Nat → Option Value} {kd : IntKind} {n : Int} {v : Value} (h : VG w Av ρ (.k kd n) v) : v = .int kd n := VR.k_inv (.gr h)

theorem heap_new (w : World) (o : Obj) : (w.alloc o).heap[w.heap.size]? = some o := by
  unfold World.alloc
  simp

/-- a function that turns nothing -/
theorem con_still {d : D} (hf : Callable E.P f) (h : ∀ (w : World) (vs : List Value) (Av : Nat → Prop), Meets E w Av cds vs → Calls E.P f vs.toArray w fun e w' => w' = w ∧ ∃ v, e = .returned v ∧ VR w Av (fun _ => none) d v) : Con E f 0 cds [] d [] := by
  refine ⟨hf, fun w vs ρ G hl _ _ ha hs _ hd hg => ?_⟩
  have hρ : ρ = fun _ => none := funext fun t => hd t (Nat.zero_le _)
  subst hρ
  refine (h w vs _ ⟨hl, ha, hg⟩).mono fun e w' ⟨hw, v, he, hv⟩ => ?_
  subst hw
  exact ⟨v, fun _ => none, he, hv, fun t b h => by simp [lk] at h, fun t t' b b' x h => by simp [lk] at h, fun x hx => .inr hx, fun _ _ h => absurd h (Nat.not_lt_zero _), Fr.refl _ _⟩

/-- a function that turns nothing that was there -/
theorem con_fr {d : D} (hf : Callable E.P f) (h : ∀ (w : World) (vs : List Value) (Av : Nat → Prop), Meets E w Av cds vs → Calls E.P f vs.toArray w fun e w' => Fr (fun _ => False) w w' ∧ ∃ v, e = .returned v ∧ VR w' Av (fun _ => none) d v) : Con E f 0 cds [] d [] := by
  refine ⟨hf, fun w vs ρ G hl _ _ ha hs _ hd hg => ?_⟩
  have hρ : ρ = fun _ => none := funext fun t => hd t (Nat.zero_le _)
  subst hρ
  refine (h w vs _ ⟨hl, ha, hg⟩).mono fun e w' ⟨hw, v, he, hv⟩ => ?_
  exact ⟨v, fun _ => none, he, hv, fun t b h => by simp [lk] at h, fun t t' b b' x h => by simp [lk] at h, fun x hx => .inr hx, fun _ _ h => absurd h (Nat.not_lt_zero _), hw.os, hw.tape, hw.output, hw.size, fun k hk _ => hw.block k hk (fun h => h)⟩
theorem Fr.of_below {w w' : World} (h : Below w.heap.size w w') : Fr (fun _ => False) w w' := ⟨h.os, h.tape, h.output, h.size, fun k hk _ => h.block k hk⟩
/-- the strings of a slice that is only read -/
theorem VG.strs {w : World} {Av : Nat → Prop} {ρ : Nat → Option Value} {ls : List (List UInt8)} {u : Value} (h : VG w Av ρ (.sl (ls.map fun l => [.s l])) u) :
    (ls = [] ∧ ∃ a c, u = .slice a 0 c) ∨ ∃ bk o c, u = .slice (some ⟨bk, o, none⟩) ls.length c ∧ ls.length ≤ c ∧ bk < w.heap.size ∧ ∀ (j : Nat) l, ls[j]? = some l → w.cell? ⟨bk, o + j, none⟩ = some (.string ⟨l.toArray⟩) := by
  obtain ⟨A, n, c, rfl, hn, hnc, hc, hA, hE⟩ := (VR.sl_inv (.gr h)).sl_inv
  rw [List.length_map] at hn
  by_cases hl : ls = []
  · subst hl
    subst hn
    exact .inl ⟨rfl, A, c, rfl⟩
  · right
    have hne : (ls.map fun l => [D.s l]) ≠ [] := by simpa using hl
    match A with
    | none => exact absurd (hA rfl).1 hne
    | some ad =>
      obtain ⟨hb, _, sz, hsz, hcell⟩ := hE ad rfl
      have h1 : sz = 1 := by
        have := hsz ((ls.map fun l => [D.s l]).head hne) (List.head_mem hne)
        match ls, hl with
        | l :: r, _ => simpa using this.symm
      subst h1
      have get : ∀ (j : Nat) l, ls[j]? = some l → w.cell? (ad.add j) = some (.string ⟨l.toArray⟩) := by
        intro j l hj
        obtain ⟨u, hu, _, hv⟩ := hcell j 0 [.s l] (.s l) (by simp [hj]) rfl
        have : u = .string ⟨l.toArray⟩ := by
          cases hv with
          | s => rfl
        rw [this] at hu
        simpa using hu
      have hsub : ad = ⟨ad.block, ad.off, none⟩ := by
        match ls, hl, get with
        | l :: r, _, get =>
          have := get 0 l rfl
          match ad, this with
          | ⟨b, o, none⟩, _ => rfl
          | ⟨b, o, some q⟩, this =>
            simp only [World.cell?, Addr.add] at this
            split at this <;> simp at this
      refine ⟨ad.block, ad.off, c, by rw [← hsub, hn], by omega, hb hne, fun j l hj => ?_⟩
      have := get j l hj
      rw [hsub] at this
      by_cases hj0 : j = 0
      · subst hj0
        simpa [Addr.add] using this
      · simpa [Addr.add, hj0] using this
/-- a function that lays a new slice of strings -/
theorem con_strs {et : TypeId} {ls : List (List UInt8)} (hce : E.P.cellsOf et = 1) (hf : Callable E.P f) (hlen : ls.length ≤ maxLen)
    (h : ∀ (w : World) (vs : List Value) (Av : Nat → Prop), Meets E w Av cds vs → Calls E.P f vs.toArray w fun e w' =>
      e = .returned (.slice (some ⟨w.heap.size, 0, none⟩) ls.length ls.length) ∧ w' = w.alloc (.cells (ls.map fun l => Value.string ⟨l.toArray⟩).toArray et)) : Con E f 0 cds [] (.own 0) [(0, .own et (ls.map fun l => [.s l]))] := by
  refine ⟨hf, fun w vs ρ G hl hG _ ha hs _ hd hg => ?_⟩
  have hρ : ρ = fun _ => none := funext fun t => hd t (Nat.zero_le _)
  subst hρ
  refine (h w vs _ ⟨hl, ha, hg⟩).mono fun e w' ⟨he, hw⟩ => ?_
  subst hw
  let v : Value := .slice (some ⟨w.heap.size, 0, none⟩) ls.length ls.length
  let ρ' : Nat → Option Value := fun t => if t = 0 then some v else none
  have h0 : ∀ {t : Nat} {b : Blk}, lk [(0, Blk.own et (ls.map fun l => [D.s l]))] t = some b → t = 0 ∧ b = .own et (ls.map fun l => [D.s l]) := by
    intro t b hb
    rw [lk_cons] at hb
    split at hb
    · rename_i ht; cases hb; exact ⟨ht.symm, rfl⟩
    · simp [lk] at hb
  have hblk : ∀ {t x : Nat} {b : Blk}, lk [(0, Blk.own et (ls.map fun l => [D.s l]))] t = some b → (ρ' t).bind blkOf = some x → x = w.heap.size := by
    intro t x b hb hx
    obtain ⟨rfl, _⟩ := h0 hb
    simp [ρ', v, blkOf] at hx
    exact hx.symm
  refine ⟨v, ρ', he, .gr (.atom (.own (by simp [ρ']) rfl)), fun t b hb => ?_, fun t t' b b' x hb hb' _ _ _ _ => by rw [(h0 hb).1, (h0 hb').1], fun x ⟨t, b, hb, _, hx⟩ => .inl (Nat.le_of_eq (hblk hb hx).symm), fun _ _ h => absurd h (Nat.not_lt_zero _), ?_⟩
  · obtain ⟨rfl, rfl⟩ := h0 hb
    refine ⟨v, ls.map fun l => Value.string ⟨l.toArray⟩, by simp [ρ'], ⟨by simp [hce], ?_⟩, by simp [hce], fun cs hcs => ?_, fun u hu => ?_, fun i j cs d hc hd' => ?_⟩
    · by_cases hn : ls.length = 0 ∧ False
      · exact hn.2.elim
      · refine .inr ⟨w.heap.size, ls.length, (ls.map fun l => Value.string ⟨l.toArray⟩).toArray, by simp [v], Nat.zero_le _, heap_new w _, by simp, hlen, by simp [hce], by rw [hce]; simp [List.take_of_length_le]⟩
    · obtain ⟨l, _, rfl⟩ := List.mem_map.1 hcs
      simp [hce]
    · obtain ⟨l, _, rfl⟩ := List.mem_map.1 hu
      rfl
    · simp only [List.getElem?_map, Option.map_eq_some_iff] at hc
      obtain ⟨l, hl', rfl⟩ := hc
      cases j with
      | zero =>
        simp at hd'
        subst hd'
        exact ⟨.string ⟨l.toArray⟩, by simp [hce, hl'], .s l⟩
      | succ j => simp at hd'
  · have := fr_alloc w (.cells (ls.map fun l => Value.string ⟨l.toArray⟩).toArray et)
    exact ⟨this.os, this.tape, this.output, this.size, fun k hk _ => this.block k hk (fun h => h)⟩
end

section
variable {H : Type} {enc : TypeId × Value → H}
/-- the law's contract gives what the row asks of a call, over package variables that are laid -/
theorem law_calls_gl {E : Env} {f : FuncId} {fn : Func} {s : ChangeSpec} {bt : TypeId} {dp : Nat} (hl : laidOutB E.P = true) (hr : ∀ t ∈ fn.params.toList, E.P.readableRec t = true ∧ t < E.P.types.size) (ha : fn.params.toList.all (argTy E.P dp) = true)
    (hbt : E.P.underlying bt = some .bool) (hres : fn.resultTypes = #[bt]) (hvars : s.vars = []) (hspec : ∀ (H : Type) (ds : List (DataW H)), ds.length = fn.params.size → s.fn H ds = { results := [.lit (.bool true)], args := ds })
    (hcon : ∀ cds, ShpAll E.P fn.params.toList cds → Con E f 0 cds [] (.b true) [])
    (W : World) (hgl : ∀ g cs, E.gl g = some cs → VI W noAv (.ep cs) (.pointer (some ⟨g, 0, none⟩))) (base : Nat) (args : Array Value) (ds gs : List (DataW H)) (before : List MemPlace) (hval : ∀ (j : Nat) t v, fn.params[j]? = some t → args[j]? = some v → Value.okWide E.P W .any base t v)
    (hW : DataW.Whole enc E.P fn.params.toList s.vars false W args.toList ds gs before) :
    Calls E.P f args W fun e W' => ∃ v, e = .returned v ∧ s.post enc E.P fn false true false false W args v W' := by
  have hW' := hW
  obtain ⟨p, q, hA, hV, rfl, hfz, hnd⟩ := hW
  rw [hvars] at hV
  obtain ⟨rfl, rfl⟩ := trodVars_none hV
  obtain ⟨cds, c1, c2, c3⟩ := args_shp ha (fun j t v h1 h2 => hval j t v (by simpa using h1) (by simpa using h2)) hA
  have hheld : ∀ x, ¬ Held [] (fun _ => none) x := by rintro x ⟨t, b, h, _⟩; simp [lk] at h
  have hav : ∀ y, ¬ AvS (fun _ => False) [] (fun _ => none) y := by
    rintro y (h | h)
    · exact h
    · exact hheld y h
  have hc := (hcon cds c2).2 W args.toList (fun _ => none) (fun _ => False) c1 (fun _ h => h.elim) (fun _ h => h.elim) (fun i d u h1 h2 => c3 i d u h1 h2 _ _ hav) (fun t b h => by simp [lk] at h) (fun t t' b b' x h => by simp [lk] at h) (fun _ _ => rfl)
    (fun g cs h => (hgl g cs h).mono (fun _ _ _ => rfl) (Nat.le_refl _) fun x _ hx => (hav x hx).elim)
  have hargs : args.toList.toArray = args := by simp
  rw [hargs] at hc
  refine hc.mono fun e W2 hpost => ?_
  obtain ⟨v, ρ', rfl, hv, _, _, _, _, hfr⟩ := hpost
  obtain rfl := hv.b_inv
  refine ⟨_, rfl, ?_⟩
  have hb : Below W.heap.size W W2 := ⟨hfr.os, hfr.tape, hfr.output, hfr.size, fun k hk => hfr.block k hk (hheld k)⟩
  have hlen := (trodAll_len hA).2
  have hs := hspec H ds (by simpa using hlen)
  have hlt : ∀ x ∈ p, x.block < W.heap.size := fun x hx => hW'.lt x (by simpa using hx)
  refine post_below (pa := p) (pv := []) hW' (fun b sp hd => ?_) (fun sp hsp => ?_) (fun sp _ => ?_) rfl hb ?_
  · rw [hres, List.append_nil, hs]
    exact trodAll_mk1 (shut_bool hbt true)
  · rw [List.append_nil, hs]
    exact args_stay hl hb hr hlt (fun x hx => hsp x (by simpa using hx)) hA
  · rw [hvars, List.append_nil, hs]
    rfl
  · exact ok_one hres rfl (okWide_bool_mk hbt true)
end

/-- the row over a condition on the world, with the shape of the world at hand -/
theorem returns_laid {H : Type} {enc : TypeId × Value → H} {a : Assume} {C : Checked} {os : Os} {f : FuncId} {fn : Func} {s : ChangeSpec} {conds : List PathCond} {apart fresh handsOn again : Bool} {X : World → Array Value → Prop}
    (hX : ∀ (w w' : World) (args : Array Value), w.heap = w'.heap → X w args → X w' args)
    (own : ownKnob C.prog.godebug = none) (started : os.Started) (noInit : C.prog.inits.idxOf? f = none) (hfn : C.prog.funcs[f]? = some fn)
    (witness : ∃ (w : World) (tape : Tape) (i : Input), w.os = os ∧ (w.forCall tape i).Shaped C.prog ∧ i.vars = [] ∧ Input.okWide C.prog (w.forCall tape i) .any w.heap.size f i ∧
      ((s.pre enc C.prog fn conds apart (w.forCall tape i).memory i.args ∧ X (w.forCall tape i).memory i.args) ∧ sizedMet enc C.prog fn (OpenSpec.ofChange s) apart (w.forCall tape i).memory i.args) ∧ a.holds C.prog (lone (Frame.enter C.prog f i.args .normal) [] (w.forCall tape i)))
    (contract : ∀ (W : World) (base : Nat) (args : Array Value) (ds gs : List (DataW H)) (before : List MemPlace),
      (∀ (j : Nat) t v, fn.params[j]? = some t → args[j]? = some v → Value.okWide C.prog W .any base t v) →
      DataW.Whole enc C.prog fn.params.toList s.vars apart W args.toList ds gs before → W.ShapedOpen C.prog → X W args →
      Calls C.prog f args W fun e W' => ∃ v, e = .returned v ∧ s.post enc C.prog fn apart fresh handsOn again W args v W') :
    ReturnsInHanded a C os f .any (fun w args => (s.pre enc C.prog fn conds apart w args ∧ X w args) ∧ sizedMet enc C.prog fn (OpenSpec.ofChange s) apart w args) (s.post enc C.prog fn apart fresh handsOn again) := by
  refine returnsInHanded_of_calls own started noInit witness ?_
  intro w tape i _ hsh _ hok hpre _
  obtain ⟨_, _, _, fn', hfn', _, _, _, _, hval⟩ := hok
  have e : fn' = fn := Option.some.inj (hfn'.symm.trans hfn)
  subst e
  obtain ⟨⟨⟨ds, gs, before, hw, _⟩, hx⟩, _⟩ := hpre
  have hw' := DataW.Whole.of_heap (w' := w.forCall tape i) (by rfl) hw
  refine (contract (w.forCall tape i) w.heap.size i.args ds gs before hval hw' hsh (hX _ _ _ (by rfl) hx)).mono fun e W' ⟨v, he, hp⟩ => ?_
  subst he
  exact ChangeSpec.post_blind hp
/-- one cell of a package variable, laid -/
theorem gl_one {W : World} {g : Nat} {d : D} {u : Value} (h : W.cell? ⟨g, 0, none⟩ = some u) (h1 : u.oneCell' = true) (hv : VI W noAv d u) : VI W noAv (.ep [d]) (.pointer (some ⟨g, 0, none⟩)) := by
  refine .ep (fun _ => u) (World.block_lt_of_cell? _ _ h) (fun h => h) (fun j d' hj => ?_) (fun j d' hj => h1) (fun j d' hj => ?_)
  · cases j with
    | zero => exact h
    | succ j => simp at hj
  · cases j with
    | zero => simp at hj; subst hj; exact hv
    | succ j => simp at hj
/-- a contract holds where more is laid -/
theorem Con.wide {P : Program} {ty : TypeId → Option TD} {gl gl' : Nat → Option (List D)} {f : FuncId} {k : Nat} {cds : List D} {Sa : Store} {d : D} {S' : Store} (hg : ∀ g cs, gl g = some cs → gl' g = some cs)
    (h : Con ⟨P, ty, gl⟩ f k cds Sa d S') : Con ⟨P, ty, gl'⟩ f k cds Sa d S' :=
  ⟨h.1, fun w vs ρ G h1 h2 h3 h4 h5 h6 h7 h8 => h.2 w vs ρ G h1 h2 h3 h4 h5 h6 h7 fun g cs e => h8 g cs (hg g cs e)⟩
theorem bsplit.tt {K : Bool → Prop} (h : K true) : bsplit true K := ⟨fun _ => h, fun h => Bool.noConfusion h⟩
theorem bsplit.ff {K : Bool → Prop} (h : K false) : bsplit false K := ⟨fun h => Bool.noConfusion h, fun _ => h⟩

/-! the names that a round's end keeps, found by themselves -/
def addNew : List Nat → List Nat → List Nat
  | ns, [] => ns
  | ns, n :: r => match memB n ns with
    | true => addNew ns r
    | false => addNew (ns ++ [n]) r
def slotNames (tm : Tm) : List Nat → List Nat → List Nat
  | [], ns => ns
  | t :: r, ns => match lk tm t with
    | some d => slotNames tm r (addNew ns (nmR d))
    | none => slotNames tm r ns
def reachNames (S : Store) : Nat → List Nat → List Nat → List Nat
  | 0, _, ns => ns
  | _ + 1, [], ns => ns
  | f + 1, n :: r, ns => match lk S n with
    | some b => reachNames S f (r ++ minus ns (blkNames b)) (addNew ns (blkNames b))
    | none => reachNames S f r ns
def autoNs (k0 : Nat) (tm : Tm) (S : Store) (ts : List Nat) : List Nat :=
  match slotNames tm ts (news 0 k0) with
  | ns => reachNames S 16 ns ns
theorem landK.auto {k0 : Nat} {tm : Tm} {S : Store} {nx : Nat} {J : Tm → Store → Nat → Prop} (ts : List Nat)
    (h : nodupB (autoNs k0 tm S ts) = true ∧ preB 0 k0 (autoNs k0 tm S ts) = true ∧ J (carTm (autoNs k0 tm S ts) tm ts) (carS (autoNs k0 tm S ts) S (autoNs k0 tm S ts) 0) (autoNs k0 tm S ts).length) : landK k0 tm S nx J :=
  ⟨[], ts, autoNs k0 tm S ts, h⟩
theorem loadK_some {td : TD} {cs : List D} {K : D → Prop} (h : loadK td cs K) : ∃ d, K d ∧ ∀ K' : D → Prop, K' d → loadK td cs K' := by
  unfold loadK at h ⊢
  split at h
  · rename_i h1
    split at h
    · rename_i h2
      exact ⟨_, h, fun K' hk => hk⟩
    · exact h.elim
  · rename_i h1
    match cs, h with
    | d :: _, h => exact ⟨d, h, fun K' hk => hk⟩
theorem addrK_some {E : Env} {S : Store} {d : D} {td : TD} {K : D → Prop} (h : addrK E S d td K) : ∃ d', K d' ∧ ∀ K' : D → Prop, K' d' → addrK E S d td K' := by
  cases d with
  | bp n off =>
    simp only [addrK] at h ⊢
    match hl : lk S n, h with
    | some (.box e cs), h => exact loadK_some h
  | ep cs => exact loadK_some h
  | op n sz i off =>
    simp only [addrK] at h ⊢
    have go : ∀ {e : TypeId} {xs : List (List D)}, szK E e sz (∃ cs, xs[i]? = some cs ∧ loadK td (cs.drop off) K) → ∃ d', K d' ∧ ∀ K' : D → Prop, K' d' → szK E e sz (∃ cs, xs[i]? = some cs ∧ loadK td (cs.drop off) K') := by
      intro e xs h
      unfold szK at h ⊢
      match hE : E.ty e, h with
      | some te, h =>
        cases hb : Nat.beq te.size sz with
        | true =>
          simp only [hb] at h
          obtain ⟨cs, h1, h2⟩ := h
          obtain ⟨d', h3, h4⟩ := loadK_some h2
          exact ⟨d', h3, fun K' hk => by simp only [hb]; exact ⟨cs, h1, h4 K' hk⟩⟩
        | false => simp only [hb] at h
    match hl : lk S n, h with
    | some (.own e xs), h => exact go h
    | some (.row e xs), h => exact go h
  | b x => exact h.elim
  | k kd n => exact h.elim
  | s l => exact h.elim
  | v x => exact h.elim
  | nil => exact h.elim
  | sl xs => exact h.elim
  | own t => exact h.elim
  | fn f caps => exact h.elim
  | agg ds => exact h.elim
  | tup ds => exact h.elim
  | junk => exact h.elim
theorem resK_some {E : Env} {tm : Tm} {S : Store} : ∀ {rv : List ResultVar} {K : List D → Prop}, resK E tm S rv K → ∃ ds, K ds ∧ ∀ K' : List D → Prop, K' ds → resK E tm S rv K'
  | [], K, h => ⟨[], h, fun _ hk => hk⟩
  | .tmp t :: r, K, h => by
    simp only [resK] at h ⊢
    match hl : lk tm t, h with
    | some d, h =>
      obtain ⟨ds, h1, h2⟩ := resK_some h
      exact ⟨d :: ds, h1, fun K' hk => h2 _ hk⟩
  | .cell a t :: r, K, h => by
    simp only [resK] at h ⊢
    match hl : lk tm a, h with
    | some d, h =>
      obtain ⟨td, ht, h⟩ := tyK_inv h
      obtain ⟨d', h1, h2⟩ := addrK_some h
      obtain ⟨ds, h3, h4⟩ := resK_some h1
      refine ⟨d' :: ds, h3, fun K' hk => ?_⟩
      simp only [tyK, ht]
      exact h2 _ (h4 _ hk)
theorem finK.auto {E : Env} {k0 : Nat} {rv : List ResultVar} {d : D} {S' : Store} {tm : Tm} {S : Store} {nx : Nat}
    (h : resK E tm S rv fun ds => nodupB (reachNames S 16 (addNew (news 0 k0) (nmDs ds)) (addNew (news 0 k0) (nmDs ds))) = true ∧ preB 0 k0 (reachNames S 16 (addNew (news 0 k0) (nmDs ds)) (addNew (news 0 k0) (nmDs ds))) = true ∧
      carR (reachNames S 16 (addNew (news 0 k0) (nmDs ds)) (addNew (news 0 k0) (nmDs ds))) (oneRes ds) = some d ∧
      carS (reachNames S 16 (addNew (news 0 k0) (nmDs ds)) (addNew (news 0 k0) (nmDs ds))) S (reachNames S 16 (addNew (news 0 k0) (nmDs ds)) (addNew (news 0 k0) (nmDs ds))) 0 = S') : finK E k0 rv d S' tm S nx := by
  obtain ⟨ds, h1, h2⟩ := resK_some h
  exact ⟨[], reachNames S 16 (addNew (news 0 k0) (nmDs ds)) (addNew (news 0 k0) (nmDs ds)), h2 _ h1⟩

theorem all_false {α : Type} {p : α → Bool} {l : List α} {i : Nat} {x : α} (h : l[i]? = some x) (hp : p x = false) : l.all p = false := by
  rw [List.all_eq_false]
  exact ⟨x, List.mem_of_getElem? h, by simp [hp]⟩
theorem all_take_succ {α : Type} {p : α → Bool} {l : List α} {i : Nat} {x : α} (ha : (l.take i).all p = true) (h : l[i]? = some x) (hp : p x = true) : (l.take (i + 1)).all p = true := by
  rw [List.take_add_one, h]
  simp only [List.all_append, ha, Option.toList_some, List.all_cons, hp, List.all_nil, Bool.and_self]
theorem all_take_full {α : Type} {p : α → Bool} {l : List α} {i : Nat} (ha : (l.take i).all p = true) (h : l.length ≤ i) : l.all p = true := by
  rw [List.take_of_length_le h] at ha
  exact ha
theorem map_get {α β : Type} {l : List α} {f : α → β} {i : Nat} (h : i < l.length) : (l.map f)[i]? = some (f l[i]) := by
  rw [List.getElem?_map, List.getElem?_eq_getElem h]
  rfl
theorem map_len {α : Type} {l : List α} {f : α → List D} {z : Nat} (h : ∀ a, (f a).length = z) : ∀ cs ∈ l.map f, cs.length = z := by
  intro cs hcs
  obtain ⟨a, _, rfl⟩ := List.mem_map.1 hcs
  exact h a
theorem one_len {cs : List D} {z : Nat} (h : cs.length = z) : ∀ x ∈ [cs], x.length = z := by
  intro x hx
  rw [List.mem_singleton] at hx
  rw [hx]; exact h
theorem room_one : 1 ≤ room := by decide
/-- a round's end (two constructors: no step takes it for a pair) -/
inductive RoundEnd (n : Nat) (L : Nat → Prop) : Prop where
  | here (h : ∃ m', m' < n ∧ L m')
  | never (h : False)
theorem RoundEnd.out {n : Nat} {L : Nat → Prop} (h : RoundEnd n L) : ∃ m', m' < n ∧ L m' := by
  cases h with
  | here h => exact h
  | never h => exact h.elim
/-- a call's end -/
inductive CallEnd (P : List Mv → List Nat → Prop) : Prop where
  | here (h : ∃ ms ns, P ms ns)
  | never (h : False)
theorem CallEnd.out {P : List Mv → List Nat → Prop} (h : CallEnd P) : ∃ ms ns, P ms ns := by
  cases h with
  | here h => exact h
  | never h => exact h.elim
end Go.Ab
/- A run has one end: what the symbolic run promises of SOME end is had of the one that there is; so a contract may say of its result only what is wanted. -/
namespace Go.Ab
open Go Go.RowKit

section
variable {E : Env}
/-- the end, all of it -/
abbrev EqQ (e : Ex) (t : Tm) (S : Store) (n : Nat) : Ex → Tm → Store → Nat → Prop := fun e1 t1 S1 n1 => e1 = e ∧ t1 = t ∧ S1 = S ∧ n1 = n

theorem land_pick {k0 : Nat} {tm : Tm} {S : Store} {nx : Nat} {J : Tm → Store → Nat → Prop} (h : landK k0 tm S nx J) : ∃ t1 S1 n1, J t1 S1 n1 ∧ landK k0 tm S nx fun t s n => t = t1 ∧ s = S1 ∧ n = n1 := by
  obtain ⟨ms, ts, ns, h⟩ := h
  match hm : mvs ms tm S nx with
  | some (tm1, S1, nx1) =>
    rw [hm] at h
    obtain ⟨h1, h2, h3⟩ := h
    refine ⟨_, _, _, h3, ms, ts, ns, ?_⟩
    rw [hm]
    exact ⟨h1, h2, rfl, rfl, rfl⟩
  | none => rw [hm] at h; exact h.elim

/-- the body of a loop, and all rounds behind it -/
def InLoop (P : Program) (c : Code) (Q : Exit → Act → World → Prop) (a : Act) (w : World) : Prop :=
  ∀ b k cs, ∃ e a' w', Q e a' w' ∧ Arrives P (lone (b.at a (.code c :: .inLoop c :: k)) cs w) b k cs e a' w'
theorem InLoop.go {P : Program} {c : Code} {Q : Exit → Act → World → Prop} {a : Act} {w : World} (h : InLoop P c Q a w) : (Code.loop c).wp P Q a w := by
  intro b k cs
  obtain ⟨e, a', w', hq, harr⟩ := h b k cs
  exact ⟨e, a', w', hq, .of_steps (.one step_loop) harr⟩
theorem InLoop.of {P : Program} {c : Code} {Q : Exit → Act → World → Prop} {a : Act} {w : World} (h : c.wp P (Exit.then (InLoop P c Q) Q) a w) : InLoop P c Q a w := by
  intro b k cs
  obtain ⟨e, a₁, w₁, hq, harr⟩ := h b (.inLoop c :: k) cs
  cases e with
  | normal =>
    obtain ⟨e₂, a₂, w₂, hq₂, harr₂⟩ := hq b k cs
    exact ⟨e₂, a₂, w₂, hq₂, .of_steps (Steps.trans harr (.one step_inLoop)) harr₂⟩
  | exit id => exact ⟨_, a₁, w₁, hq, .pass (x := .inLoop c) rfl (fun _ _ => .inl (by simp)) harr⟩
  | goto l => exact ⟨_, a₁, w₁, hq, .pass (x := .inLoop c) rfl (fun _ _ => .inl (by simp)) harr⟩
  | ret => exact ⟨_, a₁, w₁, hq, .pass (x := .inLoop c) rfl (fun _ _ => .inl (by simp)) harr⟩
  | panic ch => exact ⟨_, a₁, w₁, hq, .pass (x := .inLoop c) rfl (fun _ _ => .inl (by simp)) harr⟩
  | outgrown => exact ⟨_, a₁, w₁, hq, .pass (x := .inLoop c) rfl (fun _ _ => .inl (by simp)) harr⟩

theorem awp_pick (hty : TyOk E) (hmix : E.P.follows .mixedOrders = true) {N k0 : Nat} : ∀ (c : Code) (tm : Tm) (S : Store) (nx : Nat) (Q : Ex → Tm → Store → Nat → Prop), codeOk N c = true → awp E k0 c tm S nx Q →
    ∃ e t S' n, Q e t S' n ∧ AW E N k0 c tm S nx (EqQ e t S' n) := by
  intro c
  induction c with
  | skip => intro tm S nx Q _ hk; exact ⟨.normal, tm, S, nx, hk, fun cx a w ρ Q' _ _ h hf hQ => wp_skip (hQ .normal _ _ ⟨_, _, _, _, h, hf, rfl, rfl, rfl, rfl⟩)⟩
  | region id ops draw =>
    intro tm S nx Q hok hk
    cases draw with
    | true =>
      obtain ⟨ms, tm', S', nx', h1, h2⟩ := run_of_awp hty _ _ _ _ _ _ hk
      obtain ⟨h2, h3⟩ := h2
      simp only [List.append_nil, List.reverse_reverse] at h2
      refine ⟨.normal, tm', S', nx', h3, fun cx a w ρ Q' hN _ h hf hQ => ?_⟩
      subst hN
      exact wp_region_any hmix (draw_sound (fun a w ρ h hf => hQ .normal a w ⟨_, _, _, _, h, hf, rfl, rfl, rfl, rfl⟩) h1 h2 hok (h.drew) hf)
    | false =>
      obtain ⟨ms, tm', S', nx', h1, h2⟩ := run_of_awp hty _ _ _ _ _ _ hk
      refine ⟨.normal, tm', S', nx', h2, fun cx a w ρ Q' hN _ h hf hQ => ?_⟩
      subst hN
      exact wp_region_list (run_sound (fun a w ρ h hf => hQ .normal a w ⟨_, _, _, _, h, hf, rfl, rfl, rfl, rfl⟩) _ _ _ _ _ _ _ _ hok h1 h hf)
  | seq x y ihx ihy =>
    intro tm S nx Q hok hk
    simp only [codeOk, Bool.and_eq_true] at hok
    obtain ⟨e, t, S1, n, hq, hx⟩ := ihx tm S nx _ hok.1 hk
    cases e with
    | normal =>
      obtain ⟨e2, t2, S2, n2, hq2, hy⟩ := ihy t S1 n Q hok.2 hq
      refine ⟨e2, t2, S2, n2, hq2, fun cx a w ρ Q' hN hk0 h hf hQ => wp_seq (hx cx a w ρ _ hN hk0 h hf fun e a w hn => ?_)⟩
      obtain ⟨tm, S, nx, ρ, h, hf, rfl, rfl, rfl, rfl⟩ := hn
      exact hy cx a w ρ Q' hN hk0 h hf hQ
    | exit i =>
      refine ⟨.exit i, t, S1, n, hq, fun cx a w ρ Q' hN hk0 h hf hQ => wp_seq (hx cx a w ρ _ hN hk0 h hf fun e a w hn => ?_)⟩
      obtain ⟨tm, S, nx, ρ, h, hf, rfl, rfl, rfl, rfl⟩ := hn
      exact hQ (.exit i) _ _ ⟨_, _, _, _, h, hf, rfl, rfl, rfl, rfl⟩
    | ret =>
      refine ⟨.ret, t, S1, n, hq, fun cx a w ρ Q' hN hk0 h hf hQ => wp_seq (hx cx a w ρ _ hN hk0 h hf fun e a w hn => ?_)⟩
      obtain ⟨tm, S, nx, ρ, h, hf, rfl, rfl, rfl, rfl⟩ := hn
      exact hQ .ret _ _ ⟨_, _, _, _, h, hf, rfl, rfl, rfl, rfl⟩
  | cond c x y ihx ihy =>
    intro tm S nx Q hok hk
    simp only [codeOk, Bool.and_eq_true] at hok
    unfold awp at hk
    split at hk
    · rename_i t
      split at hk
      · rename_i b hb
        have hk := bsplit_elim hk
        cases b
        · obtain ⟨e, t1, S1, n, hq, hy⟩ := ihy _ S nx Q hok.2 hk
          refine ⟨e, t1, S1, n, hq, fun cx a w ρ Q' hN hk0 h hf hQ => ?_⟩
          have hv : a.eval (.tmp t) = .bool false := (h.tm t _ hb).b_inv
          exact wp_cond hv (hy cx a w ρ Q' hN hk0 (h.again hb) hf hQ)
        · obtain ⟨e, t1, S1, n, hq, hx⟩ := ihx _ S nx Q hok.1 hk
          refine ⟨e, t1, S1, n, hq, fun cx a w ρ Q' hN hk0 h hf hQ => ?_⟩
          have hv : a.eval (.tmp t) = .bool true := (h.tm t _ hb).b_inv
          exact wp_cond hv (hx cx a w ρ Q' hN hk0 (h.again hb) hf hQ)
      · exact hk.elim
    · obtain ⟨e, t1, S1, n, hq, hx⟩ := ihx _ S nx Q hok.1 hk
      exact ⟨e, t1, S1, n, hq, fun cx a w ρ Q' hN hk0 h hf hQ => wp_cond (t := true) rfl (hx cx a w ρ Q' hN hk0 h hf hQ)⟩
    · obtain ⟨e, t1, S1, n, hq, hy⟩ := ihy _ S nx Q hok.2 hk
      exact ⟨e, t1, S1, n, hq, fun cx a w ρ Q' hN hk0 h hf hQ => wp_cond (t := false) rfl (hy cx a w ρ Q' hN hk0 h hf hQ)⟩
    · exact hk.elim
  | block id b ih =>
    intro tm S nx Q hok hk
    obtain ⟨e, t, S1, n, hq, hb⟩ := ih tm S nx _ hok hk
    cases e with
    | normal =>
      refine ⟨.normal, t, S1, n, hq, fun cx a w ρ Q' hN hk0 h hf hQ => wp_block (hb cx a w ρ _ hN hk0 h hf fun e a w hn => ?_)⟩
      obtain ⟨tm, S, nx, ρ, h, hf, rfl, rfl, rfl, rfl⟩ := hn
      exact hQ .normal _ _ ⟨_, _, _, _, h, hf, rfl, rfl, rfl, rfl⟩
    | ret =>
      refine ⟨.ret, t, S1, n, hq, fun cx a w ρ Q' hN hk0 h hf hQ => wp_block (hb cx a w ρ _ hN hk0 h hf fun e a w hn => ?_)⟩
      obtain ⟨tm, S, nx, ρ, h, hf, rfl, rfl, rfl, rfl⟩ := hn
      exact hQ .ret _ _ ⟨_, _, _, _, h, hf, rfl, rfl, rfl, rfl⟩
    | exit i =>
      simp only at hq
      split at hq
      · rename_i hbq
        refine ⟨.normal, t, S1, n, hq, fun cx a w ρ Q' hN hk0 h hf hQ => wp_block (hb cx a w ρ _ hN hk0 h hf fun e a w hn => ?_)⟩
        obtain ⟨tm, S, nx, ρ, h, hf, rfl, rfl, rfl, rfl⟩ := hn
        simp only [exOf, Exit.inBlock]
        rw [if_pos (Nat.eq_of_beq_eq_true hbq)]
        exact hQ .normal _ _ ⟨_, _, _, _, h, hf, rfl, rfl, rfl, rfl⟩
      · rename_i hbq
        refine ⟨.exit i, t, S1, n, hq, fun cx a w ρ Q' hN hk0 h hf hQ => wp_block (hb cx a w ρ _ hN hk0 h hf fun e a w hn => ?_)⟩
        obtain ⟨tm, S, nx, ρ, h, hf, rfl, rfl, rfl, rfl⟩ := hn
        simp only [exOf, Exit.inBlock]
        rw [if_neg (by rintro rfl; rw [Nat.beq_refl] at hbq; cases hbq)]
        exact hQ (.exit i) _ _ ⟨_, _, _, _, h, hf, rfl, rfl, rfl, rfl⟩
  | loop b ih =>
    intro tm S nx Q hok hk
    obtain ⟨I, ⟨m, hI⟩, hr⟩ := hk
    obtain ⟨t0, S0, n0, hI0, hl0⟩ := land_pick hI
    have key : ∀ (m : Nat) (t : Tm) (S : Store) (n : Nat), I m t S n → ∃ e t' S' n', Q e t' S' n' ∧ ∀ (cx : Cx) (a : Act) (w : World) (ρ : Nat → Option Value) (Q' : Exit → Act → World → Prop), cx.N = N → cx.k0 = k0 → R E cx t S a w ρ → Fresh n ρ →
        (∀ e1 a w, Nx E cx (EqQ e t' S' n' e1) a w → Q' (exOf e1) a w) → InLoop E.P b Q' a w := by
      intro m
      induction m using Nat.strongRecOn with
      | _ m ihm =>
        intro t S n hm
        obtain ⟨e, t1, S1, n1, hq, hb⟩ := ih t S n _ hok (hr m t S n hm)
        cases e with
        | normal =>
          obtain ⟨m', hlt, hl⟩ := hq
          obtain ⟨t2, S2, n2, hI2, hl2⟩ := land_pick hl
          obtain ⟨e3, t3, S3, n3, hq3, h3⟩ := ihm m' hlt t2 S2 n2 hI2
          refine ⟨e3, t3, S3, n3, hq3, fun cx a w ρ Q' hN hk0 h hf hQ => InLoop.of (hb cx a w ρ _ hN hk0 h hf fun e a w hn => ?_)⟩
          obtain ⟨tm, S, nx, ρ, h, hf, rfl, rfl, rfl, rfl⟩ := hn
          subst hk0
          obtain ⟨_, _, _, ρ2, h2, hf2, rfl, rfl, rfl⟩ := land_sound hl2 h hf
          exact h3 cx a w ρ2 Q' hN rfl h2 hf2 hQ
        | exit i =>
          refine ⟨.exit i, t1, S1, n1, hq, fun cx a w ρ Q' hN hk0 h hf hQ => InLoop.of (hb cx a w ρ _ hN hk0 h hf fun e a w hn => ?_)⟩
          obtain ⟨tm, S, nx, ρ, h, hf, rfl, rfl, rfl, rfl⟩ := hn
          exact hQ (.exit i) _ _ ⟨_, _, _, _, h, hf, rfl, rfl, rfl, rfl⟩
        | ret =>
          refine ⟨.ret, t1, S1, n1, hq, fun cx a w ρ Q' hN hk0 h hf hQ => InLoop.of (hb cx a w ρ _ hN hk0 h hf fun e a w hn => ?_)⟩
          obtain ⟨tm, S, nx, ρ, h, hf, rfl, rfl, rfl, rfl⟩ := hn
          exact hQ .ret _ _ ⟨_, _, _, _, h, hf, rfl, rfl, rfl, rfl⟩
    obtain ⟨e, t', S', n', hq, hgo⟩ := key m t0 S0 n0 hI0
    refine ⟨e, t', S', n', hq, fun cx a w ρ Q' hN hk0 h hf hQ => InLoop.go ?_⟩
    subst hk0
    obtain ⟨_, _, _, ρ2, h2, hf2, rfl, rfl, rfl⟩ := land_sound hl0 h hf
    exact hgo cx a w ρ2 Q' hN rfl h2 hf2 hQ
  | exit id => intro tm S nx Q _ hk; exact ⟨.exit id, tm, S, nx, hk, fun cx a w ρ Q' _ _ h hf hQ => wp_exit (hQ (.exit id) _ _ ⟨_, _, _, _, h, hf, rfl, rfl, rfl, rfl⟩)⟩
  | ret => intro tm S nx Q _ hk; exact ⟨.ret, tm, S, nx, hk, fun cx a w ρ Q' _ _ h hf hQ => wp_ret (hQ .ret _ _ ⟨_, _, _, _, h, hf, rfl, rfl, rfl, rfl⟩)⟩
  | rangeFunc => intro tm S nx Q _ hk; exact hk.elim
  | scope => intro tm S nx Q _ hk; exact hk.elim
  | label => intro tm S nx Q _ hk; exact hk.elim
  | goto => intro tm S nx Q _ hk; exact hk.elim
  | refuse => intro tm S nx Q _ hk; exact hk.elim

/-- the end of a run of which only this is wanted -/
def anyQ (E : Env) (k0 : Nat) (rv : List ResultVar) (G : D → Store → Prop) : Ex → Tm → Store → Nat → Prop
  | .exit _, _, _, _ => False
  | .normal, tm, S, nx => ∃ d S', finK E k0 rv d S' tm S nx ∧ G d S'
  | .ret, tm, S, nx => ∃ d S', finK E k0 rv d S' tm S nx ∧ G d S'
theorem con_any (hty : TyOk E) (hmix : E.P.follows .mixedOrders = true) {f : FuncId} {fn : Func} {c : Code} (hf : E.P.funcs[f]? = some fn) (hb : fn.body = some c) (hname : (fn.name == "runtime.NumGoroutine") = false) (hok : codeOk fn.ntmps c = true)
    {k : Nat} {cds : List D} {Sa : Store} {G : D → Store → Prop} (hle : cds.length ≤ fn.ntmps) (h : awp E k c (parTm 0 cds) Sa k (anyQ E k fn.results.toList G)) : ∃ d S', G d S' ∧ Con E f k cds Sa d S' := by
  obtain ⟨e, t, S, n, hq, ha⟩ := awp_pick hty hmix c _ _ _ _ hok h
  have fin : ∀ d S', finQ E k fn.results.toList d S' e t S n → G d S' → ∃ d S', G d S' ∧ Con E f k cds Sa d S' := by
    intro d S' hfin hg
    refine ⟨d, S', hg, con_of_AW hty hf hb hname hle fun cx a w ρ Q' hN hk0 h hf hQ => ha cx a w ρ Q' hN hk0 h hf fun e1 a w hn => ?_⟩
    obtain ⟨tm, S, nx, ρ, h, hf, rfl, rfl, rfl, rfl⟩ := hn
    exact hQ _ _ _ ⟨_, _, _, _, h, hf, hfin⟩
  cases e with
  | normal => obtain ⟨d, S', h1, h2⟩ := hq; exact fin d S' h1 h2
  | ret => obtain ⟨d, S', h1, h2⟩ := hq; exact fin d S' h1 h2
  | exit i => exact hq.elim
end
end Go.Ab
/- The symbolic run, a step at a time: each step is a theorem, so that what is left is compared as it stands. -/
namespace Go.Ab
open Go Go.RowKit

/-- the operations of a region that are still to come (two constructors: no step takes it for a pair) -/
inductive Ops (E : Env) (ops : Array Oper) (l : List Oper) (tm : Tm) (S : Store) (nx : Nat) (fs : List Fp) (K : List Fp → Tm → Store → Nat → Prop) : Prop where
  | mk (h : awpOps E ops l tm S nx fs K)
  | never (h : False)
/-- what the run of the code means: it has one end, of which Q holds -/
def PkC (E : Env) (k0 : Nat) (c : Code) (tm : Tm) (S : Store) (nx : Nat) (Q : Ex → Tm → Store → Nat → Prop) : Prop :=
  ∀ N, TyOk E → E.P.follows .mixedOrders = true → codeOk N c = true → ∃ e t S' n, Q e t S' n ∧ AW E N k0 c tm S nx (EqQ e t S' n)
/-- the code that is still to come -/
inductive Cd (E : Env) (k0 : Nat) (c : Code) (tm : Tm) (S : Store) (nx : Nat) (Q : Ex → Tm → Store → Nat → Prop) : Prop where
  | mk (h : PkC E k0 c tm S nx Q)
  | never (h : False)

section
variable {E : Env} {ops : Array Oper} {tm : Tm} {S : Store} {nx : Nat} {fs : List Fp} {K : List Fp → Tm → Store → Nat → Prop}
theorem Ops.eq {l : List Oper} : Ops E ops l tm S nx fs K = awpOps E ops l tm S nx fs K :=
  propext ⟨fun h => by cases h with
    | mk h => exact h
    | never h => exact h.elim, .mk⟩
theorem Ops.nil (h : K fs tm S nx) : Ops E ops [] tm S nx fs K := .mk h
theorem Ops.none {o : Oper} {r : List Oper} (hg : o.guard = none) (h : awpOp E o tm S nx fun fp tm S nx => Ops E ops r tm S nx (fp :: fs) K) : Ops E ops (o :: r) tm S nx fs K := by
  simp only [Ops.eq] at h ⊢
  unfold awpOps
  rw [hg]
  exact h
theorem Ops.guard {o : Oper} {r : List Oper} {j : Nat} {want : Bool} {t : Nat} {x : Bool} (hg : o.guard = some (j, want)) (ht : (ops[j]?).bind (·.dst) = some t) (hx : lk tm t = some (.b x))
    (h : bsplit x fun y => match (generalizing := false) want, y with
      | true, true => awpOp E o ((t, .b true) :: tm) S nx fun fp tm S nx => Ops E ops r tm S nx (fp :: fs) K
      | false, false => awpOp E o ((t, .b false) :: tm) S nx fun fp tm S nx => Ops E ops r tm S nx (fp :: fs) K
      | _, y => Ops E ops r (put o.dst (.tup []) ((t, .b y) :: tm)) S nx (fp0 :: fs) K) : Ops E ops (o :: r) tm S nx fs K := by
  simp only [Ops.eq] at h ⊢
  unfold awpOps
  rw [hg]
  simp only [ht, hx]
  exact h
theorem Ops.off {o : Oper} {r : List Oper} {j : Nat} {want : Bool} {t : Nat} (hg : o.guard = some (j, want)) (ht : (ops[j]?).bind (·.dst) = some t) (hx : lk tm t = some (.tup []))
    (h : Ops E ops r (put o.dst (.tup []) tm) S nx (fp0 :: fs) K) : Ops E ops (o :: r) tm S nx fs K := by
  simp only [Ops.eq] at h ⊢
  unfold awpOps
  rw [hg]
  simp only [ht, hx]
  exact h
end

section
variable {E : Env} {k0 : Nat} {tm : Tm} {S : Store} {nx : Nat} {Q : Ex → Tm → Store → Nat → Prop}
theorem Cd.out {c : Code} {tm : Tm} {S : Store} {nx : Nat} {Q : Ex → Tm → Store → Nat → Prop} (h : Cd E k0 c tm S nx Q) : PkC E k0 c tm S nx Q := by
  cases h with
  | mk h => exact h
  | never h => exact h.elim
theorem Cd.of_awp {c : Code} (h : awp E k0 c tm S nx Q) : Cd E k0 c tm S nx Q := .mk fun _ hty hmix hok => awp_pick hty hmix c _ _ _ _ hok h
theorem Cd.seq {x y : Code} (h : Cd E k0 x tm S nx fun e tm S nx => match e with
    | .normal => Cd E k0 y tm S nx Q
    | e => Q e tm S nx) : Cd E k0 (.seq x y) tm S nx Q := .mk fun N hty hmix hok => by
  simp only [codeOk, Bool.and_eq_true] at hok
  obtain ⟨e, t, S1, n, hq, hx⟩ := h.out N hty hmix hok.1
  cases e with
  | normal =>
    obtain ⟨e2, t2, S2, n2, hq2, hy⟩ := Cd.out hq N hty hmix hok.2
    refine ⟨e2, t2, S2, n2, hq2, fun cx a w ρ Q' hN hk0 h hf hQ => wp_seq (hx cx a w ρ _ hN hk0 h hf fun e a w hn => ?_)⟩
    obtain ⟨tm, S, nx, ρ, h, hf, rfl, rfl, rfl, rfl⟩ := hn
    exact hy cx a w ρ Q' hN hk0 h hf hQ
  | exit i =>
    refine ⟨.exit i, t, S1, n, hq, fun cx a w ρ Q' hN hk0 h hf hQ => wp_seq (hx cx a w ρ _ hN hk0 h hf fun e a w hn => ?_)⟩
    obtain ⟨tm, S, nx, ρ, h, hf, rfl, rfl, rfl, rfl⟩ := hn
    exact hQ (.exit i) _ _ ⟨_, _, _, _, h, hf, rfl, rfl, rfl, rfl⟩
  | ret =>
    refine ⟨.ret, t, S1, n, hq, fun cx a w ρ Q' hN hk0 h hf hQ => wp_seq (hx cx a w ρ _ hN hk0 h hf fun e a w hn => ?_)⟩
    obtain ⟨tm, S, nx, ρ, h, hf, rfl, rfl, rfl, rfl⟩ := hn
    exact hQ .ret _ _ ⟨_, _, _, _, h, hf, rfl, rfl, rfl, rfl⟩
/-- a place at which the steps wait -/
inductive Stop (P : Prop) : Prop where
  | here (h : P)
  | never (h : False)
theorem Cd.seqS {x y : Code} (h : Cd E k0 x tm S nx fun e tm S nx => match e with
    | .normal => Stop (Cd E k0 y tm S nx Q)
    | e => Q e tm S nx) : Cd E k0 (.seq x y) tm S nx Q := by
  have hS : ∀ P : Prop, Stop P = P := fun P => propext ⟨fun h => by cases h with
    | here h => exact h
    | never h => exact h.elim, .here⟩
  simp only [hS] at h
  exact Cd.seq h
/-- where a cut lands (two constructors: no step takes it for a pair) -/
inductive CutEnd (P : Prop) : Prop where
  | here (h : P)
  | never (h : False)
/-- a cut: what is behind it is run once -/
theorem Cd.cut {x y : Code} (J : Tm → Store → Nat → Prop) (h1 : Cd E k0 x tm S nx fun e tm S nx => match e with
    | .normal => CutEnd (landK k0 tm S nx J)
    | e => Q e tm S nx) (h2 : ∀ tm S nx, J tm S nx → Cd E k0 y tm S nx Q) : Cd E k0 (.seq x y) tm S nx Q := .mk fun N hty hmix hok => by
  simp only [codeOk, Bool.and_eq_true] at hok
  obtain ⟨e, t, S1, n, hq, hx⟩ := h1.out N hty hmix hok.1
  cases e with
  | normal =>
    have hl : landK k0 t S1 n J := by
      cases hq with
      | here h => exact h
      | never h => exact h.elim
    obtain ⟨t1, S2, n1, hJ, hl1⟩ := land_pick hl
    obtain ⟨e2, t2, S3, n2, hq2, hy⟩ := (h2 t1 S2 n1 hJ).out N hty hmix hok.2
    refine ⟨e2, t2, S3, n2, hq2, fun cx a w ρ Q' hN hk0 h hf hQ => wp_seq (hx cx a w ρ _ hN hk0 h hf fun e a w hn => ?_)⟩
    obtain ⟨tm, S, nx, ρ, h, hf, rfl, rfl, rfl, rfl⟩ := hn
    subst hk0
    obtain ⟨_, _, _, ρ2, h2, hf2, rfl, rfl, rfl⟩ := land_sound hl1 h hf
    exact hy cx a w ρ2 Q' hN rfl h2 hf2 hQ
  | exit i =>
    refine ⟨.exit i, t, S1, n, hq, fun cx a w ρ Q' hN hk0 h hf hQ => wp_seq (hx cx a w ρ _ hN hk0 h hf fun e a w hn => ?_)⟩
    obtain ⟨tm, S, nx, ρ, h, hf, rfl, rfl, rfl, rfl⟩ := hn
    exact hQ (.exit i) _ _ ⟨_, _, _, _, h, hf, rfl, rfl, rfl, rfl⟩
  | ret =>
    refine ⟨.ret, t, S1, n, hq, fun cx a w ρ Q' hN hk0 h hf hQ => wp_seq (hx cx a w ρ _ hN hk0 h hf fun e a w hn => ?_)⟩
    obtain ⟨tm, S, nx, ρ, h, hf, rfl, rfl, rfl, rfl⟩ := hn
    exact hQ .ret _ _ ⟨_, _, _, _, h, hf, rfl, rfl, rfl, rfl⟩
theorem Cd.skip (h : Q .normal tm S nx) : Cd E k0 .skip tm S nx Q := .of_awp h
theorem Cd.region {id : Nat} {ops : Array Oper} (h : Ops E ops ops.toList tm S nx [] fun _ tm S nx => Q .normal tm S nx) : Cd E k0 (.region id ops false) tm S nx Q := by
  rw [Ops.eq] at h
  exact .of_awp h
theorem Cd.drawn {id : Nat} {ops : Array Oper} (h : Ops E ops ops.toList tm S nx [] fun fs tm S nx => drawB ops fs.reverse = true ∧ Q .normal tm S nx) : Cd E k0 (.region id ops true) tm S nx Q := by
  rw [Ops.eq] at h
  exact .of_awp h
theorem Cd.cond {t : Nat} {x y : Code} {b : Bool} (hb : lk tm t = some (.b b)) (hk : bsplit b fun z => match z with
    | true => Cd E k0 x ((t, .b true) :: tm) S nx Q
    | false => Cd E k0 y ((t, .b false) :: tm) S nx Q) : Cd E k0 (.cond (.tmp t) x y) tm S nx Q := .mk fun N hty hmix hok => by
  simp only [codeOk, Bool.and_eq_true] at hok
  have hk := bsplit_elim hk
  cases b
  · obtain ⟨e, t1, S1, n, hq, hy⟩ := Cd.out hk N hty hmix hok.2
    refine ⟨e, t1, S1, n, hq, fun cx a w ρ Q' hN hk0 h hf hQ => ?_⟩
    have hv : a.eval (.tmp t) = .bool false := (h.tm t _ hb).b_inv
    exact wp_cond hv (hy cx a w ρ Q' hN hk0 (h.again hb) hf hQ)
  · obtain ⟨e, t1, S1, n, hq, hx⟩ := Cd.out hk N hty hmix hok.1
    refine ⟨e, t1, S1, n, hq, fun cx a w ρ Q' hN hk0 h hf hQ => ?_⟩
    have hv : a.eval (.tmp t) = .bool true := (h.tm t _ hb).b_inv
    exact wp_cond hv (hx cx a w ρ Q' hN hk0 (h.again hb) hf hQ)
theorem Cd.condT {x y : Code} (h : Cd E k0 x tm S nx Q) : Cd E k0 (.cond (.const (.bool true)) x y) tm S nx Q := .mk fun N hty hmix hok => by
  simp only [codeOk, Bool.and_eq_true] at hok
  obtain ⟨e, t1, S1, n, hq, hx⟩ := h.out N hty hmix hok.1
  exact ⟨e, t1, S1, n, hq, fun cx a w ρ Q' hN hk0 h hf hQ => wp_cond (t := true) rfl (hx cx a w ρ Q' hN hk0 h hf hQ)⟩
theorem Cd.condF {x y : Code} (h : Cd E k0 y tm S nx Q) : Cd E k0 (.cond (.const (.bool false)) x y) tm S nx Q := .mk fun N hty hmix hok => by
  simp only [codeOk, Bool.and_eq_true] at hok
  obtain ⟨e, t1, S1, n, hq, hx⟩ := h.out N hty hmix hok.2
  exact ⟨e, t1, S1, n, hq, fun cx a w ρ Q' hN hk0 h hf hQ => wp_cond (t := false) rfl (hx cx a w ρ Q' hN hk0 h hf hQ)⟩
theorem Cd.block {id : Nat} {b : Code} (h : Cd E k0 b tm S nx fun e tm S nx => match e with
    | .exit i => match Nat.beq i id with
      | true => Q .normal tm S nx
      | false => Q (.exit i) tm S nx
    | e => Q e tm S nx) : Cd E k0 (.block id b) tm S nx Q := .mk fun N hty hmix hok => by
  obtain ⟨e, t, S1, n, hq, hb⟩ := h.out N hty hmix hok
  cases e with
  | normal =>
    refine ⟨.normal, t, S1, n, hq, fun cx a w ρ Q' hN hk0 h hf hQ => wp_block (hb cx a w ρ _ hN hk0 h hf fun e a w hn => ?_)⟩
    obtain ⟨tm, S, nx, ρ, h, hf, rfl, rfl, rfl, rfl⟩ := hn
    exact hQ .normal _ _ ⟨_, _, _, _, h, hf, rfl, rfl, rfl, rfl⟩
  | ret =>
    refine ⟨.ret, t, S1, n, hq, fun cx a w ρ Q' hN hk0 h hf hQ => wp_block (hb cx a w ρ _ hN hk0 h hf fun e a w hn => ?_)⟩
    obtain ⟨tm, S, nx, ρ, h, hf, rfl, rfl, rfl, rfl⟩ := hn
    exact hQ .ret _ _ ⟨_, _, _, _, h, hf, rfl, rfl, rfl, rfl⟩
  | exit i =>
    simp only at hq
    split at hq
    · rename_i hbq
      refine ⟨.normal, t, S1, n, hq, fun cx a w ρ Q' hN hk0 h hf hQ => wp_block (hb cx a w ρ _ hN hk0 h hf fun e a w hn => ?_)⟩
      obtain ⟨tm, S, nx, ρ, h, hf, rfl, rfl, rfl, rfl⟩ := hn
      simp only [exOf, Exit.inBlock]
      rw [if_pos (Nat.eq_of_beq_eq_true hbq)]
      exact hQ .normal _ _ ⟨_, _, _, _, h, hf, rfl, rfl, rfl, rfl⟩
    · rename_i hbq
      refine ⟨.exit i, t, S1, n, hq, fun cx a w ρ Q' hN hk0 h hf hQ => wp_block (hb cx a w ρ _ hN hk0 h hf fun e a w hn => ?_)⟩
      obtain ⟨tm, S, nx, ρ, h, hf, rfl, rfl, rfl, rfl⟩ := hn
      simp only [exOf, Exit.inBlock]
      rw [if_neg (by rintro rfl; rw [Nat.beq_refl] at hbq; cases hbq)]
      exact hQ (.exit i) _ _ ⟨_, _, _, _, h, hf, rfl, rfl, rfl, rfl⟩
theorem Cd.exit {id : Nat} (h : Q (.exit id) tm S nx) : Cd E k0 (.exit id) tm S nx Q := .of_awp h
theorem Cd.ret (h : Q .ret tm S nx) : Cd E k0 .ret tm S nx Q := .of_awp h
theorem Cd.loop {b : Code} (I : Nat → Tm → Store → Nat → Prop) (h0 : ∃ m, landK k0 tm S nx (I m)) (hr : ∀ m tm S nx, I m tm S nx → Cd E k0 b tm S nx fun e tm S nx' => match e with
    | .normal => RoundEnd m fun m' => landK k0 tm S nx' (I m')
    | e => Q e tm S nx') : Cd E k0 (.loop b) tm S nx Q := .mk fun N hty hmix hok => by
  obtain ⟨m, hI⟩ := h0
  obtain ⟨t0, S0, n0, hI0, hl0⟩ := land_pick hI
  have key : ∀ (m : Nat) (t : Tm) (S : Store) (n : Nat), I m t S n → ∃ e t' S' n', Q e t' S' n' ∧ ∀ (cx : Cx) (a : Act) (w : World) (ρ : Nat → Option Value) (Q' : Exit → Act → World → Prop), cx.N = N → cx.k0 = k0 → R E cx t S a w ρ → Fresh n ρ →
      (∀ e1 a w, Nx E cx (EqQ e t' S' n' e1) a w → Q' (exOf e1) a w) → InLoop E.P b Q' a w := by
    intro m
    induction m using Nat.strongRecOn with
    | _ m ihm =>
      intro t S n hm
      obtain ⟨e, t1, S1, n1, hq, hb⟩ := (hr m t S n hm).out N hty hmix hok
      cases e with
      | normal =>
        obtain ⟨m', hlt, hl⟩ := RoundEnd.out hq
        obtain ⟨t2, S2, n2, hI2, hl2⟩ := land_pick hl
        obtain ⟨e3, t3, S3, n3, hq3, h3⟩ := ihm m' hlt t2 S2 n2 hI2
        refine ⟨e3, t3, S3, n3, hq3, fun cx a w ρ Q' hN hk0 h hf hQ => InLoop.of (hb cx a w ρ _ hN hk0 h hf fun e a w hn => ?_)⟩
        obtain ⟨tm, S, nx, ρ, h, hf, rfl, rfl, rfl, rfl⟩ := hn
        subst hk0
        obtain ⟨_, _, _, ρ2, h2, hf2, rfl, rfl, rfl⟩ := land_sound hl2 h hf
        exact h3 cx a w ρ2 Q' hN rfl h2 hf2 hQ
      | exit i =>
        refine ⟨.exit i, t1, S1, n1, hq, fun cx a w ρ Q' hN hk0 h hf hQ => InLoop.of (hb cx a w ρ _ hN hk0 h hf fun e a w hn => ?_)⟩
        obtain ⟨tm, S, nx, ρ, h, hf, rfl, rfl, rfl, rfl⟩ := hn
        exact hQ (.exit i) _ _ ⟨_, _, _, _, h, hf, rfl, rfl, rfl, rfl⟩
      | ret =>
        refine ⟨.ret, t1, S1, n1, hq, fun cx a w ρ Q' hN hk0 h hf hQ => InLoop.of (hb cx a w ρ _ hN hk0 h hf fun e a w hn => ?_)⟩
        obtain ⟨tm, S, nx, ρ, h, hf, rfl, rfl, rfl, rfl⟩ := hn
        exact hQ .ret _ _ ⟨_, _, _, _, h, hf, rfl, rfl, rfl, rfl⟩
  obtain ⟨e, t', S', n', hq, hgo⟩ := key m t0 S0 n0 hI0
  refine ⟨e, t', S', n', hq, fun cx a w ρ Q' hN hk0 h hf hQ => InLoop.go ?_⟩
  subst hk0
  obtain ⟨_, _, _, ρ2, h2, hf2, rfl, rfl, rfl⟩ := land_sound hl0 h hf
  exact hgo cx a w ρ2 Q' hN rfl h2 hf2 hQ
theorem any_of_cd (hty : TyOk E) (hmix : E.P.follows .mixedOrders = true) {f : FuncId} {fn : Func} {c : Code} (hf : E.P.funcs[f]? = some fn) (hb : fn.body = some c) (hname : (fn.name == "runtime.NumGoroutine") = false) (hok : codeOk fn.ntmps c = true)
    {k : Nat} {cds : List D} {Sa : Store} {G : D → Store → Prop} (hle : cds.length ≤ fn.ntmps) (h : Cd E k c (parTm 0 cds) Sa k (anyQ E k fn.results.toList G)) : ∃ d S', G d S' ∧ Con E f k cds Sa d S' := by
  obtain ⟨e, t, S, n, hq, ha⟩ := h.out fn.ntmps hty hmix hok
  have fin : ∀ d S', finQ E k fn.results.toList d S' e t S n → G d S' → ∃ d S', G d S' ∧ Con E f k cds Sa d S' := by
    intro d S' hfin hg
    refine ⟨d, S', hg, con_of_AW hty hf hb hname hle fun cx a w ρ Q' hN hk0 h hf hQ => ha cx a w ρ Q' hN hk0 h hf fun e1 a w hn => ?_⟩
    obtain ⟨tm, S, nx, ρ, h, hf, rfl, rfl, rfl, rfl⟩ := hn
    exact hQ _ _ _ ⟨_, _, _, _, h, hf, hfin⟩
  cases e with
  | normal => obtain ⟨d, S', h1, h2⟩ := hq; exact fin d S' h1 h2
  | ret => obtain ⟨d, S', h1, h2⟩ := hq; exact fin d S' h1 h2
  | exit i => exact hq.elim
theorem con_of_cd (hty : TyOk E) (hmix : E.P.follows .mixedOrders = true) {f : FuncId} {fn : Func} {c : Code} (hf : E.P.funcs[f]? = some fn) (hb : fn.body = some c) (hname : (fn.name == "runtime.NumGoroutine") = false) (hok : codeOk fn.ntmps c = true)
    {k : Nat} {cds : List D} {Sa : Store} {d : D} {S' : Store} (hle : cds.length ≤ fn.ntmps) (h : Cd E k c (parTm 0 cds) Sa k (finQ E k fn.results.toList d S')) : Con E f k cds Sa d S' := by
  obtain ⟨e, t, S, n, hq, ha⟩ := h.out fn.ntmps hty hmix hok
  refine con_of_AW hty hf hb hname hle fun cx a w ρ Q' hN hk0 h hf hQ => ha cx a w ρ Q' hN hk0 h hf fun e1 a w hn => ?_
  obtain ⟨tm, S, nx, ρ, h, hf, rfl, rfl, rfl, rfl⟩ := hn
  exact hQ _ _ _ ⟨_, _, _, _, h, hf, hq⟩
end
end Go.Ab
/- Steps of the symbolic run, in short words; ends of runs of which only something is wanted. -/
set_option linter.unusedSimpArgs false
set_option linter.unusedVariables false
namespace Go.Ab
open Go Go.RowKit

theorem bn {x : Bool} {K : Bool → Prop} (h : bsplit x fun b => K (!b)) : bsplit (!x) K := by
  cases x
  · exact ⟨fun _ => h.f rfl, fun h => Bool.noConfusion h⟩
  · exact ⟨fun h => Bool.noConfusion h, fun _ => h.t rfl⟩
theorem bd {p : Prop} [Decidable p] {K : Bool → Prop} (h1 : p → K true) (h2 : ¬ p → K false) : bsplit (decide p) K :=
  ⟨fun h => h1 (of_decide_eq_true h), fun h => h2 (of_decide_eq_false h)⟩
theorem bt {p : Prop} [Decidable p] {K : Bool → Prop} (hp : p) (h : K true) : bsplit (decide p) K := bd (fun _ => h) (fun n => absurd hp n)
theorem bf {p : Prop} [Decidable p] {K : Bool → Prop} (hp : ¬ p) (h : K false) : bsplit (decide p) K := bd (fun n => absurd n hp) (fun _ => h)
theorem bT {x : Bool} {K : Bool → Prop} (hx : x = true) (h : K true) : bsplit x K := by subst hx; exact .tt h
theorem bF {x : Bool} {K : Bool → Prop} (hx : x = false) (h : K false) : bsplit x K := by subst hx; exact .ff h
theorem bR {α : Type} {a : α} {i : Decidable (a = a)} {K : Bool → Prop} (h : K true) : bsplit (@decide (a = a) i) K := ⟨fun _ => h, fun n => absurd rfl (of_decide_eq_false n)⟩
theorem bS {x : Bool} {K : Bool → Prop} (h : K true) : bsplit (x == x) K := bT (beq_self_eq_true x) h
theorem wi {n : Int} {K : Int → Prop} (hn : -9223372036854775808 ≤ n ∧ n ≤ 9223372036854775807) (h : K n) : ∃ r, IntKind.i64.wrap n = r ∧ K r := ⟨n, Go.IntWalk.i64_in n hn, h⟩
theorem wb {n : Int} {K : Int → Prop} (hn : 0 ≤ n ∧ n ≤ 255) (h : K n) : ∃ r, IntKind.u8.wrap n = r ∧ K r := ⟨n, Go.IntWalk.u8_in n hn, h⟩
theorem wr {m n : Int} {K : Int → Prop} (hm : 0 ≤ m) (hn : 0 < n) (h : K (m % n)) : n ≠ 0 ∧ ∃ r, m.tmod n = r ∧ K r := ⟨by omega, m % n, Int.tmod_eq_emod_of_nonneg hm, h⟩
theorem wq {m n : Int} {K : Int → Prop} (hm : 0 ≤ m ∧ m ≤ 9223372036854775807) (hn : 0 < n) (h : K (m / n)) : n ≠ 0 ∧ ∃ r, IntKind.i64.wrap (m.tdiv n) = r ∧ K r := ⟨by omega, m / n, Go.IntWalk.i64_quo m n ⟨hm.1, hm.2, hn⟩, h⟩
theorem mg {α β : Type} {l : List α} {f : α → β} {i : Nat} {x : α} (h : l[i]? = some x) : (l.map f)[i]? = some (f x) := by rw [List.getElem?_map, h]; rfl
theorem drop_or {α : Type} (l : List α) (i : Nat) (h : i ≤ l.length) : (i = l.length ∧ l.drop i = []) ∨ ∃ x r, l[i]? = some x ∧ l.drop i = x :: r ∧ l.drop (i + 1) = r ∧ i < l.length := by
  by_cases hl : i < l.length
  · exact .inr ⟨l[i], l.drop (i + 1), List.getElem?_eq_getElem hl, List.drop_eq_getElem_cons hl, rfl, hl⟩
  · exact .inl ⟨by omega, List.drop_of_length_le (by omega)⟩
theorem take_succ {α : Type} {l : List α} {i : Nat} {x : α} (h : l[i]? = some x) : l.take (i + 1) = l.take i ++ [x] := by
  rw [List.take_add_one, h]; rfl
theorem take_map_succ {α β : Type} {l : List α} {f : α → β} {i : Nat} {x : α} (h : l[i]? = some x) : (l.take i).map f ++ [f x] = (l.take (i + 1)).map f := by
  rw [take_succ h, List.map_append]; rfl
theorem all_lt {P : Nat → Prop} {i : Nat} (ha : ∀ k, k < i → P k) (hi : P i) : ∀ k, k < i + 1 → P k := fun k hk => by
  by_cases h : k = i
  · rw [h]; exact hi
  · exact ha k (by omega)
/-- the end of a run of which only something is wanted -/
inductive AnyEnd (P : D → Store → Prop) : Prop where
  | here (h : ∃ d S', P d S')
  | never (h : False)
theorem AnyEnd.out {P : D → Store → Prop} (h : AnyEnd P) : ∃ d S', P d S' := by
  cases h with
  | here h => exact h
  | never h => exact h.elim
theorem anyK.auto {E : Env} {k0 : Nat} {rv : List ResultVar} {G : D → Store → Prop} {tm : Tm} {S : Store} {nx : Nat}
    (h : resK E tm S rv fun ds => nodupB (reachNames S 16 (addNew (news 0 k0) (nmDs ds)) (addNew (news 0 k0) (nmDs ds))) = true ∧ preB 0 k0 (reachNames S 16 (addNew (news 0 k0) (nmDs ds)) (addNew (news 0 k0) (nmDs ds))) = true ∧
      ∃ d, carR (reachNames S 16 (addNew (news 0 k0) (nmDs ds)) (addNew (news 0 k0) (nmDs ds))) (oneRes ds) = some d ∧
      G d (carS (reachNames S 16 (addNew (news 0 k0) (nmDs ds)) (addNew (news 0 k0) (nmDs ds))) S (reachNames S 16 (addNew (news 0 k0) (nmDs ds)) (addNew (news 0 k0) (nmDs ds))) 0)) : ∃ d S', finK E k0 rv d S' tm S nx ∧ G d S' := by
  obtain ⟨ds, h1, h2⟩ := resK_some h
  obtain ⟨g1, g2, d, g3, g4⟩ := h1
  exact ⟨d, _, ⟨[], reachNames S 16 (addNew (news 0 k0) (nmDs ds)) (addNew (news 0 k0) (nmDs ds)), h2 _ ⟨g1, g2, g3, rfl⟩⟩, g4⟩
/-! the same, each list of names laid out once -/
def force {α : Sort 1} : List Nat → (List Nat → α) → α
  | [], k => k []
  | n :: r, k => force r fun r' => k (n :: r')
theorem force_eq {α : Sort 1} : ∀ (l : List Nat) (k : List Nat → α), force l k = k l
  | [], _ => rfl
  | n :: r, k => by rw [force, force_eq r]
def slotF (tm : Tm) : List Nat → List Nat → (List Nat → Prop) → Prop
  | [], ns, k => k ns
  | t :: r, ns, k => match lk tm t with
    | some d => force (addNew ns (nmR d)) fun ns' => slotF tm r ns' k
    | none => slotF tm r ns k
theorem slotF_eq (tm : Tm) : ∀ (ts ns : List Nat) (k : List Nat → Prop), slotF tm ts ns k = k (slotNames tm ts ns)
  | [], _, _ => rfl
  | t :: r, ns, k => by
    unfold slotF slotNames
    cases lk tm t with
    | none => exact slotF_eq tm r ns k
    | some d => simp only [force_eq]; exact slotF_eq tm r _ k
def reachF (S : Store) : Nat → List Nat → List Nat → (List Nat → Prop) → Prop
  | 0, _, ns, k => k ns
  | _ + 1, [], ns, k => k ns
  | f + 1, n :: r, ns, k => match lk S n with
    | some b => force (r ++ minus ns (blkNames b)) fun r' => force (addNew ns (blkNames b)) fun ns' => reachF S f r' ns' k
    | none => reachF S f r ns k
theorem reachF_eq (S : Store) : ∀ (f : Nat) (r ns : List Nat) (k : List Nat → Prop), reachF S f r ns k = k (reachNames S f r ns)
  | 0, _, _, _ => by unfold reachF reachNames; rfl
  | f + 1, [], _, _ => rfl
  | f + 1, n :: r, ns, k => by
    unfold reachF reachNames
    cases lk S n with
    | none => exact reachF_eq S f r ns k
    | some b => simp only [force_eq]; exact reachF_eq S f _ _ k
theorem la {k0 : Nat} {tm : Tm} {S : Store} {nx : Nat} {J : Tm → Store → Nat → Prop} (ts : List Nat)
    (h : slotF tm ts (news 0 k0) fun n0 => reachF S 16 n0 n0 fun ns => nodupB ns = true ∧ preB 0 k0 ns = true ∧ J (carTm ns tm ts) (carS ns S ns 0) ns.length) : landK k0 tm S nx J := by
  rw [slotF_eq, reachF_eq] at h
  exact ⟨[], ts, _, h⟩
theorem fa {E : Env} {k0 : Nat} {rv : List ResultVar} {d : D} {S' : Store} {tm : Tm} {S : Store} {nx : Nat}
    (h : resK E tm S rv fun ds => force (addNew (news 0 k0) (nmDs ds)) fun n0 => reachF S 16 n0 n0 fun ns => nodupB ns = true ∧ preB 0 k0 ns = true ∧ carR ns (oneRes ds) = some d ∧ carS ns S ns 0 = S') : finK E k0 rv d S' tm S nx := by
  simp only [force_eq, reachF_eq] at h
  exact finK.auto h
theorem aa {E : Env} {k0 : Nat} {rv : List ResultVar} {G : D → Store → Prop} {tm : Tm} {S : Store} {nx : Nat}
    (h : resK E tm S rv fun ds => force (addNew (news 0 k0) (nmDs ds)) fun n0 => reachF S 16 n0 n0 fun ns => nodupB ns = true ∧ preB 0 k0 ns = true ∧
      ∃ d, carR ns (oneRes ds) = some d ∧ G d (carS ns S ns 0)) : ∃ d S', finK E k0 rv d S' tm S nx ∧ G d S' := by
  simp only [force_eq, reachF_eq] at h
  exact anyK.auto h
theorem Cd.loop2 {E : Env} {k0 : Nat} {tm : Tm} {S : Store} {nx : Nat} {Q : Ex → Tm → Store → Nat → Prop} {b : Code} (I : Nat → Tm → Store → Nat → Prop) (h0 : landK k0 tm S nx fun t s n => ∃ m, I m t s n) (h : ∀ m tm S nx, I m tm S nx → Cd E k0 b tm S nx fun e tm S nx' => match e with
    | .normal => RoundEnd m fun m' => landK k0 tm S nx' (I m')
    | e => Q e tm S nx') : Cd E k0 (.loop b) tm S nx Q := by
  refine Cd.loop I ?_ h
  obtain ⟨t1, S1, n1, ⟨m, hm⟩, hl⟩ := land_pick h0
  refine ⟨m, ?_⟩
  obtain ⟨ms, ts, ns, hl⟩ := hl
  refine ⟨ms, ts, ns, ?_⟩
  match h1 : mvs ms tm S nx with
  | some (tm1, S1', n1') =>
    rw [h1] at hl
    obtain ⟨a, b, c, d, e⟩ := hl
    exact ⟨a, b, by rw [c, d, e]; exact hm⟩
  | none => rw [h1] at hl; exact hl.elim
end Go.Ab
/- A package variable that is an array of texts; a law whose row names a listed variable. -/
set_option linter.unusedSimpArgs false
set_option linter.unusedVariables false
namespace Go.Ab
open Go Go.RowKit Go.ChangeShapes Go.WideShapes Go.ChangeAt

section
variable {H : Type} {enc : TypeId × Value → H} {P : Program} {W : World}
theorem arr_cells {sp : Nat → Bool} {held : Bool} {base fuel n : Nat} {t e : TypeId} {cs : List Value} {ls : List (List UInt8)} {p : List MemPlace} (ht : P.underlying t = some (.array n e)) (he : P.underlying e = some .string) (hc : P.cellsOf e = 1)
    (h : DataW.trod enc P W base sp held fuel t cs = some (.agg (ls.map fun l => .lit (.string l)), p)) : ∀ (j : Nat) (l : List UInt8), ls[j]? = some l → cs[j]? = some (.string ⟨l.toArray⟩) := by
  obtain ⟨xs, m, rfl, hx, hlen, hn, hel⟩ := DataW.trod_array ht h
  intro j l hj
  simp only [Prod.mk.injEq, DataW.agg.injEq] at hx
  have h1 : (xs.map (·.1))[j]? = some (.lit (.string l)) := by rw [← hx.1, List.getElem?_map, hj]; rfl
  rw [List.getElem?_map] at h1
  have hjn : j < n := by
    cases hx2 : xs[j]? with
    | none => rw [hx2] at h1; cases h1
    | some y => rw [← hn]; exact (List.getElem?_eq_some_iff.1 hx2).1
  have h2 := hel j hjn
  rw [hc] at h2
  cases hx2 : xs[j]? with
  | none => rw [hx2] at h1; cases h1
  | some y =>
    rw [hx2] at h1 h2
    obtain ⟨s, e1, e2, _⟩ := DataW.trod_string he h2
    simp only [Option.map_some, Option.some.injEq] at h1
    rw [e2] at h1
    simp only [DataW.lit.injEq, Lit.string.injEq] at h1
    have h3 : (List.drop (j * 1) cs)[0]? = some (.string s) := by
      have := congrArg (·[0]?) e1
      simpa [List.getElem?_take] using this
    rw [List.getElem?_drop] at h3
    have : j * 1 + 0 = j := by omega
    rw [this] at h3
    rw [h3]
    congr 2
    rw [← h1]
/-- the cells of an array of texts, laid -/
theorem gl_texts {n : String} {g k : Nat} {t e : TypeId} {cs : Array Value} {fuel base : Nat} {sp : Nat → Bool} {held : Bool} {ls : List (List UInt8)} {p : List MemPlace} (hg : P.globalNamed n = some g) (hv : W.var? P n = some cs) (ht : P.underlying t = some (.array k e)) (he : P.underlying e = some .string) (hc : P.cellsOf e = 1) (hne : ls ≠ [])
    (h : DataW.trod enc P W base sp held fuel t cs.toList = some (.agg (ls.map fun l => .lit (.string l)), p)) : VI W noAv (.ep (ls.map .s)) (.pointer (some ⟨g, 0, none⟩)) := by
  have hcell : ∀ (j : Nat) (l : List UInt8), ls[j]? = some l → W.cell? ⟨g, j, none⟩ = some (.string ⟨l.toArray⟩) := by
    intro j l hj
    rw [World.var?_cell hg hv j, ← Array.getElem?_toList]
    exact arr_cells ht he hc h j l hj
  have get : ∀ (j : Nat) (d : D), (ls.map D.s)[j]? = some d → ∃ l, ls[j]? = some l ∧ d = .s l := by
    intro j d hd
    simp only [List.getElem?_map, Option.map_eq_some_iff] at hd
    obtain ⟨l, h1, h2⟩ := hd
    exact ⟨l, h1, h2.symm⟩
  refine .ep (fun j => .string ⟨(ls.getD j []).toArray⟩) ?_ (fun h => h) (fun j d hd => ?_) (fun _ _ _ => rfl) (fun j d hd => ?_)
  · match ls, hne, hcell with
    | l :: _, _, hcell => exact World.block_lt_of_cell? _ _ (hcell 0 l rfl)
  · obtain ⟨l, h1, rfl⟩ := get j d hd
    have := hcell j l h1
    have e1 : ls.getD j [] = l := by rw [List.getD_eq_getElem?_getD, h1]; rfl
    rw [e1]
    by_cases hj : j = 0
    · subst hj
      simpa [Addr.add] using this
    · simpa [Addr.add, hj] using this
  · obtain ⟨l, h1, rfl⟩ := get j d hd
    have e1 : ls.getD j [] = l := by rw [List.getD_eq_getElem?_getD, h1]; rfl
    rw [e1]
    exact .s l
theorem laid_mem {l : List (String × DataW Unit)} : ∀ {ps : List MemPlace}, DataW.LaidVars P W l ps → ∀ (n : String) (d : DataW Unit), (n, d) ∈ l → ∃ (g : Nat) (t : TypeId) (cs : Array Value) (fuel : Nat) (p : List MemPlace), P.globalNamed n = some g ∧ (P.globals[g]?).map (·.type) = some t ∧ W.var? P n = some cs ∧
    DataW.trod (fun _ => ()) P W 0 (fun _ => true) false fuel t cs.toList = some (d, p) := by
  induction l with
  | nil => intro ps _ n d h; cases h
  | cons x l ih =>
    intro ps h n d hm
    obtain ⟨n0, d0⟩ := x
    obtain ⟨g, t, cs, fuel, p, q, h1, h2, h3, h4, h5, _⟩ := h
    rcases List.mem_cons.1 hm with he | hm
    · cases he
      exact ⟨g, t, cs, fuel, p, h1, h2, h3, h4⟩
    · exact ih h5 n d hm
theorem vars_one_stay {W' : World} {sp' : Nat → Bool} {n : String} {g : Nat} {t : TypeId} {gs : List (DataW H)} {ps : List MemPlace} (hl : laidOutB P = true) (hg : P.globalNamed n = some g) (ht : (P.globals[g]?).map (·.type) = some t) (hr : P.readableRec t = true) (hrow : t < P.types.size)
    (hb : Below W.heap.size W W') (hlt : ∀ x ∈ ps, x.block < W.heap.size) (hsp : ∀ x ∈ ps, sp' x.block = true) (h : DataW.TrodVars enc P W (fun _ => true) [n] gs ps) : DataW.TrodVars enc P W' sp' [n] gs ps := by
  obtain ⟨g1, t1, cs, fuel, d, p, rfl, h1, h2, h3, h4, rfl⟩ := trodVars_one h
  obtain rfl := Option.some.inj (hg.symm.trans h1)
  obtain rfl := Option.some.inj (ht.symm.trans h2)
  have hv : W'.var? P n = some cs := by
    simp only [World.var?, hg, Option.bind_some] at h3 ⊢
    have hgl : g < W.heap.size := by
      by_cases hgl : g < W.heap.size
      · exact hgl
      · rw [Array.getElem?_eq_none (by omega)] at h3
        cases h3
    rw [hb.block g hgl]
    exact h3
  have h5 : DataW.Trod enc P W 0 (fun _ => true) true t (.agg cs) d p := ⟨fuel, by simpa [Value.cells] using h4⟩
  obtain ⟨f2, h6⟩ := WideElems.Trod_stays hl hr hrow h5 (fun x hx => hb.same (hlt x (by simp [hx]))) (fun x hx => hsp x (by simp [hx]))
  exact trodVars_mk1 hg ht hv (by simpa [Value.cells] using h6)
/-- the law's contract gives what the row asks of a call, over package variables that are laid, one of them named -/
theorem law_calls_gv {E : Env} {f : FuncId} {fn : Func} {s : ChangeSpec} {bt : TypeId} {dp : Nat} {n : String} {g : Nat} {tv : TypeId} (hl : laidOutB E.P = true) (hr : ∀ t ∈ fn.params.toList, E.P.readableRec t = true ∧ t < E.P.types.size) (ha : fn.params.toList.all (argTy E.P dp) = true)
    (hbt : E.P.underlying bt = some .bool) (hres : fn.resultTypes = #[bt]) (hvars : s.vars = [n]) (hg : E.P.globalNamed n = some g) (ht : (E.P.globals[g]?).map (·.type) = some tv) (hrv : E.P.readableRec tv = true) (hrow : tv < E.P.types.size)
    (hspec : ∀ (H : Type) (ds : List (DataW H)) (gv : DataW H), ds.length = fn.params.size → s.fn H (ds ++ [gv]) = { results := [.lit (.bool true)], args := ds, vars := [gv] })
    (hcon : ∀ cds, ShpAll E.P fn.params.toList cds → Con E f 0 cds [] (.b true) [])
    (W : World) (hgl : ∀ g cs, E.gl g = some cs → VI W noAv (.ep cs) (.pointer (some ⟨g, 0, none⟩))) (base : Nat) (args : Array Value) (ds gs : List (DataW H)) (before : List MemPlace) (hval : ∀ (j : Nat) t v, fn.params[j]? = some t → args[j]? = some v → Value.okWide E.P W .any base t v)
    (hW : DataW.Whole enc E.P fn.params.toList s.vars false W args.toList ds gs before) :
    Calls E.P f args W fun e W' => ∃ v, e = .returned v ∧ s.post enc E.P fn false true false false W args v W' := by
  have hW' := hW
  obtain ⟨p, q, hA, hV, rfl, hfz, hnd⟩ := hW
  rw [hvars] at hV
  obtain ⟨cds, c1, c2, c3⟩ := args_shp ha (fun j t v h1 h2 => hval j t v (by simpa using h1) (by simpa using h2)) hA
  have hheld : ∀ x, ¬ Held [] (fun _ => none) x := by rintro x ⟨t, b, h, _⟩; simp [lk] at h
  have hav : ∀ y, ¬ AvS (fun _ => False) [] (fun _ => none) y := by
    rintro y (h | h)
    · exact h
    · exact hheld y h
  have hc := (hcon cds c2).2 W args.toList (fun _ => none) (fun _ => False) c1 (fun _ h => h.elim) (fun _ h => h.elim) (fun i d u h1 h2 => c3 i d u h1 h2 _ _ hav) (fun t b h => by simp [lk] at h) (fun t t' b b' x h => by simp [lk] at h) (fun _ _ => rfl)
    (fun g cs h => (hgl g cs h).mono (fun _ _ _ => rfl) (Nat.le_refl _) fun x _ hx => (hav x hx).elim)
  have hargs : args.toList.toArray = args := by simp
  rw [hargs] at hc
  refine hc.mono fun e W2 hpost => ?_
  obtain ⟨v, ρ', rfl, hv, _, _, _, _, hfr⟩ := hpost
  obtain rfl := hv.b_inv
  refine ⟨_, rfl, ?_⟩
  have hb : Below W.heap.size W W2 := ⟨hfr.os, hfr.tape, hfr.output, hfr.size, fun k hk => hfr.block k hk (hheld k)⟩
  have hlen := (trodAll_len hA).2
  obtain ⟨g1, t1, cs, fuel, d, pv, hgs, _⟩ := trodVars_one hV
  have hs := hspec H ds d (by simpa using hlen)
  have hlt : ∀ x ∈ p ++ q, x.block < W.heap.size := fun x hx => hW'.lt x hx
  refine post_below (pa := p) (pv := q) hW' (fun b sp hd => ?_) (fun sp hsp => ?_) (fun sp hsp => ?_) rfl hb ?_
  · rw [hres, hgs, hs]
    exact trodAll_mk1 (shut_bool hbt true)
  · rw [hgs, hs]
    exact args_stay hl hb hr (fun x hx => hlt x (by simp [hx])) (fun x hx => hsp x (by simp [hx])) hA
  · rw [hvars, hgs, hs]
    rw [hgs] at hV
    exact vars_one_stay hl hg ht hrv hrow hb (fun x hx => hlt x (by simp [hx])) (fun x hx => hsp x (by simp [hx])) hV
  · exact ok_one hres rfl (okWide_bool_mk hbt true)
end
end Go.Ab
/- Ends of runs at which what is handed out is written no more and reads as a list; lengths of rows. -/
namespace Go.Ab
open Go Go.RowKit

/-- the slices of the call's own among the results, to be written no more -/
def icesD (k0 : Nat) (S : Store) : List Nat → List Mv
  | [] => []
  | n :: r => match Nat.blt n k0 with
    | true => icesD k0 S r
    | false => match lk S n with
      | some (.own _ _) => .ice n :: icesD k0 S r
      | some (.fr _) => .ice n :: icesD k0 S r
      | _ => icesD k0 S r
def icesR (k0 : Nat) (tm : Tm) (S : Store) : List ResultVar → List Nat → List Nat
  | [], ns => ns
  | .tmp t :: r, ns => match lk tm t with
    | some d => icesR k0 tm S r (addNew ns (nmD d))
    | none => icesR k0 tm S r ns
  | _ :: r, ns => icesR k0 tm S r ns
def icesT (k0 : Nat) (tm : Tm) (S : Store) : List Nat → List Nat → List Nat
  | [], ns => ns
  | t :: r, ns => match lk tm t with
    | some d => icesT k0 tm S r (addNew ns (nmD d))
    | none => icesT k0 tm S r ns
theorem ai {E : Env} {k0 : Nat} {rv : List ResultVar} {G : D → Store → Prop} {tm : Tm} {S : Store} {nx : Nat}
    (h : force (icesR k0 tm S rv []) fun ls => match mvs (icesD k0 S ls) tm S nx with
      | some (tm1, S1, _) => resK E tm1 S1 rv fun ds => force (addNew (news 0 k0) (nmDs ds)) fun n0 => reachF S1 16 n0 n0 fun ns => nodupB ns = true ∧ preB 0 k0 ns = true ∧ ∃ d, carR ns (oneRes ds) = some d ∧ G d (carS ns S1 ns 0)
      | none => False) : ∃ d S', finK E k0 rv d S' tm S nx ∧ G d S' := by
  rw [force_eq] at h
  match hm : mvs (icesD k0 S (icesR k0 tm S rv [])) tm S nx, h with
  | some (tm1, S1, nx1), h =>
    simp only [force_eq, reachF_eq] at h
    obtain ⟨ds, h1, h2⟩ := resK_some h
    obtain ⟨g1, g2, d, g3, g4⟩ := h1
    refine ⟨d, _, ⟨icesD k0 S (icesR k0 tm S rv []), reachNames S1 16 (addNew (news 0 k0) (nmDs ds)) (addNew (news 0 k0) (nmDs ds)), ?_⟩, g4⟩
    rw [hm]
    exact h2 _ ⟨g1, g2, g3, rfl⟩
theorem fi {E : Env} {k0 : Nat} {rv : List ResultVar} {d : D} {S' : Store} {tm : Tm} {S : Store} {nx : Nat}
    (h : force (icesR k0 tm S rv []) fun ls => match mvs (icesD k0 S ls) tm S nx with
      | some (tm1, S1, _) => resK E tm1 S1 rv fun ds => force (addNew (news 0 k0) (nmDs ds)) fun n0 => reachF S1 16 n0 n0 fun ns => nodupB ns = true ∧ preB 0 k0 ns = true ∧ carR ns (oneRes ds) = some d ∧ carS ns S1 ns 0 = S'
      | none => False) : finK E k0 rv d S' tm S nx := by
  rw [force_eq] at h
  match hm : mvs (icesD k0 S (icesR k0 tm S rv [])) tm S nx, h with
  | some (tm1, S1, nx1), h =>
    simp only [force_eq, reachF_eq] at h
    obtain ⟨ds, h1, h2⟩ := resK_some h
    refine ⟨icesD k0 S (icesR k0 tm S rv []), reachNames S1 16 (addNew (news 0 k0) (nmDs ds)) (addNew (news 0 k0) (nmDs ds)), ?_⟩
    rw [hm]
    exact h2 _ h1
/-- the same, where a loop begins: the slots 'is' are written no more -/
theorem li {k0 : Nat} {tm : Tm} {S : Store} {nx : Nat} {J : Tm → Store → Nat → Prop} (is ts : List Nat)
    (h : force (icesT k0 tm S is []) fun ls => match mvs (icesD k0 S ls) tm S nx with
      | some (tm1, S1, _) => slotF tm1 ts (news 0 k0) fun n0 => reachF S1 16 n0 n0 fun ns => nodupB ns = true ∧ preB 0 k0 ns = true ∧ J (carTm ns tm1 ts) (carS ns S1 ns 0) ns.length
      | none => False) : landK k0 tm S nx J := by
  rw [force_eq] at h
  match hm : mvs (icesD k0 S (icesT k0 tm S is [])) tm S nx, h with
  | some (tm1, S1, nx1), h =>
    simp only [slotF_eq, reachF_eq] at h
    refine ⟨icesD k0 S (icesT k0 tm S is []), ts, reachNames S1 16 (slotNames tm1 ts (news 0 k0)) (slotNames tm1 ts (news 0 k0)), ?_⟩
    rw [hm]
    exact h
theorem len_take {xs : List (List D)} {z n : Nat} (h : ∀ cs ∈ xs, cs.length = z) : ∀ cs ∈ xs.take n, cs.length = z := fun cs hc => h cs (List.mem_of_mem_take hc)
theorem len_drop {xs : List (List D)} {z n : Nat} (h : ∀ cs ∈ xs, cs.length = z) : ∀ cs ∈ xs.drop n, cs.length = z := fun cs hc => h cs (List.mem_of_mem_drop hc)
theorem len_app {xs ys : List (List D)} {z : Nat} (h : ∀ cs ∈ xs, cs.length = z) (h' : ∀ cs ∈ ys, cs.length = z) : ∀ cs ∈ xs ++ ys, cs.length = z := fun cs hc => (List.mem_append.1 hc).elim (h cs) (h' cs)
theorem len_nil {z : Nat} : ∀ cs ∈ ([] : List (List D)), cs.length = z := fun _ h => by cases h
end Go.Ab
/- Many steps of the symbolic run in one word: what is left is handed back. -/
namespace Go.Ab
open Go Go.RowKit

/-- the blocks, laid out once -/
def fB (b : Blk) (k : Blk → Prop) : Prop :=
  match b with
  | .box e cs => k (.box e cs)
  | .own e xs => k (.own e xs)
  | .row e xs => k (.row e xs)
  | .fr xs => k (.fr xs)
theorem fB_eq (b : Blk) (k : Blk → Prop) : fB b k = k b := by cases b <;> rfl
def fS : Store → (Store → Prop) → Prop
  | [], k => k []
  | (n, b) :: r, k => fB b fun b' => fS r fun r' => k ((n, b') :: r')
theorem fS_eq : ∀ (S : Store) (k : Store → Prop), fS S k = k S
  | [], _ => rfl
  | (n, b) :: r, k => by rw [fS, fB_eq, fS_eq r]
section
variable {E : Env} {ops : Array Oper} {tm : Tm} {S : Store} {nx : Nat} {fs : List Fp} {K : List Fp → Tm → Store → Nat → Prop}
theorem Ops.noneF {o : Oper} {r : List Oper} (hg : o.guard = Option.none) (h : awpOp E o tm S nx fun fp tm S nx => fS S fun S => Ops E ops r tm S nx (fp :: fs) K) : Ops E ops (o :: r) tm S nx fs K := by
  simp only [fS_eq] at h
  exact Ops.none hg h
theorem Ops.guardF {o : Oper} {r : List Oper} {j : Nat} {want : Bool} {t : Nat} {x : Bool} (hg : o.guard = some (j, want)) (ht : (ops[j]?).bind (·.dst) = some t) (hx : lk tm t = some (.b x))
    (h : bsplit x fun y => match (generalizing := false) want, y with
      | true, true => awpOp E o ((t, .b true) :: tm) S nx fun fp tm S nx => fS S fun S => Ops E ops r tm S nx (fp :: fs) K
      | false, false => awpOp E o ((t, .b false) :: tm) S nx fun fp tm S nx => fS S fun S => Ops E ops r tm S nx (fp :: fs) K
      | _, y => Ops E ops r (put o.dst (.tup []) ((t, .b y) :: tm)) S nx (fp0 :: fs) K) : Ops E ops (o :: r) tm S nx fs K := by
  simp only [fS_eq] at h
  exact Ops.guard hg ht hx h
end
structure Hide (Q : Prop) : Prop where
  out : Q
/-- the steps that leave one goal: as many as go -/
theorem Ra {P Q : Prop} (k : Hide Q) (h : Hide Q → P := by
    intro k
    conv => whnf
    (first
      | refine Ops.noneF rfl ?_ | refine Cd.seq ?_ | refine Ops.nil ?_ | refine Cd.region ?_ | refine Ops.guardF rfl rfl rfl ?_ | refine Ops.off rfl rfl rfl ?_ | refine Cd.cond rfl ?_ | refine Cd.block ?_ | refine Cd.exit ?_ | refine Cd.ret ?_ | refine Cd.skip ?_ | refine Cd.drawn ?_
      | refine And.intro (a := drawB _ _ = true) (by kernel_rfl) ?_ | refine CallEnd.out ?_ | refine AnyEnd.out ?_ | refine bsplit.tt ?_ | refine bsplit.ff ?_ | refine bn ?_ | with_reducible refine bR ?_ | with_reducible refine bS ?_ | refine bt ‹_› ?_ | refine bf ‹_› ?_
      | refine bt (by first | omega | (simp only [List.length_map, List.length_cons, List.length_nil]; first | done | omega)) ?_
      | refine bf (by first | omega | (simp only [List.length_map, List.length_cons, List.length_nil]; first | done | omega)) ?_
      | refine bT ‹_› ?_ | refine bF ‹_› ?_ | fail)
    conv => whnf
    repeat ((first
      | refine Ops.noneF rfl ?_ | refine Cd.seq ?_ | refine Ops.nil ?_ | refine Cd.region ?_ | refine Ops.guardF rfl rfl rfl ?_ | refine Ops.off rfl rfl rfl ?_ | refine Cd.cond rfl ?_ | refine Cd.block ?_ | refine Cd.exit ?_ | refine Cd.ret ?_ | refine Cd.skip ?_ | refine Cd.drawn ?_
      | refine And.intro (a := drawB _ _ = true) (by kernel_rfl) ?_ | refine CallEnd.out ?_ | refine AnyEnd.out ?_ | refine bsplit.tt ?_ | refine bsplit.ff ?_ | refine bn ?_ | with_reducible refine bR ?_ | with_reducible refine bS ?_ | refine bt ‹_› ?_ | refine bf ‹_› ?_
      | refine bt (by first | omega | (simp only [List.length_map, List.length_cons, List.length_nil]; first | done | omega)) ?_
      | refine bf (by first | omega | (simp only [List.length_map, List.length_cons, List.length_nil]; first | done | omega)) ?_
      | refine bT ‹_› ?_ | refine bF ‹_› ?_ | fail); conv => whnf)
    exact k.out) : P := h k
/-- one step that wants a bound or a place -/
theorem Rb {P Q : Prop} (k : Hide Q) (h : Hide Q → P := by
    intro k
    (first
      | refine wi (by first | omega | (simp only [List.length_map, List.length_cons, List.length_nil]; first | done | omega)) ?_
      | refine ⟨_, _, rfl, mg ‹_›, rfl, ?_⟩ | refine ⟨_, _, rfl, ‹_›, ?_⟩ | refine ⟨0, _, rfl, rfl, rfl, ?_⟩ | refine ⟨0, _, rfl, rfl, ?_⟩ | refine ⟨_, _, rfl, map_get (by omega), rfl, ?_⟩ | refine ⟨_, mg ‹_›, ?_⟩ | refine ⟨_, map_get (by omega), ?_⟩
      | refine ⟨_, (rfl : getElem? (_ : List (List D)) _ = some _), ?_⟩ | refine ⟨map_len fun _ => rfl, ?_⟩
      | refine ⟨(by repeat' (first | exact map_len (fun _ => rfl) | exact one_len rfl | exact len_nil | assumption | refine len_take ?_ | refine len_drop ?_ | refine len_app ?_ ?_) : ∀ cs ∈ (_ : List (List D)), cs.length = _), ?_⟩
      | refine ⟨Nat.le_of_ble_eq_true rfl, Nat.le_of_ble_eq_true rfl, one_len rfl, ?_⟩ | refine ⟨Nat.le_of_ble_eq_true rfl, Nat.le_of_ble_eq_true rfl, ?_⟩
      | refine ⟨(by refine Decidable.byContradiction fun hbnd => ?_; (try unfold room at hbnd); (try simp only [bytesOf, List.length_map, List.length_append, List.length_cons, List.length_nil, List.length_take, List.length_drop, List.length_replicate, List.length_set] at hbnd); omega), ?_⟩
      | refine ⟨(Nat.le_of_ble_eq_true rfl : _ ≤ wide), ?_⟩ | refine ⟨(rfl : isByte _ = true), ?_⟩ | refine ⟨(rfl : memB _ _ = false), ?_⟩ | refine ⟨_, (rfl : (_ : Int) = ((_ : Nat) : Int)), ?_⟩ | fail)
    conv => whnf
    exact k.out) : P := h k
/-- the steps of the elder texts -/
theorem Rw {P Q : Prop} (k : Hide Q) (h : Hide Q → P := by
    intro k
    (first | (refine Ops.noneF rfl ?_; conv => whnf) | (refine Cd.seq ?_) | (refine Ops.nil ?_; conv => whnf) | (refine Cd.region ?_) | (refine Ops.guardF rfl rfl rfl ?_) | (refine Ops.off rfl rfl rfl ?_) | (refine Cd.cond rfl ?_) | (refine Cd.block ?_) | (refine Cd.exit ?_; conv => whnf) | (refine Cd.ret ?_; conv => whnf) | (refine Cd.skip ?_; conv => whnf) | (refine Cd.drawn ?_) | (refine And.intro (a := drawB _ _ = true) (by kernel_rfl) ?_; conv => whnf) | refine CallEnd.out ?_ | fail)
    repeat (first | (refine Ops.noneF rfl ?_; conv => whnf) | (refine Cd.seq ?_) | (refine Ops.nil ?_; conv => whnf) | (refine Cd.region ?_) | (refine Ops.guardF rfl rfl rfl ?_) | (refine Ops.off rfl rfl rfl ?_) | (refine Cd.cond rfl ?_) | (refine Cd.block ?_) | (refine Cd.exit ?_; conv => whnf) | (refine Cd.ret ?_; conv => whnf) | (refine Cd.skip ?_; conv => whnf) | (refine Cd.drawn ?_) | (refine And.intro (a := drawB _ _ = true) (by kernel_rfl) ?_; conv => whnf) | refine CallEnd.out ?_ | fail)
    exact k.out) : P := h k
theorem Rs {P Q : Prop} (k : Hide Q) (h : Hide Q → P := by
    intro k
    (first
      | (refine ⟨_, Go.IntWalk.i64_in _ (by (try simp only [List.length_map]); omega), ?_⟩; conv => whnf)
      | (refine ⟨_, _, rfl, List.getElem?_eq_getElem (by omega), ?_⟩; conv => whnf) | (refine ⟨0, _, rfl, rfl, ?_⟩; conv => whnf)
      | (refine ⟨_, _, rfl, map_get (by omega), rfl, ?_⟩; conv => whnf)
      | (refine ⟨_, map_get (by omega), ?_⟩; conv => whnf)
      | (refine ⟨map_len fun _ => rfl, ?_⟩; conv => whnf)
      | (refine ⟨Nat.le_of_ble_eq_true rfl, Nat.le_of_ble_eq_true rfl, one_len rfl, ?_⟩; conv => whnf)
      | (refine ⟨Nat.le_of_ble_eq_true rfl, Nat.le_of_ble_eq_true rfl, ?_⟩; conv => whnf)
      | (refine ⟨(by refine Decidable.byContradiction fun hbnd => ?_; (try unfold room at hbnd); (try simp only [bytesOf, List.length_map, List.length_append, List.length_cons, List.length_nil, List.length_take, List.length_drop, List.length_replicate, List.length_set] at hbnd); omega), ?_⟩; conv => whnf)
      | (refine ⟨(Nat.le_of_ble_eq_true rfl : _ ≤ wide), ?_⟩; conv => whnf) | (refine ⟨(rfl : isByte _ = true), ?_⟩; conv => whnf) | (refine ⟨(rfl : memB _ _ = false), ?_⟩; conv => whnf)
      | (refine ⟨_, (rfl : (_ : Int) = ((_ : Nat) : Int)), ?_⟩; conv => whnf) | fail)
    exact k.out) : P := h k
/-- a call: its contract, the names handed over, how many blocks are new -/
theorem Rc {E : Env} {f : FuncId} {ds : List D} {S : Store} {nx : Nat} {A B : List Nat → List D → Store → D → Store → Nat → Prop} (ns : List Nat) (c : Nat) {cds : List D} {Sa : Store} {d : D} {S' : Store} (ar : argDs ns S ds = some cds) (st : argS ns S ns 0 = some Sa) (con : Con E f ns.length cds Sa d S') (k : B ns cds Sa d S' c)
    (nd : nodupB ns = true := by exact rfl) (keys : keysB (ns.length + c) S' = true := by exact rfl) (dom : (ltB (ns.length + c) (nmR d) && domB (ns.length + c) S') = true := by exact rfl) :
    ∃ (ns : List Nat) (cds : List D) (Sa : Store) (d : D) (S' : Store) (c : Nat), CallOf E f ds S nx ns cds Sa d S' c ∧ (A ns cds Sa d S' c ∨ B ns cds Sa d S' c) := ⟨ns, cds, Sa, d, S', c, ⟨nd, ar, st, con, keys, dom⟩, .inr k⟩
/-- where a run of this kind ends -/
theorem Rf {P : Prop} (h : P := by
    first | refine CallEnd.here (fa ?_) | refine fa ?_
    conv => whnf
    first
      | exact ⟨rfl, rfl, rfl, rfl⟩
      | refine ⟨rfl, rfl, congrArg some (congrArg D.s ?_), rfl⟩
      | refine ⟨rfl, rfl, congrArg some (congrArg D.b ?_), rfl⟩
      | refine ⟨rfl, rfl, congrArg some (congrArg (D.k _) ?_), rfl⟩
      | refine ⟨rfl, rfl, congrArg some (congrArg D.agg ?_), rfl⟩
      | refine ⟨rfl, rfl, rfl, ?_⟩
    all_goals first
      | rfl
      | (simp_all; done)
      | (simp <;> (repeat' split) <;> omega)
      | (rw [Bool.eq_iff_iff]; simp [*] <;> omega)
      | fail) : P := h
end Go.Ab
/- Library functions that turn the cells of a slice of texts of the caller's own. -/
namespace Go.Ab
open Go Go.RowKit

abbrev eS : List UInt8 → Value := fun l => Value.string ⟨l.toArray⟩
section
variable {w : World} {Av : Nat → Prop}
theorem rows_str (ls : List (List UInt8)) : Rows (VI w Av) 1 (ls.map fun l => [D.s l]) (ls.map eS) := by
  refine ⟨by simp, fun cs hcs => ?_, fun u hu => ?_, fun i j cs d hc hd' => ?_⟩
  · obtain ⟨l, _, rfl⟩ := List.mem_map.1 hcs
    rfl
  · obtain ⟨l, _, rfl⟩ := List.mem_map.1 hu
    rfl
  · simp only [List.getElem?_map, Option.map_eq_some_iff] at hc
    obtain ⟨l, hl', rfl⟩ := hc
    cases j with
    | zero =>
      simp at hd'
      subst hd'
      exact ⟨eS l, by simp [hl'], .s l⟩
    | succ j => simp at hd'
theorem str_rows {ls : List (List UInt8)} {us : List Value} (h : Rows (VI w Av) 1 (ls.map fun l => [D.s l]) us) : us = ls.map eS := by
  have hl : us.length = ls.length := by have := h.len; simpa using this
  refine List.ext_getElem? fun i => ?_
  cases hi : ls[i]? with
  | none =>
    rw [List.getElem?_eq_none_iff] at hi
    rw [List.getElem?_eq_none_iff.2 (by omega), List.getElem?_eq_none_iff.2 (by simp; omega)]
  | some l =>
    obtain ⟨u, hu, hv⟩ := h.at_ i 0 [.s l] (.s l) (by simp [hi]) rfl
    have : u = eS l := by
      cases hv with
      | s => rfl
    rw [List.getElem?_map, hi]
    simpa [this] using hu
end
theorem putCells_size (d : Array (List UInt8)) (c : Array Value) : (Sort.putCells eS 0 d c).size = c.size := by simp [Sort.putCells]
theorem putCells_take (zs : List (List UInt8)) (c : Array Value) (h : zs.length ≤ c.size) : (Sort.putCells eS 0 zs.toArray c).toList.take zs.length = zs.map eS := by
  refine List.ext_getElem? fun i => ?_
  by_cases hi : i < zs.length
  · rw [List.getElem?_take_of_lt hi, Array.getElem?_toList]
    unfold Sort.putCells
    rw [Array.getElem?_mapIdx, Array.getElem?_eq_getElem (by omega), List.getElem?_map, List.getElem?_eq_getElem hi]
    simp only [Option.map_some]
    rw [if_pos ⟨Nat.zero_le _, by simpa using hi⟩]
    simp [hi]
  · rw [List.getElem?_eq_none_iff.2 (by simp; omega), List.getElem?_eq_none_iff.2 (by simp; omega)]
theorem putRow_at {w : World} {g n : Nat} {d : Array (List UInt8)} {cur : Array Value} {e : TypeId} {fz : Nat × Nat} (os : Array Obj) (h : w.heap[g]? = some (.cells cur e fz)) :
    (Sort.grow (Sort.putRow eS (Sort.ahead w n) g 0 d) os).heap[g]? = some (.cells (Sort.putCells eS 0 d cur) e fz) := by
  have hg : g < w.heap.size := by
    by_cases hg : g < w.heap.size
    · exact hg
    · rw [Array.getElem?_eq_none (by omega)] at h; cases h
  have h1 : (Sort.putRow eS (Sort.ahead w n) g 0 d).heap[g]? = some (.cells (Sort.putCells eS 0 d cur) e fz) := by
    simp only [Sort.putRow, Sort.mapBlock, Sort.ahead, Array.getElem?_modify, if_true, h, Option.map_some, Sort.onCells]
  have h2 : (Sort.putRow eS (Sort.ahead w n) g 0 d).heap.size = w.heap.size := by simp [Sort.putRow, Sort.mapBlock, Sort.ahead]
  simp only [Sort.grow]
  rw [Array.getElem?_append_left (by rw [h2]; exact hg), h1]
theorem putRow_fr {w : World} {g n : Nat} {d : Array (List UInt8)} (os : Array Obj) {F : Nat → Prop} (hF : F g) : Fr F w (Sort.grow (Sort.putRow eS (Sort.ahead w n) g 0 d) os) := by
  have h2 : (Sort.putRow eS (Sort.ahead w n) g 0 d).heap.size = w.heap.size := by simp [Sort.putRow, Sort.mapBlock, Sort.ahead]
  refine ⟨rfl, rfl, rfl, by simp only [Sort.grow, Array.size_append, h2]; omega, fun k hk hn => ?_⟩
  have hne : g ≠ k := by rintro rfl; exact hn hF
  simp only [Sort.grow]
  rw [Array.getElem?_append_left (by rw [h2]; exact hk)]
  simp only [Sort.putRow, Sort.mapBlock, Sort.ahead, Array.getElem?_modify, hne, if_false]
theorem holds_cells {w : World} {g : Nat} {cur : Array Value} {e : TypeId} {ls : List (List UInt8)} (h : w.heap[g]? = some (.cells cur e (0, 0))) (ht : cur.toList.take ls.length = ls.map eS) : Sort.Holds eS w g 0 ls.toArray := by
  intro j hj
  have hj' : j < ls.length := by simpa using hj
  have h1 : cur[j]? = some (eS ls[j]) := by
    have this : (cur.toList.take ls.length)[j]? = (ls.map eS)[j]? := by rw [ht]
    rw [List.getElem?_take_of_lt hj', Array.getElem?_toList] at this
    rw [this]
    simp [hj']
  have e1 : ls.toArray[j]! = ls[j] := by rw [getElem!_pos _ j hj]; rfl
  refine ⟨?_, ?_⟩
  · simp only [World.cell?, h]
    simp [h1, e1, hj']
  · simp [World.frozen?, h]
section
variable {E : Env} {f : FuncId}
/-- what sorts a slice of texts -/
theorem con_sort {et : TypeId} {ls ls' : List (List UInt8)} (hce : E.P.cellsOf et = 1) (hf : Callable E.P f) (hlen : ls'.length = ls.length)
    (h0 : ls = [] → ∀ (w : World), Calls E.P f #[.slice none 0 0] w fun e w' => e = .returned (.tuple #[]) ∧ w' = w)
    (h1 : ∀ (g cap : Nat) (w : World), Sort.Holds eS w g 0 ls.toArray → g < w.heap.size → Calls E.P f #[.slice (some ⟨g, 0, none⟩) ls.length cap] w fun e w' => e = .returned (.tuple #[]) ∧ ∃ n os, w' = Sort.grow (Sort.putRow eS (Sort.ahead w n) g 0 ls'.toArray) os) :
    Con E f 1 [.own 0] [(0, .own et (ls.map fun l => [.s l]))] (.tup []) [(0, .own et (ls'.map fun l => [.s l]))] := by
  refine ⟨hf, fun w vs ρ G hl hG hGh ha hs hdis hd hg => ?_⟩
  match vs, hl, ha with
  | [v0], _, ha =>
    have hv0 : ρ 0 = some v0 := by
      cases ha 0 (.own 0) v0 rfl rfl with
      | atom h =>
        cases h with
        | im h => cases h
        | own h _ => exact h
    obtain ⟨u, us, hu, ho, hr⟩ := hs 0 _ rfl
    obtain rfl := Option.some.inj (hv0.symm.trans hu)
    rw [hce] at ho hr
    obtain rfl := str_rows hr
    obtain ⟨ho1, ho2⟩ := ho
    have lk0 : ∀ (t : Nat) (b : Blk) (zs : List (List UInt8)), lk [(0, Blk.own et (zs.map fun l => [D.s l]))] t = some b → t = 0 ∧ b = .own et (zs.map fun l => [D.s l]) := by
      intro t b zs hb
      rw [lk_cons] at hb
      split at hb
      · rename_i ht; cases hb; exact ⟨ht.symm, rfl⟩
      · simp [lk] at hb
    have hd1 : Dis [(0, Blk.own et (ls'.map fun l => [D.s l]))] ρ := fun t t' b b' x hb hb' _ _ _ _ => by rw [(lk0 _ _ _ hb).1, (lk0 _ _ _ hb').1]
    have hh : ∀ x, Held [(0, Blk.own et (ls'.map fun l => [D.s l]))] ρ x → w.heap.size ≤ x ∨ Held [(0, Blk.own et (ls.map fun l => [D.s l]))] ρ x := by
      rintro x ⟨t, b, hb, _, hx⟩
      obtain ⟨rfl, rfl⟩ := lk0 _ _ _ hb
      exact .inr ⟨0, _, rfl, rfl, hx⟩
    rcases ho2 with ⟨rfl, hn⟩ | ⟨g, cap, cur, rfl, hb0, hgc, hnc, hcm, hcs, htk⟩
    · have hls : ls = [] := by simpa using hn
      subst hls
      obtain rfl : ls' = [] := List.length_eq_zero_iff.1 hlen
      refine (h0 rfl w).mono ?_
      rintro e w' ⟨he, rfl⟩
      exact ⟨_, ρ, he, .tup (ds := []) (us := []) rfl (fun i d u h => by simp at h), hs, hd1, hh, fun _ _ _ h => h, Fr.refl _ _⟩
    · simp only [List.length_map, Nat.mul_one] at hcs htk hnc
      have hlt : g < w.heap.size := by
        by_cases hlt : g < w.heap.size
        · exact hlt
        · rw [Array.getElem?_eq_none (by omega)] at hgc; cases hgc
      have hcall := h1 g cap w (holds_cells hgc htk) hlt
      rw [List.length_map] at hv0 hu
      simp only [List.length_map]
      refine hcall.mono ?_
      rintro e w' ⟨he, n, os, rfl⟩
      have hF : Held [(0, Blk.own et (ls.map fun l => [D.s l]))] ρ g := ⟨0, _, rfl, rfl, by rw [hv0]; rfl⟩
      refine ⟨_, ρ, he, .tup (ds := []) (us := []) rfl (fun i d u h => by simp at h), fun t b hb => ?_, hd1, hh, fun _ _ _ h => h, putRow_fr os hF⟩
      obtain ⟨rfl, rfl⟩ := lk0 _ _ _ hb
      refine ⟨_, ls'.map eS, hv0, ?_, by rw [hce]; exact rows_str ls'⟩
      rw [hce]
      refine ⟨by simp, .inr ⟨g, cap, Sort.putCells eS 0 ls'.toArray cur, by simp [hlen], Nat.zero_le _, putRow_at os hgc, by simp [hlen]; exact hnc, hcm, by rw [putCells_size, hcs, Nat.mul_one], ?_⟩⟩
      rw [List.length_map, Nat.mul_one]
      exact putCells_take ls' cur (by rw [hlen, hcs]; exact hnc)
/-- what leaves out of a slice of texts those that it has twice: the same memory, at its new length -/
theorem con_compact {et : TypeId} {ls ls' : List (List UInt8)} (hce : E.P.cellsOf et = 1) (hf : Callable E.P f) (hlen : ls'.length ≤ ls.length)
    (h0 : ls = [] → ∀ (w : World), Calls E.P f #[.slice none 0 0] w fun e w' => e = .returned (.slice none 0 0) ∧ w' = w)
    (h1 : ∀ (g cap : Nat) (w : World), Sort.Holds eS w g 0 ls.toArray → ls.length ≤ cap → cap ≤ maxLen → Calls E.P f #[.slice (some ⟨g, 0, none⟩) ls.length cap] w fun e w' => e = .returned (.slice (some ⟨g, 0, none⟩) ls'.length cap) ∧ ∃ q, w' = Sort.putRow eS (Sort.ahead w q) g 0 (ls' ++ List.replicate (ls.length - ls'.length) []).toArray) :
    Con E f 1 [.own 0] [(0, .own et (ls.map fun l => [.s l]))] (.own 1) [(1, .own et (ls'.map fun l => [.s l]))] := by
  refine ⟨hf, fun w vs ρ G hl hG hGh ha hs hdis hd hg => ?_⟩
  match vs, hl, ha with
  | [v0], _, ha =>
    have hv0 : ρ 0 = some v0 := by
      cases ha 0 (.own 0) v0 rfl rfl with
      | atom h =>
        cases h with
        | im h => cases h
        | own h _ => exact h
    obtain ⟨u, us, hu, ho, hr⟩ := hs 0 _ rfl
    obtain rfl := Option.some.inj (hv0.symm.trans hu)
    rw [hce] at ho hr
    obtain rfl := str_rows hr
    obtain ⟨ho1, ho2⟩ := ho
    have lk1 : ∀ (t : Nat) (b : Blk), lk [(1, Blk.own et (ls'.map fun l => [D.s l]))] t = some b → t = 1 ∧ b = .own et (ls'.map fun l => [D.s l]) := by
      intro t b hb
      rw [lk_cons] at hb
      split at hb
      · rename_i ht; cases hb; exact ⟨ht.symm, rfl⟩
      · simp [lk] at hb
    rcases ho2 with ⟨rfl, hn⟩ | ⟨g, cap, cur, rfl, hb0, hgc, hnc, hcm, hcs, htk⟩
    · have hls : ls = [] := by simpa using hn
      subst hls
      obtain rfl : ls' = [] := List.length_eq_zero_iff.1 (Nat.le_zero.1 hlen)
      refine (h0 rfl w).mono ?_
      rintro e w' ⟨he, rfl⟩
      refine ⟨_, fun t => if t = 1 then some (.slice none 0 0) else ρ t, he, .gr (.atom (.own (by simp) rfl)), fun t b hb => ?_, fun t t' b b' x hb hb' _ _ _ _ => by rw [(lk1 _ _ hb).1, (lk1 _ _ hb').1], ?_, fun t u ht h => by simpa [show t ≠ 1 by omega] using h, Fr.refl _ _⟩
      · obtain ⟨rfl, rfl⟩ := lk1 _ _ hb
        refine ⟨.slice none 0 0, [], by simp, ⟨by simp, .inl ⟨rfl, by simp⟩⟩, ?_⟩
        rw [hce]
        exact rows_str []
      · rintro x ⟨t, b, hb, _, hx⟩
        obtain ⟨rfl, rfl⟩ := lk1 _ _ hb
        simp [blkOf] at hx
    · simp only [List.length_map, Nat.mul_one] at hcs htk hnc
      have hcall := h1 g cap w (holds_cells hgc htk) hnc hcm
      rw [List.length_map] at hv0 hu
      simp only [List.length_map]
      refine hcall.mono ?_
      rintro e w' ⟨he, n, rfl⟩
      have hF : Held [(0, Blk.own et (ls.map fun l => [D.s l]))] ρ g := ⟨0, _, rfl, rfl, by rw [hv0]; rfl⟩
      have hal : (ls' ++ List.replicate (ls.length - ls'.length) ([] : List UInt8)).length = ls.length := by simp; omega
      have hfr : Fr (Held [(0, Blk.own et (ls.map fun l => [D.s l]))] ρ) w (Sort.putRow eS (Sort.ahead w n) g 0 (ls' ++ List.replicate (ls.length - ls'.length) []).toArray) := by
        have := putRow_fr (w := w) (n := n) (d := (ls' ++ List.replicate (ls.length - ls'.length) []).toArray) #[] hF
        rwa [Sort.grow_empty] at this
      have hat := putRow_at (n := n) (d := (ls' ++ List.replicate (ls.length - ls'.length) []).toArray) #[] hgc
      rw [Sort.grow_empty] at hat
      refine ⟨_, fun t => if t = 1 then some (.slice (some ⟨g, 0, none⟩) ls'.length cap) else ρ t, he, .gr (.atom (.own (by simp) rfl)), fun t b hb => ?_, fun t t' b b' x hb hb' _ _ _ _ => by rw [(lk1 _ _ hb).1, (lk1 _ _ hb').1], ?_, fun t u ht h => by simpa [show t ≠ 1 by omega] using h, hfr⟩
      · obtain ⟨rfl, rfl⟩ := lk1 _ _ hb
        refine ⟨.slice (some ⟨g, 0, none⟩) ls'.length cap, ls'.map eS, by simp, ?_, by rw [hce]; exact rows_str ls'⟩
        rw [hce]
        refine ⟨by simp, .inr ⟨g, cap, _, by simp, Nat.zero_le _, hat, by simp; omega, hcm, by rw [putCells_size, hcs, Nat.mul_one], ?_⟩⟩
        rw [List.length_map, Nat.mul_one]
        have hp := putCells_take (ls' ++ List.replicate (ls.length - ls'.length) []) cur (by rw [hal, hcs]; exact hnc)
        have hp2 := congrArg (List.take ls'.length) hp
        rw [hal, List.take_take, List.map_append, Nat.min_eq_left hlen] at hp2
        rw [hp2, List.take_append_of_le_length (by simp), List.take_of_length_le (by simp)]
      · rintro x ⟨t, b, hb, _, hx⟩
        obtain ⟨rfl, rfl⟩ := lk1 _ _ hb
        simp [blkOf] at hx
        subst hx
        exact .inr hF
end
end Go.Ab
