/- Texts of this claim, set close: lemmas and contracts. -/
import Derived.Test.YtlicaibhgcenhaaGreatDoorWZY1
import Derived.ArgAppend
import Derived.Orders
import Derived.ProofKit
import Derived.OpenShut
import Derived.Deep.Slices
import Derived.WideKeyArgs
set_option linter.unusedVariables false
set_option linter.unusedSimpArgs false
namespace Go.Ab
open Go Go.RowKit
section
variable {E : Env} {cx : Cx} {tm : Tm} {S S0 : Store} {nx : Nat} {a : Act} {w : World} {ρ : Nat → Option Value} {o : Oper} {K : Kt}
def Bd (gl : Nat → Option (List D)) (tm : Tm) (x : Option Operand) (dflt i : Nat) : Prop :=
 match x with
 | none => i = dflt
 | some y => ∃ kd, ev gl tm y = some (.k kd (i : Int))
theorem boundK_inv {gl : Nat → Option (List D)} {x : Option Operand} {dflt : Nat} {K : Nat → Prop} (h : boundK gl tm x dflt K) : ∃ i, Bd gl tm x dflt i ∧ K i := by
 unfold boundK at h
 split at h
 · exact ⟨_, rfl, h⟩
 · split at h
   · rename_i kd n hy
     obtain ⟨j, rfl, h⟩ := h
     exact ⟨j, ⟨kd, hy⟩, h⟩
   · exact h.elim
theorem cutK_inv {gl : Nat → Option (List D)} {lo hi : Option Operand} {n : Nat} {K : Nat → Nat → Prop} (h : cutK gl tm lo hi n K) : ∃ i j, Bd gl tm lo 0 i ∧ Bd gl tm hi n j ∧ i ≤ j ∧ j ≤ n ∧ K i j := by
 obtain ⟨i, h1, h⟩ := boundK_inv h
 obtain ⟨j, h2, h3, h4, h5⟩ := boundK_inv h
 exact ⟨i, j, h1, h2, h3, h4, h5⟩
theorem bounds_run {P : Program} {ρ' : Operand → Value} {lo hi : Option Operand} {len cap i j : Nat} (sl : Bool) (hlo : Bd E.gl tm lo 0 i) (hhi : Bd E.gl tm hi len j) (hij : i ≤ j) (hj : j ≤ len) (hc : len ≤ cap)
   (hev : ∀ x ∈ lo.toList ++ hi.toList, ∀ kd n, ev E.gl tm x = some (.k kd n) → ρ' x = .int kd n) : (Instr.sliceBounds sl len cap (lo.map ρ') (hi.map ρ') none).run P w = .ok (i, j, cap) w := by
 have bound : ∀ (x : Operand) (kd : IntKind) (k y : Nat) (c : BoundsCode), ρ' x = .int kd (k : Int) → k ≤ y → (Instr.sliceBound (ρ' x) y c).run P w = .ok k w := by
  intro x kd k y c hx hk
  have h1 : (0 : Int) ≤ (k : Int) ∧ (k : Int) ≤ (y : Int) := by omega
  simp [Instr.sliceBound, hx, asIntOf, hk]
 unfold Bd at hlo hhi
 cases lo with
 | none =>
   simp only at hlo
   subst hlo
   cases hi with
   | none =>
     simp only at hhi
     subst hhi
     simp [Instr.sliceBounds]
   | some y =>
     simp only at hhi
     obtain ⟨kd, hy⟩ := hhi
     have := bound y kd j cap (if sl then .sliceAcap else .sliceAlen) (hev y (by simp) _ _ hy) (by omega)
     simp [Instr.sliceBounds, this]
 | some x =>
   simp only at hlo
   obtain ⟨kx, hx⟩ := hlo
   have hx' := hev x (by simp) _ _ hx
   cases hi with
   | none =>
     simp only at hhi
     subst hhi
     have := bound x kx i j .sliceB hx' hij
     simp [Instr.sliceBounds, this]
   | some y =>
     simp only at hhi
     obtain ⟨kd, hy⟩ := hhi
     have h1 := bound y kd j cap (if sl then .sliceAcap else .sliceAlen) (hev y (by simp) _ _ hy) (by omega)
     have h2 := bound x kx i j .sliceB hx' hij
     simp [Instr.sliceBounds, h1, h2]
theorem ba_extract (l : List UInt8) (i j : Nat) : (⟨l.toArray⟩ : ByteArray).extract i j = ⟨((l.take j).drop i).toArray⟩ := by
 apply ByteArray.ext
 rw [ByteArray.data_extract]
 apply Array.ext'
 simp [List.extract_eq_take_drop, List.drop_take]
theorem VI.cut {P : Program} {Av : Nat → Prop} {xs : List (List D)} {v : Value} (hv : VI w Av (.sl xs) v) {t e : TypeId} {te : Nat} (hu : P.underlying t = some (.slice e)) (hz : (Go.sizeOf e).run P w = .ok te w) (hel : ∀ cs ∈ xs, cs.length = te) {i j : Nat} (hij : i ≤ j) (hj : j ≤ xs.length) {lo hi : Option Value}
   (hb : ∀ n c, xs.length = n → n ≤ c → (Instr.sliceBounds true n c lo hi none).run P w = .ok (i, j, c) w) :
   ∃ u, (Instr.sliceAt t v lo hi none).run P w = .ok u w ∧ VI w Av (.sl ((xs.take j).drop i)) u := by
 obtain ⟨A, n, c, rfl, hn, hnc, hc, hnone, hsome⟩ := hv.sl_inv
 have hrun : (Instr.sliceAt t (.slice A n c) lo hi none).run P w = .ok (.slice (if c = i then A else A.map (·.add (i * te))) (j - i) (c - i)) w := by
  simp [Instr.sliceAt, Instr.slice, run_underlying hu, hb n c hn hnc, hz]
 refine ⟨_, hrun, ?_⟩
 cases A with
 | none =>
   obtain ⟨rfl, rfl⟩ := hnone rfl
   have hn0 : n = 0 := by simpa using hn.symm
   subst hn0
   have hj0 : j = 0 := by simpa using hj
   subst hj0
   have hi0 : i = 0 := by omega
   subst hi0
   simp
   exact .sl0
 | some ad =>
   obtain ⟨hbk, hav, sz, hsz, hcell⟩ := hsome ad rfl
   have hlen : ((xs.take j).drop i).length = j - i := by simp; omega
   by_cases hci : c = i
   · have hx : (xs.take j).drop i = [] := List.eq_nil_of_length_eq_zero (by rw [hlen]; omega)
     rw [if_pos hci, hx]
     exact .sl (sz := 0) (fun _ _ => undef) (by simp; omega) (by omega) (by simp only [maxLen] at *; omega) (fun h => absurd rfl h) (fun h => absurd rfl h) (by simp) (by simp) (by simp) (by simp)
   · rw [if_neg hci]
     have at_ : ∀ (k m : Nat) (cs : List D) (d : D), ((xs.take j).drop i)[k]? = some cs → cs[m]? = some d → ∃ u, w.cell? ((ad.add (i * te)).add (k * te + m)) = some u ∧ u.oneCell' = true ∧ VI w Av d u := by
      intro k m cs d hk hm
      rw [List.getElem?_drop, List.getElem?_take] at hk
      split at hk
      · have hte : sz = te := by rw [← hsz cs (List.mem_of_getElem? hk), hel cs (List.mem_of_getElem? hk)]
        obtain ⟨u, e1, e2, e3⟩ := hcell (i + k) m cs d hk hm
        refine ⟨u, ?_, e2, e3⟩
        rw [add_add, ← e1, hte, Nat.add_mul]
        congr 2
        omega
      · cases hk
     have U : ∀ k m, ∃ u, ∀ (cs : List D) (d : D), ((xs.take j).drop i)[k]? = some cs → cs[m]? = some d → w.cell? ((ad.add (i * te)).add (k * te + m)) = some u ∧ u.oneCell' = true ∧ VI w Av d u := by
      intro k m
      by_cases h : ∃ cs d, ((xs.take j).drop i)[k]? = some cs ∧ cs[m]? = some d
      · obtain ⟨cs, d, h1, h2⟩ := h
        obtain ⟨u, e1, e2, e3⟩ := at_ k m cs d h1 h2
        refine ⟨u, fun cs' d' h1' h2' => ?_⟩
        rw [h1] at h1'
        cases h1'
        rw [h2] at h2'
        cases h2'
        exact ⟨e1, e2, e3⟩
      · exact ⟨undef, fun cs d h1 h2 => absurd ⟨cs, d, h1, h2⟩ h⟩
     refine .sl (sz := te) (fun k m => (U k m).choose) hlen (by omega) (by simp only [maxLen] at *; omega) (fun hne => by rw [add_block]; exact hbk (fun e => hne (by rw [e]; simp))) (fun hne => by rw [add_block]; exact hav (fun e => hne (by rw [e]; simp))) (fun cs hcs => hel cs (List.mem_of_mem_take (List.mem_of_mem_drop hcs))) ?_ ?_ ?_
     · exact fun k m cs d h1 h2 => ((U k m).choose_spec cs d h1 h2).1
     · exact fun k m cs d h1 h2 => ((U k m).choose_spec cs d h1 h2).2.1
     · exact fun k m cs d h1 h2 => ((U k m).choose_spec cs d h1 h2).2.2
theorem ok_slice (hty : TyOk E) {t : TypeId} {x : Operand} {lo hi : Option Operand} (ho : o.op = .slice t x lo hi none) {d : D} (hx : ev E.gl tm x = some d) {td : TD} (ht : E.ty t = some td)
   (hk : sliceK E E.gl td.kind S d tm lo hi fun d' wr S' => K ⟨nmD d, wr⟩ (put o.dst d' tm) S' nx) : Ok1 E o tm S nx K := by
 have hkc := hty.kind ht
 have ops : ∀ y ∈ lo.toList ++ hi.toList, y ∈ o.op.operands := by
  intro y hy
  rw [ho]
  simp only [Op.operands]
  cases lo <;> cases hi <;> simp at hy ⊢
  · exact .inr hy
  · exact .inr hy
  · rcases hy with rfl | rfl
    · exact .inr (.inl rfl)
    · exact .inr (.inr rfl)
 have evs : ∀ {cx : Cx} {tm' : Tm} {S' : Store} {a : Act} {w : World} {ρ : Nat → Option Value}, R E cx tm' S' a w ρ → (∀ x ∈ o.op.operands, ev E.gl tm' x = ev E.gl tm x) → ∀ y ∈ lo.toList ++ hi.toList, ∀ kd n, ev E.gl tm y = some (.k kd n) → a.eval y = .int kd n := by
  intro cx tm' S' a w ρ h he y hy kd n hn
  exact (h.eval ((he y (ops y hy)).trans hn)).k_inv
 unfold sliceK at hk
 split at hk
 · rename_i hkd
   split at hk
   · rename_i l
     obtain ⟨i, j, h1, h2, h3, h4, h5⟩ := cutK_inv hk
     refine Ok1.pure (fp := nmD (.s l)) h5 fun cx tm' S' a w ρ he _ h => ?_
     have hv := (h.eval ((he x (by simp [ho, Op.operands])).trans hx)).s_inv
     rw [hkd] at hkc
     have hl : (⟨l.toArray⟩ : ByteArray).size = l.length := by simp [ByteArray.size]
     have hb := bounds_run (P := E.P) (w := w) (cap := l.length) false h1 h2 h3 h4 (Nat.le_refl _) (evs h he)
     refine ⟨.string ⟨((l.take j).drop i).toArray⟩, ?_, .gr (.atom (.im (.s _)))⟩
     simp only [execOp, ho, hv, Instr.sliceAt, Instr.slice, Sem.run_bind, run_underlying (kind_str hkc), Result.andThen_ok, hl, Option.map_none, Option.isSome_none, Sem.run_pure, ba_extract]
     simp [hb]
   · exact hk.elim
 · rename_i e hkd
   rw [hkd] at hkc
   have hu := kind_slice hkc
   obtain ⟨te, hte, hk'⟩ := tyK_inv hk
   clear hk
   have fin : ∀ {cx : Cx} {tm' : Tm} {S' : Store} {a : Act} {w : World} {ρ : Nat → Option Value} (xs : List (List D)) (i j : Nat), R E cx tm' S' a w ρ → (∀ x ∈ o.op.operands, ev E.gl tm' x = ev E.gl tm x) → VI w (AvS cx.G S' ρ) (.sl xs) (a.eval x) → (∀ cs ∈ xs, cs.length = te.size) →
      Bd E.gl tm lo 0 i → Bd E.gl tm hi xs.length j → i ≤ j → j ≤ xs.length → ∃ v, (execOp a.eval o).run E.P w = .ok (.value v) w ∧ VR w (AvS cx.G S' ρ) ρ (.sl ((xs.take j).drop i)) v := by
    intro cx tm' S' a w ρ xs i j h he hvi hxs h1 h2 h3 h4
    obtain ⟨u, e1, e2⟩ := hvi.cut hu (sizeOf_run hty hte) hxs h3 h4 (lo := lo.map a.eval) (hi := hi.map a.eval) (fun n c hn hc => by
     subst hn
     exact bounds_run (P := E.P) true h1 h2 h3 h4 hc (evs h he))
    exact ⟨u, by simp [execOp, ho, e1], .gr (.atom (.im e2))⟩
   cases d with
   | sl xs =>
     obtain ⟨hel, hk⟩ := hk'
     obtain ⟨i, j, h1, h2, h3, h4, h5⟩ := cutK_inv hk
     refine Ok1.pure (fp := nmD (.sl xs)) h5 fun cx tm' S' a w ρ he _ h => ?_
     exact fin xs i j h he (h.eval ((he x (by simp [ho, Op.operands])).trans hx)).sl_inv hel h1 h2 h3 h4
   | nil =>
     obtain ⟨i, j, h1, h2, h3, h4, h5⟩ := cutK_inv hk'
     refine Ok1.pure (fp := nmD .nil) h5 fun cx tm' S' a w ρ he _ h => ?_
     have hv := (h.eval ((he x (by simp [ho, Op.operands])).trans hx)).nil_inv
     have hj : j = 0 := by omega
     have hi0 : i = 0 := by omega
     subst hj
     subst hi0
     have hb := bounds_run (P := E.P) (w := w) (cap := 0) true h1 h2 h3 h4 (Nat.le_refl _) (evs h he)
     refine ⟨.slice none 0 0, ?_, .gr (.atom (.im .nil))⟩
     simp [execOp, ho, hv, Instr.sliceAt, Instr.slice, run_underlying hu, hb, sizeOf_run hty hte]
   | own t0 =>
     simp only at hk'
     split at hk'
     · rename_i xs himm
       obtain ⟨hel, hk⟩ := hk'
       obtain ⟨i, j, h1, h2, h3, h4, h5⟩ := cutK_inv hk
       refine Ok1.val (fp := ⟨nmD (.own t0), [t0]⟩) (out := frzOut S [t0]) (nx' := nx) (d := .sl ((xs.take j).drop i)) (fun n hn => ?_) (fun n hn => by simpa [nmD, nmA] using hn) (Nat.le_refl _) (fun n q1 q2 => by omega) (fun n => frz_ap [t0] S n) h5 ?_
       · rw [lk_frzOut] at hn
         by_cases hin : n ∈ [t0]
         · exact hin
         · rw [if_neg hin] at hn; exact absurd rfl hn
       · intro cx tm' S' a w ρ he hf h hfr
         have hag : ∀ m ∈ [t0], lk S' m = lk S m := fun m hm => hf m (by simpa [nmD, nmA] using hm)
         have h' := h.frzs (S0 := S) [t0] hag
         have hvi := immD_VI (S0 := S) h' (d := .own t0) (fun t ht => frz_fits hag t (by simpa [nmD, nmA] using ht)) (h'.eval ((he x (by simp [ho, Op.operands])).trans hx)) himm
         obtain ⟨v, e1, e2⟩ := fin xs i j h' he hvi hel h1 h2 h3 h4
         exact ⟨v, w, ρ, e1, h', e2, fun _ _ => rfl⟩
     · exact hk'.elim
   | _ => exact hk'.elim
 · exact hk.elim
theorem ok_minmax {x y : Operand} {b : Builtin} {ts : Array TypeId} (ho : o.op = .call { callee := .builtin b, args := #[x, y], argTypes := ts }) (hb : b = .min ∨ b = .max) {m n : Int} (hx : ev E.gl tm x = some (.k .i64 m)) (hy : ev E.gl tm y = some (.k .i64 n))
   (hk : K ⟨[], []⟩ (put o.dst (.k .i64 (if b = .min then min m n else max m n)) tm) S nx) : Ok1 E o tm S nx K := by
 refine Ok1.pure (fp := []) hk fun cx tm' S' a w ρ he _ h => ?_
 have e1 := (h.eval ((he x (by simp [ho, Op.operands, Call.operands])).trans hx)).k_inv
 have e2 := (h.eval ((he y (by simp [ho, Op.operands, Call.operands])).trans hy)).k_inv
 rcases hb with rfl | rfl
 · refine ⟨.int .i64 (min m n), ?_, .gr (.atom (.im (.k _ _)))⟩
   have : (if n < m then n else m) = min m n := by omega
   simp [execOp, ho, resolve, invoke, builtin, e1, e2, Builtin.min_, Builtin.min2, this]
 · refine ⟨.int .i64 (max m n), ?_, .gr (.atom (.im (.k _ _)))⟩
   have : (if m < n then n else m) = max m n := by omega
   simp [execOp, ho, resolve, invoke, builtin, e1, e2, Builtin.max_, Builtin.max2, this]
theorem evs_get {gl : Nat → Option (List D)} : ∀ {xs : List Operand} {K : List D → Prop}, evsK gl tm xs K → ∃ ds, K ds ∧ ds.length = xs.length ∧ ∀ (i : Nat) (x : Operand) (d : D), xs[i]? = some x → ds[i]? = some d → ev gl tm x = some d
 | [], K, h => ⟨[], h, rfl, by simp⟩
 | x :: r, K, h => by
   unfold evsK at h
   split at h
   · rename_i d hd
     obtain ⟨ds, h1, h2, h3⟩ := evs_get h
     refine ⟨d :: ds, h1, by simp [h2], fun i y e hy he => ?_⟩
     cases i with
     | zero => simp at hy he; subst hy he; exact hd
     | succ i => exact h3 i y e (by simpa using hy) (by simpa using he)
   · exact h.elim
theorem boxes_get : ∀ {ds : List D} {cs : List Nat}, awpOp.boxes ds = some cs → cs.length = ds.length ∧ ∀ (i n : Nat), cs[i]? = some n → ds[i]? = some (.bp n 0)
 | [], cs, h => by simp [awpOp.boxes] at h; subst h; simp
 | d :: r, cs, h => by
   unfold awpOp.boxes at h
   split at h
   · rename_i heq; cases heq
   · rename_i n r' heq
     cases heq
     split at h
     · rename_i q hq
       cases h
       obtain ⟨h1, h2⟩ := boxes_get hq
       refine ⟨by simp [h1], fun i m hm => ?_⟩
       cases i with
       | zero => simp at hm; subst hm; rfl
       | succ i => exact h2 i m (by simpa using hm)
     · cases h
   · cases h
theorem ok_makeFunc {f : FuncId} {first caps : Array Operand} (ho : o.op = .makeFunc (.func f) first caps) (hf : first.toList = []) {ds : List D} (hl : ds.length = caps.toList.length) (hds : ∀ (i : Nat) (x : Operand) (d : D), caps.toList[i]? = some x → ds[i]? = some d → ev E.gl tm x = some d) {cs : List Nat} (hb : awpOp.boxes ds = some cs)
   (hk : K fp0 (put o.dst (.fn f cs) tm) S nx) : Ok1 E o tm S nx K := by
 obtain ⟨b1, b2⟩ := boxes_get hb
 refine Ok1.pure (fp := []) hk fun cx tm' S' a w ρ he _ h => ?_
 have hfirst : first = #[] := by apply Array.ext'; simpa using hf
 refine ⟨.func (.func f) #[] (caps.toList.map a.eval).toArray, ?_, .gr (.atom (.fn (by simp [b1, hl]) fun i n u hn hu => ?_))⟩
 · have : Array.map a.eval caps = (List.map a.eval caps.toList).toArray := by apply Array.ext'; simp
   simp [execOp, ho, Instr.makeFunc, hfirst]
   exact this
 · simp only [List.getElem?_map, Option.map_eq_some_iff] at hu
   obtain ⟨x, hx, rfl⟩ := hu
   have hd := b2 i n hn
   have hev := h.eval ((he x (by rw [ho]; simp only [Op.operands]; simp; exact .inr (by simpa using List.mem_of_getElem? hx))).trans (hds i x _ hx hd))
   obtain ⟨b, e1, e2⟩ := hev.bp_inv
   rw [e2]
   exact ⟨e1, b, rfl⟩
end
end Go.Ab
namespace Go.Ab
open Go Go.RowKit
section
variable {E : Env} {cx : Cx} {tm : Tm} {S S2 : Store} {nx : Nat} {a : Act} {w : World} {ρ : Nat → Option Value} {o : Oper} {K : Kt}
theorem Ok1.swapD {ms : List Nat} {b : Blk} (hk : K ⟨nx :: ms, nx :: ms⟩ (put o.dst (.own nx) tm) S2 (nx + 1)) (hS2 : ∀ n, lk S2 n = lk (ap ((nx, some b) :: gone ms) S) n)
   (hs : ∀ (cx : Cx) (tm' : Tm) (S' : Store) (a : Act) (w : World) (ρ : Nat → Option Value), (∀ x ∈ o.op.operands, ev E.gl tm' x = ev E.gl tm x) → (∀ m ∈ ms, lk S' m = lk S m) → R E cx tm' S' a w ρ → ρ nx = none →
     ∃ v w' g, (execOp a.eval o).run E.P w = .ok (.value v) w' ∧ R E cx tm' (ap ((nx, some b) :: gone ms) S') a w' (withName ρ nx g) ∧ top g = v ∧ v.oneCell' = true) : Ok1 E o tm S nx K := by
 refine Ok1.val (fp := ⟨nx :: ms, nx :: ms⟩) (out := (nx, some b) :: gone ms) (nx' := nx + 1) (d := .own nx) (fun n h => ?_) (fun n h => h) (Nat.le_succ _) (fun n h1 h2 => by simp; omega) hS2 hk ?_
 · rw [lk_cons] at h
   by_cases e : nx = n
   · simp [e]
   · rw [if_neg e, lk_gone] at h
     by_cases hn : n ∈ ms
     · simp [hn]
     · rw [if_neg hn] at h; exact absurd rfl h
 · intro cx tm' S' a w ρ he hf h hn
   obtain ⟨v, w', g, e1, e2, e3, e4⟩ := hs cx tm' S' a w ρ he (fun m hm => hf m (by simp [hm])) h (hn nx (Nat.le_refl _) (Nat.lt_succ_self _))
   exact ⟨v, w', _, e1, e2, .gr (.atom (.own (by unfold nmv; rw [withName_same, Option.map_some, e3]) e4)), fun n hne => withName_other g (by rintro rfl; exact hne ⟨Nat.le_refl _, Nat.lt_succ_self _⟩)⟩
theorem made_one (z : Value) (n : Nat) : (madeCells #[z] n).toList = List.replicate n z := by
 refine List.ext_getElem? fun k => ?_
 by_cases hk : k < n
 · rw [made_get #[z] n k hk (by simp), List.getElem?_replicate, if_pos hk]
   simp [Nat.mod_one]
 · rw [List.getElem?_eq_none (by simp [madeCells]; omega), List.getElem?_eq_none (by simp; omega)]
theorem ok_makeD (hty : TyOk E) {t e e2 : TypeId} {x y : Operand} (ho : o.op = .makeSlice t x y) {td te : TD} (ht : E.ty t = some td) (hkd : td.kind = .slice e) (hte : E.ty e = some te) (hz1 : te.size = 1) (hnil : te.zero = .nil)
   {kl kc : IntKind} {n : Nat} (hx : ev E.gl tm x = some (.k kl (n : Int))) (hy : ev E.gl tm y = some (.k kc (n : Int))) (hn : n ≤ room) (hb : te.bytes ≤ wide)
   (hk : K ⟨[nx], [nx]⟩ (put o.dst (.own nx) tm) ((nx, .deep e e2 (List.replicate n (.an []))) :: S) (nx + 1)) : Ok1 E o tm S nx K := by
 refine Ok1.swapD (ms := []) (b := .deep e e2 (List.replicate n (.an []))) hk (fun m => lk_ap_one' m) fun cx tm' S' a w ρ he _ h hfresh => ?_
 have hu : E.P.underlying t = some (.slice e) := by
  have := hty.kind ht
  rw [hkd] at this
  exact kind_slice this
 obtain ⟨i, v, hi, hs, hby, hz, hpos, hzl, hzc, _⟩ := hty.info hte
 have hv : v = .slice none 0 0 := by
  rw [hnil] at hzc
  have := zeroChk_cells (w := w) (Av := fun _ => False) (ρ := ρ) hzc
  unfold zeroChk at hzc
  have hq := zeroEq_VI (w := w) (Av := fun _ => False) hzc
  cases hq
  rfl
 subst hv
 have hcells : (Value.slice none 0 0).cells = #[.slice none 0 0] := rfl
 have hprod : te.bytes * n ≤ wide * room := Nat.mul_le_mul hb hn
 unfold room at hn hprod
 unfold wide at hprod
 have hpi : ((i.bytes : Nat) : Int) * ((n : Nat) : Int) ≤ 281474976710656 := by
  have h3 : ((te.bytes * n : Nat) : Int) ≤ 281474976710656 := by omega
  rw [hby]
  rw [Int.natCast_mul] at h3
  exact h3
 have hrun := run_make (P := E.P) w t e i _ hu hi hz kl kc (n : Int) (n : Int) (by omega) (by omega) hpi (by omega)
 simp only [Int.toNat_natCast, hs, hz1, Nat.mul_one, hcells] at hrun
 have hML : (madeCells #[Value.slice none 0 0] n).toList = List.replicate n (.slice none 0 0) := made_one _ _
 have hown : (w.alloc (.cells (madeCells #[Value.slice none 0 0] n) e)).ownsRow 0 e 1 (.slice (some ⟨w.heap.size, 0, none⟩) n n) (List.replicate n (Slot.an [])).length (List.replicate n (.slice none 0 0)) := by
  rw [List.length_replicate]
  refine ⟨by simp, .inr ⟨w.heap.size, n, _, rfl, Nat.zero_le _, heap_alloc_new w _, Nat.le_refl _, by simp only [maxLen]; omega, by simp [size_madeCells], ?_⟩⟩
  rw [hML, List.take_of_length_le]
  simp
 have h1 := (h.eval ((he x (by simp [ho, Op.operands])).trans hx)).k_inv
 have h2' := (h.eval ((he y (by simp [ho, Op.operands])).trans hy)).k_inv
 refine ⟨.slice (some ⟨w.heap.size, 0, none⟩) n n, w.alloc (.cells (madeCells #[Value.slice none 0 0] n) e), .tuple (.slice (some ⟨w.heap.size, 0, none⟩) n n :: List.replicate n (.slice none 0 0)).toArray, ?_, ?_, rfl, rfl⟩
 · simp [execOp, ho, h1, h2', hrun]
 · have nilB : ∀ {i : Nat} {v : Value} {x : Nat}, (List.replicate n (Value.slice none 0 0))[i]? = some v → blkOf v ≠ some x := by
     intro i v x hv
     have := List.mem_of_getElem? hv
     rw [(List.mem_replicate.1 this).2]
     simp [blkOf]
   refine h.make hfresh (fr_alloc w _) (fun x hx => ?_) fun hi hr => ?_
   · obtain ⟨u', vs', q1, q2⟩ := hx
     obtain ⟨rfl, rfl⟩ := tup_inj rfl q1
     rcases q2 with q2 | ⟨j, xs, v, _, q3, q4⟩
     · simp [blkOf] at q2; omega
     · exact absurd q4 (nilB q3)
   · refine ⟨_, _, List.replicate n (.slice none 0 0), withName_same _ _, by simp, by simp, hown, fun x hx => by rw [(List.mem_replicate.1 hx).2]; rfl, fun j z x v q1 q2 q3 => ?_, fun j xs v x _ q2 q3 => absurd q3 (nilB q2), fun j k xs ys v v' x _ _ q3 _ q5 => absurd q5 (nilB q3)⟩
     have m1 := (List.mem_replicate.1 (List.mem_of_getElem? q1)).2
     have m2 := (List.mem_replicate.1 (List.mem_of_getElem? q2)).2
     have m3 := (List.mem_replicate.1 (List.mem_of_getElem? q3)).2
     subst m1 m2 m3
     exact ⟨rfl, [], World.ownsRow_nil _ _ _ _, by simp, by simp, by simp, by simp⟩
theorem ok_buildD0 (hty : TyOk E) {t e e2 : TypeId} {parts : Array (Nat × Operand)} (ho : o.op = .buildSlice t 0 parts) (hp : parts.toList = []) {td te : TD} (ht : E.ty t = some td) (hkd : td.kind = .slice e) (hte : E.ty e = some te) (hz1 : te.size = 1)
   (hk : K ⟨[nx], [nx]⟩ (put o.dst (.own nx) tm) ((nx, .deep e e2 []) :: S) (nx + 1)) : Ok1 E o tm S nx K := by
 refine Ok1.swapD (ms := []) (b := .deep e e2 []) hk (fun m => lk_ap_one' m) fun cx tm' S' a w ρ he _ h hfresh => ?_
 have hu : E.P.underlying t = some (.slice e) := by
  have := hty.kind ht
  rw [hkd] at this
  exact kind_slice this
 obtain ⟨i, z, hi, hs, _, hz, hpos, hzl, hzc, _⟩ := hty.info hte
 have hm : (parts.map fun (i, x) => (i, a.eval x)).toList = [] := by simp [hp]
 have hrun := buildSlice_run (P := E.P) w t e 0 (parts.map fun (i, x) => (i, a.eval x)) [] i z hu hi hz (by omega) (by rw [hs, hz1]; omega) (by rw [hm]; simp [Instr.fill, madeCells])
 have hown : (w.alloc (.cells ([] : List Value).toArray e)).ownsRow 0 e 1 (.slice (some ⟨w.heap.size, 0, none⟩) 0 0) 0 [] :=
  ⟨rfl, .inr ⟨w.heap.size, 0, _, rfl, Nat.zero_le _, heap_alloc_new w _, Nat.le_refl _, Nat.zero_le _, rfl, rfl⟩⟩
 refine ⟨.slice (some ⟨w.heap.size, 0, none⟩) 0 0, w.alloc (.cells ([] : List Value).toArray e), .tuple (.slice (some ⟨w.heap.size, 0, none⟩) 0 0 :: ([] : List Value)).toArray, ?_, ?_, rfl, rfl⟩
 · simp [execOp, ho, hrun]
 · refine h.make hfresh (fr_alloc w _) (fun x hx => ?_) fun hi hr => ?_
   · obtain ⟨u', vs', q1, q2⟩ := hx
     obtain ⟨rfl, rfl⟩ := tup_inj rfl q1
     rcases q2 with q2 | ⟨j, xs, v, q2, _, _⟩
     · simp [blkOf] at q2; omega
     · simp at q2
   · exact ⟨_, [], [], withName_same _ _, rfl, rfl, hown, by simp, fun j z x v q1 _ _ => by simp at q1, fun j xs v x q1 _ _ => by simp at q1, fun j k xs ys v v' x q1 _ _ _ _ => by simp at q1⟩
theorem ok_buildD (hty : TyOk E) {t e e2 : TypeId} {parts : Array (Nat × Operand)} {x : Operand} (ho : o.op = .buildSlice t 1 parts) (hp : parts.toList = [(0, x)]) {td te : TD} (ht : E.ty t = some td) (hkd : td.kind = .slice e) (hte : E.ty e = some te) (hz1 : te.size = 1)
   {b : Nat} {xs : List (List D)} (hx : ev E.gl tm x = some (.own b)) (hl : lk S b = some (.own e2 xs))
   (hk : K ⟨[nx, b], [nx, b]⟩ (put o.dst (.own nx) tm) ((nx, .deep e e2 [.an xs]) :: del b S) (nx + 1)) : Ok1 E o tm S nx K := by
 refine Ok1.swapD (ms := [b]) (b := .deep e e2 [.an xs]) hk (fun m => ?_) fun cx tm' S' a w ρ he hf h hfresh => ?_
 · rw [lk_ap, lk_cons, lk_cons, lk_gone, lk_del]
   by_cases e1 : nx = m
   · simp [e1]
   · by_cases e2 : m = b
     · subst e2; simp [e1]
     · simp [e1, e2]
 have hl' : lk S' b = some (.own e2 xs) := by rw [hf b (by simp)]; exact hl
 have hu : E.P.underlying t = some (.slice e) := by
  have := hty.kind ht
  rw [hkd] at this
  exact kind_slice this
 obtain ⟨i, z, hi, hs, _, hz, hpos, hzl, hzc, _⟩ := hty.info hte
 have hzs : z.cells.size = 1 := by
  have := (zeroChk_cells (w := w) (Av := fun _ => False) (ρ := ρ) hzc).1.len
  rw [hzl, hz1] at this
  simpa using this.symm
 obtain ⟨v, inner, hr, hown, hc⟩ := h.st _ _ hl'
 have hxv : a.eval x = v := by
  have hmem : (0, x) ∈ parts.toList := by rw [hp]; simp
  have := (h.eval ((he x (by rw [ho]; simp [Op.operands]; exact ⟨0, by simpa using hmem⟩)).trans hx)).own_inv
  rw [nmv_of hr (top_row hown)] at this
  exact (Option.some.inj this).symm
 have h1v := one_row hown
 have hcv : v.cells.toList = [v] := by rw [cells_one h1v]
 have hfill : Instr.fill (fun j => some (j * i.size, i.size)) (madeCells z.cells (1 * i.size)) (parts.map fun (i, x) => (i, a.eval x)).toList = some [v].toArray := by
  have hm : (parts.map fun (i, x) => (i, a.eval x)).toList = [(0, v)] := by simp [hp, hxv]
  rw [hm, hs, hz1]
  have hM : madeCells z.cells (1 * 1) = ((madeCells z.cells (1 * 1)).toList).toArray := by simp
  have hl1 : (madeCells z.cells (1 * 1)).toList.length = 1 := by simp [madeCells]
  rw [hM, fill_step _ _ 0 0 1 v [] rfl (by rw [hcv]; rfl) (by omega), hcv, fillX_all _ _ (by rw [hl1]; rfl)]
  rfl
 have hrun := buildSlice_run (P := E.P) w t e 1 (parts.map fun (i, x) => (i, a.eval x)) [v] i z hu hi hz (by omega) (by rw [hs, hz1]; omega) hfill
 have hex : (execOp a.eval o).run E.P w = .ok (.value (.slice (some ⟨w.heap.size, 0, none⟩) 1 1)) (w.alloc (.cells [v].toArray e)) := by simp [execOp, ho, hrun]
 refine ⟨_, _, .tuple (.slice (some ⟨w.heap.size, 0, none⟩) 1 1 :: [v]).toArray, hex, ?_, rfl, rfl⟩
 have hvlt : ∀ y, blkOf v = some y → y < w.heap.size := fun y hy => row_lt0 hown hy
 have one : ∀ {j : Nat} {ys : List (List D)}, ([Slot.an xs] : List Slot)[j]? = some (.an ys) → j = 0 ∧ ys = xs := by
  intro j ys hj
  cases j with
  | zero => simp at hj; exact ⟨rfl, hj.symm⟩
  | succ j => simp at hj
 have one' : ∀ {j : Nat} {u : Value}, ([v] : List Value)[j]? = some u → j = 0 ∧ u = v := by
  intro j u hj
  cases j with
  | zero => simp at hj; exact ⟨rfl, hj.symm⟩
  | succ j => simp at hj
 refine h.swaps hfresh (ms := [b]) (fun m hm => by rw [List.mem_singleton.1 hm]; exact ⟨_, hl', rfl⟩) ((fr_alloc w _).weaken fun _ h => h.elim) (fun y hy => ?_) fun hi' hr' => ?_
 · obtain ⟨u', vs', q1, q2⟩ := hy
   obtain ⟨rfl, rfl⟩ := tup_inj rfl q1
   rcases q2 with q2 | ⟨j, ys, u, _, q3, q4⟩
   · simp [blkOf] at q2; exact .inr (by omega)
   · obtain ⟨_, rfl⟩ := one' q3
     exact .inl ⟨b, _, by simp, hl', rfl, by rw [hr]; exact q4⟩
 · refine ⟨_, _, [v], withName_same _ _, rfl, rfl, ⟨rfl, .inr ⟨w.heap.size, 1, [v].toArray, rfl, Nat.zero_le _, heap_alloc_new w _, Nat.le_refl _, by simp only [maxLen]; omega, rfl, rfl⟩⟩, fun y hy => by rw [List.mem_singleton.1 hy]; exact h1v, fun j s y u q1 q2 q3 => ?_, fun j ys u y _ q2 q3 hq => ?_, fun j k ys ys' u u' y q1 q2 _ _ _ _ => by rw [(one q1).1, (one q2).1]⟩
   · obtain ⟨rfl, hy⟩ := one' q2
     obtain ⟨_, hu⟩ := one' q3
     simp at q1
     subst q1
     refine ⟨hy.trans hu.symm, inner, ?_, hc.mono hi'⟩
     rw [hu]
     exact ownsRow_kept hown fun y hy => (fr_alloc w _).block y (hvlt y hy) (fun h => h)
   · obtain ⟨_, rfl⟩ := one' q2
     have := hvlt y q3
     simp [blkOf] at hq
     omega
theorem append_rows {P : Program} (w : World) (base : Nat) (t ty e : TypeId) (i : TypeInfo) (z : Value) (size bytes : Nat) (ht : P.underlying t = some (.slice e)) (hi : P.info? e = some i) (hz : i.zero = some z)
   (hsize : i.size = size) (hby : i.bytes = bytes) (hzs : z.cells.size = size) (hsz : 0 < size) (v : Value) (n : Nat) (xs : List Value) (hown : w.ownsRow base e size v n xs) (hbase : base ≤ w.heap.size) (hn : n ≤ room) (hb : bytes ≤ wide)
   {src : Value} {m : Nat} {news : List Value} (hy : w.ownsRow 0 e size src m news) (h1 : ∀ u ∈ news, u.oneCell' = true) (hm : m ≤ room) :
   ∃ v' w', (Builtin.append_ #[t, t] ty #[v, src]).run P w = .ok v' w' ∧ w'.ownsRow base e size v' (n + m) (xs ++ news) ∧ Fr (fun x => blkOf v = some x) w w' ∧ (blkOf v' = blkOf v ∨ blkOf v' = some w.heap.size) := by
 have hform : ∃ A n c, v = .slice A n c := by rcases hown.2 with ⟨rfl, _⟩ | ⟨g, cap, cur, rfl, _⟩ <;> exact ⟨_, _, _, rfl⟩
 obtain ⟨A0, n0, c0, hv0⟩ := hform
 have hblk : v.ownBlock = blkOf v := blk_own hv0
 unfold room at hn hm
 unfold wide at hb
 rcases hy.2 with ⟨rfl, hm0⟩ | ⟨g, c, cur, rfl, _⟩
 · subst hm0
   have hn0 : news = [] := List.eq_nil_of_length_eq_zero (by rw [hy.1]; simp)
   subst hn0
   exact ⟨v, w, run_append_of_nil' base t ty e i size ht hi v n xs hown 0, by simpa using hown, Fr.refl _ _, .inl rfl⟩
 · have hbytes : (n + m) * bytes ≤ 140737488355328 := by
     have := Nat.mul_le_mul (show n + m ≤ 4294967296 by omega) hb
     omega
   obtain ⟨v', w', e1, e2, e3, _, e5⟩ := run_append_own_at (P := P) w base t ty e i z size bytes ht hi hz hsize hby hzs hsz v n xs hown ⟨g, 0, none⟩ m c news
    hy.1 (hy.cells (g := g) rfl) h1 (by simp only [maxLen]; omega) hbytes hbase
   have hform' : v'.ownBlock = blkOf v' := by
    rcases e2.2 with ⟨rfl, _⟩ | ⟨g, cap, cur, rfl, _⟩ <;> rfl
   refine ⟨v', w', e1, e2, ⟨e3.os, e3.tape, e3.output, e3.size, fun k hk hne => e3.block k hk (fun e => hne (by rw [← hblk, ← e]))⟩, ?_⟩
   rw [← hform', ← hblk]
   exact e5
theorem app_an {zs ws : List Slot} {i : Nat} {xs : List (List D)} (h : (zs ++ ws)[i]? = some (.an xs)) : (i < zs.length ∧ zs[i]? = some (.an xs)) ∨ (zs.length ≤ i ∧ ws[i - zs.length]? = some (.an xs)) := by
 by_cases hi : i < zs.length
 · rw [List.getElem?_append_left hi] at h
   exact .inl ⟨hi, h⟩
 · rw [List.getElem?_append_right (by omega)] at h
   exact .inr ⟨by omega, h⟩
theorem app_get {α : Type} {xs ys : List α} {i n : Nat} {x : α} (hn : xs.length = n) (h : (xs ++ ys)[i]? = some x) : (i < n → xs[i]? = some x) ∧ (n ≤ i → ys[i - n]? = some x) := by
 subst hn
 constructor
 · intro hi
   rwa [List.getElem?_append_left hi] at h
 · intro hi
   rwa [List.getElem?_append_right hi] at h
theorem deep_join {P : Program} {w w' : World} {Av Av' Av2 : Nat → Prop} {ρ ρ2 ρ' : Nat → Option Value} {n r nx : Nat} {e e2 : TypeId} {zs ws : List Slot} {u u2 u' : Value} {vs us vs2 us2 : List Value}
   (h1 : DeepOk P w Av ρ n e e2 zs u vs us) (h2 : DeepOk P w Av2 ρ2 r e e2 ws u2 vs2 us2) (hnm : ρ' nx = some (.tuple (u' :: (vs ++ vs2)).toArray)) (hown : w'.ownsRow 0 e 1 u' (zs.length + ws.length) (us ++ us2))
   (hi1 : ∀ d v, VI w Av d v → VI w' Av' d v) (hi2 : ∀ d v, VI w Av2 d v → VI w' Av' d v) (hr1 : ∀ t v, ρ t = some v → ρ' t = some v) (hr2 : ∀ t v, ρ2 t = some v → ρ' t = some v)
   (hk : ∀ x, bk (.deep e e2 zs) (ρ n) x → blkOf u ≠ some x → w'.heap[x]? = w.heap[x]?) (hk2 : ∀ x, bk (.deep e e2 ws) (ρ2 r) x → w'.heap[x]? = w.heap[x]?)
   (hu : blkOf u' = blkOf u ∨ blkOf u' = some w.heap.size) (hd : ∀ x, bk (.deep e e2 zs) (ρ n) x → bk (.deep e e2 ws) (ρ2 r) x → False) : ∃ (u : Value) (vs us : List Value), DeepOk P w' Av' ρ' nx e e2 (zs ++ ws) u vs us := by
 have lt1 : ∀ {i : Nat} {xs : List (List D)} {v : Value} {x : Nat}, zs[i]? = some (.an xs) → vs[i]? = some v → blkOf v = some x → x < w.heap.size := by
  intro i xs v x a b c
  obtain ⟨y, v', _, g2, _, _, g4, _⟩ := h1.us_at a
  rw [b] at g2
  cases g2
  exact row_lt0 g4 c
 have lt2 : ∀ {i : Nat} {xs : List (List D)} {v : Value} {x : Nat}, ws[i]? = some (.an xs) → vs2[i]? = some v → blkOf v = some x → x < w.heap.size := by
  intro i xs v x a b c
  obtain ⟨y, v', _, g2, _, _, g4, _⟩ := h2.us_at a
  rw [b] at g2
  cases g2
  exact row_lt0 g4 c
 refine ⟨u', vs ++ vs2, us ++ us2, hnm, by simp [h1.lv, h2.lv], by simp [h1.lu, h2.lu], by rw [List.length_append]; exact hown, fun x hx => ?_, fun i z x v q1 q2 q3 => ?_, fun i xs v x q1 q2 q3 hq => ?_, fun i j xs ys v v' x q1 q2 q3 q4 q5 q6 => ?_⟩
 · rcases List.mem_append.1 hx with hx | hx
   · exact h1.one x hx
   · exact h2.one x hx
 · by_cases hlt : i < zs.length
   · rw [List.getElem?_append_left hlt] at q1
     have hs := h1.slot i z x v q1 ((app_get h1.lu q2).1 hlt) ((app_get h1.lv q3).1 hlt)
     cases z with
     | an xs =>
       obtain ⟨e1, ys, g1, g2⟩ := hs
       refine ⟨e1, ys, ownsRow_kept g1 fun y hy => ?_, g2.mono hi1⟩
       have hv := (app_get h1.lv q3).1 hlt
       exact hk y (h1.bk.2 (.inr ⟨i, xs, v, q1, hv, hy⟩)) (h1.apart i xs v y q1 hv hy)
     | nm a => exact nmv_mono hr1 hs
     | lost => trivial
   · rw [List.getElem?_append_right (by omega)] at q1
     have hs := h2.slot _ z x v q1 ((app_get h1.lu q2).2 (by omega)) ((app_get h1.lv q3).2 (by omega))
     cases z with
     | an xs =>
       obtain ⟨e1, ys, g1, g2⟩ := hs
       refine ⟨e1, ys, ownsRow_kept g1 fun y hy => ?_, g2.mono hi2⟩
       exact hk2 y (h2.bk.2 (.inr ⟨_, xs, v, q1, (app_get h1.lv q3).2 (by omega), hy⟩))
     | nm a => exact nmv_mono hr2 hs
     | lost => trivial
 · rcases app_an q1 with ⟨hlt, q1⟩ | ⟨hle, q1⟩
   · have hv := (app_get h1.lv q2).1 hlt
     rcases hu with hu | hu
     · rw [hu] at hq
       exact h1.apart i xs v x q1 hv q3 hq
     · rw [hu] at hq
       have := lt1 q1 hv q3
       simp at hq
       omega
   · have hv := (app_get h1.lv q2).2 hle
     rcases hu with hu | hu
     · rw [hu] at hq
       exact hd x (h1.bk.2 (.inl hq)) (h2.bk.2 (.inr ⟨_, xs, v, q1, hv, q3⟩))
     · rw [hu] at hq
       have := lt2 q1 hv q3
       simp at hq
       omega
 · rcases app_an q1 with ⟨a1, a2⟩ | ⟨a1, a2⟩ <;> rcases app_an q2 with ⟨b1, b2⟩ | ⟨b1, b2⟩
   · exact h1.dis i j xs ys v v' x a2 b2 ((app_get h1.lv q3).1 a1) ((app_get h1.lv q4).1 b1) q5 q6
   · exact (hd x (h1.bk.2 (.inr ⟨i, xs, v, a2, (app_get h1.lv q3).1 a1, q5⟩)) (h2.bk.2 (.inr ⟨_, ys, v', b2, (app_get h1.lv q4).2 b1, q6⟩))).elim
   · exact (hd x (h1.bk.2 (.inr ⟨j, ys, v', b2, (app_get h1.lv q4).1 b1, q6⟩)) (h2.bk.2 (.inr ⟨_, xs, v, a2, (app_get h1.lv q3).2 a1, q5⟩))).elim
   · have := h2.dis _ _ xs ys v v' x a2 b2 ((app_get h1.lv q3).2 a1) ((app_get h1.lv q4).2 b1) q5 q6
     omega
theorem ok_appendD (hty : TyOk E) {t : TypeId} {x y : Operand} (ho : o.op = .call { callee := .builtin .append, args := #[x, y], argTypes := #[t, t] })
   {dx dy : D} (hx : ev E.gl tm x = some dx) (hy : ev E.gl tm y = some dy) (hk : appendDK E t S nx dx dy fun d fp S' nx' => K fp (put o.dst d tm) S' nx') : Ok1 E o tm S nx K := by
 unfold appendDK at hk
 replace hk := tyK_inv hk
 obtain ⟨td, htd, hk⟩ := hk
 split at hk
 · rename_i e hkind
   replace hk := tyK_inv hk
   obtain ⟨te, hte, hk⟩ := hk
   split at hk
   · rename_i e2 r hk2
     split at hk
     · rename_i e' e2' ws hlr
       split at hk
       · rename_i hb
         simp only [Bool.and_eq_true] at hb
         obtain ⟨⟨b1, b2⟩, b3⟩ := hb
         have b1 := Nat.eq_of_beq_eq_true b1
         have b2 := Nat.eq_of_beq_eq_true b2
         have hz1 := Nat.eq_of_beq_eq_true b3
         subst b1
         subst b2
         obtain ⟨hwl, hwide, hk⟩ := hk
         have hu : E.P.underlying t = some (.slice e) := by
          have := hty.kind htd
          rw [hkind] at this
          exact kind_slice this
         obtain ⟨i, z, hi, hs, hby, hz, hpos, hzl, hzc, _⟩ := hty.info hte
         have hzs : z.cells.size = 1 := by
          have := (zeroChk_cells (w := default) (Av := fun _ => False) (ρ := fun _ => none) hzc).1.len
          rw [hzl, hz1] at this
          simpa using this.symm
         rw [hz1] at hs
         split at hk
         · refine Ok1.swapD (ms := [r]) (b := .deep e e2 ws) hk (fun m => ?_) fun cx tm' S' a w ρ he hf h hfresh => ?_
           · rw [lk_ap, lk_cons, lk_cons, lk_gone, lk_del]
             by_cases e1 : nx = m
             · simp [e1]
             · by_cases e2 : m = r
               · subst e2; simp [e1]
               · simp [e1, e2]
           have hl' : lk S' r = some (.deep e e2 ws) := by rw [hf r (by simp)]; exact hlr
           have hvx : a.eval x = .slice none 0 0 := (h.eval ((he x (by simp [ho, Op.operands, Call.operands])).trans hx)).nil_inv
           obtain ⟨u, vs, us, hd⟩ := h.st _ _ hl'
           have hvy : a.eval y = u := by
            have := (h.eval ((he y (by simp [ho, Op.operands, Call.operands])).trans hy)).own_inv
            rw [nmv_tuple hd.name] at this
            exact (Option.some.inj this).symm
           obtain ⟨v', w', e1, e2', e3, e4⟩ := append_rows (P := E.P) w w.heap.size t o.type e i z 1 te.bytes hu hi hz hs hby hzs (by omega) (.slice none 0 0) 0 [] (World.ownsRow_nil _ _ _ _) (Nat.le_refl _) (Nat.zero_le _) hwide hd.own hd.one hwl
           rw [Nat.zero_add, List.nil_append] at e2'
           have e20 : w'.ownsRow 0 e 1 v' ws.length us := ⟨e2'.1, e2'.2.imp id fun ⟨g, cap, cur, q1, _, q2⟩ => ⟨g, cap, cur, q1, Nat.zero_le _, q2⟩⟩
           have hnew : ∀ y, blkOf v' = some y → w.heap.size ≤ y := by
            intro y hy
            rcases e4 with e4 | e4
            · rw [e4] at hy; simp [blkOf] at hy
            · rw [e4] at hy; simp at hy; omega
           have hfr : Fr (fun _ => False) w w' := e3.weaken fun x hx => by simp [blkOf] at hx
           have hrun : (execOp a.eval o).run E.P w = .ok (.value v') w' := call_append ho (by rw [hvx, hvy]; exact e1)
           refine ⟨v', w', .tuple (v' :: vs).toArray, hrun, ?_, rfl, one_row e20⟩
           have inlt : ∀ {i : Nat} {xs : List (List D)} {v : Value} {x : Nat}, ws[i]? = some (.an xs) → vs[i]? = some v → blkOf v = some x → x < w.heap.size := by
            intro i xs v x a b c
            obtain ⟨y, v2, _, g2, _, _, g4, _⟩ := hd.us_at a
            rw [b] at g2
            cases g2
            exact row_lt0 g4 c
           refine h.swaps hfresh (ms := [r]) (fun m hm => by rw [List.mem_singleton.1 hm]; exact ⟨_, hl', rfl⟩) (hfr.weaken fun _ h => h.elim) (fun q hq => ?_) fun hi' hr' => ?_
           · obtain ⟨u', vs', q1, q2⟩ := hq
             obtain ⟨rfl, rfl⟩ := tup_inj rfl q1
             rcases q2 with q2 | q2
             · exact .inr (hnew q q2)
             · exact .inl ⟨r, _, by simp, hl', rfl, hd.bk.2 (.inr q2)⟩
           · refine ⟨v', vs, us, withName_same _ _, hd.lv, hd.lu, e20, hd.one, fun j s p v q1 q2 q3 => ?_, fun j xs v p q1 q2 q3 hq => ?_, hd.dis⟩
             · have hsl := hd.slot j s p v q1 q2 q3
               cases s with
               | an xs =>
                 obtain ⟨f1, ys, f2, f3⟩ := hsl
                 exact ⟨f1, ys, ownsRow_kept f2 fun y hy => hfr.block y (inlt q1 q3 hy) (fun h => h), f3.mono hi'⟩
               | nm a => exact nmv_mono hr' hsl
               | lost => trivial
             · have h1 := hnew p hq
               have h2 := inlt q1 q2 q3
               omega
         · rename_i m0
           split at hk
           · rename_i e'' e2'' zs hlm
             split at hk
             · rename_i hb
               simp only [Bool.and_eq_true, Bool.not_eq_true'] at hb
               obtain ⟨⟨c1, c2⟩, c3⟩ := hb
               have c1 := Nat.eq_of_beq_eq_true c1
               have c2 := Nat.eq_of_beq_eq_true c2
               have hne : m0 ≠ r := by rintro rfl; rw [Nat.beq_refl] at c3; cases c3
               subst c1
               subst c2
               obtain ⟨hzl', hk⟩ := hk
               refine Ok1.swapD (ms := [m0, r]) (b := .deep e e2 (zs ++ ws)) hk (fun m => ?_) fun cx tm' S' a w ρ he hf h hfresh => ?_
               · rw [lk_ap, lk_cons, lk_cons, lk_gone, lk_del, lk_del]
                 by_cases e1 : nx = m
                 · simp [e1]
                 · by_cases e2 : m = m0
                   · subst e2; simp [e1]
                   · by_cases e3 : m = r
                     · subst e3; simp [e1]
                     · simp [e1, e2, e3]
               have hlr' : lk S' r = some (.deep e e2 ws) := by rw [hf r (by simp)]; exact hlr
               have hlm' : lk S' m0 = some (.deep e e2 zs) := by rw [hf m0 (by simp)]; exact hlm
               obtain ⟨u, vs, us, hd⟩ := h.st _ _ hlm'
               obtain ⟨u2, vs2, us2, hd2⟩ := h.st _ _ hlr'
               have hvx : a.eval x = u := by
                have := (h.eval ((he x (by simp [ho, Op.operands, Call.operands])).trans hx)).own_inv
                rw [nmv_tuple hd.name] at this
                exact (Option.some.inj this).symm
               have hvy : a.eval y = u2 := by
                have := (h.eval ((he y (by simp [ho, Op.operands, Call.operands])).trans hy)).own_inv
                rw [nmv_tuple hd2.name] at this
                exact (Option.some.inj this).symm
               obtain ⟨v', w', e1, e2', e3, e4⟩ := append_rows (P := E.P) w 0 t o.type e i z 1 te.bytes hu hi hz hs hby hzs (by omega) u zs.length us hd.own (Nat.zero_le _) hzl' hwide hd2.own hd2.one hwl
               have hrun : (execOp a.eval o).run E.P w = .ok (.value v') w' := call_append ho (by rw [hvx, hvy]; exact e1)
               refine ⟨v', w', .tuple (v' :: (vs ++ vs2)).toArray, hrun, ?_, rfl, one_row e2'⟩
               have hdis : ∀ q, bk (.deep e e2 zs) (ρ m0) q → bk (.deep e e2 ws) (ρ r) q → False := fun q q1 q2 => hne (h.dis m0 r _ _ q hlm' hlr' rfl rfl q1 q2)
               have ltm : ∀ q, bk (.deep e e2 zs) (ρ m0) q → q < w.heap.size := fun q hq => (h.st _ _ hlm').lt rfl hq
               have ltr : ∀ q, bk (.deep e e2 ws) (ρ r) q → q < w.heap.size := fun q hq => (h.st _ _ hlr').lt rfl hq
               refine h.swaps hfresh (ms := [m0, r]) (fun m hm => ?_) (e3.weaken fun q hq => ⟨m0, _, by simp, hlm', rfl, hd.bk.2 (.inl hq)⟩) (fun q hq => ?_) fun hi' hr' => ?_
               · simp only [List.mem_cons, List.not_mem_nil, or_false] at hm
                 rcases hm with rfl | rfl
                 · exact ⟨_, hlm', rfl⟩
                 · exact ⟨_, hlr', rfl⟩
               · obtain ⟨u', vs', q1, q2⟩ := hq
                 obtain ⟨rfl, rfl⟩ := tup_inj rfl q1
                 rcases q2 with q2 | ⟨j, xs, v, q2, q3, q4⟩
                 · rcases e4 with e4 | e4
                   · rw [e4] at q2
                     exact .inl ⟨m0, _, by simp, hlm', rfl, hd.bk.2 (.inl q2)⟩
                   · rw [e4] at q2
                     simp at q2
                     exact .inr (by omega)
                 · rcases app_an q2 with ⟨r1, r2⟩ | ⟨r1, r2⟩
                   · exact .inl ⟨m0, _, by simp, hlm', rfl, hd.bk.2 (.inr ⟨j, xs, v, r2, (app_get hd.lv q3).1 r1, q4⟩)⟩
                   · exact .inl ⟨r, _, by simp, hlr', rfl, hd2.bk.2 (.inr ⟨_, xs, v, r2, (app_get hd.lv q3).2 r1, q4⟩)⟩
               · refine deep_join hd hd2 (withName_same _ _) e2' hi' hi' hr' hr' (fun q hq hu' => e3.block q (ltm q hq) hu') (fun q hq => e3.block q (ltr q hq) fun hq2 => hdis q (hd.bk.2 (.inl hq2)) hq) e4 hdis
             · exact hk.elim
           · exact hk.elim
         · exact hk.elim
       · exact hk.elim
     · exact hk.elim
   · exact hk.elim
 · exact hk.elim
theorem R.opened (h : R E cx tm S a w ρ) (hfresh : ρ nx = none) {n i : Nat} {e e2 : TypeId} {zs : List Slot} {xs : List (List D)} (hl' : lk S n = some (.deep e e2 zs)) (hz : zs[i]? = some (.an xs)) :
   ∃ (q : Value), (∃ u vs us, DeepOk E.P w (AvS cx.G S ρ) ρ n e e2 zs u vs us ∧ us[i]? = some q) ∧ q.oneCell' = true ∧ top q = q ∧ R E cx tm (ap [(nx, some (.own e2 xs)), (n, some (.deep e e2 (zs.set i (.nm nx))))] S) a w (withName ρ nx q) := by
 obtain ⟨u, vs, us, hd⟩ := h.st _ _ hl'
 obtain ⟨q, v, g1, g2, g3, inner, g4, g5⟩ := hd.us_at hz
 subst g3
 have hne : n ≠ nx := by rintro rfl; rw [hd.name] at hfresh; cases hfresh
 have ext : ∀ t u, ρ t = some u → withName ρ nx q t = some u := by
  intro t u ht
  have : t ≠ nx := by rintro rfl; rw [hfresh] at ht; cases ht
  rw [withName_other q this]; exact ht
 have an : ∀ {j : Nat} {ys : List (List D)}, (zs.set i (.nm nx))[j]? = some (.an ys) → j ≠ i ∧ zs[j]? = some (.an ys) := by
  intro j ys hj
  rw [List.getElem?_set] at hj
  split at hj
  · (try split at hj) <;> cases hj
  · rename_i hne
    exact ⟨fun e => hne e.symm, hj⟩
 have lo : ∀ m b, lk [(nx, some (Blk.own e2 xs)), (n, some (.deep e e2 (zs.set i (.nm nx))))] m = some (some b) → (m = nx ∧ b = .own e2 xs) ∨ (m = n ∧ b = .deep e e2 (zs.set i (.nm nx))) := by
  intro m b hm
  simp only [lk_cons] at hm
  by_cases e1 : nx = m
  · rw [if_pos e1] at hm; cases hm; exact .inl ⟨e1.symm, rfl⟩
  · rw [if_neg e1] at hm
    by_cases e2 : n = m
    · rw [if_pos e2] at hm; cases hm; exact .inr ⟨e2.symm, rfl⟩
    · rw [if_neg e2] at hm; simp [lk] at hm
 have here : lk [(nx, some (Blk.own e2 xs)), (n, some (.deep e e2 (zs.set i (.nm nx))))] n ≠ none := by
  rw [lk_cons, if_neg (Ne.symm hne), lk_cons, if_pos rfl]; simp
 have hin : ∀ y, blkOf q = some y → bk (.deep e e2 zs) (ρ n) y := fun y hy => hd.bk.2 (.inr ⟨i, xs, q, hz, g2, hy⟩)
 have hsub : ∀ y, bk (.deep e e2 (zs.set i (.nm nx))) (ρ n) y → bk (.deep e e2 zs) (ρ n) y ∧ blkOf q ≠ some y := by
  rintro y ⟨u', vs', q1, q2⟩
  obtain ⟨rfl, rfl⟩ := tup_inj hd.name q1
  rcases q2 with q2 | ⟨j, ys, v', q2, q3, q4⟩
  · exact ⟨hd.bk.2 (.inl q2), fun hy => hd.apart i xs q y hz g2 hy q2⟩
  · exact ⟨hd.bk.2 (.inr ⟨j, ys, v', (an q2).2, q3, q4⟩), fun hy => (an q2).1 (hd.dis j i ys xs v' q y (an q2).2 hz q3 g2 q4 hy)⟩
 refine ⟨q, ⟨u, vs, us, hd, g1⟩, one_row g4, top_row g4, h.turn ⟨(Fr.refl _ w), ext, fun m b hm _ y hy => ?_, fun m m' b c y hm hm' _ _ hy hy' => ?_, fun hi m b hm => ?_⟩⟩
 · right
   rcases lo m b hm with ⟨rfl, rfl⟩ | ⟨rfl, rfl⟩
   · rw [withName_same] at hy
     exact ⟨n, _, here, hl', rfl, hin y hy⟩
   · rw [withName_other _ hne] at hy
     exact ⟨m, _, here, hl', rfl, (hsub y hy).1⟩
 · rcases lo m b hm with ⟨rfl, rfl⟩ | ⟨rfl, rfl⟩ <;> rcases lo m' c hm' with ⟨rfl, rfl⟩ | ⟨rfl, rfl⟩
   · rfl
   · rw [withName_same] at hy
     rw [withName_other _ hne] at hy'
     exact absurd hy (hsub y hy').2
   · rw [withName_same] at hy'
     rw [withName_other _ hne] at hy
     exact absurd hy' (hsub y hy).2
   · rfl
 · rcases lo m b hm with ⟨rfl, rfl⟩ | ⟨rfl, rfl⟩
   · exact ⟨q, inner, withName_same _ _, g4, g5.mono hi⟩
   · refine ⟨u, vs, us, by rw [withName_other _ hne]; exact hd.name, by rw [List.length_set]; exact hd.lv, by rw [List.length_set]; exact hd.lu, by rw [List.length_set]; exact hd.own, hd.one, fun j z p v' h1 h2 h3 => ?_, fun j ys v' y h1 => hd.apart j ys v' y (an h1).2, fun j k ys ys' v' v2 y h1 h2 => hd.dis j k ys ys' v' v2 y (an h1).2 (an h2).2⟩
     by_cases e1 : i = j
     · subst e1
       have hil := (List.getElem?_eq_some_iff.1 hz).1
       rw [List.getElem?_set, if_pos rfl, if_pos hil] at h1
       cases h1
       rw [g1] at h2
       cases h2
       exact nmv_of (withName_same _ _) (top_row g4)
     · rw [List.getElem?_set, if_neg e1] at h1
       have hs := hd.slot j z p v' h1 h2 h3
       cases z with
       | an ys => exact ⟨hs.1, let ⟨r1, r2, r3⟩ := hs.2; ⟨r1, r2, r3.mono hi⟩⟩
       | nm b => exact nmv_mono ext hs
       | lost => trivial
theorem ok_open (hty : TyOk E) {t : TypeId} {x : Operand} (ho : o.op = .load t x) {d : D} (hx : ev E.gl tm x = some d) {td : TD} (ht : E.ty t = some td) (hagg : isAggK td.kind = false)
   (hk : openK S nx d fun d' fp S' nx' => K fp (put o.dst d' tm) S' nx') : Ok1 E o tm S nx K := by
 unfold openK at hk
 split at hk
 · rename_i n sz i
   split at hk
   · rename_i e e2 zs hl
     split at hk
     · rename_i hb
       have hsz := Nat.eq_of_beq_eq_true hb
       subst hsz
       obtain ⟨z, hz, hk⟩ := hk
       have run : ∀ {cx : Cx} {tm' : Tm} {S' : Store} {a : Act} {w : World} {ρ : Nat → Option Value}, R E cx tm' S' a w ρ → (∀ x ∈ o.op.operands, ev E.gl tm' x = ev E.gl tm x) → ∀ {u : Value} {vs us : List Value}, DeepOk E.P w (AvS cx.G S' ρ) ρ n e e2 zs u vs us → ∀ {q : Value}, us[i]? = some q →
          (execOp a.eval o).run E.P w = .ok (.value q) w := by
        intro cx tm' S' a w ρ h he u vs us hd q hq
        obtain ⟨g, len, c, hr, hax⟩ := (h.eval ((he x (by simp [ho, Op.operands])).trans hx)).op_inv
        rw [nmv_tuple hd.name] at hr
        simp only [Option.some.injEq] at hr
        subst hr
        have hc := hd.own.cells (g := g) rfl i q hq
        rw [add_mk, Nat.zero_add] at hc
        have hrun : (Instr.loadAt t (a.eval x)).run E.P w = .ok q w := by
         rw [hax]
         have e0 : i * 1 + 0 = i := by omega
         rw [e0]
         simp [Instr.loadAt, Instr.sureAddr, loadVar, isAgg_run hty ht, hagg, run_load, hc]
        simp [execOp, ho, hrun]
       cases z with
       | an xs =>
         simp only at hk
         refine Ok1.val (fp := ⟨[nx, n], [nx, n]⟩) (out := [(nx, some (.own e2 xs)), (n, some (.deep e e2 (zs.set i (.nm nx))))]) (nx' := nx + 1) (d := .own nx) (fun m hm => ?_) (fun m h => h) (Nat.le_succ _) (fun m h1 h2 => by simp; omega) (fun m => ?_) hk ?_
         · simp only [lk_cons] at hm
           by_cases e1 : nx = m
           · simp [e1]
           · by_cases e2 : n = m
             · simp [e2]
             · simp [e1, e2, lk] at hm
         · rw [lk_ap]
           simp only [lk_cons, setB, lk_del]
           by_cases e1 : nx = m
           · simp [e1]
           · by_cases e2 : n = m
             · simp [e1, e2]
             · simp [e1, e2, Ne.symm e2, lk]
         · intro cx tm' S' a w ρ he hf h hn
           have hfresh := hn nx (Nat.le_refl _) (Nat.lt_succ_self _)
           have hl' : lk S' n = some (.deep e e2 zs) := by rw [hf n (by simp)]; exact hl
           obtain ⟨q, ⟨u, vs, us, hd, g1⟩, o1, o2, o3⟩ := h.opened hfresh hl' hz
           exact ⟨q, w, withName ρ nx q, run h he hd g1, o3, .gr (.atom (.own (nmv_of (withName_same _ _) o2) o1)), fun m hne => withName_other q (by rintro rfl; exact hne ⟨Nat.le_refl _, Nat.lt_succ_self _⟩)⟩
       | nm b =>
         simp only at hk
         refine Ok1.pure (fp := [n]) hk fun cx tm' S' a w ρ he hf h => ?_
         have hl' : lk S' n = some (.deep e e2 zs) := by rw [hf n (by simp)]; exact hl
         obtain ⟨u, vs, us, hd⟩ := h.st _ _ hl'
         obtain ⟨q, v, g1, g2, g3⟩ := hd.us_at hz
         exact ⟨q, run h he hd g1, .gr (.atom (.own g3 (hd.one q (List.mem_of_getElem? g1))))⟩
       | lost => exact hk.elim
     · exact hk.elim
   · exact hk.elim
 · exact hk.elim
end
end Go.Ab
namespace Go.Ab
open Go Go.RowKit
theorem Rows.take {p : D → Value → Prop} {sz : Nat} {xs : List (List D)} {us : List Value} (h : Rows p sz xs us) (i : Nat) : Rows p sz (xs.take i) (us.take (i * sz)) := by
 refine ⟨?_, fun c hc => h.el c (List.mem_of_mem_take hc), fun u hu => h.one u (List.mem_of_mem_take hu), fun k j c d hc hd => ?_⟩
 · rw [List.length_take, List.length_take, h.len]
   rcases Nat.le_total i xs.length with q | q
   · have := Nat.mul_le_mul_right sz q
     rw [Nat.min_eq_left this, Nat.min_eq_left q]
   · have := Nat.mul_le_mul_right sz q
     rw [Nat.min_eq_right this, Nat.min_eq_right q]
 · rw [List.getElem?_take] at hc
   split at hc
   · rename_i hk
     obtain ⟨u, e1, e2⟩ := h.at_ k j c d hc hd
     refine ⟨u, ?_, e2⟩
     have hj : j < sz := by rw [← h.el c (List.mem_of_getElem? hc)]; exact (List.getElem?_eq_some_iff.1 hd).1
     rw [List.getElem?_take, if_pos (row_lt hj hk)]
     exact e1
   · cases hc
theorem Rows.drop {p : D → Value → Prop} {sz : Nat} {xs : List (List D)} {us : List Value} (h : Rows p sz xs us) (i : Nat) : Rows p sz (xs.drop i) (us.drop (i * sz)) := by
 refine ⟨?_, fun c hc => h.el c (List.mem_of_mem_drop hc), fun u hu => h.one u (List.mem_of_mem_drop hu), fun k j c d hc hd => ?_⟩
 · rw [List.length_drop, List.length_drop, h.len, Nat.sub_mul]
 · rw [List.getElem?_drop] at hc
   obtain ⟨u, e1, e2⟩ := h.at_ (i + k) j c d hc hd
   refine ⟨u, ?_, e2⟩
   rw [List.getElem?_drop, ← e1, Nat.add_mul]
   congr 1
   omega
theorem row_part {p q : D → Value → Prop} (hpq : ∀ d u, p d u → q d u) {w : World} {e : TypeId} {sz g len c i : Nat} {cur : Array Value} {xs ys : List (List D)} {us vs : List Value} (hown : w.ownsRow 0 e sz (.slice (some ⟨g, 0, none⟩) len c) xs.length us) (hh : w.heap[g]? = some (.cells cur e (0, 0)))
   (hrw : Rows p sz xs us) (hys : Rows q sz ys vs) (hle : i + ys.length ≤ xs.length) :
   i * sz + vs.length ≤ cur.size ∧ (w.setRow g (cur.toList.take (i * sz) ++ vs ++ cur.toList.drop (i * sz + vs.length)).toArray).ownsRow 0 e sz (.slice (some ⟨g, 0, none⟩) len c) (xs.take i ++ ys ++ xs.drop (i + ys.length)).length (us.take (i * sz) ++ vs ++ us.drop ((i + ys.length) * sz)) ∧
     Rows q sz (xs.take i ++ ys ++ xs.drop (i + ys.length)) (us.take (i * sz) ++ vs ++ us.drop ((i + ys.length) * sz)) := by
 have hul : us.length = xs.length * sz := hrw.len
 have hvl : vs.length = ys.length * sz := hys.len
 have hfit : i * sz + vs.length ≤ us.length := by
  rw [hvl, hul, ← Nat.add_mul]
  exact Nat.mul_le_mul_right sz hle
 have hxl : (xs.take i ++ ys ++ xs.drop (i + ys.length)).length = xs.length := by simp; omega
 have hrows : Rows q sz (xs.take i ++ ys ++ xs.drop (i + ys.length)) (us.take (i * sz) ++ vs ++ us.drop ((i + ys.length) * sz)) := ((hrw.take i).mono hpq |>.append hys).append ((hrw.drop (i + ys.length)).mono hpq)
 rcases hown.2 with ⟨hbad, _⟩ | ⟨g', cap, cur', hgv, _, hh', hnc, hcm, hcsz, htake⟩
 · cases hbad
 · simp at hgv
   obtain ⟨rfl, rfl, rfl⟩ := hgv
   rw [hh] at hh'
   cases hh'
   have hcap : xs.length * sz ≤ cur.size := by rw [hcsz]; exact Nat.mul_le_mul_right sz hnc
   have hcl : cur.toList.length = cur.size := Array.length_toList
   have hfit2 : i * sz + vs.length ≤ cur.toList.length := by omega
   refine ⟨by omega, ⟨by rw [hrows.len], .inr ⟨g, c, _, by rw [hxl], Nat.zero_le _, setRow_heap w g _ _ e _ hh, by rw [hxl]; exact hnc, hcm, ?_, ?_⟩⟩, hrows⟩
   · rw [fillX_eq vs cur.toList _ hfit2, List.size_toArray, fillX_len, Array.length_toList]
     exact hcsz
   · rw [hxl, fillX_eq vs cur.toList _ hfit2]
     simp only [List.toList_toArray]
     rw [take_fillX _ _ _ _ (by omega) (by omega), htake, Nat.add_mul, ← hvl, fillX_eq vs us _ hfit]
section
variable {E : Env} {cx : Cx} {tm : Tm} {S S0 : Store} {nx : Nat} {a : Act} {w : World} {ρ : Nat → Option Value} {o : Oper} {K : Kt}
theorem add_zero0 (g k : Nat) : (⟨g, 0, none⟩ : Addr).add k = ⟨g, k, none⟩ := by unfold Addr.add; split <;> simp_all
theorem bounds_run2 {P : Program} {ρ' : Operand → Value} {lo hi : Option Operand} {len cap i j : Nat} (hlo : Bd E.gl tm lo 0 i) (hhi : Bd E.gl tm hi len j) (hij : i ≤ j) (hj : j ≤ cap)
   (hev : ∀ x ∈ lo.toList ++ hi.toList, ∀ kd n, ev E.gl tm x = some (.k kd n) → ρ' x = .int kd n) : (Instr.sliceBounds true len cap (lo.map ρ') (hi.map ρ') none).run P w = .ok (i, j, cap) w := by
 have bound : ∀ (x : Operand) (kd : IntKind) (k y : Nat) (c : BoundsCode), ρ' x = .int kd (k : Int) → k ≤ y → (Instr.sliceBound (ρ' x) y c).run P w = .ok k w := by
  intro x kd k y c hx hk
  have h1 : (0 : Int) ≤ (k : Int) ∧ (k : Int) ≤ (y : Int) := by omega
  simp [Instr.sliceBound, hx, asIntOf, hk]
 unfold Bd at hlo hhi
 cases lo with
 | none =>
   simp only at hlo
   subst hlo
   cases hi with
   | none =>
     simp only at hhi
     subst hhi
     simp [Instr.sliceBounds]
   | some y =>
     simp only at hhi
     obtain ⟨kd, hy⟩ := hhi
     have := bound y kd j cap .sliceAcap (hev y (by simp) _ _ hy) (by omega)
     simp [Instr.sliceBounds, this]
 | some x =>
   simp only at hlo
   obtain ⟨kx, hx⟩ := hlo
   have hx' := hev x (by simp) _ _ hx
   cases hi with
   | none =>
     simp only at hhi
     subst hhi
     have := bound x kx i j .sliceB hx' hij
     simp [Instr.sliceBounds, this]
   | some y =>
     simp only at hhi
     obtain ⟨kd, hy⟩ := hhi
     have h1 := bound y kd j cap .sliceAcap (hev y (by simp) _ _ hy) (by omega)
     have h2 := bound x kx i j .sliceB hx' hij
     simp [Instr.sliceBounds, h1, h2]
theorem own_form {P : Program} {e : TypeId} {sz : Nat} {u : Value} {n : Nat} {us : List Value} (h : w.ownsRow 0 e sz u n us) : ∃ (A : Option Addr) (c : Nat), u = .slice A n c ∧ n ≤ c ∧ (A = none → c = 0) := by
 rcases h.2 with ⟨rfl, rfl⟩ | ⟨g, cap, cur, rfl, _, _, h1, _⟩
 · exact ⟨none, 0, rfl, Nat.le_refl _, fun _ => rfl⟩
 · exact ⟨_, _, rfl, h1, fun h => by cases h⟩
theorem slice_ops {t : TypeId} {x : Operand} {lo hi mx : Option Operand} (ho : o.op = .slice t x lo hi mx) : x ∈ o.op.operands ∧ ∀ y ∈ lo.toList ++ hi.toList ++ mx.toList, y ∈ o.op.operands := by
 rw [ho]
 refine ⟨by simp [Op.operands], fun y hy => ?_⟩
 simp only [Op.operands]
 cases lo <;> cases hi <;> cases mx <;> simp_all
theorem ok_view (hty : TyOk E) {t : TypeId} {x : Operand} {lo hi : Option Operand} (ho : o.op = .slice t x lo hi none) {d : D} (hx : ev E.gl tm x = some d) {td : TD} (ht : E.ty t = some td)
   (hk : viewK E E.gl td.kind S d tm lo hi fun d' => K ⟨nmD d, []⟩ (put o.dst d' tm) S nx) : Ok1 E o tm S nx K := by
 have hkc := hty.kind ht
 have evs : ∀ {cx : Cx} {tm' : Tm} {S' : Store} {a : Act} {w : World} {ρ : Nat → Option Value}, R E cx tm' S' a w ρ → (∀ x ∈ o.op.operands, ev E.gl tm' x = ev E.gl tm x) → ∀ y ∈ lo.toList ++ hi.toList, ∀ kd n, ev E.gl tm y = some (.k kd n) → a.eval y = .int kd n := by
  intro cx tm' S' a w ρ h he y hy kd n hn
  exact (h.eval ((he y ((slice_ops ho).2 y (by simpa using hy))).trans hn)).k_inv
 unfold viewK at hk
 split at hk
 · rename_i e hkd
   rw [hkd] at hkc
   have hu := kind_slice hkc
   replace hk := tyK_inv hk
   obtain ⟨te, hte, hk⟩ := hk
   have run : ∀ {a : Act} {w : World} (A : Option Addr) (len cap i j : Nat), a.eval x = .slice A len cap → Bd E.gl tm lo 0 i → Bd E.gl tm hi len j → i ≤ j → j ≤ cap → (∀ y ∈ lo.toList ++ hi.toList, ∀ kd n, ev E.gl tm y = some (.k kd n) → a.eval y = .int kd n) →
      (execOp a.eval o).run E.P w = .ok (.value (.slice (if cap = i then A else A.map (·.add (i * te.size))) (j - i) (cap - i))) w := by
    intro a w A len cap i j hv h1 h2 h3 h4 hev
    have hb := bounds_run2 (P := E.P) (w := w) h1 h2 h3 h4 hev
    simp [execOp, ho, hv, Instr.sliceAt, Instr.slice, run_underlying hu, hb, sizeOf_run hty hte]
   split at hk
   · rename_i t0
     split at hk
     · rename_i e0 xs hl
       obtain ⟨i, j, h1, h2, h3, h4, h5⟩ := cutK_inv hk
       refine Ok1.pure (fp := nmD (.own t0)) h5 fun cx tm' S' a w ρ he hf h => ?_
       have hl' : lk S' t0 = some (.own e0 xs) := by rw [hf t0 (by simp [nmD, nmA])]; exact hl
       obtain ⟨u, us, hr, hown, _⟩ := h.st _ _ hl'
       have hv := (h.eval ((he x (slice_ops ho).1).trans hx)).own_inv
       rw [nmv_of hr (top_row hown)] at hv
       obtain ⟨A, c, rfl, q1, q2⟩ := own_form (P := E.P) hown
       have hv : a.eval x = .slice A xs.length c := (Option.some.inj hv).symm
       exact ⟨_, run A _ c i j hv h1 h2 h3 (by omega) (evs h he), .gr (.atom (.vw hr h3 h4 q1 q2))⟩
     · exact hk.elim
   · rename_i t0 z0 b
     split at hk
     · rename_i e0 xs hl
       split at hk
       · replace hk := boundK_inv hk
         obtain ⟨i, h1, hk⟩ := hk
         replace hk := boundK_inv hk
         obtain ⟨j, h2, h3, h4, h5⟩ := hk
         refine Ok1.pure (fp := nmD (.vw t0 z0 0 b)) h5 fun cx tm' S' a w ρ he hf h => ?_
         have hl' : lk S' t0 = some (.own e0 xs) := by rw [hf t0 (by simp [nmD, nmA])]; exact hl
         obtain ⟨u, us, hr, hown, _⟩ := h.st _ _ hl'
         obtain ⟨n0, c0, A0, hr', p1, p2, p3, p4, hv⟩ := (h.eval ((he x (slice_ops ho).1).trans hx)).vw_inv
         obtain ⟨A, c, rfl, q1, q2⟩ := own_form (P := E.P) hown
         rw [hr] at hr'
         cases hr'
         have hA : (if c0 = 0 then A0 else A0.map (·.add (0 * z0))) = A0 := by
          split
          · rfl
          · rcases hown.2 with ⟨e1, _⟩ | ⟨g, cap, cur, e1, _⟩
            · have : A0 = none := by injection e1
              rw [this]; rfl
            · have : A0 = some ⟨g, 0, none⟩ := by injection e1
              rw [this]; simp [add_zero0]
         rw [hA] at hv
         have hh := run (w := w) A0 b c0 i j (by simpa using hv) h1 h2 h3 (by omega) (evs h he)
         exact ⟨_, hh, .gr (.atom (.vw hr h3 h4 q1 q2))⟩
       · exact hk.elim
     · exact hk.elim
   · exact hk.elim
 · exact hk.elim
theorem ok_view3 (hty : TyOk E) {t : TypeId} {x : Operand} {lo hi : Option Operand} {mx : Operand} (ho : o.op = .slice t x lo hi (some mx)) {d : D} (hx : ev E.gl tm x = some d) {td : TD} (ht : E.ty t = some td)
   (hk : view3K E E.gl td.kind S d tm lo hi mx (K ⟨nmD d, []⟩ (put o.dst .junk tm) S nx)) : Ok1 E o tm S nx K := by
 have hkc := hty.kind ht
 unfold view3K at hk
 split at hk
 · rename_i e hkd
   rw [hkd] at hkc
   have hu := kind_slice hkc
   replace hk := tyK_inv hk
   obtain ⟨te, hte, hk⟩ := hk
   split at hk
   · rename_i t0 l hh
     split at hk
     · rename_i e0 xs ka a0 kb b0 kc c0 hl g1 g2 g3
       obtain ⟨i, j, k, rfl, rfl, rfl, h1, h2, h3, h4⟩ := hk
       refine Ok1.pure (fp := nmD (.own t0)) h4 fun cx tm' S' a w ρ he hf h => ?_
       have hl' : lk S' t0 = some (.own e0 xs) := by rw [hf t0 (by simp [nmD, nmA])]; exact hl
       obtain ⟨u, us, hr, hown, _⟩ := h.st _ _ hl'
       have hv := (h.eval ((he x (slice_ops ho).1).trans hx)).own_inv
       rw [nmv_of hr (top_row hown)] at hv
       obtain ⟨A, c, rfl, q1, q2⟩ := own_form (P := E.P) hown
       have hv : a.eval x = .slice A xs.length c := (Option.some.inj hv).symm
       have v1 := (h.eval ((he l ((slice_ops ho).2 l (by simp))).trans g1)).k_inv
       have v2 := (h.eval ((he hh ((slice_ops ho).2 hh (by simp))).trans g2)).k_inv
       have v3 := (h.eval ((he mx ((slice_ops ho).2 mx (by simp))).trans g3)).k_inv
       have bound : ∀ (v : Value) (kd : IntKind) (k y : Nat) (c : BoundsCode), v = .int kd (k : Int) → k ≤ y → (Instr.sliceBound v y c).run E.P w = .ok k w := by
        intro v kd k y c hx hk
        have h1 : (0 : Int) ≤ (k : Int) ∧ (k : Int) ≤ (y : Int) := by omega
        simp [Instr.sliceBound, hx, asIntOf, hk]
       have b1 := bound _ _ _ c .slice3Acap v3 (by omega)
       have b2 := bound _ _ _ k .slice3B v2 h2
       have b3 := bound _ _ _ j .slice3C v1 h1
       refine ⟨.slice (if k = i then A else A.map (·.add (i * te.size))) (j - i) (k - i), ?_, .gr (.atom (.junk rfl))⟩
       simp [execOp, ho, hv, Instr.sliceAt, Instr.slice, run_underlying hu, Instr.sliceBounds, b1, b2, b3, sizeOf_run hty hte]
     · exact hk.elim
   · exact hk.elim
 · exact hk.elim
theorem ok_appendV (hty : TyOk E) {t : TypeId} {x y : Operand} (ho : o.op = .call { callee := .builtin .append, args := #[x, y], argTypes := #[t, t] }) {dx dy : D} (hx : ev E.gl tm x = some dx) (hy : ev E.gl tm y = some dy)
   (hk : appendVK E t S nx dx dy fun d fp S' nx' => K fp (put o.dst d tm) S' nx') : Ok1 E o tm S nx K := by
 unfold appendVK at hk
 replace hk := tyK_inv hk
 obtain ⟨td, htd, hk⟩ := hk
 split at hk
 · rename_i e hkind
   replace hk := tyK_inv hk
   obtain ⟨te, hte, hk⟩ := hk
   have hu : E.P.underlying t = some (.slice e) := by
    have := hty.kind htd
    rw [hkind] at this
    exact kind_slice this
   obtain ⟨inf, z, hi, hs, hby, hz, hpos, hzl, hzc, _⟩ := hty.info hte
   have hce : E.P.cellsOf e = te.size := hty.cells hte
   split at hk
   · rename_i m z0 i m' z1 j n
     split at hk
     · rename_i e' xs hl
       split at hk
       · rename_i hb
         simp only [Bool.and_eq_true] at hb
         have b1 := Nat.eq_of_beq_eq_true hb.1.1.1
         have b2 := Nat.eq_of_beq_eq_true hb.1.1.2
         have b3 := Nat.eq_of_beq_eq_true hb.1.2
         have b4 := Nat.eq_of_beq_eq_true hb.2
         subst b1 b2 b3 b4
         obtain ⟨k1, k2, k3, hk⟩ := hk
         refine Ok1.val (fp := ⟨[m], [m]⟩) (out := [(m, some (.own e (xs.take i ++ (xs.take n).drop j ++ xs.drop (i + (n - j)))))]) (nx' := nx) (d := .vw m te.size 0 (i + (n - j))) (fun k hk => by simp [lk_one hk]) (fun _ h => h) (Nat.le_refl _) (fun k h1 h2 => by omega) (fun _ => rfl) hk ?_
         intro cx tm' S' a w ρ he hf h hn
         have hl' : lk S' m = some (.own e xs) := by rw [hf m (by simp)]; exact hl
         obtain ⟨u, us, hr, hown, hc⟩ := h.st _ _ hl'
         rw [hce] at hown hc
         obtain ⟨n0, c0, A0, hr0, p1, p2, p3, p4, hvx⟩ := (h.eval ((he x (by simp [ho, Op.operands, Call.operands])).trans hx)).vw_inv
         obtain ⟨n1, c1, A1, hr1, q1, q2, q3, q4, hvy⟩ := (h.eval ((he y (by simp [ho, Op.operands, Call.operands])).trans hy)).vw_inv
         rw [hr] at hr0 hr1
         cases hr0
         cases hr1
         rcases hown.2 with ⟨e1, e2⟩ | ⟨g, cap, cur, e1, _, hh, hnc, hcm, hcsz, htake⟩
         · cases e1
           have hx0 : xs = [] := List.eq_nil_of_length_eq_zero e2
           have hi0 : i = 0 := by omega
           have hn0 : n = 0 := by omega
           have hj0 : j = 0 := by omega
           subst hx0 hi0 hn0 hj0
           have hid : ∀ k, lk (ap [(m, some (.own e (([] : List (List D)).take 0 ++ (([] : List (List D)).take 0).drop 0 ++ ([] : List (List D)).drop (0 + (0 - 0)))))] S') k = lk S' k := by
            intro k
            rw [lk_ap, lk_cons]
            by_cases hmk : m = k
            · subst hmk; simp [hl']
            · simp [hmk, lk]
           refine ⟨.slice none 0 0, w, ρ, ?_, h.ext (fun _ => rfl) hid, .gr (.atom (.vw (A := none) (n := 0) (c := 0) hr (Nat.zero_le _) (by simp) (Nat.le_refl _) (fun _ => rfl))), fun _ _ => rfl⟩
           refine call_append ho ?_
           rw [hvx, hvy]
           simp [Builtin.append_, run_underlying hu, Go.sizeOf, typeInfo, hi, Builtin.lenOf, Builtin.firstCells, loadCells, loadCellsFrom]
         · cases e1
           have hA : (if c0 = 0 then some (⟨g, 0, none⟩ : Addr) else (some (⟨g, 0, none⟩ : Addr)).map (·.add (0 * te.size))) = some ⟨g, 0, none⟩ := by
            split
            · rfl
            · simp [add_zero0]
           rw [hA] at hvx
           have hnl : ((us.take (n * te.size)).drop (j * te.size)).length = (n - j) * te.size := by
            rw [List.length_drop, List.length_take, hc.len, Nat.sub_mul]
            have := Nat.mul_le_mul_right te.size k3
            omega
           have hys : Rows (VI w (AvS cx.G S' ρ)) te.size ((xs.take n).drop j) ((us.take (n * te.size)).drop (j * te.size)) := (hc.take n).drop j
           have hyl : ((xs.take n).drop j).length = n - j := by simp; omega
           have hone := hys.one
           have hnews : ∃ ad, (if c0 = j then some (⟨g, 0, none⟩ : Addr) else (some (⟨g, 0, none⟩ : Addr)).map (·.add (j * te.size))) = some ad ∧ ∀ k u, ((us.take (n * te.size)).drop (j * te.size))[k]? = some u → w.cell? (ad.add k) = some u := by
            by_cases hcj : c0 = j
            · refine ⟨⟨g, 0, none⟩, by rw [if_pos hcj], fun k u hk => ?_⟩
              have : (n - j) * te.size = 0 := by
               have : n - j = 0 := by omega
               rw [this, Nat.zero_mul]
              rw [List.eq_nil_of_length_eq_zero (hnl.trans this)] at hk
              simp at hk
            · refine ⟨⟨g, j * te.size, none⟩, by rw [if_neg hcj]; simp [add_zero0], fun k u hk => ?_⟩
              rw [List.getElem?_drop, List.getElem?_take] at hk
              split at hk
              · have := hown.cells (g := g) rfl (j * te.size + k) u hk
                rw [← this, add_zero0]
                congr 1
                unfold Addr.add; split <;> simp_all
              · cases hk
           obtain ⟨ad, hA1, hnews⟩ := hnews
           rw [hA1] at hvy
           obtain ⟨w1, w2, w3⟩ := row_part (i := i) (ys := (xs.take n).drop j) (vs := (us.take (n * te.size)).drop (j * te.size)) (fun d u h => h) hown hh hc hys (by rw [hyl]; omega)
           have hrun := run_append_room (P := E.P) w t o.type e inf hu hi g i c0 cur hh ad (n - j) (c0 - j) ((us.take (n * te.size)).drop (j * te.size)) (by rw [hs]; exact hnl) hnews hone (by omega) (by rw [hs]; exact w1)
           rw [hs] at hrun
           have hbk : bk (Blk.own e xs) (ρ m) g := by simp [bk, hr, blkOf]
           have hW := h.write (b' := .own e (xs.take i ++ (xs.take n).drop j ++ xs.drop (i + (n - j)))) hl' rfl hbk (fr_setRow w g (cur.toList.take (i * te.size) ++ (us.take (n * te.size)).drop (j * te.size) ++ cur.toList.drop (i * te.size + ((us.take (n * te.size)).drop (j * te.size)).length)).toArray) fun hmono => by
            refine ⟨_, us.take (i * te.size) ++ (us.take (n * te.size)).drop (j * te.size) ++ us.drop ((i + (n - j)) * te.size), hr, ?_, ?_⟩
            · rw [hce]
              rw [hyl] at w2
              exact w2
            · rw [hce]
              rw [hyl] at w3
              exact w3.mono hmono
           have hres : VA (w.setRow g (cur.toList.take (i * te.size) ++ (us.take (n * te.size)).drop (j * te.size) ++ cur.toList.drop (i * te.size + ((us.take (n * te.size)).drop (j * te.size)).length)).toArray) (AvS cx.G (ap [(m, some (.own e (xs.take i ++ (xs.take n).drop j ++ xs.drop (i + (n - j)))))] S') ρ) ρ (.vw m te.size 0 (i + (n - j))) (.slice (some ⟨g, 0, none⟩) (i + (n - j)) c0) := by
            have := VA.vw (w := w.setRow g (cur.toList.take (i * te.size) ++ (us.take (n * te.size)).drop (j * te.size) ++ cur.toList.drop (i * te.size + ((us.take (n * te.size)).drop (j * te.size)).length)).toArray) (Av := AvS cx.G (ap [(m, some (.own e (xs.take i ++ (xs.take n).drop j ++ xs.drop (i + (n - j)))))] S') ρ) (ρ := ρ) (t := m) (sz := te.size) (a := 0) (b := i + (n - j)) hr (Nat.zero_le _) (by omega) hnc (fun h => by cases h)
            rw [hA] at this
            exact this
           refine ⟨_, _, ρ, call_append ho (by rw [hvx, hvy]; exact hrun), hW, .gr (.atom hres), fun _ _ => rfl⟩
       · exact hk.elim
     · exact hk.elim
   · exact hk.elim
 · exact hk.elim
theorem ok_clearV (hty : TyOk E) {t : TypeId} {x : Operand} (ho : o.op = .call { callee := .builtin .clear, args := #[x], argTypes := #[t] }) {d : D} (hx : ev E.gl tm x = some d)
   (hk : clearVK E t S nx d fun fp S' nx' => K fp (put o.dst (.tup []) tm) S' nx') : Ok1 E o tm S nx K := by
 unfold clearVK at hk
 replace hk := tyK_inv hk
 obtain ⟨td, htd, hk⟩ := hk
 split at hk
 · rename_i e hkind
   replace hk := tyK_inv hk
   obtain ⟨te, hte, hk⟩ := hk
   have hu : E.P.underlying t = some (.slice e) := by
    have := hty.kind htd
    rw [hkind] at this
    exact kind_slice this
   have hce : E.P.cellsOf e = te.size := hty.cells hte
   obtain ⟨inf, _, _, _, _, _, hpos, _, _, _⟩ := hty.info hte
   split at hk
   · rename_i m z0 i j
     split at hk
     · rename_i e' xs hl
       split at hk
       · rename_i hb
         simp only [Bool.and_eq_true] at hb
         have b1 := Nat.eq_of_beq_eq_true hb.1
         have b2 := Nat.eq_of_beq_eq_true hb.2
         subst b1 b2
         obtain ⟨k1, k2, hk⟩ := hk
         refine Ok1.val (fp := ⟨[m], [m]⟩) (out := [(m, some (.own e (xs.take i ++ List.replicate (j - i) (cellsOf te.zero) ++ xs.drop j)))]) (nx' := nx) (d := .tup []) (fun k hk => by simp [lk_one hk]) (fun _ h => h) (Nat.le_refl _) (fun k h1 h2 => by omega) (fun _ => rfl) hk ?_
         intro cx tm' S' a w ρ he hf h hn
         have hl' : lk S' m = some (.own e xs) := by rw [hf m (by simp)]; exact hl
         obtain ⟨u, us, hr, hown, hc⟩ := h.st _ _ hl'
         rw [hce] at hown hc
         obtain ⟨n0, c0, A0, hr0, p1, p2, p3, p4, hvx⟩ := (h.eval ((he x (by simp [ho, Op.operands, Call.operands])).trans hx)).vw_inv
         rw [hr] at hr0
         cases hr0
         have hunit : VR w (AvS cx.G (ap [(m, some (.own e (xs.take i ++ List.replicate (j - i) (cellsOf te.zero) ++ xs.drop j)))] S') ρ) ρ (.tup []) (.tuple #[]) := VR.tup (us := []) rfl (by simp)
         have same : i = j → R E cx tm' (ap [(m, some (.own e (xs.take i ++ List.replicate (j - i) (cellsOf te.zero) ++ xs.drop j)))] S') a w ρ := by
          intro e0
          subst e0
          refine h.ext (fun _ => rfl) fun k => ?_
          rw [lk_ap, lk_cons]
          by_cases hmk : m = k
          · subst hmk; simp [hl']
          · simp [hmk, lk]
         have run : ∀ (v : Value) w', a.eval x = v → (Builtin.clear_ #[t] o.type #[v]).run E.P w = .ok (.tuple #[]) w' → (execOp a.eval o).run E.P w = .ok (.value (.tuple #[])) w' := by
          intro v w' hv hr
          simp [execOp, ho, resolve, invoke, builtin, hv, hr]
         by_cases hij : i = j
         · refine ⟨.tuple #[], w, ρ, run _ _ hvx ?_, same hij, hunit, fun _ _ => rfl⟩
           rw [hij, Nat.sub_self]
           generalize (if c0 = j then A0 else A0.map (·.add (j * te.size))) = B
           cases B <;> simp [Builtin.clear_, run_underlying hu]
         · rcases hown.2 with ⟨e1, e2⟩ | ⟨g, cap, cur, e1, _, hh, hnc, hcm, hcsz, htake⟩
           · cases e1; omega
           · cases e1
             have hcj : ¬ c0 = i := by omega
             rw [if_neg hcj] at hvx
             simp only [Option.map_some, add_zero0] at hvx
             obtain ⟨v, hz, hzc⟩ := zero_run hty (w := w) hte
             obtain ⟨c1, c2⟩ := zeroChk_cells (w := w) (Av := AvS cx.G S' ρ) (ρ := ρ) hzc
             obtain ⟨_, v', _, _, _, hz', _, hzl, hzc', _⟩ := hty.info hte
             have hvs : v.cells.size = te.size := by have := c1.len; rw [hzl] at this; simpa using this.symm
             have hrw := Rows.made (z := v.cells) (zs := cellsOf te.zero) (by rw [hzl, hvs]) (by omega) c1.one c2 (j - i)
             rw [hvs] at hrw
             have hzm : Builtin.zeroCells v.cells (j - i) = madeCells v.cells ((j - i) * te.size) := by rw [← hvs]; rfl
             obtain ⟨w1, w2, w3⟩ := row_part (i := i) (ys := List.replicate (j - i) (cellsOf te.zero)) (vs := (madeCells v.cells ((j - i) * te.size)).toList) (fun d u h => h) hown hh hc hrw (by simp; omega)
             rw [List.length_replicate, show i + (j - i) = j by omega] at w2 w3
             have hst := run_storeCells_at E.P g (i * te.size) e (madeCells v.cells ((j - i) * te.size)).toList 0 cur w hh (by simpa using w1) hrw.one
             simp only [Nat.add_zero] at hst
             have hbk : bk (Blk.own e xs) (ρ m) g := by simp [bk, hr, blkOf]
             refine ⟨.tuple #[], _, ρ, run _ _ hvx ?_, h.write (b' := .own e (xs.take i ++ List.replicate (j - i) (cellsOf te.zero) ++ xs.drop j)) hl' rfl hbk (fr_setRow w g _) fun hmono => ⟨_, _, hr, by rw [hce]; exact w2, by rw [hce]; exact w3.mono hmono⟩, VR.tup (us := []) rfl (by simp), fun _ _ => rfl⟩
             obtain ⟨k, hk⟩ : ∃ k, j - i = k + 1 := ⟨j - i - 1, by omega⟩
             rw [hk] at hst hzm ⊢
             simp [Builtin.clear_, run_underlying hu, hz, hzm, hst]
       · exact hk.elim
     · exact hk.elim
   · exact hk.elim
 · exact hk.elim
end
end Go.Ab
namespace Go.Ab
open Go Go.RowKit
def carρ (ns : List Nat) (ρ : Nat → Option Value) (i : Nat) : Option Value := (ns[i]?).bind ρ
theorem minus_mem {ns : List Nat} : ∀ {l : List Nat} {n : Nat}, n ∈ minus ns l ↔ n ∈ l ∧ n ∉ ns
 | [], n => by simp [minus]
 | m :: r, n => by
   simp only [minus]
   split
   · rename_i h
     have hm := memB_iff.1 h
     rw [minus_mem]
     constructor
     · rintro ⟨h1, h2⟩; exact ⟨by simp [h1], h2⟩
     · rintro ⟨h1, h2⟩
       rcases List.mem_cons.1 h1 with rfl | h1
       · exact absurd hm h2
       · exact ⟨h1, h2⟩
   · rename_i h
     have hm : m ∉ ns := fun hin => by rw [memB_iff.2 hin] at h; cases h
     rw [List.mem_cons, minus_mem, List.mem_cons]
     constructor
     · rintro (rfl | ⟨h1, h2⟩)
       · exact ⟨.inl rfl, hm⟩
       · exact ⟨.inr h1, h2⟩
     · rintro ⟨rfl | h1, h2⟩
       · exact .inl rfl
       · exact .inr ⟨h1, h2⟩
theorem news_mem : ∀ {c nx n : Nat}, n ∈ news nx c ↔ nx ≤ n ∧ n < nx + c
 | 0, nx, n => by simp only [news, List.not_mem_nil, false_iff]; omega
 | c + 1, nx, n => by
   simp only [news, List.mem_cons, news_mem]
   omega
theorem news_len : ∀ (c nx : Nat), (news nx c).length = c
 | 0, nx => rfl
 | c + 1, nx => by simp [news, news_len c]
theorem news_get : ∀ {c nx j : Nat}, j < c → (news nx c)[j]? = some (nx + j)
 | 0, nx, j, h => by omega
 | c + 1, nx, j, h => by
   cases j with
   | zero => simp [news]
   | succ j =>
     simp only [news, List.getElem?_cons_succ]
     rw [news_get (by omega)]
     congr 1
     omega
theorem nmOf_get {ns : List Nat} {nx c j n : Nat} (h : (ns ++ news nx c)[j]? = some n) : n = nmOf ns nx j ∧ j < ns.length + c := by
 have hj : j < (ns ++ news nx c).length := (List.getElem?_eq_some_iff.1 h).1
 rw [List.length_append, news_len] at hj
 refine ⟨?_, hj⟩
 unfold nmOf
 by_cases hlt : j < ns.length
 · rw [List.getElem?_append_left hlt] at h
   rw [h]
 · rw [List.getElem?_append_right (by omega), news_get (by omega)] at h
   rw [List.getElem?_eq_none (by omega)]
   simpa using h.symm
theorem lk_callOut (f : Nat → Nat) (S' : Store) : ∀ (l : List Nat) (i : Nat) (n : Nat), (∀ (j k m : Nat), l[j]? = some m → l[k]? = some m → j = k) →
   (n ∉ l → lk (callOut f S' l i) n = none) ∧ ∀ j : Nat, l[j]? = some n → lk (callOut f S' l i) n = some ((lk S' (i + j)).map (renB f))
 | [], i, n, _ => ⟨fun _ => rfl, by simp⟩
 | m :: r, i, n, hd => by
   have ih := lk_callOut f S' r (i + 1) n (fun j k m h1 h2 => by have := hd (j + 1) (k + 1) m (by simpa using h1) (by simpa using h2); omega)
   simp only [callOut, lk_cons]
   constructor
   · intro hn
     have hmn : m ≠ n := by rintro rfl; simp at hn
     rw [if_neg hmn]
     exact ih.1 (by simp at hn; exact hn.2)
   · intro j hj
     cases j with
     | zero =>
       simp at hj
       subst hj
       rw [if_pos rfl]
       cases lk S' i <;> simp [Option.map]
     | succ j =>
       simp at hj
       have hmn : m ≠ n := by
        rintro rfl
        have := hd 0 (j + 1) m rfl (by simpa using hj)
        omega
       rw [if_neg hmn, ih.2 j hj]
       congr 3
       omega
theorem lk_dropNs (ns : List Nat) : ∀ (S : Store) (n : Nat), lk (dropNs ns S) n = if n ∈ ns then none else lk S n
 | [], n => by simp [dropNs, lk]
 | (k, b) :: r, n => by
   unfold dropNs
   have ih := lk_dropNs ns r n
   split
   · rename_i h
     rw [ih, lk_cons]
     have hk := memB_iff.1 h
     by_cases e : k = n
     · subst e; simp [hk]
     · simp [e]
   · rename_i h
     rw [lk_cons, lk_cons, ih]
     have hk : k ∉ ns := fun hk => by rw [memB_iff.2 hk] at h; cases h
     by_cases e : k = n
     · subst e; simp [hk]
     · simp [e]
theorem lk_newB (f : Nat → Nat) (S' T : Store) : ∀ (l : List Nat) (i : Nat) (n : Nat), (n ∈ l → lk T n = none) → lk (newB f S' T l i) n = match lk (callOut f S' l i) n with
   | some o => o
   | none => lk T n
 | [], i, n, _ => by simp [newB, callOut, lk]
 | m :: r, i, n, hT => by
   have ih := lk_newB f S' T r (i + 1) n fun h => hT (by simp [h])
   unfold newB callOut
   rw [lk_cons]
   by_cases hmn : m = n
   · subst hmn
     rw [if_pos rfl]
     split
     · rename_i b hb
       rw [lk_cons, if_pos rfl]
     · rename_i hb
       split
       · rw [lk_del, if_pos rfl]
       · rename_i hmem
         have hnr : m ∉ r := fun h => by rw [memB_iff.2 h] at hmem; cases hmem
         rw [ih]
         have hnone : lk (callOut f S' r (i + 1)) m = none := by
          have gen : ∀ (l : List Nat) (k : Nat), m ∉ l → lk (callOut f S' l k) m = none := by
           intro l
           induction l with
           | nil => intro k _; rfl
           | cons a q ihq =>
             intro k hk
             simp only [List.mem_cons, not_or] at hk
             rw [callOut, lk_cons, if_neg (Ne.symm hk.1)]
             exact ihq _ hk.2
          exact gen _ _ hnr
         rw [hnone]
         exact hT (by simp)
   · rw [if_neg hmn]
     split
     · rw [lk_cons, if_neg hmn, ih]
     · split
       · rw [lk_del, if_neg (Ne.symm hmn), ih]
       · exact ih
theorem lk_apC {f : Nat → Nat} {S' : Store} {l : List Nat} {S : Store} (n : Nat) : lk (apC f S' l S) n = lk (ap (callOut f S' l 0) S) n := by
 have h3 := lk_dropNs l S n
 unfold apC
 rw [lk_newB f S' (dropNs l S) l 0 n fun h => by rw [h3, if_pos h], lk_ap]
 by_cases hn : n ∈ l
 · have gen : ∀ (l : List Nat) (k : Nat), n ∈ l → lk (callOut f S' l k) n ≠ none := by
     intro l
     induction l with
     | nil => intro k h; cases h
     | cons a q ihq =>
       intro k h
       rw [callOut, lk_cons]
       by_cases e : a = n
       · rw [if_pos e]; simp
       · rw [if_neg e]
         rcases List.mem_cons.1 h with h | h
         · exact absurd h.symm e
         · exact ihq _ h
   cases hc : lk (callOut f S' l 0) n with
   | some o => rfl
   | none => exact absurd hc (gen l 0 hn)
 · rw [h3, if_neg hn]
   cases lk (callOut f S' l 0) n <;> rfl
theorem argS_get {ns : List Nat} {S : Store} : ∀ {l : List Nat} {i : Nat} {Sa : Store}, argS ns S l i = some Sa →
   (∀ (j n : Nat), l[j]? = some n → ∃ b b', lk S n = some b ∧ argB ns S b = some b' ∧ lk Sa (i + j) = some b') ∧ (∀ (t : Nat) (b' : Blk), lk Sa t = some b' → ∃ j n b, t = i + j ∧ l[j]? = some n ∧ lk S n = some b ∧ argB ns S b = some b')
 | [], i, Sa, h => by simp [argS] at h; subst h; simp [lk]
 | n :: r, i, Sa, h => by
   simp only [argS] at h
   split at h
   · rename_i b hb
     split at h
     · rename_i b' hb'
       split at h
       · rename_i q hq
         cases h
         obtain ⟨h1, h2⟩ := argS_get hq
         constructor
         · intro j m hj
           cases j with
           | zero =>
             simp at hj
             subst hj
             exact ⟨b, b', hb, hb', by simp [lk_cons]⟩
           | succ j =>
             obtain ⟨c, c', e1, e2, e3⟩ := h1 j m (by simpa using hj)
             refine ⟨c, c', e1, e2, ?_⟩
             rw [lk_cons, if_neg (by omega), ← e3]
             congr 1
             omega
         · intro t c' ht
           rw [lk_cons] at ht
           by_cases e : i = t
           · rw [if_pos e] at ht
             cases ht
             exact ⟨0, n, b, by omega, rfl, hb, hb'⟩
           · rw [if_neg e] at ht
             obtain ⟨j, m, c, e1, e2, e3, e4⟩ := h2 t c' ht
             exact ⟨j + 1, m, c, by omega, by simpa using e2, e3, e4⟩
       · cases h
     · cases h
   · cases h
theorem live_argB {ns : List Nat} {S : Store} {b b' : Blk} (h : argB ns S b = some b') : live b' = live b := by
 cases b <;> simp only [argB] at h
 · split at h <;> cases h; rfl
 · cases h; rfl
 · split at h <;> cases h; rfl
 · cases h; rfl
 · split at h <;> cases h; rfl
theorem bk_argB {ns : List Nat} {S : Store} {b b' : Blk} (h : argB ns S b = some b') {o : Option Value} {x : Nat} : bk b' o x ↔ bk b o x := by
 cases b <;> simp only [argB] at h
 · split at h <;> cases h; exact Iff.rfl
 · cases h; exact Iff.rfl
 · split at h <;> cases h; exact Iff.rfl
 · cases h; exact Iff.rfl
 · split at h <;> cases h; exact Iff.rfl
theorem renZ_an {f : Nat → Nat} {zs : List Slot} {i : Nat} {xs : List (List D)} : (zs.map (renZ f))[i]? = some (.an xs) ↔ zs[i]? = some (.an xs) := by
 rw [List.getElem?_map, Option.map_eq_some_iff]
 constructor
 · rintro ⟨z, hz, e⟩
   cases z <;> simp [renZ] at e
   rw [hz, e]
 · intro h
   exact ⟨_, h, rfl⟩
theorem bk_renB {f : Nat → Nat} {b : Blk} {o : Option Value} {x : Nat} : bk (renB f b) o x ↔ bk b o x := by
 cases b <;> first | exact Iff.rfl | skip
 simp only [renB, bk, renZ_an]
theorem slotNames0_mem {zs : List Slot} {t : Nat} (h : Slot.nm t ∈ zs) : t ∈ slotNames0 zs := by
 induction zs with
 | nil => cases h
 | cons z r ih =>
   rcases List.mem_cons.1 h with rfl | h2
   · simp [slotNames0]
   · have := ih h2
     cases z <;> simp [slotNames0, this]
theorem ltB_iff {k : Nat} {l : List Nat} : ltB k l = true ↔ ∀ n ∈ l, n < k := by
 induction l with
 | nil => simp [ltB]
 | cons m r ih =>
   simp only [ltB, Bool.and_eq_true, ih, List.mem_cons]
   constructor
   · rintro ⟨h1, h2⟩ n (rfl | hn)
     · exact Nat.le_of_ble_eq_true h1
     · exact h2 n hn
   · intro h
     exact ⟨Nat.ble_eq_true_of_le (h m (.inl rfl)), fun n hn => h n (.inr hn)⟩
theorem domB_get {k : Nat} {S : Store} (h : domB k S = true) {n : Nat} {b : Blk} (hl : lk S n = some b) : ∀ m ∈ blkNames b, m < k := by
 induction S with
 | nil => simp [lk] at hl
 | cons p r ih =>
   obtain ⟨m, c⟩ := p
   simp only [domB, Bool.and_eq_true] at h
   rw [lk_cons] at hl
   by_cases e : m = n
   · rw [if_pos e] at hl; cases hl; exact ltB_iff.1 h.1
   · rw [if_neg e] at hl; exact ih h.2 hl
theorem nmAs_mem {ds : List D} {d : D} (h : d ∈ ds) {n : Nat} (hn : n ∈ nmA d) : n ∈ nmAs ds := by
 induction ds with
 | nil => cases h
 | cons e r ih =>
   simp only [nmAs, List.mem_append]
   rcases List.mem_cons.1 h with rfl | h
   · exact .inl hn
   · exact .inr (ih h)
theorem nmDs_mem {ds : List D} {d : D} (h : d ∈ ds) {n : Nat} (hn : n ∈ nmD d) : n ∈ nmDs ds := by
 induction ds with
 | nil => cases h
 | cons e r ih =>
   simp only [nmDs, List.mem_append]
   rcases List.mem_cons.1 h with rfl | h
   · exact .inl hn
   · exact .inr (ih h)
theorem rowNames_mem {xs : List (List D)} {cs : List D} (h : cs ∈ xs) {n : Nat} (hn : n ∈ nmAs cs) : n ∈ rowNames xs := by
 induction xs with
 | nil => cases h
 | cons e r ih =>
   simp only [rowNames, List.mem_append]
   rcases List.mem_cons.1 h with rfl | h
   · exact .inl hn
   · exact .inr (ih h)
theorem storeNames_mem {S : Store} {l : List Nat} {n : Nat} (h : n ∈ l) {b : Blk} (hl : lk S n = some b) {m : Nat} (hm : m ∈ blkNames b) : m ∈ storeNames S l := by
 induction l with
 | nil => cases h
 | cons e r ih =>
   simp only [storeNames]
   rcases List.mem_cons.1 h with rfl | h
   · rw [hl]; simp [hm]
   · split
     · simp [ih h]
     · exact ih h
structure Tell (w : World) (Av Av' : Nat → Prop) (ρ ρ' : Nat → Option Value) (f : Nat → Nat) (k : Nat) (p : D → Prop) : Prop where
 im : ∀ d u, VI w Av d u → p d → VI w Av' d u
 nm : ∀ t u, t < k → ρ t = some u → ρ' (f t) = some u
section tell
variable {w : World} {Av Av' : Nat → Prop} {ρ ρ' : Nat → Option Value} {f : Nat → Nat} {k : Nat} {p : D → Prop} (T : Tell w Av Av' ρ ρ' f k p)
include T
theorem Tell.nmv {t : Nat} {u : Value} (hk : t < k) (h : Go.Ab.nmv ρ t = some u) : Go.Ab.nmv ρ' (f t) = some u := by
 unfold Go.Ab.nmv at h ⊢
 rw [Option.map_eq_some_iff] at h ⊢
 obtain ⟨g, hg, e⟩ := h
 exact ⟨g, T.nm _ _ hk hg, e⟩
theorem Tell.va {d : D} {u : Value} (h : VA w Av ρ d u) (hk : ∀ n ∈ nmA d, n < k) (hp : p d) : VA w Av' ρ' (renA f d) u := by
 cases h with
 | im h =>
   have hr : renA f d = d := by cases h <;> rfl
   rw [hr]
   exact .im (T.im _ _ h hp)
 | own h h1 => exact .own (T.nmv (hk _ (by simp [nmA])) h) h1
 | bp h => exact .bp (T.nm _ _ (hk _ (by simp [nmA])) h)
 | op h => exact .op (T.nmv (hk _ (by simp [nmA])) h)
 | fn hl h =>
   refine .fn (by simpa using hl) fun i n u hn hu => ?_
   simp only [List.getElem?_map, Option.map_eq_some_iff] at hn
   obtain ⟨m, hm, rfl⟩ := hn
   obtain ⟨h1, h2⟩ := h i m u hm hu
   exact ⟨T.nm _ _ (hk _ (by simp only [nmA]; exact List.mem_of_getElem? hm)) h1, h2⟩
 | vw h h1 h2 h3 h4 => exact .vw (T.nm _ _ (hk _ (by simp [nmA])) h) h1 h2 h3 h4
 | junk h1 => exact .junk h1
theorem Tell.cells {ds : List D} {us : List Value} (h : ∀ (i : Nat) (d : D) (u : Value), ds[i]? = some d → us[i]? = some u → VA w Av ρ d u) (hk : ∀ n ∈ nmAs ds, n < k) (hp : ∀ d ∈ ds, p d) :
   ∀ (i : Nat) (d : D) (u : Value), (ds.map (renA f))[i]? = some d → us[i]? = some u → VA w Av' ρ' d u := by
 intro i d u hd hu
 simp only [List.getElem?_map, Option.map_eq_some_iff] at hd
 obtain ⟨e, he, rfl⟩ := hd
 have hm := List.mem_of_getElem? he
 exact T.va (h i e u he hu) (fun n hn => hk n (nmAs_mem hm hn)) (hp e hm)
theorem Tell.vg {d : D} {u : Value} (h : VG w Av ρ d u) (hk : ∀ n ∈ nmD d, n < k) (hp : (∀ ds, d = .agg ds → ∀ e ∈ ds, p e) ∧ ((∀ ds, d ≠ .agg ds) → p d)) : VG w Av' ρ' (renG f d) u := by
 by_cases ha : ∃ ds, d = .agg ds
 · obtain ⟨ds, rfl⟩ := ha
   have core : ∀ us : List Value, u = .agg us.toArray → ds.length = us.length → (∀ u ∈ us, u.oneCell' = true) → (∀ (i : Nat) (d : D) (u : Value), ds[i]? = some d → us[i]? = some u → VA w Av ρ d u) → VG w Av' ρ' (renG f (.agg ds)) u := by
    intro us hu hl h1 hr
    subst hu
    exact .agg (by simpa using hl) h1 (T.cells hr hk (hp.1 ds rfl))
   cases h with
   | atom h =>
     cases h with
     | im h => cases h with | agg hl h1 hr => exact core _ rfl hl h1 fun i d u a b => .im (hr i d u a b)
   | agg hl h1 hr => exact core _ rfl hl h1 hr
 · have hr : renG f d = renA f d := by cases d <;> first | rfl | exact absurd ⟨_, rfl⟩ ha
   rw [hr]
   cases h with
   | atom h =>
     refine .atom (T.va h ?_ (hp.2 fun ds e => ha ⟨ds, e⟩))
     intro n hn
     refine hk n ?_
     cases d <;> first | exact hn | exact absurd ⟨_, rfl⟩ ha | (simp [nmA] at hn)
   | agg => exact absurd ⟨_, rfl⟩ ha
theorem Tell.rows {sz : Nat} {xs : List (List D)} {us : List Value} (h : Rows (VA w Av ρ) sz xs us) (hk : ∀ n ∈ rowNames xs, n < k) (hp : ∀ cs ∈ xs, ∀ d ∈ cs, p d) : Rows (VA w Av' ρ') sz (xs.map fun cs => cs.map (renA f)) us := by
 refine ⟨by rw [List.length_map]; exact h.len, fun cs hcs => ?_, h.one, fun i j cs d hc hd => ?_⟩
 · obtain ⟨cs0, h0, rfl⟩ := List.mem_map.1 hcs
   rw [List.length_map]; exact h.el cs0 h0
 · simp only [List.getElem?_map, Option.map_eq_some_iff] at hc
   obtain ⟨cs0, h0, rfl⟩ := hc
   simp only [List.getElem?_map, Option.map_eq_some_iff] at hd
   obtain ⟨d0, h1, rfl⟩ := hd
   obtain ⟨u, e1, e2⟩ := h.at_ i j cs0 d0 h0 h1
   have m0 := List.mem_of_getElem? h0
   have m1 := List.mem_of_getElem? h1
   exact ⟨u, e1, T.va e2 (fun n hn => hk n (rowNames_mem m0 (nmAs_mem m1 hn))) (hp cs0 m0 d0 m1)⟩
def blkAll (p : D → Prop) : Blk → Prop
 | .box _ cs => ∀ d ∈ cs, p d
 | .own _ xs => ∀ cs ∈ xs, ∀ d ∈ cs, p d
 | .row _ xs => ∀ cs ∈ xs, ∀ d ∈ cs, p d
 | .fr xs => p (.sl xs)
 | .deep _ _ zs => ∀ z ∈ zs, slotAll p z
theorem Tell.sr {P : Program} {t : Nat} {b : Blk} (h : SR P w Av ρ t b) (ht : t < k) (hk : ∀ n ∈ blkNames b, n < k) (hp : blkAll p b) : SR P w Av' ρ' (f t) (renB f b) := by
 cases b with
 | box e cs =>
   obtain ⟨g, us, h0, hh, hl, h1, hc⟩ := h
   exact ⟨g, us, T.nm _ _ ht h0, hh, by simpa using hl, h1, T.cells hc hk hp⟩
 | own e xs =>
   obtain ⟨u, us, h0, ho, hc⟩ := h
   refine ⟨u, us, T.nm _ _ ht h0, ho, ⟨hc.len, hc.el, hc.one, fun i j cs d a b => ?_⟩⟩
   obtain ⟨v, e1, e2⟩ := hc.at_ i j cs d a b
   exact ⟨v, e1, T.im _ _ e2 (hp cs (List.mem_of_getElem? a) d (List.mem_of_getElem? b))⟩
 | row e xs =>
   obtain ⟨u, us, h0, ho, hc⟩ := h
   exact ⟨u, us, T.nm _ _ ht h0, by rw [List.length_map]; exact ho, T.rows hc hk hp⟩
 | fr xs =>
   obtain ⟨u, h0, hv⟩ := h
   exact ⟨u, T.nmv ht h0, T.im _ _ hv hp⟩
 | deep e e2 zs =>
   obtain ⟨u, vs, us, h⟩ := h
   refine ⟨u, vs, us, T.nm _ _ ht h.name, by rw [List.length_map]; exact h.lv, by rw [List.length_map]; exact h.lu, by rw [List.length_map]; exact h.own, h.one, fun i z x v h1 h2 h3 => ?_, fun i xs v x h1 => h.apart i xs v x (renZ_an.1 h1), fun i j xs ys v v' x h1 h2 => h.dis i j xs ys v v' x (renZ_an.1 h1) (renZ_an.1 h2)⟩
   rw [List.getElem?_map, Option.map_eq_some_iff] at h1
   obtain ⟨z0, h1, rfl⟩ := h1
   have hm := List.mem_of_getElem? h1
   have hs := h.slot i z0 x v h1 h2 h3
   cases z0 with
   | an xs =>
     obtain ⟨e1, ys, e2, e3⟩ := hs
     refine ⟨e1, ys, e2, ⟨e3.len, e3.el, e3.one, fun i j cs d a b => ?_⟩⟩
     obtain ⟨v', f1, f2⟩ := e3.at_ i j cs d a b
     exact ⟨v', f1, T.im _ _ f2 (hp _ hm cs (List.mem_of_getElem? a) d (List.mem_of_getElem? b))⟩
   | nm t => exact T.nmv (hk t (slotNames0_mem hm)) hs
   | lost => trivial
def resAll (p : D → Prop) : D → Prop
 | .tup ds => ∀ d ∈ ds, (∀ es, d = .agg es → ∀ e ∈ es, p e) ∧ ((∀ es, d ≠ .agg es) → p d)
 | d => (∀ es, d = .agg es → ∀ e ∈ es, p e) ∧ ((∀ es, d ≠ .agg es) → p d)
theorem Tell.vr {d : D} {u : Value} (h : VR w Av ρ d u) (hk : ∀ n ∈ nmR d, n < k) (hp : resAll p d) : VR w Av' ρ' (renD f d) u := by
 by_cases ht : ∃ ds, d = .tup ds
 · obtain ⟨ds, rfl⟩ := ht
   cases h with
   | gr h => cases h with | atom h => cases h with | im h => cases h
   | tup hl h =>
     rename_i us
     refine .tup (by simpa using hl) fun i d u hd hu => ?_
     simp only [List.getElem?_map, Option.map_eq_some_iff] at hd
     obtain ⟨e, he, rfl⟩ := hd
     have hm := List.mem_of_getElem? he
     exact T.vg (h i e u he hu) (fun n hn => hk n (nmDs_mem hm hn)) (hp e hm)
 · have hr : renD f d = renG f d := by cases d <;> first | rfl | exact absurd ⟨_, rfl⟩ ht
   rw [hr]
   cases h with
   | gr h =>
     refine .gr (T.vg h ?_ ?_)
     · intro n hn
       refine hk n ?_
       cases d <;> first | exact hn | exact absurd ⟨_, rfl⟩ ht
     · cases d <;> first | exact hp | exact absurd ⟨_, rfl⟩ ht
   | tup => exact absurd ⟨_, rfl⟩ ht
end tell
end Go.Ab
namespace Go.Ab
open Go Go.RowKit
theorem noImm_res {d : D} (h : NoImmD d) : resAll NoImmA d := by
 have g : ∀ d, NoImmG d → (∀ es, d = .agg es → ∀ e ∈ es, NoImmA e) ∧ ((∀ es, d ≠ .agg es) → NoImmA d) := by
  intro d h
  cases d <;> first
   | (refine ⟨?_, fun hn => absurd rfl (hn _)⟩; intro es he; cases he; exact h)
   | (refine ⟨fun es he => (by cases he), fun _ => h⟩)
 cases d <;> first | exact fun d hd => g d (h d hd) | exact g _ h
theorem noImm_blk {b : Blk} (h : NoImmB b) : blkAll NoImmA b := by
 cases b <;> exact h
theorem all_res (d : D) : resAll (fun _ => True) d := by
 cases d <;> simp [resAll]
theorem all_blk (b : Blk) : blkAll (fun _ => True) b := by
 cases b <;> simp [blkAll]
 intro z _
 cases z <;> simp [slotAll]
section
variable {E : Env} {cx : Cx} {tm : Tm} {S S0 : Store} {nx : Nat} {a : Act} {w : World} {ρ : Nat → Option Value} {o : Oper} {K : Kt} {ns : List Nat}
theorem argA_VA (h : R E cx tm S a w ρ) {d d' : D} {u : Value} (hS : ∀ t ∈ nmA d, t ∉ ns → ∀ xs, (lk S0 t).bind imB = some xs → lk S t = some (.fr xs))
   (hv : VA w (AvS cx.G S ρ) ρ d u) (ha : argA ns S0 d = some d') : VA w (AvS cx.G S ρ) (carρ ns ρ) d' u ∧ ∀ ds, d' ≠ .agg ds := by
 have imm : (∀ t ∈ nmA d, t ∉ ns) → immA S0 d = some d' → VA w (AvS cx.G S ρ) (carρ ns ρ) d' u ∧ ∀ ds, d' ≠ .agg ds := by
  intro hn hi
  obtain ⟨h1, h2⟩ := immA_VI (S0 := S0) h (fun t ht => hS t ht (hn t ht)) hv hi
  exact ⟨.im h1, h2⟩
 cases d with
 | own t =>
   simp only [argA] at ha
   split at ha
   · rename_i i hp
     cases ha
     cases hv with
     | im h => cases h
     | own h h1 => exact ⟨.own ((nmv_eq (by simp [carρ, posOf_get hp])).trans h) h1, by simp⟩
   · rename_i hp
     exact imm (fun t ht => by simp [nmA] at ht; subst ht; exact posOf_none hp) ha
 | bp t off =>
   simp only [argA] at ha
   split at ha
   · rename_i i hp
     cases ha
     cases hv with
     | im h => cases h
     | bp h => exact ⟨.bp (by simp [carρ, posOf_get hp, h]), by simp⟩
   · cases ha
 | fn f cs =>
   simp only [argA] at ha
   split at ha
   · rename_i qs hq
     cases ha
     obtain ⟨q1, q2⟩ := posAll_get hq
     refine ⟨?_, by simp⟩
     cases hv with
     | im h =>
       cases h
       have : qs = [] := List.eq_nil_of_length_eq_zero (by rw [q1]; rfl)
       subst this
       exact .fn (us := []) rfl (by simp)
     | fn hl h =>
       refine .fn (by rw [q1, hl]) fun i m u hm hu => ?_
       have hi : i < cs.length := by rw [← q1]; exact (List.getElem?_eq_some_iff.1 hm).1
       obtain ⟨h1, h2⟩ := h i cs[i] u (List.getElem?_eq_getElem hi) hu
       refine ⟨?_, h2⟩
       simp only [carρ, q2 i cs[i] m (List.getElem?_eq_getElem hi) hm, Option.bind_some]
       exact h1
   · cases ha
 | op t => simp [argA, immA] at ha
 | agg => simp [argA, immA] at ha
 | tup => simp [argA, immA] at ha
 | junk => simp [argA, immA] at ha
 | vw => simp [argA, immA] at ha
 | b x => exact imm (by simp [nmA]) ha
 | k x => exact imm (by simp [nmA]) ha
 | s x => exact imm (by simp [nmA]) ha
 | v x => exact imm (by simp [nmA]) ha
 | nil => exact imm (by simp [nmA]) ha
 | sl x => exact imm (by simp [nmA]) ha
 | ep x => exact imm (by simp [nmA]) ha
theorem argAs_VA (h : R E cx tm S a w ρ) : ∀ {ds ds' : List D} {us : List Value}, (∀ t ∈ nmAs ds, t ∉ ns → ∀ xs, (lk S0 t).bind imB = some xs → lk S t = some (.fr xs)) →
   ds.length = us.length → (∀ (i : Nat) (d : D) (u : Value), ds[i]? = some d → us[i]? = some u → VA w (AvS cx.G S ρ) ρ d u) → argAs ns S0 ds = some ds' →
   ds'.length = us.length ∧ ∀ (i : Nat) (d : D) (u : Value), ds'[i]? = some d → us[i]? = some u → VA w (AvS cx.G S ρ) (carρ ns ρ) d u
 | [], ds', us, _, hl, _, hi => by simp only [argAs, Option.some.injEq] at hi; subst hi; exact ⟨by simpa using hl, by simp⟩
 | d :: r, ds', [], _, hl, _, _ => by simp at hl
 | d :: r, ds', u :: q, hS, hl, hv, hi => by
   simp only [argAs] at hi
   split at hi
   · rename_i d1 hd1
     split at hi
     · rename_i r1 hr1
       cases hi
       have h1 := argA_VA (S0 := S0) h (fun t ht => hS t (by simp [nmAs, ht])) (hv 0 d u rfl rfl) hd1
       have h2 := argAs_VA h (us := q) (fun t ht => hS t (by simp [nmAs, ht])) (by simpa using hl) (fun i d u p q => hv (i + 1) d u (by simpa using p) (by simpa using q)) hr1
       refine ⟨by simp [h2.1], fun i d' u' p q => ?_⟩
       cases i with
       | zero => simp at p q; subst p q; exact h1.1
       | succ i => exact h2.2 i d' u' (by simpa using p) (by simpa using q)
     · cases hi
   · cases hi
theorem argD_VG (h : R E cx tm S a w ρ) {d d' : D} {u : Value} (hS : ∀ t ∈ nmD d, t ∉ ns → ∀ xs, (lk S0 t).bind imB = some xs → lk S t = some (.fr xs))
   (hv : VR w (AvS cx.G S ρ) ρ d u) (hi : argD ns S0 d = some d') : VG w (AvS cx.G S ρ) (carρ ns ρ) d' u := by
 by_cases ha : ∃ ds, d = .agg ds
 · obtain ⟨ds, rfl⟩ := ha
   simp only [argD] at hi
   split at hi
   · rename_i ds' hds
     cases hi
     obtain ⟨us, rfl, hl, h1, hr⟩ := hv.agg_inv
     obtain ⟨e1, e2⟩ := argAs_VA (S0 := S0) h hS hl hr hds
     exact .agg e1 h1 e2
   · cases hi
 · have hd : argD ns S0 d = argA ns S0 d := by cases d <;> first | rfl | exact absurd ⟨_, rfl⟩ ha
   rw [hd] at hi
   cases hv with
   | gr hv =>
     cases hv with
     | atom hv =>
       refine .atom (argA_VA (S0 := S0) h ?_ hv hi).1
       intro t ht
       refine hS t ?_
       cases d <;> first | exact ht | exact absurd ⟨_, rfl⟩ ha | (simp [nmA] at ht)
     | agg => exact absurd ⟨_, rfl⟩ ha
   | tup => simp [argA, immA] at hi
theorem argDs_get : ∀ {ds cds : List D}, argDs ns S ds = some cds → cds.length = ds.length ∧ ∀ (i : Nat) (d d' : D), ds[i]? = some d → cds[i]? = some d' → argD ns S d = some d'
 | [], cds, h => by simp [argDs] at h; subst h; simp
 | d :: r, cds, h => by
   simp only [argDs] at h
   split at h
   · rename_i d1 hd1
     split at h
     · rename_i r1 hr1
       cases h
       obtain ⟨h1, h2⟩ := argDs_get hr1
       refine ⟨by simp [h1], fun i e e' p q => ?_⟩
       cases i with
       | zero => simp at p q; subst p q; exact hd1
       | succ i => exact h2 i e e' (by simpa using p) (by simpa using q)
     · cases h
   · cases h
theorem argRows_get : ∀ {xs xs' : List (List D)}, argRows ns S xs = some xs' → xs'.length = xs.length ∧ ∀ (i : Nat) (cs cs' : List D), xs[i]? = some cs → xs'[i]? = some cs' → argAs ns S cs = some cs'
 | [], xs', h => by simp [argRows] at h; subst h; simp
 | d :: r, xs', h => by
   simp only [argRows] at h
   split at h
   · rename_i d1 hd1
     split at h
     · rename_i r1 hr1
       cases h
       obtain ⟨h1, h2⟩ := argRows_get hr1
       refine ⟨by simp [h1], fun i e e' p q => ?_⟩
       cases i with
       | zero => simp at p q; subst p q; exact hd1
       | succ i => exact h2 i e e' (by simpa using p) (by simpa using q)
     · cases h
   · cases h
theorem argAs_len : ∀ {cs cs' : List D}, argAs ns S cs = some cs' → cs'.length = cs.length
 | [], cs', h => by simp [argAs] at h; subst h; rfl
 | d :: r, cs', h => by
   simp only [argAs] at h
   split at h
   · split at h
     · rename_i hr
       cases h
       simp [argAs_len hr]
     · cases h
   · cases h
theorem argB_SR (h : R E cx tm S a w ρ) {n i : Nat} {b b' : Blk} (hS : ∀ t ∈ blkNames b, t ∉ ns → ∀ xs, (lk S0 t).bind imB = some xs → lk S t = some (.fr xs)) (hl : lk S n = some b) (hn : ns[i]? = some n) (ha : argB ns S0 b = some b') :
   SR E.P w (AvS cx.G S ρ) (carρ ns ρ) i b' := by
 have hρ : carρ ns ρ i = ρ n := by simp [carρ, hn]
 cases b with
 | box e cs =>
   simp only [argB] at ha
   split at ha
   · rename_i cs' hcs
     cases ha
     obtain ⟨g, us, h0, hh, hlen, h1, hc⟩ := h.st _ _ hl
     obtain ⟨e1, e2⟩ := argAs_VA (S0 := S0) h hS hlen hc hcs
     exact ⟨g, us, by rw [hρ]; exact h0, hh, e1, h1, e2⟩
   · cases ha
 | own e xs =>
   simp only [argB, Option.some.injEq] at ha
   subst ha
   obtain ⟨u, us, h0, ho, hc⟩ := h.st _ _ hl
   exact ⟨u, us, by rw [hρ]; exact h0, ho, hc⟩
 | row e xs =>
   simp only [argB] at ha
   split at ha
   · rename_i xs' hxs
     cases ha
     obtain ⟨u, us, h0, ho, hc⟩ := h.st _ _ hl
     obtain ⟨q1, q2⟩ := argRows_get hxs
     refine ⟨u, us, by rw [hρ]; exact h0, by rw [q1]; exact ho, ⟨by rw [q1]; exact hc.len, fun cs hcs => ?_, hc.one, fun i' j cs d hcs hd => ?_⟩⟩
     · obtain ⟨k, hk⟩ := List.mem_iff_getElem?.1 hcs
       have hlt : k < xs.length := by rw [← q1]; exact (List.getElem?_eq_some_iff.1 hk).1
       rw [argAs_len (q2 k _ cs (List.getElem?_eq_getElem hlt) hk)]
       exact hc.el _ (List.getElem_mem hlt)
     · have hlt : i' < xs.length := by rw [← q1]; exact (List.getElem?_eq_some_iff.1 hcs).1
       have hx : xs[i']? = some xs[i'] := List.getElem?_eq_getElem hlt
       have has := q2 i' _ cs hx hcs
       have hjl : j < xs[i'].length := by rw [← argAs_len has]; exact (List.getElem?_eq_some_iff.1 hd).1
       obtain ⟨u0, e1, e2⟩ := hc.at_ i' j xs[i'] _ hx (List.getElem?_eq_getElem hjl)
       refine ⟨u0, e1, ?_⟩
       have one : ∀ {cs cs' : List D}, argAs ns S0 cs = some cs' → ∀ (j : Nat) (d d' : D), cs[j]? = some d → cs'[j]? = some d' → argA ns S0 d = some d' := by
        intro cs
        induction cs with
        | nil => intro cs' h j d d' p; simp at p
        | cons c r ih =>
          intro cs' h j d d' p q
          simp only [argAs] at h
          split at h
          · rename_i c1 hc1
            split at h
            · rename_i r1 hr1
              cases h
              cases j with
              | zero => simp at p q; subst p q; exact hc1
              | succ j => exact ih hr1 j d d' (by simpa using p) (by simpa using q)
            · cases h
          · cases h
       have ha := one has j _ d (List.getElem?_eq_getElem hjl) hd
       exact (argA_VA (S0 := S0) h (fun t ht => hS t (by simp only [blkNames]; exact rowNames_mem (List.getElem_mem hlt) (nmAs_mem (List.getElem_mem hjl) ht))) e2 ha).1
   · cases ha
 | fr xs =>
   simp only [argB, Option.some.injEq] at ha
   subst ha
   obtain ⟨u, h0, hv⟩ := h.st _ _ hl
   exact ⟨u, (nmv_eq hρ).trans h0, hv⟩
 | deep e e2 zs =>
   simp only [argB] at ha
   split at ha
   · rename_i ys hz
     cases ha
     obtain ⟨u, vs, us, hd⟩ := h.st _ _ hl
     obtain ⟨_, z2⟩ := imZ_get hz
     refine ⟨u, vs, us, by rw [hρ]; exact hd.name, hd.lv, hd.lu, hd.own, hd.one, fun i z x v h1 h2 h3 => ?_, hd.apart, hd.dis⟩
     obtain ⟨xs, rfl, _⟩ := z2 i z h1
     exact hd.slot i _ x v h1 h2 h3
   · cases ha
theorem callFunc_run {f : FuncId} {args : Array Value} (hc : Callable E.P f) : (callFunc f args).run E.P w = .ok (.enter f args) w := by
 obtain ⟨fn, h1, h2, h3⟩ := hc
 have n1 : fn.name ≠ "runtime.NumGoroutine" := by simpa using h3
 have n2 : fn.body ≠ none := by intro e; rw [e] at h2; cases h2
 simp [callFunc, run_program, h1, n1, n2]
def dropO (sm : List Nat) : Out → Out
 | [] => []
 | (n, o) :: r => match memB n sm with
   | true => dropO sm r
   | false => (n, o) :: dropO sm r
theorem lk_dropO (sm : List Nat) : ∀ (out : Out) (n : Nat), lk (dropO sm out) n = if n ∈ sm then none else lk out n
 | [], n => by simp [dropO, lk]
 | (k, b) :: r, n => by
   unfold dropO
   have ih := lk_dropO sm r n
   split
   · rename_i h
     rw [ih, lk_cons]
     have hk := memB_iff.1 h
     by_cases e : k = n
     · subst e; simp [hk]
     · simp [e]
   · rename_i h
     rw [lk_cons, lk_cons, ih]
     have hk : k ∉ sm := fun hk => by rw [memB_iff.2 hk] at h; cases h
     by_cases e : k = n
     · subst e; simp [hk]
     · simp [e]
theorem LStep.less {E : Env} {o : Oper} {tm : Tm} {S : Store} {fp : List Nat} {nx nx' : Nat} {d : D} {out : Out} (h : LStep E o tm S fp nx nx' d out) {sm : List Nat} (hs : ∀ n ∈ sm, n ∈ fp ∧ lk (ap out S) n = lk S n) : LStep E o tm S fp nx nx' d (dropO sm out) := by
 intro cx tm' S' a w ρ Q h1 h2 h3 h4 h5
 refine Oper.wp_mono (fun a' w' h0 => ?_) (h cx tm' S' a w ρ Q h1 h2 h3 h4 h5)
 obtain ⟨ρ', h6, h7⟩ := h0
 refine ⟨ρ', h6.ext (fun _ => rfl) fun n => ?_, h7⟩
 rw [lk_ap, lk_ap, lk_dropO]
 by_cases hin : n ∈ sm
 · rw [if_pos hin]
   obtain ⟨q1, q2⟩ := hs n hin
   have q3 := h3 n q1
   rw [lk_ap] at q2
   cases hc : lk out n with
   | none => rfl
   | some x => rw [hc] at q2; simp only at q2 ⊢; rw [q2, q3]
 · rw [if_neg hin]
theorem sameP_get {S2 S : Store} : ∀ {sm : List Nat}, sameP S2 S sm → ∀ n ∈ sm, lk S2 n = lk S n
 | [], _, n, h => by cases h
 | k :: r, hs, n, h => by
   rcases List.mem_cons.1 h with rfl | h
   · exact hs.1
   · exact sameP_get hs.2 n h
theorem subB_get {ns : List Nat} : ∀ {sm : List Nat}, subB ns sm = true → ∀ n ∈ sm, n ∈ ns
 | [], _, n, h => by cases h
 | k :: r, hs, n, h => by
   simp only [subB, Bool.and_eq_true] at hs
   rcases List.mem_cons.1 h with rfl | h
   · exact memB_iff.1 hs.1
   · exact subB_get hs.2 n h
theorem ok_call {f : FuncId} {ds : List D} (hrun : ∀ (cx : Cx) (tm' : Tm) (S' : Store) (a : Act) (w : World) (ρ : Nat → Option Value), (∀ x ∈ o.op.operands, ev E.gl tm' x = ev E.gl tm x) → R E cx tm' S' a w ρ →
     ∃ vs : List Value, (execOp a.eval o).run E.P w = (callFunc f vs.toArray).run E.P w ∧ ds.length = vs.length ∧ ∀ (i : Nat) (d : D) (u : Value), ds[i]? = some d → vs[i]? = some u → ∀ S1, (∃ S2, S2 = S1 ∧ R E cx tm' S1 a w ρ) → VR w (AvS cx.G S1 ρ) ρ d u)
   (hk : callK E f ds S nx fun d fp S' nx' => K fp (put o.dst d tm) S' nx') : Ok1 E o tm S nx K := by
 obtain ⟨ns, cds, Sa, d, S', c, C, hk⟩ := hk
 obtain ⟨hst1, hst2⟩ := argS_get C.st
 obtain ⟨ha1, ha2⟩ := argDs_get C.ar
 obtain ⟨hcall, hcon⟩ := C.con
 have hdom := C.dom
 simp only [Bool.and_eq_true] at hdom
 obtain ⟨hdom1, hdom2⟩ := hdom
 have hresn := ltB_iff.1 hdom1
 have key : ∀ (frz : Bool) (p : D → Prop), (frz = true → p = fun _ => True) → (frz = false → p = NoImmA) → resAll p d → (∀ i b, lk S' i = some b → blkAll p b) →
    LStep E o tm S (nmDs ds ++ storeNames S ns ++ ns ++ news nx c) nx (nx + c) (renD (nmOf ns nx) d) (callOut (nmOf ns nx) S' (ns ++ news nx c) 0 ++ (if frz then frzOut S (lent ns ds S) else [])) := by
  intro fz p hpt hpf hpd hpb cx tm' S2 a w ρ Q hd he hf h hfresh
  have hag : ∀ n ∈ lent ns ds S, lk S2 n = lk S n := by
   intro n hn
   have := (minus_mem.1 hn).1
   refine hf n ?_
   simp only [List.mem_append] at this ⊢
   exact .inl (.inl this)
  have hag2 : ∀ n ∈ ns, lk S2 n = lk S n := fun n hn => hf n (by simp [hn])
  have h1 := h.frzs (S0 := S) (lent ns ds S) hag
  obtain ⟨vs, hex, hlen, hvs⟩ := hrun cx tm' S2 a w ρ he h
  have hS1 : ∀ t, t ∈ nmDs ds ++ storeNames S ns → t ∉ ns → ∀ xs, (lk S t).bind imB = some xs → lk (ap (frzOut S (lent ns ds S)) S2) t = some (.fr xs) :=
   fun t ht hn => frz_fits hag t (minus_mem.2 ⟨ht, hn⟩)
  have hlns : ∀ n ∈ ns, lk (ap (frzOut S (lent ns ds S)) S2) n = lk S n := by
   intro n hn
   rw [lk_ap, lk_frzOut, if_neg (show ¬ n ∈ lent ns ds S from fun hin => (minus_mem.1 hin).2 hn)]
   exact hag2 n hn
  let S1 := ap (frzOut S (lent ns ds S)) S2
  let ρc := carρ ns ρ
  let Gc : Nat → Prop := fun x => AvS cx.G S1 ρ x ∧ ¬ Held Sa ρc x
  have heldc : ∀ x, Held Sa ρc x → ∃ n b, n ∈ ns ∧ lk S n = some b ∧ lk S1 n = some b ∧ live b = true ∧ bk b (ρ n) x := by
   rintro x ⟨t, b', hl, hv, hx⟩
   obtain ⟨j, n, b, rfl, e2, e3, e4⟩ := hst2 t b' hl
   have hn := List.mem_of_getElem? e2
   refine ⟨n, b, hn, e3, by show lk S1 n = _; rw [hlns n hn]; exact e3, by rw [← live_argB e4]; exact hv, ?_⟩
   have : ρc (0 + j) = ρ n := by simp [ρc, carρ, e2]
   rw [this] at hx
   exact (bk_argB e4).1 hx
  have heldc1 : ∀ x, Held Sa ρc x → Held S1 ρ x := fun x hx => let ⟨n, b, _, _, e3, e4, e5⟩ := heldc x hx; ⟨n, b, e3, e4, e5⟩
  have hav : AvS Gc Sa ρc = AvS cx.G S1 ρ := by
   funext x
   apply propext
   constructor
   · rintro (⟨h, _⟩ | h)
     · exact h
     · exact .inr (heldc1 x h)
   · intro h
     by_cases hh : Held Sa ρc x
     · exact .inr hh
     · exact .inl ⟨h, hh⟩
  have hcx := hcon w vs ρc Gc (by rw [ha1, hlen]) (fun x hx => by
     rcases hx.1 with hg | hh
     · exact Nat.lt_of_lt_of_le (h.g x hg) h.fr.size
     · exact h1.held_lt hh) (fun x hx => hx.2)
   (fun i cd u hcd hu => by
    have hil : i < ds.length := by rw [← ha1]; exact (List.getElem?_eq_some_iff.1 hcd).1
    have hdi : ds[i]? = some ds[i] := List.getElem?_eq_getElem hil
    rw [hav]
    exact argD_VG (S0 := S) h1 (fun t ht => hS1 t (List.mem_append.2 (.inl (nmDs_mem (List.getElem_mem hil) ht)))) (hvs i _ u hdi hu _ ⟨_, rfl, h1⟩) (ha2 i _ cd hdi hcd))
   (fun t b' hl => by
    obtain ⟨j, n, b, rfl, e2, e3, e4⟩ := hst2 t b' hl
    have hn := List.mem_of_getElem? e2
    rw [hav]
    exact argB_SR (S0 := S) h1 (fun t ht => hS1 t (List.mem_append.2 (.inr (storeNames_mem hn e3 ht)))) (by rw [hlns n hn]; exact e3) (by simpa using e2) e4)
   (fun t t' b b' x l1 l2 v1 v2 x1 x2 => by
    obtain ⟨j, n, c1, rfl, e2, e3, e4⟩ := hst2 t b l1
    obtain ⟨j', n', c2, rfl, f2, f3, f4⟩ := hst2 t' b' l2
    have q1 : ρc (0 + j) = ρ n := by simp [ρc, carρ, e2]
    have q2 : ρc (0 + j') = ρ n' := by simp [ρc, carρ, f2]
    rw [q1] at x1
    rw [q2] at x2
    have := h1.dis n n' c1 c2 x (by rw [hlns n (List.mem_of_getElem? e2)]; exact e3) (by rw [hlns n' (List.mem_of_getElem? f2)]; exact f3) (by rw [← live_argB e4]; exact v1) (by rw [← live_argB f4]; exact v2) ((bk_argB e4).1 x1) ((bk_argB f4).1 x2)
    subst this
    rw [nodupB_get C.nd j j' n e2 f2])
   (fun t ht => by simp [ρc, carρ, List.getElem?_eq_none ht])
   (fun g cs hg => by rw [hav]; exact h1.gl g cs hg)
  unfold Oper.wp
  rw [hex, callFunc_run hcall]
  simp only [Oper.upon]
  refine hcx.mono fun e w2 hpost => ?_
  obtain ⟨v, ρr, rfl, hvr, hsr, hdisr, hnewr, hkeep, hfrr⟩ := hpost
  simp only
  let f := nmOf ns nx
  let ρ2 : Nat → Option Value := fun n => if nx ≤ n ∧ n < nx + c then ρr (ns.length + (n - nx)) else match posOf ns n with | some j => ρr j | none => ρ n
  have hnamed : ∀ n ∈ ns, ∃ u, ρ n = some u := by
   intro n hn
   obtain ⟨j, hj⟩ := List.mem_iff_getElem?.1 hn
   obtain ⟨b, b', e1, e2, e3⟩ := hst1 j n hj
   exact h1.named (by rw [hlns n hn]; exact e1)
  have hnsout : ∀ n ∈ ns, ¬ (nx ≤ n ∧ n < nx + c) := by
   intro n hn hh
   obtain ⟨u, hu⟩ := hnamed n hn
   rw [hfresh n hh.1 hh.2] at hu
   cases hu
  have hnew : ∀ t u, ρ t = some u → ¬ (nx ≤ t ∧ t < nx + c) := by
   intro t u ht hh
   rw [hfresh t hh.1 hh.2] at ht
   cases ht
  have hpos : ∀ j (hj : j < ns.length), posOf ns ns[j] = some j := by
   intro j hj
   cases hp : posOf ns ns[j] with
   | none => exact absurd (List.getElem_mem hj) (posOf_none hp)
   | some i => rw [nodupB_get C.nd i j _ (posOf_get hp) (List.getElem?_eq_getElem hj)]
  have hkeep2 : ∀ j (hj : j < ns.length) u, ρ ns[j] = some u → ∃ u', ρr j = some u' ∧ Kp u u' := by
   intro j hj u hu
   exact hkeep j u hj (by simp [ρc, carρ, hj, hu])
  have hold : ∀ t u, ρ t = some u → ∃ u', ρ2 t = some u' ∧ Kp u u' := by
   intro t u ht
   simp only [ρ2, if_neg (hnew t u ht)]
   cases hp : posOf ns t with
   | none => exact ⟨u, ht, .refl u⟩
   | some j =>
     have hj := posOf_get hp
     obtain ⟨hlt, e⟩ := List.getElem?_eq_some_iff.1 hj
     exact hkeep2 j hlt u (by rw [e]; exact ht)
  have hsame : ∀ t u, t ∉ ns → ρ t = some u → ρ2 t = some u := by
   intro t u hn ht
   simp only [ρ2, if_neg (hnew t u ht)]
   cases hp : posOf ns t with
   | none => exact ht
   | some j => exact absurd (List.mem_of_getElem? (posOf_get hp)) hn
  have hnm : ∀ t u, t < ns.length + c → ρr t = some u → ρ2 (f t) = some u := by
   intro t u ht hu
   by_cases hlt : t < ns.length
   · have hft : f t = ns[t] := by simp [f, nmOf, hlt]
     rw [hft]
     simp only [ρ2, if_neg (hnsout _ (List.getElem_mem hlt)), hpos t hlt]
     exact hu
   · have hft : f t = nx + (t - ns.length) := by simp [f, nmOf, List.getElem?_eq_none (Nat.le_of_not_lt hlt)]
     have hin : nx ≤ f t ∧ f t < nx + c := by rw [hft]; omega
     simp only [ρ2, if_pos hin]
     rw [hft]
     have : ns.length + (nx + (t - ns.length) - nx) = t := by omega
     rw [this]
     exact hu
  have hinj : ∀ (j k m : Nat), (ns ++ news nx c)[j]? = some m → (ns ++ news nx c)[k]? = some m → j = k := by
   intro j k m hj hk
   by_cases h1 : j < ns.length <;> by_cases h2 : k < ns.length
   · rw [List.getElem?_append_left h1] at hj
     rw [List.getElem?_append_left h2] at hk
     exact nodupB_get C.nd j k m hj hk
   · rw [List.getElem?_append_left h1] at hj
     rw [List.getElem?_append_right (by omega)] at hk
     exact absurd (news_mem.1 (List.mem_of_getElem? hk)) (hnsout m (List.mem_of_getElem? hj))
   · rw [List.getElem?_append_left h2] at hk
     rw [List.getElem?_append_right (by omega)] at hj
     exact absurd (news_mem.1 (List.mem_of_getElem? hj)) (hnsout m (List.mem_of_getElem? hk))
   · rw [List.getElem?_append_right (by omega)] at hj hk
     have hj' := (List.getElem?_eq_some_iff.1 hj).1
     have hk' := (List.getElem?_eq_some_iff.1 hk).1
     rw [news_len] at hj' hk'
     rw [news_get hj'] at hj
     rw [news_get hk'] at hk
     simp at hj hk
     omega
  let out := callOut f S' (ns ++ news nx c) 0
  have hlk := fun n => lk_callOut f S' (ns ++ news nx c) 0 n hinj
  have hat : ∀ n b, lk out n = some (some b) → ∃ i b0, n = f i ∧ i < ns.length + c ∧ lk S' i = some b0 ∧ b = renB f b0 ∧ ∀ u, ρr i = some u → ρ2 n = some u := by
   intro n b hb
   by_cases hin : n ∈ ns ++ news nx c
   · obtain ⟨i, hi⟩ := List.mem_iff_getElem?.1 hin
     rw [(hlk n).2 i hi] at hb
     obtain ⟨e1, e2⟩ := nmOf_get hi
     simp only [Option.some.injEq, Nat.zero_add, Option.map_eq_some_iff] at hb
     obtain ⟨b0, e3, e4⟩ := hb
     exact ⟨i, b0, e1, e2, e3, e4.symm, fun u hu => by rw [e1]; exact hnm i u e2 hu⟩
   · rw [(hlk n).1 hin] at hb
     cases hb
  have hblk : ∀ n b, lk out n = some (some b) → live b = true → ∀ x, bk b (ρ2 n) x → ∃ i b0, n = f i ∧ lk S' i = some b0 ∧ live b0 = true ∧ bk b0 (ρr i) x := by
   intro n b hb hv x hx
   obtain ⟨i, b0, e1, e2, e3, e4, e5⟩ := hat n b hb
   obtain ⟨u, hu⟩ := (hsr i b0 e3).named
   rw [e5 u hu, e4] at hx
   refine ⟨i, b0, e1, e3, ?_, by rw [hu]; exact bk_renB.1 hx⟩
   rw [e4] at hv
   cases b0 <;> first | rfl | (simp [renB, live] at hv)
  let Sb := ap (if fz then frzOut S (lent ns ds S) else []) S2
  have hb : R E cx tm' Sb a w ρ := by
   cases fz with
   | true => exact h1
   | false => exact h
  have hSb : ∀ n ∈ ns, lk Sb n = lk S n := by
   intro n hn
   cases fz with
   | true => exact hlns n hn
   | false => exact hag2 n hn
  have houtns : ∀ n ∈ ns, lk out n ≠ none := by
   intro n hn
   obtain ⟨i, hi⟩ := List.mem_iff_getElem?.1 (List.mem_append.2 (.inl hn) : n ∈ ns ++ news nx c)
   rw [(hlk n).2 i hi]
   simp
  have hcell : ∀ x, Held Sa ρc x → ∃ n b, lk out n ≠ none ∧ lk Sb n = some b ∧ live b = true ∧ bk b (ρ n) x := by
   intro x hx
   obtain ⟨n, b, e1, e2, e3, e4, e5⟩ := heldc x hx
   exact ⟨n, b, houtns n e1, by rw [hSb n e1]; exact e2, e4, e5⟩
  have htell : (∀ d u, VI w (AvS cx.G Sb ρ) d u → VI w2 (AvS cx.G (ap out Sb) ρ2) d u) → Tell w2 (AvS Gc S' ρr) (AvS cx.G (ap out Sb) ρ2) ρr ρ2 f (ns.length + c) p := by
   intro hi
   refine ⟨fun d u hv hp => ?_, hnm⟩
   cases fz with
   | false => rw [hpf rfl] at hp; exact hv.noImm hp
   | true =>
     refine hv.mono (fun _ _ _ => rfl) (Nat.le_refl _) fun x _ hx => ?_
     rcases hx with hg | ⟨t, b, hl, hlv, hxb⟩
     · left
       refine ⟨.inl hg, fun hh => ?_⟩
       have h2 := heldc1 x hh
       have h3 := h.g x hg
       rcases h1.new x h2 with h4 | h4
       · omega
       · exact h.gf x hg h4
     · rw [lk_ap] at hl
       split at hl
       · rename_i oo ho
         subst hl
         obtain ⟨i, b0, e1, e2, e3, e4⟩ := hblk t b ho hlv x hxb
         exact .inr ⟨i, b0, e2, e3, e4⟩
       · rename_i ho
         have hl1 : lk S1 t = some b := hl
         obtain ⟨u, hu⟩ := h1.named hl1
         rw [hsame t u (fun hin => houtns t hin ho) hu] at hxb
         left
         refine ⟨.inr ⟨t, b, hl1, hlv, by rw [hu]; exact hxb⟩, fun hh => ?_⟩
         obtain ⟨n, b2, e1, e2, e3, e4, e5⟩ := heldc x hh
         have := h1.dis t n b b2 x hl1 e3 hlv e4 (by rw [hu]; exact hxb) e5
         subst this
         exact houtns t e1 ho
  have hturn : TurnK E cx Sb w ρ out w2 ρ2 := by
   refine ⟨hfrr.weaken hcell, hold, fun t u ho hu => hsame t u (fun hin => houtns t hin ho) hu, fun n b hb' hv x hx => ?_, fun n m b b' x hn hm hv hv' hx hx' => ?_, fun hi n b hb' => ?_⟩
   · obtain ⟨i, b0, e1, e2, e3, e4⟩ := hblk n b hb' hv x hx
     rcases hnewr x ⟨i, b0, e2, e3, e4⟩ with q | q
     · exact .inl q
     · exact .inr (hcell x q)
   · obtain ⟨i, b0, e1, e2, e3, e4⟩ := hblk n b hn hv x hx
     obtain ⟨j, b1, f1, f2, f3, f4⟩ := hblk m b' hm hv' x hx'
     have := hdisr i j b0 b1 x e2 f2 e3 f3 e4 f4
     subst this
     rw [e1, f1]
   · obtain ⟨i, b0, e1, e2, e3, e4, e5⟩ := hat n b hb'
     subst e1
     subst e4
     exact (htell hi).sr (hsr i b0 e3) e2 (domB_get hdom2 e3) (hpb i b0 e3)
  have hfin := hb.turnK hturn
  have hout : ap (callOut (nmOf ns nx) S' (ns ++ news nx c) 0 ++ (if fz then frzOut S (lent ns ds S) else [])) S2 = ap out Sb := ap_append _ _ _
  refine ⟨ρ2, ?_, fun n hn h0 => ?_⟩
  rotate_left
  · simp only [ρ2, if_neg hn]
    cases hp : posOf ns n with
    | none => exact h0
    | some j =>
      obtain ⟨u, hu⟩ := hnamed n (List.mem_of_getElem? (posOf_get hp))
      rw [h0] at hu
      cases hu
  rw [hout]
  refine hfin.value hd ?_
  exact (htell (hturn.vi hb)).vr hvr hresn hpd
 have hmem : ∀ n, lk (callOut (nmOf ns nx) S' (ns ++ news nx c) 0) n ≠ none → n ∈ ns ++ news nx c := by
  intro n hn
  have gen : ∀ (l : List Nat) (i : Nat), lk (callOut (nmOf ns nx) S' l i) n ≠ none → n ∈ l := by
   intro l
   induction l with
   | nil => intro i h; simp [callOut, lk] at h
   | cons m r ih =>
     intro i h
     simp only [callOut, lk_cons] at h
     by_cases e : m = n
     · simp [e]
     · rw [if_neg e] at h
       exact List.mem_cons_of_mem _ (ih _ h)
  exact gen _ _ hn
 rcases hk with ⟨sm, hs1, hs2, hno, hk⟩ | hk
 · have this : LStep E o tm S (nmDs ds ++ storeNames S ns ++ ns ++ news nx c) nx (nx + c) (renD (nmOf ns nx) d) (callOut (nmOf ns nx) S' (ns ++ news nx c) 0) := by
     rcases hno with ⟨hn1, hn2⟩ | hno
     · have := key false NoImmA (by simp) (fun _ => rfl) (noImm_res hn1) (fun i b hl => noImm_blk (hn2 _ (lk_mem hl)))
       simpa only [Bool.false_eq_true, if_false, List.append_nil] using this
     · have := key true (fun _ => True) (fun _ => rfl) (by simp) (all_res d) (fun i b _ => all_blk b)
       rw [hno] at this
       simpa only [if_true, frzOut, List.append_nil] using this
   simp only [Bool.and_eq_true] at hs2
   have hsame := sameP_get hs1
   have hsub := subB_get hs2.2
   have hlt := ltB_iff.1 hs2.1
   refine ⟨⟨nmDs ds ++ storeNames S ns ++ ns ++ news nx c, minus sm (ns ++ news nx c)⟩, _, _, _, _, this.less (sm := sm) fun n hn => ⟨by simp [hsub n hn], by rw [← lk_apC n]; exact hsame n hn⟩, fun n hn => ?_, fun n hn => ?_, by omega, fun n h1 h2 => ?_, fun n => ?_, hk⟩
   · rw [lk_dropO] at hn
     by_cases hin : n ∈ sm
     · rw [if_pos hin] at hn; exact absurd rfl hn
     · rw [if_neg hin] at hn
       exact minus_mem.2 ⟨hmem n hn, hin⟩
   · have := (minus_mem.1 hn).1
     simp only [List.mem_append] at this ⊢
     rcases this with hn | hn
     · exact .inl (.inr hn)
     · exact .inr hn
   · refine minus_mem.2 ⟨by simp only [List.mem_append]; exact .inr (news_mem.2 ⟨h1, h2⟩), fun hin => ?_⟩
     have := hlt n hin
     omega
   · rw [lk_apC n]
     by_cases hin : n ∈ sm
     · have h1 := hsame n hin
       rw [lk_apC n] at h1
       rw [h1, lk_ap, lk_dropO, if_pos hin]
     · rw [lk_ap, lk_ap, lk_dropO, if_neg hin]
 · have := key true (fun _ => True) (fun _ => rfl) (by simp) (all_res d) (fun i b _ => all_blk b)
   simp only [if_true] at this
   refine ⟨_, _, _, _, _, this, fun n hn => ?_, fun n hn => hn, by omega, fun n h1 h2 => ?_, fun n => ?_, hk⟩
   · rw [lk_append_none] at hn
     rcases hn with hn | hn
     · have := hmem n hn
       simp only [List.mem_append] at this ⊢
       rcases this with h | h
       · exact .inl (.inr h)
       · exact .inr h
     · rw [lk_frzOut] at hn
       by_cases hin : n ∈ lent ns ds S
       · have := (minus_mem.1 hin).1
         simp only [List.mem_append] at this ⊢
         exact .inl (.inl this)
       · rw [if_neg hin] at hn; exact absurd rfl hn
   · simp only [List.mem_append]
     exact .inr (news_mem.2 ⟨h1, h2⟩)
   · exact (lk_apC n).trans (lk_ap2 _ _ _ (frz_ap (lent ns ds S) S) n)
where
 lk_append_none {α : Type} {l r : List (Nat × α)} {n : Nat} : (lk (l ++ r) n ≠ none) = (lk l n ≠ none ∨ lk r n ≠ none) := by
  apply propext
  induction l with
  | nil => simp [lk]
  | cons p q ih =>
    obtain ⟨m, x⟩ := p
    simp only [List.cons_append, lk_cons]
    by_cases e : m = n
    · simp [e]
    · simp only [if_neg e]
      exact ih
end
end Go.Ab
namespace Go.Ab
open Go Go.RowKit
section
variable {E : Env} {tm : Tm} {S : Store} {nx : Nat} {o : Oper} {K : Kt}
theorem args_eval {cx : Cx} {tm' : Tm} {S' : Store} {a : Act} {w : World} {ρ : Nat → Option Value} (h : R E cx tm' S' a w ρ) {args : List Operand} {ds : List D} (_hl : ds.length = args.length) (hev : ∀ (i : Nat) (x : Operand) (d : D), args[i]? = some x → ds[i]? = some d → ev E.gl tm x = some d) (he : ∀ x ∈ args, ev E.gl tm' x = ev E.gl tm x) :
   ∀ (i : Nat) (d : D) (u : Value), ds[i]? = some d → (args.map a.eval)[i]? = some u → VR w (AvS cx.G S' ρ) ρ d u := by
 intro i d u hd hu
 simp only [List.getElem?_map, Option.map_eq_some_iff] at hu
 obtain ⟨x, hx, rfl⟩ := hu
 exact h.eval ((he x (List.mem_of_getElem? hx)).trans (hev i x d hx hd))
theorem ok_callFn {f : FuncId} {args : Array Operand} {tys : Array TypeId} (ho : o.op = .call { callee := .value (.func f), args := args, argTypes := tys }) {ds : List D} (hl : ds.length = args.toList.length)
   (hev : ∀ (i : Nat) (x : Operand) (d : D), args.toList[i]? = some x → ds[i]? = some d → ev E.gl tm x = some d) (hk : callK E f ds S nx fun d fp S' nx' => K fp (put o.dst d tm) S' nx') : Ok1 E o tm S nx K := by
 refine ok_call (fun cx tm' S' a w ρ he h => ⟨args.toList.map a.eval, ?_, by simpa using hl, fun i d u hd hu S1 hS1 => ?_⟩) hk
 · have : (args.toList.map a.eval).toArray = args.map a.eval := by apply Array.ext'; simp
   rw [this]
   simp [execOp, ho, resolve, Deferred.ofValue, Act.eval, invoke]
 · obtain ⟨_, _, h1⟩ := hS1
   refine args_eval h1 hl hev (fun x hx => he x ?_) i d u hd hu
   rw [ho]
   simp only [Op.operands, Call.operands]
   simp
   exact .inr (by simpa using hx)
theorem ok_callVal {t : Nat} {args : Array Operand} {tys : Array TypeId} (ho : o.op = .call { callee := .value (.tmp t), args := args, argTypes := tys }) {f : FuncId} {cs : List Nat} (ht : lk tm t = some (.fn f cs)) {ds : List D} (hl : ds.length = args.toList.length)
   (hev : ∀ (i : Nat) (x : Operand) (d : D), args.toList[i]? = some x → ds[i]? = some d → ev E.gl tm x = some d) (hk : callK E f (ds ++ cs.map fun n => .bp n 0) S nx fun d fp S' nx' => K fp (put o.dst d tm) S' nx') : Ok1 E o tm S nx K := by
 refine ok_call (fun cx tm' S' a w ρ he h => ?_) hk
 have hft : ev E.gl tm' (.tmp t) = some (.fn f cs) := (he (.tmp t) (by rw [ho]; simp [Op.operands, Call.operands])).trans ht
 have hfv := h.eval hft
 have hform : ∃ us : List Value, a.eval (.tmp t) = .func (.func f) #[] us.toArray ∧ cs.length = us.length ∧ ∀ (i n : Nat) (u : Value), cs[i]? = some n → us[i]? = some u → ρ n = some u ∧ ∃ b, u = .pointer (some ⟨b, 0, none⟩) := by
  generalize a.eval (.tmp t) = v at hfv
  cases hfv with
  | gr hv =>
    cases hv with
    | atom hv =>
      cases hv with
      | im hv => cases hv; exact ⟨[], rfl, rfl, by simp⟩
      | fn hl hr => exact ⟨_, rfl, hl, hr⟩
 obtain ⟨us, hfu, hul, hus⟩ := hform
 refine ⟨args.toList.map a.eval ++ us, ?_, by simp [hl, hul], fun i d u hd hu S1 hS1 => ?_⟩
 · have : (args.toList.map a.eval ++ us).toArray = args.map a.eval ++ us.toArray := by apply Array.ext'; simp
   rw [this]
   simp [execOp, ho, resolve, Deferred.ofValue, hfu, invoke]
 · obtain ⟨_, _, h1⟩ := hS1
   by_cases hi : i < ds.length
   · rw [List.getElem?_append_left hi] at hd
     rw [List.getElem?_append_left (by rw [List.length_map, ← hl]; exact hi)] at hu
     refine args_eval h1 hl hev (fun x hx => he x ?_) i d u hd hu
     rw [ho]
     simp only [Op.operands, Call.operands]
     simp
     exact .inr (by simpa using hx)
   · have hml : (args.toList.map a.eval).length = ds.length := by simp [hl]
     rw [List.getElem?_append_right (by omega)] at hd
     rw [List.getElem?_append_right (by omega), hml] at hu
     simp only [List.getElem?_map, Option.map_eq_some_iff] at hd
     obtain ⟨n, hn, rfl⟩ := hd
     obtain ⟨e1, b, rfl⟩ := hus _ n u hn hu
     exact .gr (.atom (.bp e1))
theorem op_sound (hty : TyOk E) (hk : awpOp E o tm S nx K) : Ok1 E o tm S nx K := by
 unfold awpOp at hk
 split at hk
 · -- move
   rename_i x ho
   replace hk := evK_inv hk
   obtain ⟨d, hx, hk⟩ := hk
   exact ok_move (.inl ho) hx hk
 · -- assign
   rename_i x ho
   replace hk := evK_inv hk
   obtain ⟨d, hx, hk⟩ := hk
   split at hk
   · split at hk
     · split at hk
       · exact ok_nil ho hx hk
       · exact ok_move (.inr ho) hx hk
     · exact ok_move (.inr ho) hx hk
   · exact ok_move (.inr ho) hx hk
 · -- pick
   rename_i c x y ho
   replace hk := evK_inv hk
   obtain ⟨d, hx, hk⟩ := hk
   split at hk
   · rename_i z
     replace hk := bsplit_elim hk
     cases z
     · replace hk := evK_inv hk
       obtain ⟨d, hy, hk⟩ := hk
       exact ok_pick ho hx hy hk
     · replace hk := evK_inv hk
       obtain ⟨d, hy, hk⟩ := hk
       exact ok_pick ho hx hy hk
   · exact hk.elim
 · -- alloc
   rename_i e ho
   replace hk := tyK_inv hk
   obtain ⟨td, ht, hk⟩ := hk
   exact ok_alloc hty ho ht hk
 · -- box
   rename_i e x ho
   replace hk := evK_inv hk
   obtain ⟨d, hx, hk⟩ := hk
   split at hk
   · exact hk.elim
   · rename_i ht
     exact ok_box ho hx ht hk
 · -- build
   rename_i t parts ho
   replace hk := tyK_inv hk
   obtain ⟨td, ht, hk⟩ := hk
   split at hk
   · rename_i pl hkd
     exact ok_build hty ho ht hkd hk
   · exact hk.elim
 · -- buildSlice
   rename_i t n parts ho
   replace hk := tyK_inv hk
   obtain ⟨td, ht, hk⟩ := hk
   split at hk
   · unfold buildDK at hk
     replace hk := tyK_inv hk
     obtain ⟨td, ht, hk⟩ := hk
     split at hk
     · rename_i e hkd
       replace hk := tyK_inv hk
       obtain ⟨te, hte, hk⟩ := hk
       split at hk
       · rename_i e2 x hk2 hp
         replace hk := evK_inv hk
         obtain ⟨d, hx, hk⟩ := hk
         split at hk
         · rename_i b
           split at hk
           · rename_i e3 xs hl
             split at hk
             · rename_i hb
               simp only [Bool.and_eq_true] at hb
               have b1 := Nat.eq_of_beq_eq_true hb.1.1
               have b2 := Nat.eq_of_beq_eq_true hb.1.2
               have b3 := Nat.eq_of_beq_eq_true hb.2
               subst b1
               subst b3
               exact ok_buildD hty ho hp ht hkd hte b2 hx hl hk
             · exact hk.elim
           · exact hk.elim
         · exact hk.elim
       · rename_i e2 hk2 hp
         split at hk
         · rename_i hb
           simp only [Bool.and_eq_true] at hb
           have b3 := Nat.eq_of_beq_eq_true hb.2
           subst b3
           exact ok_buildD0 hty ho hp ht hkd hte (Nat.eq_of_beq_eq_true hb.1) hk
         · exact hk.elim
       · exact hk.elim
     · exact hk.elim
   · split at hk
     · rename_i e hkd
       replace hk := tyK_inv hk
       obtain ⟨te, hte, hk⟩ := hk
       exact ok_buildSlice hty ho ht hkd hte hk
     · exact hk.elim
 · -- load
   rename_i t x ho
   replace hk := evK_inv hk
   obtain ⟨d, hx, hk⟩ := hk
   replace hk := tyK_inv hk
   obtain ⟨td, ht, hk⟩ := hk
   split at hk
   · split at hk
     · rename_i hagg
       exact ok_open hty ho hx ht hagg hk
     · exact hk.elim
   · exact ok_load hty ho hx ht hk
 · -- store
   rename_i t x y ho
   replace hk := evK_inv hk
   obtain ⟨da, hx, hk⟩ := hk
   replace hk := evK_inv hk
   obtain ⟨dx, hy, hk⟩ := hk
   replace hk := tyK_inv hk
   obtain ⟨td, ht, hk⟩ := hk
   split at hk
   · rename_i hb
     simp only [Bool.and_eq_true] at hb
     exact ok_store hty ho hx hy ht (Nat.eq_of_beq_eq_true hb.1) (by simpa using hb.2) hk
   · exact hk.elim
 · -- fieldAddr
   rename_i t x f ho
   replace hk := evK_inv hk
   obtain ⟨d, hx, hk⟩ := hk
   replace hk := tyK_inv hk
   obtain ⟨td, ht, hk⟩ := hk
   split at hk
   · rename_i pl hkd
     exact ok_fieldAddr hty ho hx ht hkd hk
   · exact hk.elim
 · -- indexAddr
   rename_i t x i ho
   replace hk := evK_inv hk
   obtain ⟨d, hx, hk⟩ := hk
   replace hk := evK_inv hk
   obtain ⟨di, hi, hk⟩ := hk
   replace hk := tyK_inv hk
   obtain ⟨td, ht, hk⟩ := hk
   split at hk
   · rename_i e kd n hkd
     replace hk := tyK_inv hk
     obtain ⟨te, hte, hk⟩ := hk
     exact ok_indexAddr hty ho hx hi ht hkd hte hk
   · rename_i m e kd n hkd
     replace hk := tyK_inv hk
     obtain ⟨te, hte, hk⟩ := hk
     split at hk
     · rename_i cs hz
       obtain ⟨j, c, rfl, hj, hc, hk⟩ := hk
       exact ok_indexArr hty ho hx hi ht hkd hte (Nat.eq_of_beq_eq_true hz) hj hc hk
     · exact hk.elim
   · exact hk.elim
 · -- index
   rename_i t x i ho
   replace hk := evK_inv hk
   obtain ⟨d, hx, hk⟩ := hk
   replace hk := evK_inv hk
   obtain ⟨di, hi, hk⟩ := hk
   replace hk := tyK_inv hk
   obtain ⟨td, ht, hk⟩ := hk
   split at hk
   · rename_i l kd n hkd
     obtain ⟨j, c, rfl, hc, hk⟩ := hk
     exact ok_index hty ho hx hi ht hkd hc hk
   · exact hk.elim
 · -- binOp
   rename_i op t x y yt ho
   replace hk := evK_inv hk
   obtain ⟨dx, hx, hk⟩ := hk
   replace hk := evK_inv hk
   obtain ⟨dy, hy, hk⟩ := hk
   split at hk
   · replace hk := tyK_inv hk
     obtain ⟨td, ht, hk⟩ := hk
     split at hk
     · rename_i hkd
       exact ok_bool hty ho hx hy ht hkd hk
     · exact hk.elim
   · replace hk := tyK_inv hk
     obtain ⟨td, ht, hk⟩ := hk
     split at hk
     · rename_i c hc
       exact ok_agg hty ho hx hy ht hc hk
     · exact hk.elim
   · unfold binOpK at hk
     split at hk
     · split at hk
       · rename_i hkk
         have := of_decide_eq_true hkk
         subst this
         exact ok_int ho hx hy hk
       · exact hk.elim
     · exact ok_str ho hx hy hk
     · exact hk.elim
 · -- unOp
   rename_i op t x ho
   replace hk := evK_inv hk
   obtain ⟨d, hx, hk⟩ := hk
   split at hk
   · exact ok_not ho hx hk
   · obtain ⟨r, rfl, hk⟩ := hk
     exact ok_neg ho hx hk
   · exact hk.elim
 · -- convert
   rename_i s t x ho
   replace hk := evK_inv hk
   obtain ⟨d, hx, hk⟩ := hk
   replace hk := tyK_inv hk
   obtain ⟨ts, hs, hk⟩ := hk
   replace hk := tyK_inv hk
   obtain ⟨td, ht, hk⟩ := hk
   unfold convK at hk
   split at hk
   · rename_i h1 h2
     obtain ⟨r, rfl, hk⟩ := hk
     exact ok_convInt hty ho hx hs ht h1 h2 hk
   · rename_i h1 h2
     exact ok_convStr hty ho hx hs ht h1 h2 hk
   · rename_i e d' h1 h2
     replace hk := tyK_inv hk
     obtain ⟨te, hte, hk⟩ := hk
     split at hk
     · rename_i xs h3 h4
       obtain ⟨l, rfl, hl, hk⟩ := hk
       exact ok_convBytes hty ho hx hs ht hte h1 h2 h3 h4 hk
     · exact hk.elim
   · exact hk.elim
 · -- slice
   rename_i t x lo hi ho
   replace hk := evK_inv hk
   obtain ⟨d, hx, hk⟩ := hk
   replace hk := tyK_inv hk
   obtain ⟨td, ht, hk⟩ := hk
   split at hk
   · exact ok_view hty ho hx ht hk
   · exact ok_slice hty ho hx ht hk
 · -- slice, with its room
   rename_i t x lo hi mx ho
   replace hk := evK_inv hk
   obtain ⟨d, hx, hk⟩ := hk
   replace hk := tyK_inv hk
   obtain ⟨td, ht, hk⟩ := hk
   split at hk
   · exact ok_view3 hty ho hx ht hk
   · exact hk.elim
 · -- makeSlice
   rename_i t l c ho
   replace hk := evK_inv hk
   obtain ⟨dl, hl, hk⟩ := hk
   replace hk := evK_inv hk
   obtain ⟨dc, hc, hk⟩ := hk
   replace hk := tyK_inv hk
   obtain ⟨td, ht, hk⟩ := hk
   split at hk
   · split at hk
     · obtain ⟨rfl, hk⟩ := hk
       unfold makeDK at hk
       replace hk := tyK_inv hk
       obtain ⟨td, ht, hk⟩ := hk
       split at hk
       · rename_i e hkd
         replace hk := tyK_inv hk
         obtain ⟨te, hte, hk⟩ := hk
         split at hk
         · rename_i e2 hk2
           split at hk
           · rename_i hb
             simp only [Bool.and_eq_true] at hb
             obtain ⟨n, rfl, hn, hb2, hk⟩ := hk
             have hnil : te.zero = .nil := by
              have := hb.2
              cases hz : te.zero <;> rw [hz] at this <;> first | rfl | (simp [isNil0] at this)
             exact ok_makeD hty ho ht hkd hte (Nat.eq_of_beq_eq_true hb.1) hnil hl hc hn hb2 hk
           · exact hk.elim
         · exact hk.elim
       · exact hk.elim
     · exact hk.elim
   · split at hk
     · rename_i e k1 m k2 m' hkd
       replace hk := tyK_inv hk
       obtain ⟨te, hte, hk⟩ := hk
       obtain ⟨n, rfl, rfl, hn, hb, hk⟩ := hk
       exact ok_make hty ho ht hkd hte hl hc hn hb hk
     · exact hk.elim
 · -- extract
   rename_i x i ho
   replace hk := evK_inv hk
   obtain ⟨d, hx, hk⟩ := hk
   split at hk
   · split at hk
     · rename_i d' hd
       exact ok_extract ho hx hd hk
     · exact hk.elim
   · exact hk.elim
 · -- nilCheck
   rename_i x ho
   replace hk := evK_inv hk
   obtain ⟨d, hx, hk⟩ := hk
   split at hk
   · exact ok_nilCheck ho hx (.inl ⟨_, _, rfl⟩) hk
   · exact ok_nilCheck ho hx (.inr (.inl ⟨_, _, _, _, rfl⟩)) hk
   · exact ok_nilCheck ho hx (.inr (.inr ⟨_, rfl⟩)) hk
   · exact hk.elim
 · -- makeFunc
   rename_i f first caps ho
   replace hk := evs_get hk
   obtain ⟨ds, hk, hl, hev⟩ := hk
   split at hk
   · rename_i hf hb
     exact ok_makeFunc ho hf hl hev hb hk
   · exact hk.elim
 · -- call
   rename_i c ho
   obtain ⟨callee, args, tys⟩ := c
   replace hk := evs_get hk
   obtain ⟨ds, hk, hl, hev⟩ := hk
   split at hk
   · -- builtin
     rename_i b hcal
     simp only at hcal hk hl hev
     subst hcal
     unfold builtinK at hk
     split at hk
     · -- len
       rename_i d
       split at hk
       · rename_i t htys
         replace hk := tyK_inv hk
         obtain ⟨td, ht, hk⟩ := hk
         obtain ⟨x, hx⟩ : ∃ x, args = #[x] := by
          obtain ⟨l⟩ := args
          match l, hl with
          | [x], _ => exact ⟨x, rfl⟩
         refine ok_len hty ho hx (by apply Array.ext'; simpa using htys) (hev 0 x d (by simp [hx]) rfl) ht hk
       · exact hk.elim
     · -- append
       rename_i dx dy
       split at hk
       · rename_i t t' htys
         obtain ⟨x, y, hxy⟩ : ∃ x y, args = #[x, y] := by
          obtain ⟨l⟩ := args
          match l, hl with
          | [x, y], _ => exact ⟨x, y, rfl⟩
         have hty2 : tys = #[t, t'] := by apply Array.ext'; simpa using htys
         subst hxy
         subst hty2
         have hx := hev 0 x dx rfl rfl
         have hy := hev 1 y dy rfl rfl
         split at hk
         · rename_i hb
           have htt : t' = t := (Nat.eq_of_beq_eq_true hb).symm
           replace hk := tyK_inv hk
           obtain ⟨td0, ht0, hk⟩ := hk
           split at hk
           · subst htt
             exact ok_appendD hty ho hx hy hk
           · split at hk
             · subst htt
               exact ok_appendV hty ho hx hy hk
             · exact ok_append hty ho hx hy (dy := dy) (.inl ⟨htt, rfl⟩) hk (fun h => absurd htt h)
         · replace hk := tyK_inv hk
           obtain ⟨td', ht', hk⟩ := hk
           replace hk := tyK_inv hk
           obtain ⟨td, ht, hk⟩ := hk
           split at hk
           · rename_i l e h1 h2
             replace hk := tyK_inv hk
             obtain ⟨te, hte, hbt, hk⟩ := hk
             refine ok_append hty ho hx hy (dy := .sl (bytesOf l)) (.inr ⟨l, td', rfl, rfl, ht', h1⟩) hk fun _ td2 e2 te2 q1 q2 q3 => ?_
             rw [ht] at q1
             cases q1
             rw [h2] at q2
             cases q2
             rw [hte] at q3
             cases q3
             exact hbt
           · exact hk.elim
       · exact hk.elim
     · -- clear
       rename_i d
       split at hk
       · rename_i t htys
         obtain ⟨x, hx⟩ : ∃ x, args = #[x] := by
          obtain ⟨l⟩ := args
          match l, hl with
          | [x], _ => exact ⟨x, rfl⟩
         subst hx
         have hty2 : tys = #[t] := by apply Array.ext'; simpa using htys
         subst hty2
         exact ok_clearV hty ho (hev 0 x d rfl rfl) hk
       · exact hk.elim
     · rename_i m n
       obtain ⟨x, y, hxy⟩ : ∃ x y, args = #[x, y] := by
        obtain ⟨l⟩ := args
        match l, hl with
        | [x, y], _ => exact ⟨x, y, rfl⟩
       subst hxy
       exact ok_minmax ho (.inl rfl) (hev 0 x _ rfl rfl) (hev 1 y _ rfl rfl) (by simpa using hk)
     · rename_i m n
       obtain ⟨x, y, hxy⟩ : ∃ x y, args = #[x, y] := by
        obtain ⟨l⟩ := args
        match l, hl with
        | [x, y], _ => exact ⟨x, y, rfl⟩
       subst hxy
       exact ok_minmax ho (.inr rfl) (hev 0 x _ rfl rfl) (hev 1 y _ rfl rfl) (by simpa using hk)
     · exact hk.elim
   · rename_i f hcal
     simp only at hcal
     subst hcal
     exact ok_callFn ho hl hev hk
   · rename_i t hcal
     simp only at hcal
     subst hcal
     split at hk
     · rename_i f cs ht
       exact ok_callVal ho ht hl hev hk
     · exact hk.elim
   · exact hk.elim
 · exact hk.elim
end
end Go.Ab
namespace Go.Ab
open Go Go.RowKit
section trace
variable {κ β : Type} (W : Nat → κ → Option β) (base : κ → β)
def atL (L : Nat → Bool) : Nat → κ → β
 | 0, c => base c
 | m + 1, c => if L m then (W m c).getD (atL L m c) else atL L m c
def all_ : Nat → Bool := fun _ => true
variable {W base}
theorem atL_upto {L : Nat → Bool} {c : κ} {i : Nat} (h : ∀ m, m < i → (W m c).isSome → L m = true) : ∀ m, m ≤ i → atL W base L m c = atL W base all_ m c
 | 0, _ => rfl
 | m + 1, hm => by
   have ih := atL_upto h m (by omega)
   simp only [atL, all_, if_true]
   cases hw : W m c with
   | none => simp [ih]
   | some b => simp [h m (by omega) (by rw [hw]; rfl), ih]
theorem atL_from {L : Nat → Bool} {c : κ} {i : Nat} : ∀ (n : Nat), i ≤ n → (∀ m, i ≤ m → m < n → L m = true → W m c = none) → atL W base L n c = atL W base L i c
 | 0, hn, _ => by have : i = 0 := by omega
                  subst this; rfl
 | n + 1, hn, h => by
   by_cases e : i = n + 1
   · subst e; rfl
   · have ih := atL_from n (by omega) (fun m h1 h2 => h m h1 (by omega))
     simp only [atL]
     split
     · rename_i hl
       rw [h n (by omega) (by omega) hl]
       exact ih
     · exact ih
theorem atL_ready {L : Nat → Bool} {c : κ} {i n : Nat} (hi : i ≤ n) (h1 : ∀ m, m < i → (W m c).isSome → L m = true) (h2 : ∀ m, i ≤ m → m < n → L m = true → W m c = none) : atL W base L n c = atL W base all_ i c := by
 rw [atL_from n hi h2, atL_upto h1 i (Nat.le_refl _)]
def setL (L : Nat → Bool) (i : Nat) : Nat → Bool := fun j => if j = i then true else L j
theorem atL_set_below {L : Nat → Bool} {c : κ} {i : Nat} : ∀ m, m ≤ i → atL W base (setL L i) m c = atL W base L m c
 | 0, _ => rfl
 | m + 1, hm => by
   have : setL L i m = L m := by simp [setL]; omega
   have ih := atL_set_below (L := L) (c := c) (i := i) m (by omega)
   simp only [atL, this, ih]
theorem atL_set {L : Nat → Bool} {c : κ} {i n : Nat} (hi : i < n) (hL : L i = false) (h : (W i c).isSome → ∀ m, i < m → m < n → L m = true → W m c = none) : atL W base (setL L i) n c = (W i c).getD (atL W base L n c) := by
 have key : ∀ m, i < m → m ≤ n → atL W base (setL L i) m c = (W i c).getD (atL W base L m c) := by
  intro m
  induction m with
  | zero => intro h; omega
  | succ m ih =>
    intro h1 h2
    by_cases e : m = i
    · subst e
      have e1 : setL L m m = true := by simp [setL]
      simp only [atL, e1, if_true, hL, Bool.false_eq_true, if_false, atL_set_below m (Nat.le_refl _)]
    · have ih := ih (by omega) (by omega)
      have e1 : setL L i m = L m := by simp [setL, e]
      simp only [atL, e1]
      split
      · rename_i hl
        cases hw : W i c with
        | none => rw [hw] at ih; simp only [Option.getD_none] at ih ⊢; rw [ih]
        | some b =>
          rw [hw] at ih
          have := h (by rw [hw]; rfl) m (by omega) (by omega) hl
          rw [this]
          simpa using ih
      · exact ih
 exact key n hi (Nat.le_refl _)
end trace
def cntL (L : Nat → Bool) : Nat → Nat
 | 0 => 0
 | n + 1 => cntL L n + if L n then 0 else 1
theorem cntL_set {L : Nat → Bool} {i : Nat} (hL : L i = false) : ∀ n, i < n → cntL (setL L i) n + 1 = cntL L n
 | 0, h => by omega
 | n + 1, h => by
   by_cases e : n = i
   · subst e
     have same : ∀ m, m ≤ n → cntL (setL L n) m = cntL L m := by
      intro m
      induction m with
      | zero => intro _; rfl
      | succ m ih =>
        intro hm
        have : setL L n m = L m := by simp [setL]; omega
        simp only [cntL, this, ih (by omega)]
     simp [cntL, same n (Nat.le_refl _), hL, setL]
   · have := cntL_set hL n (by omega)
     have e1 : setL L i n = L n := by simp [setL, e]
     simp only [cntL, e1]
     omega
theorem cntL_zero {L : Nat → Bool} : ∀ n, cntL L n = 0 → ∀ i, i < n → L i = true
 | 0, _, i, h => by omega
 | n + 1, hz, i, h => by
   simp only [cntL] at hz
   by_cases e : i = n
   · subst e
     cases hl : L i with
     | true => rfl
     | false => rw [hl] at hz; simp at hz
   · exact cntL_zero n (by omega) i (by omega)
section
variable {E : Env} {cx : Cx} {ops : Array Oper}
def Fresh (nx : Nat) (ρ : Nat → Option Value) : Prop := ∀ n, nx ≤ n → ρ n = none
structure Mk where
 fp : Fp
 d : D
 out : Out
 nx : Nat
 nx' : Nat
 go : Bool
 tm : Tm
 S : Store
def wantedA (ops : Array Oper) (o : Oper) (tm : Tm) : Option Bool :=
 match o.guard with
 | none => some true
 | some (j, want) => match (ops[j]?).bind (·.dst) with
   | none => none
   | some t => match lk tm t with
     | some (.b x) => some (x == want)
     | some (.tup []) => some false
     | _ => none
structure Stp (E : Env) (ops : Array Oper) (o : Oper) (m : Mk) (tm' : Tm) (S' : Store) : Prop where
 want : wantedA ops o m.tm = some m.go
 run : m.go = true → LStep E o m.tm m.S m.fp.all m.nx m.nx' m.d m.out
 skip : m.go = false → m.d = .tup [] ∧ m.out = [] ∧ m.nx' = m.nx
 wr : ∀ n, lk m.out n ≠ none → n ∈ m.fp.wr
 sub : ∀ n ∈ m.fp.wr, n ∈ m.fp.all
 le : m.nx ≤ m.nx'
 tm' : ∀ t, lk tm' t = lk (put o.dst m.d m.tm) t
 S' : ∀ n, lk S' n = lk (ap m.out m.S) n
def Run (E : Env) (ops : Array Oper) : List Oper → Tm → Store → Nat → List Mk → Tm → Store → Nat → Prop
 | [], tm, S, nx, ms, tm', S', nx' => ms = [] ∧ tm' = tm ∧ S' = S ∧ nx' = nx
 | o :: r, tm, S, nx, ms, tm', S', nx' => ∃ m q tm1 S1, ms = m :: q ∧ m.tm = tm ∧ m.S = S ∧ m.nx = nx ∧ Stp E ops o m tm1 S1 ∧ Run E ops r tm1 S1 m.nx' q tm' S' nx'
theorem LStep.ext {o : Oper} {tm tm1 : Tm} {S : Store} {fp : List Nat} {nx nx' : Nat} {d : D} {out : Out} (h : LStep E o tm1 S fp nx nx' d out) (ht : ∀ t, lk tm1 t = lk tm t) : LStep E o tm S fp nx nx' d out := by
 intro cx tm' S' a w ρ Q hd he
 refine h cx tm' S' a w ρ Q hd fun x hx => ?_
 rw [he x hx]
 cases x <;> simp [ev, ht]
theorem run_of_awp (hty : TyOk E) : ∀ (l : List Oper) (tm : Tm) (S : Store) (nx : Nat) (fs : List Fp) (K : List Fp → Tm → Store → Nat → Prop), awpOps E ops l tm S nx fs K →
   ∃ ms tm' S' nx', Run E ops l tm S nx ms tm' S' nx' ∧ K ((ms.map (·.fp)).reverse ++ fs) tm' S' nx'
 | [], tm, S, nx, fs, K, h => ⟨[], tm, S, nx, ⟨rfl, rfl, rfl, rfl⟩, h⟩
 | o :: r, tm, S, nx, fs, K, h => by
   have go : ∀ tm1 : Tm, (∀ t, lk tm1 t = lk tm t) → wantedA ops o tm = some true → awpOp E o tm1 S nx (fun fp tm S nx => awpOps E ops r tm S nx (fp :: fs) K) →
      ∃ ms tm' S' nx', Run E ops (o :: r) tm S nx ms tm' S' nx' ∧ K ((ms.map (·.fp)).reverse ++ fs) tm' S' nx' := by
    intro tm1 ht hw h
    obtain ⟨fp, out, nx1, d, S2, h1, h2, h3, h4, _, h5, h6⟩ := op_sound hty h
    obtain ⟨ms, tm', S', nx', h7, h8⟩ := run_of_awp hty r _ _ _ _ _ h6
    refine ⟨⟨fp, d, out, nx, nx1, true, tm, S⟩ :: ms, tm', S', nx', ⟨_, _, _, _, rfl, rfl, rfl, rfl, ⟨hw, fun _ => h1.ext ht, by simp, h2, h3, h4, fun t => ?_, h5⟩, h7⟩, by simpa using h8⟩
    cases hdst : o.dst <;> simp [put, ht, lk_cons]
   have skip : ∀ tm1 : Tm, (∀ t, lk tm1 t = lk tm t) → wantedA ops o tm = some false → awpOps E ops r (put o.dst (.tup []) tm1) S nx (fp0 :: fs) K →
      ∃ ms tm' S' nx', Run E ops (o :: r) tm S nx ms tm' S' nx' ∧ K ((ms.map (·.fp)).reverse ++ fs) tm' S' nx' := by
    intro tm1 ht hw h
    obtain ⟨ms, tm', S', nx', h7, h8⟩ := run_of_awp hty r _ _ _ _ _ h
    refine ⟨⟨fp0, .tup [], [], nx, nx, false, tm, S⟩ :: ms, tm', S', nx', ⟨_, _, _, _, rfl, rfl, rfl, rfl, ⟨hw, by simp, fun _ => ⟨rfl, rfl, rfl⟩, by simp [lk], by simp [fp0], Nat.le_refl _, fun t => ?_, fun n => rfl⟩, h7⟩, by simpa using h8⟩
    cases hdst : o.dst <;> simp [put, ht, lk_cons]
   unfold awpOps at h
   split at h
   · rename_i hg
     exact go tm (fun _ => rfl) (by simp [wantedA, hg]) h
   · rename_i j want hg
     split at h
     · exact h.elim
     · rename_i t hj
       split at h
       · rename_i x hx
         have h := bsplit_elim h
         have hsame : ∀ t', lk ((t, D.b x) :: tm) t' = lk tm t' := by
          intro t'
          rw [lk_cons]
          by_cases e : t = t'
          · subst e; rw [if_pos rfl, hx]
          · rw [if_neg e]
         have hw : wantedA ops o tm = some (x == want) := by simp [wantedA, hg, hj, hx]
         cases want <;> cases x
         · exact go _ hsame (by rw [hw]; rfl) h
         · exact skip _ hsame (by rw [hw]; rfl) h
         · exact skip _ hsame (by rw [hw]; rfl) h
         · exact go _ hsame (by rw [hw]; rfl) h
       · rename_i hx
         exact skip tm (fun _ => rfl) (by simp [wantedA, hg, hj, hx]) h
       · exact h.elim
theorem yielded_at {tmps : Array Value} {j t : Nat} (hj : (ops[j]?).bind (·.dst) = some t) : yielded ops tmps j = match tmps[t]? with | some (.bool b) => some b | _ => none := by
 unfold yielded
 rw [hj]
 rfl
theorem getD_bool {tmps : Array Value} {t : Nat} {x : Bool} (h : tmps.getD t undef = .bool x) : tmps[t]? = some (.bool x) := by
 rw [Array.getD_eq_getD_getElem?] at h
 cases hc : tmps[t]? with
 | none => rw [hc] at h; simp [undef] at h
 | some v => rw [hc] at h; simp at h; rw [h]
theorem wanted_of {o : Oper} {tm : Tm} {S : Store} {a : Act} {w : World} {ρ : Nat → Option Value} (h : R E cx tm S a w ρ) {x : Bool} (hw : wantedA ops o tm = some x) : Region.wanted o (yielded ops a.tmps) = x := by
 unfold wantedA at hw
 split at hw
 · rename_i hg
   cases hw
   simp [Region.wanted, hg]
 · rename_i j want hg
   split at hw
   · cases hw
   · rename_i t hj
     split at hw
     · rename_i y hy
       cases hw
       have hv : a.tmps[t]? = some (.bool y) := getD_bool (h.tm t _ hy).b_inv
       have hyl : yielded ops a.tmps j = some y := by rw [yielded_at hj, hv]
       simp [Region.wanted, hg, hyl]
     · rename_i hy
       cases hw
       have hv : a.tmps.getD t undef = undef := by
        obtain ⟨us, h1, h2, _⟩ := (h.tm t _ hy).tup_inv
        have : us = [] := List.eq_nil_of_length_eq_zero h2.symm
        rw [h1, this]
        rfl
       have hyl : yielded ops a.tmps j = none := by
        rw [yielded_at hj]
        cases hc : a.tmps[t]? with
        | none => rfl
        | some v =>
          rw [Array.getD_eq_getD_getElem?, hc] at hv
          simp at hv
          subst hv
          rfl
       simp [Region.wanted, hg, hyl]
     · cases hw
def operOk (N : Nat) (o : Oper) : Bool :=
 match o.dst with
 | some t => Nat.blt t N
 | none => true
def opersOk (N : Nat) : List Oper → Bool
 | [] => true
 | o :: r => operOk N o && opersOk N r
theorem operOk_dst {N : Nat} {o : Oper} (h : operOk N o = true) : ∀ t, o.dst = some t → t < N := by
 intro t ht
 unfold operOk at h
 rw [ht] at h
 exact Nat.le_of_ble_eq_true h
theorem run_sound {Q : Exit → Act → World → Prop} {tmf : Tm} {Sf : Store} {nxf : Nat} (hQ : ∀ a w ρ, R E cx tmf Sf a w ρ → Fresh nxf ρ → Q .normal a w) :
   ∀ (l : List Oper) (tm : Tm) (S : Store) (nx : Nat) (ms : List Mk) (a : Act) (w : World) (ρ : Nat → Option Value), opersOk cx.N l = true → Run E ops l tm S nx ms tmf Sf nxf → R E cx tm S a w ρ → Fresh nx ρ → wpList E.P ops Q l a w
 | [], tm, S, nx, ms, a, w, ρ, _, ⟨_, h1, h2, h3⟩, h, hf => by subst h1 h2 h3; exact wpList_nil (hQ _ _ _ h hf)
 | o :: r, tm, S, nx, ms, a, w, ρ, hok, ⟨m, q, tm1, S1, _, e1, e2, e3, hs, hr⟩, h, hf => by
   subst e1 e2 e3
   simp only [opersOk, Bool.and_eq_true] at hok
   refine wpList_step fun K' hK' => ?_
   rw [wanted_of h hs.want]
   cases hgo : m.go with
   | true =>
     rw [if_pos rfl]
     have := hs.run hgo cx m.tm m.S a w ρ Q (operOk_dst hok.1) (fun _ _ => rfl) (fun _ _ => rfl) h (fun n h1 _ => hf n h1)
     refine Oper.wp_mono (fun a' w' hn => ?_) this
     obtain ⟨ρ', h1, h2⟩ := hn
     have hf' : Fresh m.nx' ρ' := by
      intro n hn
      rw [h2 n (by omega)]
      exact hf n (Nat.le_trans hs.le hn)
     exact hK' _ _ (run_sound hQ r tm1 S1 m.nx' q a' w' ρ' hok.2 hr (h1.ext hs.tm' hs.S') hf')
   | false =>
     rw [if_neg (by simp)]
     obtain ⟨k1, k2, k3⟩ := hs.skip hgo
     have h1 := h.value (operOk_dst hok.1) (VR.undef)
     refine hK' _ _ (run_sound hQ r tm1 S1 m.nx' q _ w ρ hok.2 hr (h1.ext (fun t => ?_) (fun n => ?_)) (by rw [k3]; exact hf))
     · rw [hs.tm', k1]
     · rw [hs.S', k2]; rfl
theorem bit_or (a b i : Nat) : bitAt (Nat.lor a b) i = (bitAt a i || bitAt b i) := by
 have h : ∀ m, bitAt m i = m.testBit i := by
  intro m
  unfold bitAt
  rw [Nat.testBit_eq_decide_div_mod_eq]
  show Nat.beq (m >>> i % 2) 1 = _
  rw [Nat.shiftRight_eq_div_pow]
  by_cases e : m / 2 ^ i % 2 = 1
  · rw [e]; simp
  · simp [e, beq_no e]
 rw [h, h, h]
 exact Nat.testBit_or a b i
theorem bit_one (k i : Nat) : bitAt (Nat.shiftLeft 1 k) i = decide (i = k) := by
 have h : bitAt (Nat.shiftLeft 1 k) i = (1 <<< k).testBit i := by
  unfold bitAt
  rw [Nat.testBit_eq_decide_div_mod_eq]
  show Nat.beq ((1 <<< k) >>> i % 2) 1 = _
  rw [Nat.shiftRight_eq_div_pow]
  by_cases e : (1 <<< k) / 2 ^ i % 2 = 1
  · rw [e]; simp
  · simp [e, beq_no e]
 rw [h, Nat.one_shiftLeft, Nat.testBit_two_pow]
 by_cases e : i = k
 · subst e; simp
 · have : ¬ k = i := fun h => e h.symm
   simp [e, this]
theorem bit_zero (i : Nat) : bitAt 0 i = false := by
 unfold bitAt
 show Nat.beq (0 >>> i % 2) 1 = false
 simp
 rfl
theorem aheadOf_bit {bs : List Nat} {i : Nat} : ∀ {l : List Edge}, bitAt (aheadOf bs l) i = true → ∃ e ∈ l, Region.binds .any e = true ∧ (i = e.on ∨ bitAt (bs.getD e.on 0) i = true)
 | [], h => by simp [aheadOf, bit_zero] at h
 | e :: r, h => by
   simp only [aheadOf] at h
   split at h
   · rename_i hb
     rw [bit_or, bit_or, bit_one] at h
     simp only [Bool.or_eq_true, decide_eq_true_eq] at h
     rcases h with (h | h) | h
     · exact ⟨e, by simp, hb, .inl h⟩
     · exact ⟨e, by simp, hb, .inr h⟩
     · obtain ⟨e', h1, h2, h3⟩ := aheadOf_bit h
       exact ⟨e', by simp [h1], h2, h3⟩
   · obtain ⟨e', h1, h2, h3⟩ := aheadOf_bit h
     exact ⟨e', by simp [h1], h2, h3⟩
theorem aheads_spec : ∀ (l : List Oper) (bs : List Nat), (∀ (j : Nat), j < bs.length → (aheads l bs)[j]? = bs[j]?) ∧ (aheads l bs).length = bs.length + l.length ∧
   ∀ (j : Nat) (o : Oper), l[j]? = some o → (∀ e ∈ o.after.toList, Region.binds .any e = true → e.on < bs.length + j) → ∀ i, bitAt ((aheads l bs).getD (bs.length + j) 0) i = true → ∃ e ∈ o.after.toList, Region.binds .any e = true ∧ (i = e.on ∨ bitAt ((aheads l bs).getD e.on 0) i = true)
 | [], bs => ⟨fun j _ => rfl, rfl, by simp⟩
 | o :: r, bs => by
   obtain ⟨h1, h2, h3⟩ := aheads_spec r (bs ++ [aheadOf bs o.after.toList])
   refine ⟨fun j hj => ?_, by simp only [aheads, h2]; simp; omega, fun j o' hj he i hb => ?_⟩
   · simp only [aheads]
     rw [h1 j (by simp; omega), List.getElem?_append_left hj]
   · cases j with
     | zero =>
       simp at hj
       subst hj
       simp only [aheads, Nat.add_zero] at hb ⊢
       have hat : (aheads r (bs ++ [aheadOf bs o.after.toList])).getD bs.length 0 = aheadOf bs o.after.toList := by
        simp only [List.getD]
        rw [h1 bs.length (by simp), List.getElem?_append_right (Nat.le_refl _)]
        simp
       rw [hat] at hb
       obtain ⟨e, q1, q2, q3⟩ := aheadOf_bit hb
       refine ⟨e, q1, q2, q3.imp id fun q => ?_⟩
       have hlt := he e q1 q2
       have : (aheads r (bs ++ [aheadOf bs o.after.toList])).getD e.on 0 = bs.getD e.on 0 := by
        simp only [List.getD]
        rw [h1 e.on (by simp; omega), List.getElem?_append_left (by omega)]
       rw [this]
       exact q
     | succ j =>
       have := h3 j o' (by simpa using hj) (fun e q1 q2 => by have := he e q1 q2; simp; omega) i
       simp only [aheads]
       simp only [aheads] at hb
       have hlen : (bs ++ [aheadOf bs o.after.toList]).length + j = bs.length + (j + 1) := by simp; omega
       rw [hlen] at this
       exact this hb
theorem meets_iff {l q : List Nat} : meets l q = true ↔ ∃ n, n ∈ l ∧ n ∈ q := by
 induction l with
 | nil => simp [meets]
 | cons m r ih =>
   simp only [meets, Bool.or_eq_true, memB_iff, ih]
   constructor
   · rintro (h | ⟨n, h1, h2⟩)
     · exact ⟨m, by simp, h⟩
     · exact ⟨n, by simp [h1], h2⟩
   · rintro ⟨n, h1, h2⟩
     rcases List.mem_cons.1 h1 with rfl | h1
     · exact .inl h2
     · exact .inr ⟨n, h1, h2⟩
theorem clearOf_get {fp : Fp} {ms : List Nat} {dst : Option Nat} {m : Nat} : ∀ {acc : List (Fp × List Nat × Option Nat)} {k : Nat}, clearOf fp ms dst m acc k = true → ∀ (i : Nat) (fq : Fp) (mq : List Nat) (dq : Option Nat), acc[i]? = some (fq, mq, dq) →
   bitAt m (k + i) = true ∨ ((∀ n, n ∈ fp.wr → n ∉ fq.all) ∧ (∀ n, n ∈ fq.wr → n ∉ fp.all) ∧ (∀ t, dst = some t → t ∉ mq) ∧ ∀ t, dq = some t → t ∉ ms)
 | [], k, h, i, fq, mq, dq, hi => by simp at hi
 | (f0, m0, d0) :: r, k, h, i, fq, mq, dq, hi => by
   simp only [clearOf, Bool.and_eq_true] at h
   obtain ⟨h1, h2⟩ := h
   cases i with
   | zero =>
     simp at hi
     obtain ⟨rfl, rfl, rfl⟩ := hi
     simp only [Bool.or_eq_true, Bool.not_eq_true', Nat.add_zero] at h1 ⊢
     refine h1.imp id fun h1 => ?_
     simp only [Bool.or_eq_false_iff] at h1
     obtain ⟨⟨⟨c1, c2⟩, c3⟩, c4⟩ := h1
     refine ⟨fun n p q => ?_, fun n p q => ?_, fun t ht hm => ?_, fun t ht hm => ?_⟩
     · rw [meets_iff.2 ⟨n, p, q⟩] at c1; cases c1
     · rw [meets_iff.2 ⟨n, p, q⟩] at c2; cases c2
     · subst ht; simp only at c3; rw [memB_iff.2 hm] at c3; cases c3
     · subst ht; simp only at c4; rw [memB_iff.2 hm] at c4; cases c4
   | succ i =>
     have := clearOf_get h2 i fq mq dq (by simpa using hi)
     have e : k + 1 + i = k + (i + 1) := by omega
     rw [e] at this
     exact this
theorem clearAll_get {bs : List Nat} : ∀ {l : List Oper} {fs : List Fp} {acc : List (Fp × List Nat × Option Nat)} {k : Nat}, clearAll ops bs l fs acc k = true → acc.length = k → ∀ (j : Nat) (o : Oper) (fp : Fp), l[j]? = some o → fs[j]? = some fp →
   clearOf fp (mentions ops o) o.dst (bs.getD (k + j) 0) (acc ++ (((l.zip fs).take j).map fun (o, f) => (f, mentions ops o, o.dst))) 0 = true
 | [], fs, acc, k, h, ha, j, o, fp, hj, _ => by simp at hj
 | o0 :: r, [], acc, k, h, ha, j, o, fp, hj, hf => by simp at hf
 | o0 :: r, f0 :: fs, acc, k, h, ha, j, o, fp, hj, hf => by
   simp only [clearAll, Bool.and_eq_true] at h
   obtain ⟨h1, h2⟩ := h
   cases j with
   | zero => simp at hj hf; subst hj hf; simpa using h1
   | succ j =>
     have := clearAll_get h2 (by simp [ha]) j o fp (by simpa using hj) (by simpa using hf)
     have e : k + 1 + j = k + (j + 1) := by omega
     rw [e] at this
     simpa using this
end
end Go.Ab
namespace Go.Ab
open Go Go.RowKit
section
variable {E : Env} {cx : Cx} {ops : Array Oper}
theorem run_get : ∀ (l : List Oper) (tm : Tm) (S : Store) (nx : Nat) (ms : List Mk) (tmf : Tm) (Sf : Store) (nxf : Nat), Run E ops l tm S nx ms tmf Sf nxf →
   ms.length = l.length ∧ nx ≤ nxf ∧ (∀ m, ms[0]? = some m → m.tm = tm ∧ m.S = S ∧ m.nx = nx) ∧ (l = [] → tmf = tm ∧ Sf = S ∧ nxf = nx) ∧
   ∀ (i : Nat) (o : Oper), l[i]? = some o → ∃ m tm1 S1, ms[i]? = some m ∧ Stp E ops o m tm1 S1 ∧ nx ≤ m.nx ∧ m.nx' ≤ nxf ∧
     (∀ m2, ms[i + 1]? = some m2 → m2.tm = tm1 ∧ m2.S = S1 ∧ m2.nx = m.nx') ∧ (i + 1 = l.length → tmf = tm1 ∧ Sf = S1 ∧ nxf = m.nx')
 | [], tm, S, nx, ms, tmf, Sf, nxf, ⟨h0, h1, h2, h3⟩ => by subst h0 h1 h2 h3; simp
 | o :: r, tm, S, nx, ms, tmf, Sf, nxf, ⟨m, q, tm1, S1, e0, e1, e2, e3, hs, hr⟩ => by
   subst e0
   obtain ⟨g1, g2, g3, g4, g5⟩ := run_get r tm1 S1 m.nx' q tmf Sf nxf hr
   have hle := hs.le
   refine ⟨by simp [g1], by omega, fun m' hm => by simp at hm; subst hm; exact ⟨e1, e2, e3⟩, by simp, fun i o' ho => ?_⟩
   cases i with
   | zero =>
     simp at ho
     subst ho
     refine ⟨m, tm1, S1, rfl, hs, by omega, g2, fun m2 h2 => g3 m2 (by simpa using h2), fun hl => ?_⟩
     have : r = [] := List.eq_nil_of_length_eq_zero (by simp only [List.length_cons] at hl; omega)
     exact g4 this
   | succ i =>
     obtain ⟨m', tm2, S2, q1, q2, q3, q4, q5, q6⟩ := g5 i o' (by simpa using ho)
     exact ⟨m', tm2, S2, by simpa using q1, q2, by omega, q4, fun m2 h2 => q5 m2 (by simpa using h2), fun hl => q6 (by simp only [List.length_cons] at hl; omega)⟩
def Wt (l : List Oper) (ms : List Mk) (i : Nat) (t : Nat) : Option (Option D) :=
 match l[i]?, ms[i]? with
 | some o, some m => if o.dst = some t then some (some m.d) else none
 | _, _ => none
def Ws (ms : List Mk) (i : Nat) (n : Nat) : Option (Option Blk) :=
 match ms[i]? with
 | some m => lk m.out n
 | none => none
theorem lk_put (dst : Option Nat) (d : D) (tm : Tm) (t : Nat) : lk (put dst d tm) t = if dst = some t then some d else lk tm t := by
 cases dst with
 | none => simp [put]
 | some t0 =>
   simp only [put, lk_cons]
   by_cases e : t0 = t
   · simp [e]
   · simp [e]
section
variable {l : List Oper} {tm : Tm} {S : Store} {nx : Nat} {ms : List Mk} {tmf : Tm} {Sf : Store} {nxf : Nat} (hr : Run E ops l tm S nx ms tmf Sf nxf)
include hr
omit hr in
theorem run_step {i : Nat} {o : Oper} {m : Mk} (ho : l[i]? = some o) (hm : ms[i]? = some m) (t : Nat) : lk (put o.dst m.d m.tm) t = (Wt l ms i t).getD (lk m.tm t) := by
 rw [lk_put]
 simp only [Wt, ho, hm]
 by_cases e : o.dst = some t <;> simp [e]
theorem run_at : ∀ (i : Nat) (m : Mk), ms[i]? = some m → (∀ t, lk m.tm t = atL (Wt l ms) (lk tm) all_ i t) ∧ (∀ n, lk m.S n = atL (Ws ms) (lk S) all_ i n) ∧ ∀ (j : Nat) (m' : Mk), j < i → ms[j]? = some m' → m'.nx' ≤ m.nx := by
 obtain ⟨g1, g2, g3, g4, g5⟩ := run_get l tm S nx ms tmf Sf nxf hr
 intro i
 induction i with
 | zero =>
   intro m hm
   obtain ⟨e1, e2, e3⟩ := g3 m hm
   exact ⟨fun t => by rw [e1]; rfl, fun n => by rw [e2]; rfl, fun j _ hj => by omega⟩
 | succ i ih =>
   intro m hm
   have hi : i < l.length := by rw [← g1]; have := (List.getElem?_eq_some_iff.1 hm).1; omega
   obtain ⟨m0, tm1, S1, q1, q2, q3, q4, q5, q6⟩ := g5 i l[i] (List.getElem?_eq_getElem hi)
   obtain ⟨e1, e2, e3⟩ := q5 m hm
   obtain ⟨f1, f2, f3⟩ := ih m0 q1
   refine ⟨fun t => ?_, fun n => ?_, fun j m' hj hm' => ?_⟩
   · rw [e1, q2.tm', run_step (List.getElem?_eq_getElem hi) q1, f1]
     simp [atL, all_]
   · rw [e2, q2.S', lk_ap, f2]
     have hws : Ws ms i n = lk m0.out n := by simp only [Ws, q1]
     simp only [atL, all_, if_true, hws]
     cases lk m0.out n <;> rfl
   · rw [e3]
     by_cases e : j = i
     · subst e
       rw [q1] at hm'
       cases hm'
       exact Nat.le_refl _
     · have := f3 j m' (by omega) hm'
       have := q2.le
       omega
theorem run_end : (∀ t, lk tmf t = atL (Wt l ms) (lk tm) all_ l.length t) ∧ (∀ n, lk Sf n = atL (Ws ms) (lk S) all_ l.length n) := by
 obtain ⟨g1, g2, g3, g4, g5⟩ := run_get l tm S nx ms tmf Sf nxf hr
 cases hl : l.length with
 | zero =>
   have := List.eq_nil_of_length_eq_zero hl
   obtain ⟨e1, e2, _⟩ := g4 this
   exact ⟨fun t => by rw [e1]; rfl, fun n => by rw [e2]; rfl⟩
 | succ k =>
   have hk : k < l.length := by omega
   obtain ⟨m0, tm1, S1, q1, q2, q3, q4, q5, q6⟩ := g5 k l[k] (List.getElem?_eq_getElem hk)
   obtain ⟨e1, e2, e3⟩ := q6 (by omega)
   obtain ⟨f1, f2, f3⟩ := run_at hr k m0 q1
   refine ⟨fun t => ?_, fun n => ?_⟩
   · rw [e1, q2.tm', run_step (List.getElem?_eq_getElem hk) q1, f1]
     simp [atL, all_]
   · rw [e2, q2.S', lk_ap, f2]
     have hws : Ws ms k n = lk m0.out n := by simp only [Ws, q1]
     simp only [atL, all_, if_true, hws]
     cases lk m0.out n <;> rfl
end
theorem edgesB_get : ∀ {l : List Oper} {k : Nat}, edgesB l k = true → ∀ (j : Nat) (o : Oper), l[j]? = some o → ∀ e ∈ o.after.toList, Region.binds .any e = true → e.on < k + j
 | [], k, h, j, o, hj => by simp at hj
 | o0 :: r, k, h, j, o, hj => by
   simp only [edgesB, Bool.and_eq_true] at h
   obtain ⟨h1, h2⟩ := h
   cases j with
   | zero =>
     simp at hj
     subst hj
     intro e he hb
     have := List.all_eq_true.1 h1 e he
     simp only [Bool.or_eq_true, Bool.not_eq_true'] at this
     rcases this with h | h
     · rw [hb] at h; cases h
     · exact Nat.le_of_ble_eq_true h
   | succ j =>
     intro e he hb
     have := edgesB_get h2 j o (by simpa using hj) e he hb
     omega
theorem draw_sound {Q : Exit → Act → World → Prop} {tm : Tm} {S : Store} {nx : Nat} {ms : List Mk} {tmf : Tm} {Sf : Store} {nxf : Nat} (hQ : ∀ a w ρ, R E cx tmf Sf a w ρ → Fresh nxf ρ → Q .normal a w)
   (hr : Run E ops ops.toList tm S nx ms tmf Sf nxf) (hd : drawB ops (ms.map (·.fp)) = true) (hok : opersOk cx.N ops.toList = true) {a : Act} {w : World} {ρ : Nat → Option Value} (h : R E cx tm S a w ρ) (hf : Fresh nx ρ) :
   wpAny E.P .any ops Q ops.size (Array.replicate ops.size false) a w := by
 obtain ⟨g1, g2, g3, g4, g5⟩ := run_get ops.toList tm S nx ms tmf Sf nxf hr
 simp only [drawB, Bool.and_eq_true] at hd
 obtain ⟨⟨hed, _⟩, hcl⟩ := hd
 have hlen : ops.toList.length = ops.size := by simp
 have ho_of : ∀ (i : Nat) (o : Oper), ops[i]? = some o → ops.toList[i]? = some o := fun i o h => by simpa using h
 have hbits := aheads_spec ops.toList []
 simp only [List.length_nil, Nat.zero_add] at hbits
 have hbit : ∀ (j : Nat) (o : Oper), ops[j]? = some o → ∀ i, bitAt ((aheads ops.toList []).getD j 0) i = true → ∃ e ∈ o.after.toList, Region.binds .any e = true ∧ (i = e.on ∨ bitAt ((aheads ops.toList []).getD e.on 0) i = true) :=
  fun j o ho => hbits.2.2 j o (ho_of j o ho) (fun e he hb => by have := edgesB_get hed j o (ho_of j o ho) e he hb; omega)
 have hclear : ∀ (i j : Nat) (oi oj : Oper) (mi mj : Mk), i < j → ops[i]? = some oi → ops[j]? = some oj → ms[i]? = some mi → ms[j]? = some mj →
    bitAt ((aheads ops.toList []).getD j 0) i = true ∨ ((∀ n, n ∈ mj.fp.wr → n ∉ mi.fp.all) ∧ (∀ n, n ∈ mi.fp.wr → n ∉ mj.fp.all) ∧ (∀ t, oj.dst = some t → t ∉ mentions ops oi) ∧ ∀ t, oi.dst = some t → t ∉ mentions ops oj) := by
  intro i j oi oj mi mj hij hoi hoj hmi hmj
  have h1 := clearAll_get hcl rfl j oj mj.fp (ho_of j oj hoj) (by simp [hmj])
  have h2 := clearOf_get h1 i mi.fp (mentions ops oi) oi.dst (by
   have hz : (ops.toList.zip (ms.map (·.fp)))[i]? = some (oi, mi.fp) := by
    rw [List.getElem?_zip_eq_some]
    exact ⟨ho_of i oi hoi, by simp [hmi]⟩
   simp only [List.nil_append, List.getElem?_map]
   rw [List.getElem?_take, if_pos hij, hz]
   rfl)
  simpa using h2
 have key : ∀ (fuel : Nat) (listed : Array Bool) (a : Act) (w : World), listed.size = ops.size → (∀ j, listed.getD j false = true → ∀ i, bitAt ((aheads ops.toList []).getD j 0) i = true → listed.getD i false = true) →
    cntL (fun i => listed.getD i false) ops.size ≤ fuel →
    (∃ TM ST ρ, R E cx TM ST a w ρ ∧ (∀ t, lk TM t = atL (Wt ops.toList ms) (lk tm) (fun i => listed.getD i false) ops.size t) ∧ (∀ n, lk ST n = atL (Ws ms) (lk S) (fun i => listed.getD i false) ops.size n) ∧
      (∀ i m, ms[i]? = some m → listed.getD i false = false → ∀ k, m.nx ≤ k → k < m.nx' → ρ k = none) ∧ ∀ k, nxf ≤ k → ρ k = none) → wpAny E.P .any ops Q fuel listed a w := by
  intro fuel
  induction fuel with
  | zero =>
    intro listed a w hsz hdc hcnt hst
    have hall := cntL_zero (L := fun i => listed.getD i false) ops.size (by omega)
    refine ⟨?_, ?_⟩
    · cases hrd : Region.ready .any ops listed with
      | nil => rfl
      | cons i r =>
        have hi : i ∈ Region.ready .any ops listed := by rw [hrd]; simp
        obtain ⟨h1, o, h2, _⟩ := mem_ready.1 hi
        have hlt : i < ops.size := (Array.getElem?_eq_some_iff.1 h2).1
        have := hall i hlt
        have hls : i < listed.size := by omega
        simp [Array.getD, hls] at h1 this
        rw [h1] at this
        cases this
    · obtain ⟨TM, ST, ρ, q1, q2, q3, q4, q5⟩ := hst
      have e := run_end hr
      rw [hlen] at e
      refine hQ a w ρ (q1.ext (fun t => ?_) (fun n => ?_)) q5
      · rw [e.1, q2]; exact (atL_upto (fun m hm _ => hall m hm) _ (Nat.le_refl _)).symm
      · rw [e.2, q3]; exact (atL_upto (fun m hm _ => hall m hm) _ (Nat.le_refl _)).symm
  | succ fuel ih =>
    intro listed a w hsz hdc hcnt hst
    constructor
    · intro hrd
      have hall : ∀ i, i < ops.size → listed.getD i false = true := by
       intro i
       induction i using Nat.strongRecOn with
       | _ i ihi =>
         intro hi
         cases hl : listed.getD i false with
         | true => rfl
         | false =>
           have hls : i < listed.size := by omega
           have ho : ops[i]? = some ops[i] := by simp [hi]
           have : i ∈ Region.ready .any ops listed := by
            refine mem_ready.2 ⟨?_, ops[i], ho, fun e he hb => ?_⟩
            · simp [Array.getD, hls] at hl ⊢; exact hl
            · have hlt := edgesB_get hed i ops[i] (ho_of i _ ho) e (by simpa using he) hb
              exact ihi e.on (by omega) (by omega)
           rw [hrd] at this
           cases this
      obtain ⟨TM, ST, ρ, q1, q2, q3, q4, q5⟩ := hst
      have e := run_end hr
      rw [hlen] at e
      refine hQ a w ρ (q1.ext (fun t => ?_) (fun n => ?_)) q5
      · rw [e.1, q2]; exact (atL_upto (fun m hm _ => hall m hm) _ (Nat.le_refl _)).symm
      · rw [e.2, q3]; exact (atL_upto (fun m hm _ => hall m hm) _ (Nat.le_refl _)).symm
    · intro i hi
      obtain ⟨h1, o, ho, hedges⟩ := mem_ready.1 hi
      have hlt : i < ops.size := (Array.getElem?_eq_some_iff.1 ho).1
      have hls : i < listed.size := by omega
      have hLi : listed.getD i false = false := by simp [Array.getD, hls] at h1 ⊢; exact h1
      obtain ⟨TM, ST, ρ, q1, q2, q3, q4, q5⟩ := hst
      obtain ⟨m, tm1, S1, hm, hs, hnx, hnx', _, _⟩ := g5 i o (ho_of i o ho)
      obtain ⟨f1, f2, f3⟩ := run_at hr i m hm
      have hahead : ∀ j, bitAt ((aheads ops.toList []).getD i 0) j = true → listed.getD j false = true := by
       intro j hj
       obtain ⟨e, he, hb, hor⟩ := hbit i o ho j hj
       have hle := hedges e (by simpa using he) hb
       rcases hor with rfl | hor
       · exact hle
       · exact hdc e.on hle j hor
      have hbehind : ∀ j, bitAt ((aheads ops.toList []).getD j 0) i = true → listed.getD j false = false := by
       intro j hj
       cases hl : listed.getD j false with
       | false => rfl
       | true => rw [hdc j hl i hj] at hLi; cases hLi
      have wS : ∀ (j : Nat) (mj : Mk) (n : Nat), ms[j]? = some mj → (Ws ms j n).isSome → n ∈ mj.fp.wr := by
       intro j mj n hj hw
       simp only [Ws, hj] at hw
       have hjl : j < ops.toList.length := by rw [← g1]; exact (List.getElem?_eq_some_iff.1 hj).1
       obtain ⟨m', _, _, e1, e2, _⟩ := g5 j _ (List.getElem?_eq_getElem hjl)
       rw [hj] at e1
       cases e1
       exact e2.wr n (by intro hn; rw [hn] at hw; cases hw)
      have wT : ∀ (j : Nat) (oj : Oper) (t : Nat), ops[j]? = some oj → (Wt ops.toList ms j t).isSome → oj.dst = some t := by
       intro j oj t hj hw
       simp only [Wt, ho_of j oj hj] at hw
       cases hmj : ms[j]? with
       | none => rw [hmj] at hw; simp at hw
       | some mj =>
         rw [hmj] at hw
         simp only at hw
         by_cases e : oj.dst = some t
         · exact e
         · rw [if_neg e] at hw; cases hw
      have sub_of : ∀ (j : Nat) (mj : Mk) (n : Nat), ms[j]? = some mj → n ∈ mj.fp.wr → n ∈ mj.fp.all := by
       intro j mj n hj hn
       have hjl : j < ops.toList.length := by rw [← g1]; exact (List.getElem?_eq_some_iff.1 hj).1
       obtain ⟨m', _, _, e1, e2, _⟩ := g5 j _ (List.getElem?_eq_getElem hjl)
       rw [hj] at e1
       cases e1
       exact e2.sub n hn
      have dst_men : ∀ (oj : Oper) t, oj.dst = some t → t ∈ mentions ops oj := by
       intro oj t ht
       unfold mentions
       rw [ht]
       simp
      have noneOr : ∀ {β : Type} (x : Option β), x.isSome = true ∨ x = none := by intro β x; cases x <;> simp
      have ms_of : ∀ j, j < ops.size → ∃ mj, ms[j]? = some mj := by
       intro j hj
       exact ⟨_, List.getElem?_eq_getElem (by rw [g1, hlen]; exact hj)⟩
      have ops_of : ∀ j, j < ops.size → ∃ oj, ops[j]? = some oj := fun j hj => ⟨ops[j], by simp [hj]⟩
      have rdT : ∀ t, t ∈ mentions ops o → lk TM t = lk m.tm t := by
       intro t ht
       rw [q2, f1]
       refine atL_ready (Nat.le_of_lt hlt) (fun j hj hw => ?_) (fun j h1 h2 hl => ?_)
       · obtain ⟨oj, hoj⟩ := ops_of j (by omega)
         obtain ⟨mj, hmj⟩ := ms_of j (by omega)
         have hdj := wT j oj t hoj hw
         rcases hclear j i oj o mj m hj hoj ho hmj hm with hb | ⟨_, _, _, c4⟩
         · exact hahead j hb
         · exact absurd ht (c4 t hdj)
       · rcases noneOr (Wt ops.toList ms j t) with hw | hw
         · obtain ⟨oj, hoj⟩ := ops_of j h2
           obtain ⟨mj, hmj⟩ := ms_of j h2
           have hdj := wT j oj t hoj hw
           by_cases e : j = i
           · subst e; replace hl : listed.getD _ false = true := hl; rw [hLi] at hl; cases hl
           · rcases hclear i j o oj m mj (by omega) ho hoj hm hmj with hb | ⟨_, _, c3, _⟩
             · replace hl : listed.getD _ false = true := hl; rw [hbehind j hb] at hl; cases hl
             · exact absurd ht (c3 t hdj)
         · exact hw
      have rdS : ∀ n, n ∈ m.fp.all → lk ST n = lk m.S n := by
       intro n hn
       rw [q3, f2]
       refine atL_ready (Nat.le_of_lt hlt) (fun j hj hw => ?_) (fun j h1 h2 hl => ?_)
       · obtain ⟨oj, hoj⟩ := ops_of j (by omega)
         obtain ⟨mj, hmj⟩ := ms_of j (by omega)
         have hdj := wS j mj n hmj hw
         rcases hclear j i oj o mj m hj hoj ho hmj hm with hb | ⟨_, c2, _, _⟩
         · exact hahead j hb
         · exact absurd hn (c2 n hdj)
       · rcases noneOr (Ws ms j n) with hw | hw
         · obtain ⟨oj, hoj⟩ := ops_of j h2
           obtain ⟨mj, hmj⟩ := ms_of j h2
           have hdj := wS j mj n hmj hw
           by_cases e : j = i
           · subst e; replace hl : listed.getD _ false = true := hl; rw [hLi] at hl; cases hl
           · rcases hclear i j o oj m mj (by omega) ho hoj hm hmj with hb | ⟨c1, _, _, _⟩
             · replace hl : listed.getD _ false = true := hl; rw [hbehind j hb] at hl; cases hl
             · exact absurd hn (c1 n hdj)
         · exact hw
      have hL' : (fun j => (listed.setIfInBounds i true).getD j false) = setL (fun j => listed.getD j false) i := by
       funext j
       by_cases e : j = i
       · subst e
         simp [setL, Array.getD, hls]
       · rw [getD_set_ne false (Ne.symm e)]
         simp [setL, e]
      have next : ∀ (a' : Act) (w' : World) (ρ' : Nat → Option Value), R E cx (put o.dst m.d TM) (ap m.out ST) a' w' ρ' → (∀ n, ¬ (m.nx ≤ n ∧ n < m.nx') → ρ n = none → ρ' n = none) → wpAny E.P .any ops Q fuel (listed.setIfInBounds i true) a' w' := by
       intro a' w' ρ' hR hρ
       refine ih _ a' w' (by simp [hsz]) (fun j hj k hk => ?_) ?_ ⟨_, _, ρ', hR, fun t => ?_, fun n => ?_, fun j mj hmj hlj k k1 k2 => ?_, fun k hk => ?_⟩
       · have e1 := congrFun hL' j
         have e2 := congrFun hL' k
         rw [e1] at hj
         rw [e2]
         simp only [setL] at hj ⊢
         by_cases ek : k = i
         · simp [ek]
         · rw [if_neg ek]
           by_cases ej : j = i
           · subst ej; exact hahead k hk
           · rw [if_neg ej] at hj; exact hdc j hj k hk
       · rw [hL']
         have := cntL_set (L := fun j => listed.getD j false) hLi ops.size hlt
         omega
       · rw [hL', lk_put]
         have hset := atL_set (W := Wt ops.toList ms) (base := lk tm) (L := fun j => listed.getD j false) (c := t) hlt hLi (fun hw j h1 h2 hl => by
          rcases noneOr (Wt ops.toList ms j t) with hwj | hwj
          · obtain ⟨oj, hoj⟩ := ops_of j h2
            obtain ⟨mj, hmj⟩ := ms_of j h2
            have d1 := wT i o t ho hw
            have d2 := wT j oj t hoj hwj
            rcases hclear i j o oj m mj h1 ho hoj hm hmj with hb | ⟨_, _, c3, _⟩
            · replace hl : listed.getD _ false = true := hl; rw [hbehind j hb] at hl; cases hl
            · exact absurd (dst_men o t d1) (c3 t d2)
          · exact hwj)
         rw [hset, ← q2]
         simp only [Wt, ho_of i o ho, hm]
         by_cases e : o.dst = some t <;> simp [e]
       · rw [hL', lk_ap]
         have hset := atL_set (W := Ws ms) (base := lk S) (L := fun j => listed.getD j false) (c := n) hlt hLi (fun hw j h1 h2 hl => by
          rcases noneOr (Ws ms j n) with hwj | hwj
          · obtain ⟨oj, hoj⟩ := ops_of j h2
            obtain ⟨mj, hmj⟩ := ms_of j h2
            have d1 := wS i m n hm hw
            have d2 := wS j mj n hmj hwj
            rcases hclear i j o oj m mj h1 ho hoj hm hmj with hb | ⟨c1, _, _, _⟩
            · replace hl : listed.getD _ false = true := hl; rw [hbehind j hb] at hl; cases hl
            · exact absurd (sub_of i m n hm d1) (c1 n d2)
          · exact hwj)
         rw [hset, ← q3]
         have : Ws ms i n = lk m.out n := by simp only [Ws, hm]
         rw [this]
         cases lk m.out n <;> rfl
       · have hji : j ≠ i := by
           rintro rfl
           have := congrFun hL' j
           rw [this] at hlj
           simp [setL] at hlj
         have hlj' : listed.getD j false = false := by rw [getD_set_ne false (Ne.symm hji)] at hlj; exact hlj
         have hout : ¬ (m.nx ≤ k ∧ k < m.nx') := by
          rintro ⟨p1, p2⟩
          rcases Nat.lt_or_gt_of_ne hji with hlt2 | hgt
          · have := f3 j mj hlt2 hmj
            omega
          · have := (run_at hr j mj hmj).2.2 i m hgt hm
            omega
         exact hρ k hout (q4 j mj hmj hlj' k k1 k2)
       · exact hρ k (by omega) (q5 k hk)
      have hdst := operOk_dst (N := cx.N) (o := o) (by
       have all : ∀ (l : List Oper), opersOk cx.N l = true → ∀ o ∈ l, operOk cx.N o = true := by
        intro l
        induction l with
        | nil => intro _ o h; cases h
        | cons p r ih =>
          intro h o ho
          simp only [opersOk, Bool.and_eq_true] at h
          rcases List.mem_cons.1 ho with rfl | ho
          · exact h.1
          · exact ih h.2 o ho
       exact all _ hok o (List.mem_of_getElem? (ho_of i o ho)))
      have hwant : wantedA ops o TM = some m.go := by
       rw [← hs.want]
       unfold wantedA
       cases hg : o.guard with
       | none => rfl
       | some g =>
         obtain ⟨j, want⟩ := g
         simp only
         cases hj : (ops[j]?).bind (·.dst) with
         | none => rfl
         | some t =>
           simp only
           rw [rdT t (by unfold mentions; rw [hg]; simp only [hj]; simp)]
      have hwv := wanted_of q1 hwant
      show wpOp E.P ops Q i _ a w
      unfold wpOp
      rw [ho]
      simp only [hwv]
      cases hgo : m.go with
      | true =>
        rw [if_pos rfl]
        left
        have hst := hs.run hgo cx TM ST a w ρ Q hdst (fun x hx => by
         cases x with
         | tmp t =>
           simp only [ev]
           refine rdT t ?_
           unfold mentions
           simp only [List.mem_append, List.mem_filterMap]
           exact .inr ⟨.tmp t, by simpa using hx, rfl⟩
         | _ => rfl) rdS q1 (fun n n1 n2 => q4 i m hm hLi n n1 n2)
        exact Oper.wp_mono (fun a' w' hn => let ⟨ρ', k1, k2⟩ := hn; next a' w' ρ' k1 k2) hst
      | false =>
        rw [if_neg (by simp)]
        obtain ⟨k1, k2, k3⟩ := hs.skip hgo
        refine next _ w ρ ?_ (fun _ _ h => h)
        rw [k1, k2]
        exact q1.value hdst VR.undef
 refine key ops.size (Array.replicate ops.size false) a w (by simp) (fun j hj => ?_) ?_ ⟨tm, S, ρ, h, fun t => ?_, fun n => ?_, fun i m hm _ k k1 k2 => hf k ?_, fun k hk => hf k (by omega)⟩
 · rw [getD_replicate] at hj; cases hj
 · have : ∀ n, cntL (fun i => (Array.replicate ops.size false).getD i false) n ≤ n := by
     intro n
     induction n with
     | zero => simp [cntL]
     | succ n ih => simp only [cntL]; split <;> omega
   exact this _
 · have : ∀ n, atL (Wt ops.toList ms) (lk tm) (fun i => (Array.replicate ops.size false).getD i false) n t = lk tm t := by
     intro n
     induction n with
     | zero => rfl
     | succ n ih => simp only [atL, getD_replicate, Bool.false_eq_true, if_false] at ih ⊢; exact ih
   exact (this _).symm
 · have : ∀ k, atL (Ws ms) (lk S) (fun i => (Array.replicate ops.size false).getD i false) k n = lk S n := by
     intro k
     induction k with
     | zero => rfl
     | succ k ih => simp only [atL, getD_replicate, Bool.false_eq_true, if_false] at ih ⊢; exact ih
   exact (this _).symm
 · have hi : i < ops.toList.length := by rw [← g1]; exact (List.getElem?_eq_some_iff.1 hm).1
   obtain ⟨m', _, _, e1, _, e3, _⟩ := g5 i _ (List.getElem?_eq_getElem hi)
   rw [hm] at e1
   cases e1
   omega
where
 getD_replicate {n j : Nat} : (Array.replicate n false).getD j false = false := by
  simp only [Array.getD]
  split <;> simp
end
end Go.Ab
namespace Go.Ab
open Go Go.RowKit
section
variable {E : Env} {cx : Cx} {tm : Tm} {S : Store} {nx : Nat} {a : Act} {w : World} {ρ : Nat → Option Value}
theorem preB_get : ∀ {k i : Nat} {ns : List Nat}, preB i k ns = true → ∀ j, j < k → ns[j]? = some (i + j)
 | 0, i, ns, h, j, hj => by omega
 | k + 1, i, [], h, j, hj => by simp [preB] at h
 | k + 1, i, n :: r, h, j, hj => by
   simp only [preB, Bool.and_eq_true] at h
   cases j with
   | zero => simp; exact Nat.eq_of_beq_eq_true h.1
   | succ j =>
     have := preB_get h.2 j (by omega)
     simp only [List.getElem?_cons_succ, this]
     congr 1
     omega
theorem lk_carS (ns : List Nat) (S : Store) : ∀ (l : List Nat) (k i : Nat), lk (carS ns S l k) i = if k ≤ i then ((l[i - k]?).bind (lk S)).map (carB ns) else none
 | [], k, i => by simp [carS, lk]
 | n :: r, k, i => by
   have ih := lk_carS ns S r (k + 1) i
   have step : i ≠ k → (if k ≤ i then (((n :: r)[i - k]?).bind (lk S)).map (carB ns) else none) = lk (carS ns S r (k + 1)) i := by
    intro hne
    rw [ih]
    by_cases hk : k + 1 ≤ i
    · rw [if_pos hk, if_pos (by omega)]
      have : i - k = (i - (k + 1)) + 1 := by omega
      rw [this]
      simp
    · rw [if_neg hk, if_neg (by omega)]
   simp only [carS]
   cases hl : lk S n with
   | none =>
     simp only
     by_cases hik : i = k
     · subst hik
       rw [ih, if_neg (by omega)]
       simp [hl]
     · rw [step hik]
   | some b =>
     simp only [lk_cons]
     by_cases hik : i = k
     · subst hik
       simp [hl]
     · rw [if_neg (Ne.symm hik), step hik]
theorem carZ_an {ns : List Nat} {zs : List Slot} {i : Nat} {xs : List (List D)} : (zs.map (carZ ns))[i]? = some (.an xs) ↔ zs[i]? = some (.an xs) := by
 rw [List.getElem?_map, Option.map_eq_some_iff]
 constructor
 · rintro ⟨z, hz, e⟩
   cases z with
   | an ys => simp [carZ] at e; rw [hz, e]
   | nm a => simp only [carZ] at e; split at e <;> cases e
   | lost => simp [carZ] at e
 · intro h
   exact ⟨_, h, rfl⟩
theorem bk_carB {ns : List Nat} {b : Blk} {o : Option Value} {x : Nat} : bk (carB ns b) o x ↔ bk b o x := by
 cases b <;> first | exact Iff.rfl | skip
 simp only [carB, bk, carZ_an]
theorem live_carB (ns : List Nat) (b : Blk) : live (carB ns b) = live b := by cases b <;> rfl
theorem held_car {ns : List Nat} {x : Nat} (h : Held (carS ns S ns 0) (carρ ns ρ) x) : ∃ (i n : Nat) (b : Blk), ns[i]? = some n ∧ lk S n = some b ∧ live b = true ∧ bk b (ρ n) x := by
 obtain ⟨i, b, hl, hlv, hx⟩ := h
 rw [lk_carS, if_pos (Nat.zero_le _)] at hl
 simp only [Nat.sub_zero] at hl
 cases hn : ns[i]? with
 | none => rw [hn] at hl; simp at hl
 | some n =>
   rw [hn] at hl
   simp only [Option.bind_some, Option.map_eq_some_iff] at hl
   obtain ⟨b0, h1, rfl⟩ := hl
   rw [live_carB] at hlv
   have e : carρ ns ρ i = ρ n := by simp [carρ, hn]
   rw [e] at hx
   exact ⟨i, n, b0, hn, h1, hlv, bk_carB.1 hx⟩
theorem VA.car {Av Av' : Nat → Prop} {ns : List Nat} (hi : ∀ d u, VI w Av d u → VI w Av' d u) {d d' : D} {u : Value} (h : VA w Av ρ d u) (hc : carA ns d = some d') : VA w Av' (carρ ns ρ) d' u := by
 cases h with
 | im h =>
   cases h with
   | fn f =>
     simp only [carA, posAll, Option.some.injEq] at hc
     subst hc
     exact .im (.fn f)
   | b => simp [carA] at hc; subst hc; exact .im (hi _ _ (.b _))
   | k => simp [carA] at hc; subst hc; exact .im (hi _ _ (.k _ _))
   | s => simp [carA] at hc; subst hc; exact .im (hi _ _ (.s _))
   | v h => simp [carA] at hc; subst hc; exact .im (hi _ _ (.v h))
   | nil => simp [carA] at hc; subst hc; exact .im (hi _ _ .nil)
   | sl0 => simp [carA] at hc; subst hc; exact .im (hi _ _ .sl0)
   | sl U a1 a2 a3 a4 a5 a6 a7 a8 a9 => simp [carA] at hc; subst hc; exact .im (hi _ _ (.sl U a1 a2 a3 a4 a5 a6 a7 a8 a9))
   | ep U a1 a2 a3 a4 a5 => simp [carA] at hc; subst hc; exact .im (hi _ _ (.ep U a1 a2 a3 a4 a5))
   | agg hl h1 hr => simp [carA] at hc; subst hc; exact .im (hi _ _ (.agg hl h1 hr))
 | own h h1 =>
   simp only [carA] at hc
   split at hc
   · rename_i i hp
     cases hc
     exact .own ((nmv_eq (by simp [carρ, posOf_get hp])).trans h) h1
   · cases hc
 | bp h =>
   simp only [carA] at hc
   split at hc
   · rename_i i hp
     cases hc
     exact .bp (by simp [carρ, posOf_get hp, h])
   · cases hc
 | op h => simp [carA] at hc
 | vw => simp [carA] at hc
 | @fn f cs us hl h =>
   simp only [carA] at hc
   split at hc
   · rename_i qs hq
     cases hc
     obtain ⟨q1, q2⟩ := posAll_get hq
     refine .fn (by rw [q1, hl]) fun i m u hm hu => ?_
     have hlt : i < cs.length := by rw [← q1]; exact (List.getElem?_eq_some_iff.1 hm).1
     obtain ⟨h1, h2⟩ := h i cs[i] u (List.getElem?_eq_getElem hlt) hu
     exact ⟨by simp [carρ, q2 i cs[i] m (List.getElem?_eq_getElem hlt) hm, h1], h2⟩
   · cases hc
 | junk h1 => simp [carA] at hc
theorem carAs_spec (ns : List Nat) : ∀ (ds : List D), (carAs ns ds).length = ds.length ∧ ∀ (i : Nat) (d' : D), (carAs ns ds)[i]? = some d' → ∃ d, ds[i]? = some d ∧ (carA ns d = some d' ∨ d' = .junk)
 | [] => by simp [carAs]
 | d :: r => by
   obtain ⟨i1, i2⟩ := carAs_spec ns r
   simp only [carAs]
   split
   · rename_i d1 hd1
     refine ⟨by simp [i1], fun i d' h => ?_⟩
     cases i with
     | zero => simp at h; subst h; exact ⟨d, rfl, .inl hd1⟩
     | succ i => simpa using i2 i d' (by simpa using h)
   · refine ⟨by simp [i1], fun i d' h => ?_⟩
     cases i with
     | zero => simp at h; subst h; exact ⟨d, rfl, .inr rfl⟩
     | succ i => simpa using i2 i d' (by simpa using h)
theorem cells_car {Av Av' : Nat → Prop} {ns : List Nat} (hi : ∀ d u, VI w Av d u → VI w Av' d u) {ds : List D} {us : List Value} (h1 : ∀ u ∈ us, u.oneCell' = true)
   (h : ∀ (i : Nat) (d : D) (u : Value), ds[i]? = some d → us[i]? = some u → VA w Av ρ d u) :
   ∀ (i : Nat) (d : D) (u : Value), (carAs ns ds)[i]? = some d → us[i]? = some u → VA w Av' (carρ ns ρ) d u := by
 intro i d' u hd hu
 obtain ⟨d, e1, e2⟩ := (carAs_spec ns ds).2 i d' hd
 rcases e2 with e2 | rfl
 · exact (h i d u e1 hu).car hi e2
 · exact .junk (h1 _ (List.mem_of_getElem? hu))
theorem VG.car {Av Av' : Nat → Prop} {ns : List Nat} (hi : ∀ d u, VI w Av d u → VI w Av' d u) {d d' : D} {u : Value} (h : VG w Av ρ d u) (hc : carD ns d = some d') : VG w Av' (carρ ns ρ) d' u := by
 by_cases ha : ∃ ds, d = .agg ds
 · obtain ⟨ds, rfl⟩ := ha
   simp only [carD, Option.some.injEq] at hc
   subst hc
   obtain ⟨us, rfl, hl, h1, hr⟩ := (VR.gr h).agg_inv
   exact .agg (by rw [(carAs_spec ns ds).1]; exact hl) h1 (cells_car hi h1 hr)
 · have hd : carD ns d = carA ns d ∨ carD ns d = none := by cases d <;> first | exact .inl rfl | exact .inr rfl | exact absurd ⟨_, rfl⟩ ha
   rcases hd with hd | hd
   · rw [hd] at hc
     cases h with
     | atom h => exact .atom (h.car hi hc)
     | agg => exact absurd ⟨_, rfl⟩ ha
   · rw [hd] at hc; cases hc
theorem VR.car {Av Av' : Nat → Prop} {ns : List Nat} (hi : ∀ d u, VI w Av d u → VI w Av' d u) {d d' : D} {u : Value} (h : VR w Av ρ d u) (hc : carD ns d = some d') : VG w Av' (carρ ns ρ) d' u := by
 cases h with
 | gr h => exact h.car hi hc
 | tup => simp [carD] at hc
theorem lk_carTm (ns : List Nat) : ∀ (ts : List Nat) (t : Nat) (d' : D), lk (carTm ns tm ts) t = some d' → ∃ d, lk tm t = some d ∧ carD ns d = some d'
 | [], t, d', h => by simp [carTm, lk] at h
 | t0 :: r, t, d', h => by
   simp only [carTm] at h
   split at h
   · rename_i d hd
     split at h
     · rename_i d1 hd1
       rw [lk_cons] at h
       by_cases e : t0 = t
       · subst e
         rw [if_pos rfl] at h
         cases h
         exact ⟨d, hd, hd1⟩
       · rw [if_neg e] at h
         exact lk_carTm ns r t d' h
     · exact lk_carTm ns r t d' h
   · exact lk_carTm ns r t d' h
theorem R.carry (h : R E cx tm S a w ρ) (ts : List Nat) {ns : List Nat} (hn : nodupB ns = true) (hp : preB 0 cx.k0 ns = true) :
   R E cx (carTm ns tm ts) (carS ns S ns 0) a w (carρ ns ρ) ∧ ∀ d u, VI w (AvS cx.G S ρ) d u → VI w (AvS cx.G (carS ns S ns 0) (carρ ns ρ)) d u := by
 have hheld : ∀ x, Held (carS ns S ns 0) (carρ ns ρ) x → Held S ρ x := fun x hx => let ⟨i, n, b, _, h2, h3, h4⟩ := held_car hx; ⟨n, b, h2, h3, h4⟩
 have hi : ∀ d u, VI w (AvS cx.G S ρ) d u → VI w (AvS cx.G (carS ns S ns 0) (carρ ns ρ)) d u := fun d u hv =>
  hv.mono (fun _ _ _ => rfl) (Nat.le_refl _) fun x _ hav => hav.imp id (hheld x)
 have look : ∀ i b, lk (carS ns S ns 0) i = some b → ∃ n b0, ns[i]? = some n ∧ lk S n = some b0 ∧ b = carB ns b0 := by
  intro i b hl
  rw [lk_carS, if_pos (Nat.zero_le _)] at hl
  simp only [Nat.sub_zero] at hl
  cases hn : ns[i]? with
  | none => rw [hn] at hl; simp at hl
  | some n =>
    rw [hn] at hl
    simp only [Option.bind_some, Option.map_eq_some_iff] at hl
    obtain ⟨b0, h1, h2⟩ := hl
    exact ⟨n, b0, rfl, h1, h2.symm⟩
 refine ⟨⟨fun t d' ht => ?_, fun i b hl => ?_, ?_, fun x hx => h.new x (hheld x hx), fun t u ht hu => ?_, fun g cs hg => hi _ _ (h.gl g cs hg), h.fr, h.g, h.gf, h.defers, h.num⟩, hi⟩
 · obtain ⟨d, e1, e2⟩ := lk_carTm ns ts t d' ht
   exact .gr ((h.tm t d e1).car hi e2)
 · obtain ⟨n, b0, e1, e2, rfl⟩ := look i b hl
   have hρ : carρ ns ρ i = ρ n := by simp [carρ, e1]
   cases b0 with
   | box e cs =>
     obtain ⟨g, us, f1, f2, f3, f4, f5⟩ := h.st n _ e2
     exact ⟨g, us, by rw [hρ]; exact f1, f2, by rw [(carAs_spec ns cs).1]; exact f3, f4, cells_car hi f4 f5⟩
   | own e xs =>
     obtain ⟨u, us, f1, f2, f3⟩ := h.st n _ e2
     exact ⟨u, us, by rw [hρ]; exact f1, f2, f3.mono hi⟩
   | row e xs =>
     obtain ⟨u, us, f1, f2, f3⟩ := h.st n _ e2
     refine ⟨u, us, by rw [hρ]; exact f1, by rw [List.length_map]; exact f2, ⟨by rw [List.length_map]; exact f3.len, fun cs hcs => ?_, f3.one, fun i' j cs d p q => ?_⟩⟩
     · obtain ⟨cs0, h0, rfl⟩ := List.mem_map.1 hcs
       rw [(carAs_spec ns cs0).1]; exact f3.el cs0 h0
     · simp only [List.getElem?_map, Option.map_eq_some_iff] at p
       obtain ⟨cs0, h0, rfl⟩ := p
       obtain ⟨d0, e3, e4⟩ := (carAs_spec ns cs0).2 j d q
       obtain ⟨u', g1, g2⟩ := f3.at_ i' j cs0 d0 h0 e3
       refine ⟨u', g1, ?_⟩
       rcases e4 with e4 | rfl
       · exact g2.car hi e4
       · exact .junk (f3.one _ (List.mem_of_getElem? g1))
   | fr xs =>
     obtain ⟨u, f1, f2⟩ := h.st n _ e2
     exact ⟨u, (nmv_eq hρ).trans f1, hi _ _ f2⟩
   | deep e e2 zs =>
     obtain ⟨u, vs, us, hd⟩ := h.st n _ e2
     refine ⟨u, vs, us, by rw [hρ]; exact hd.name, by rw [List.length_map]; exact hd.lv, by rw [List.length_map]; exact hd.lu, by rw [List.length_map]; exact hd.own, hd.one, fun j z x v h1 h2 h3 => ?_, fun j xs v x h1 => hd.apart j xs v x (carZ_an.1 h1), fun j k xs ys v v' x h1 h2 => hd.dis j k xs ys v v' x (carZ_an.1 h1) (carZ_an.1 h2)⟩
     rw [List.getElem?_map, Option.map_eq_some_iff] at h1
     obtain ⟨z0, h1, rfl⟩ := h1
     have hs := hd.slot j z0 x v h1 h2 h3
     cases z0 with
     | an xs => exact ⟨hs.1, let ⟨ys, q1, q2⟩ := hs.2; ⟨ys, q1, q2.mono hi⟩⟩
     | nm a =>
       simp only [carZ]
       split
       · rename_i k hp
         exact (nmv_eq (by simp [carρ, posOf_get hp])).trans hs
       · trivial
     | lost => trivial
 · intro i j b b' x h1 h2 l1 l2 x1 x2
   obtain ⟨n, c, e1, e2, rfl⟩ := look i b h1
   obtain ⟨n', c', e1', e2', rfl⟩ := look j b' h2
   rw [live_carB] at l1 l2
   have := h.dis n n' c c' x e2 e2' l1 l2 (bk_carB.1 (by simpa [carρ, e1] using x1)) (bk_carB.1 (by simpa [carρ, e1'] using x2))
   subst this
   exact nodupB_get hn i j n e1 e1'
 · have := preB_get hp t ht
   simp only [Nat.zero_add] at this
   simp only [carρ, this, Option.bind_some]
   exact h.keep t u ht hu
theorem fresh_car (ns : List Nat) : Fresh ns.length (carρ ns ρ) := by
 intro n hn
 simp [carρ, List.getElem?_eq_none hn]
theorem VA.ice {Av Av' : Nat → Prop} {n : Nat} {xs : List (List D)} (hi : ∀ d u, VI w Av d u → VI w Av' d u) (hx : ∀ u, nmv ρ n = some u → VI w Av' (.sl xs) u) {d : D} {u : Value} (h : VA w Av ρ d u) : VA w Av' ρ (iceA n xs d) u := by
 cases h with
 | im h =>
   have : iceA n xs d = d := by cases h <;> rfl
   rw [this]
   exact .im (hi _ _ h)
 | own h h1 =>
   rename_i t
   simp only [iceA]
   split
   · rename_i hb
     have := Nat.eq_of_beq_eq_true hb
     subst this
     exact .im (hx _ h)
   · exact .own h h1
 | bp h => exact .bp h
 | op h => exact .op h
 | fn hl h => exact .fn hl h
 | vw h h1 h2 h3 h4 => exact .vw h h1 h2 h3 h4
 | junk h1 => exact .junk h1
theorem cells_ice {Av Av' : Nat → Prop} {n : Nat} {xs : List (List D)} (hi : ∀ d u, VI w Av d u → VI w Av' d u) (hx : ∀ u, nmv ρ n = some u → VI w Av' (.sl xs) u) {ds : List D} {us : List Value}
   (h : ∀ (i : Nat) (d : D) (u : Value), ds[i]? = some d → us[i]? = some u → VA w Av ρ d u) : ∀ (i : Nat) (d : D) (u : Value), (ds.map (iceA n xs))[i]? = some d → us[i]? = some u → VA w Av' ρ d u := by
 intro i d u hd hu
 simp only [List.getElem?_map, Option.map_eq_some_iff] at hd
 obtain ⟨e, he, rfl⟩ := hd
 exact (h i e u he hu).ice hi hx
theorem VG.ice {Av Av' : Nat → Prop} {n : Nat} {xs : List (List D)} (hi : ∀ d u, VI w Av d u → VI w Av' d u) (hx : ∀ u, nmv ρ n = some u → VI w Av' (.sl xs) u) {d : D} {u : Value} (h : VG w Av ρ d u) : VG w Av' ρ (iceD n xs d) u := by
 by_cases ha : ∃ ds, d = .agg ds
 · obtain ⟨ds, rfl⟩ := ha
   obtain ⟨us, rfl, hl, h1, hr⟩ := (VR.gr h).agg_inv
   exact .agg (by simpa using hl) h1 (cells_ice hi hx hr)
 · have hd : iceD n xs d = iceA n xs d := by cases d <;> first | rfl | exact absurd ⟨_, rfl⟩ ha
   rw [hd]
   cases h with
   | atom h => exact .atom (h.ice hi hx)
   | agg => exact absurd ⟨_, rfl⟩ ha
theorem VR.ice {Av Av' : Nat → Prop} {n : Nat} {xs : List (List D)} (hi : ∀ d u, VI w Av d u → VI w Av' d u) (hx : ∀ u, nmv ρ n = some u → VI w Av' (.sl xs) u) {d : D} {u : Value} (h : VR w Av ρ d u) : VR w Av' ρ (iceD n xs d) u := by
 cases h with
 | gr h => exact .gr (h.ice hi hx)
 | tup hl h => exact .tup hl fun i d u p q => (h i d u p q).mono hi (fun _ _ h => h)
theorem live_iceB (n : Nat) (xs : List (List D)) (b : Blk) : live (iceB n xs b) = live b := by cases b <;> rfl
theorem bk_iceB {n : Nat} {xs : List (List D)} {b : Blk} {o : Option Value} {x : Nat} : bk (iceB n xs b) o x ↔ bk b o x := by
 cases b <;> exact Iff.rfl
theorem R.ice (h0 : R E cx tm S a w ρ) {n : Nat} {xs : List (List D)} (hl0 : (lk S n).bind imB = some xs) :
   R E cx (tm.map fun (t, d) => (t, iceD n xs d)) ((del n S).map fun (t, b) => (t, iceB n xs b)) a w ρ := by
 have h := h0.frz1 hl0
 obtain ⟨u0, hr0, hv0⟩ := h.st n (.fr xs) (by rw [lk_ap, lk_cons, if_pos rfl])
 have look : ∀ t b, lk ((del n S).map fun (t, b) => (t, iceB n xs b)) t = some b → t ≠ n ∧ ∃ b0, lk (ap [(n, some (.fr xs))] S) t = some b0 ∧ b = iceB n xs b0 := by
  intro t b hl
  rw [lk_map, lk_del] at hl
  by_cases e : t = n
  · rw [if_pos e] at hl; simp at hl
  · rw [if_neg e] at hl
    simp only [Option.map_eq_some_iff] at hl
    obtain ⟨b0, h1, h2⟩ := hl
    refine ⟨e, b0, ?_, h2.symm⟩
    rw [lk_ap, lk_cons, if_neg (Ne.symm e)]
    exact h1
 have hheld : ∀ x, Held ((del n S).map fun (t, b) => (t, iceB n xs b)) ρ x → Held (ap [(n, some (.fr xs))] S) ρ x := by
  rintro x ⟨t, b, hl, hv, hx⟩
  obtain ⟨_, b0, h1, rfl⟩ := look t b hl
  rw [live_iceB] at hv
  exact ⟨t, b0, h1, hv, bk_iceB.1 hx⟩
 have hi : ∀ d u, VI w (AvS cx.G (ap [(n, some (.fr xs))] S) ρ) d u → VI w (AvS cx.G ((del n S).map fun (t, b) => (t, iceB n xs b)) ρ) d u := fun d u hv =>
  hv.mono (fun _ _ _ => rfl) (Nat.le_refl _) fun x _ hav => hav.imp id (hheld x)
 have hx : ∀ u, nmv ρ n = some u → VI w (AvS cx.G ((del n S).map fun (t, b) => (t, iceB n xs b)) ρ) (.sl xs) u := by
  intro u hu
  rw [hr0] at hu
  cases hu
  exact hi _ _ hv0
 refine ⟨fun t d ht => ?_, fun t b hl => ?_, fun t t' b b' x h1 h2 l1 l2 x1 x2 => ?_, fun x hx => h.new x (hheld x hx), h.keep, fun g cs hg => hi _ _ (h.gl g cs hg), h.fr, h.g, h.gf, h.defers, h.num⟩
 · rw [lk_map] at ht
   simp only [Option.map_eq_some_iff] at ht
   obtain ⟨d0, e1, rfl⟩ := ht
   exact (h.tm t d0 e1).ice hi hx
 · obtain ⟨_, b0, e1, rfl⟩ := look t b hl
   cases b0 with
   | box e cs =>
     obtain ⟨g, us, f1, f2, f3, f4, f5⟩ := h.st t _ e1
     exact ⟨g, us, f1, f2, by simpa using f3, f4, cells_ice hi hx f5⟩
   | own e ys =>
     obtain ⟨u, us, f1, f2, f3⟩ := h.st t _ e1
     exact ⟨u, us, f1, f2, f3.mono hi⟩
   | row e ys =>
     obtain ⟨u, us, f1, f2, f3⟩ := h.st t _ e1
     refine ⟨u, us, f1, by rw [List.length_map]; exact f2, ⟨by rw [List.length_map]; exact f3.len, fun cs hcs => ?_, f3.one, fun i' j cs d p q => ?_⟩⟩
     · obtain ⟨cs0, h0, rfl⟩ := List.mem_map.1 hcs
       rw [List.length_map]; exact f3.el cs0 h0
     · simp only [List.getElem?_map, Option.map_eq_some_iff] at p
       obtain ⟨cs0, h0, rfl⟩ := p
       simp only [List.getElem?_map, Option.map_eq_some_iff] at q
       obtain ⟨d0, h1, rfl⟩ := q
       obtain ⟨u', g1, g2⟩ := f3.at_ i' j cs0 d0 h0 h1
       exact ⟨u', g1, g2.ice hi hx⟩
   | fr ys =>
     obtain ⟨u, f1, f2⟩ := h.st t _ e1
     exact ⟨u, f1, hi _ _ f2⟩
   | deep e e2 zs =>
     obtain ⟨u, vs, us, hd⟩ := h.st t _ e1
     exact ⟨u, vs, us, hd.name, hd.lv, hd.lu, hd.own, hd.one, fun j z x v h1 h2 h3 => by
      have hs := hd.slot j z x v h1 h2 h3
      cases z with
      | an xs => exact ⟨hs.1, let ⟨ys, q1, q2⟩ := hs.2; ⟨ys, q1, q2.mono hi⟩⟩
      | nm a => exact hs
      | lost => trivial, hd.apart, hd.dis⟩
 · obtain ⟨_, c, e1, rfl⟩ := look t b h1
   obtain ⟨_, c', e2, rfl⟩ := look t' b' h2
   rw [live_iceB] at l1 l2
   exact h.dis t t' c c' x e1 e2 l1 l2 (bk_iceB.1 x1) (bk_iceB.1 x2)
theorem R.slot (h : R E cx tm S a w ρ) {t : Nat} {d : D} (hv : VR w (AvS cx.G S ρ) ρ d (a.tmps.getD t undef)) : R E cx ((t, d) :: tm) S a w ρ := by
 refine ⟨fun t' d' hd => ?_, h.st, h.dis, h.new, h.keep, h.gl, h.fr, h.g, h.gf, h.defers, h.num⟩
 rw [lk_cons] at hd
 by_cases e : t = t'
 · subst e
   rw [if_pos rfl] at hd
   cases hd
   exact hv
 · rw [if_neg e] at hd
   exact h.tm t' d' hd
theorem R.again (h : R E cx tm S a w ρ) {t : Nat} {x : Bool} (ht : lk tm t = some (.b x)) : R E cx ((t, .b x) :: tm) S a w ρ := h.slot (h.tm t _ ht)
theorem isNil_eq {d : D} (h : isNil d = true) : d = .nil := by cases d <;> first | rfl | cases h
theorem R.thawed (h : R E cx tm S a w ρ) (hf : Fresh nx ρ) (e : TypeId) : R E cx tm ((nx, .own e []) :: S) a w (withName ρ nx (.slice none 0 0)) ∧ Fresh (nx + 1) (withName ρ nx (.slice none 0 0)) ∧
   VA w (AvS cx.G ((nx, .own e []) :: S) (withName ρ nx (.slice none 0 0))) (withName ρ nx (.slice none 0 0)) (.own nx) (.slice none 0 0) := by
 obtain ⟨h', _⟩ := h.own (hf nx (Nat.le_refl _)) (e := e) (xs := []) (us := []) (u := .slice none 0 0) (w' := w) ⟨by simp, by simp, by simp, by simp⟩ (Fr.refl _ w) (World.ownsRow_nil _ _ _ _)
 refine ⟨h'.ext (fun _ => rfl) (fun n => lk_ap_one' n), fun n hn => ?_, .own (nmv_of (withName_same _ _) rfl) rfl⟩
 rw [withName_other _ (by omega)]
 exact hf n (by omega)
theorem R.thawedD (h : R E cx tm S a w ρ) (hf : Fresh nx ρ) {e e2 : TypeId} : R E cx tm ((nx, .deep e e2 []) :: S) a w (withName ρ nx (.tuple #[.slice none 0 0])) ∧ Fresh (nx + 1) (withName ρ nx (.tuple #[.slice none 0 0])) ∧
   VA w (AvS cx.G ((nx, .deep e e2 []) :: S) (withName ρ nx (.tuple #[.slice none 0 0]))) (withName ρ nx (.tuple #[.slice none 0 0])) (.own nx) (.slice none 0 0) := by
 have h' := h.make (hf nx (Nat.le_refl _)) (b := .deep e e2 []) (v := .tuple #[.slice none 0 0]) (w' := w) (Fr.refl _ w) (fun x hx => by
  obtain ⟨u, vs, q1, q2⟩ := hx
  have q1 : #[Value.slice none 0 0] = (u :: vs).toArray := by simpa using q1
  have : u = .slice none 0 0 ∧ vs = [] := by
   have := congrArg Array.toList q1
   simp at this
   exact ⟨this.1.symm, this.2⟩
  rcases q2 with q2 | ⟨i, xs, v, q3, _⟩
  · rw [this.1] at q2; simp [blkOf] at q2
  · simp at q3) fun hi hr => ⟨.slice none 0 0, [], [], withName_same _ _, rfl, rfl, World.ownsRow_nil _ _ _ _, by simp, by simp, by simp, by simp⟩
 refine ⟨h'.ext (fun _ => rfl) (fun n => lk_ap_one' n), fun n hn => ?_, .own (by unfold nmv; rw [withName_same]; rfl) rfl⟩
 rw [withName_other _ (by omega)]
 exact hf n (by omega)
theorem VA.mv {Av Av' : Nat → Prop} {ρ' : Nat → Option Value} {n m : Nat} (hi : ∀ d u, VI w Av d u → VI w Av' d u) (hr : ∀ t u, ρ t = some u → ρ' t = some u) (hx : ∀ u, nmv ρ n = some u → nmv ρ' m = some u) {d : D} {u : Value} (h : VA w Av ρ d u) : VA w Av' ρ' (mvA n m d) u := by
 cases h with
 | im h =>
   have : mvA n m d = d := by cases h <;> rfl
   rw [this]
   exact .im (hi _ _ h)
 | own h h1 =>
   rename_i t
   simp only [mvA]
   split
   · rename_i hb
     have := Nat.eq_of_beq_eq_true hb
     subst this
     exact .own (hx _ h) h1
   · exact .own (nmv_mono hr h) h1
 | bp h => exact .bp (hr _ _ h)
 | op h =>
   simp only [mvA]
   split
   · exact .junk rfl
   · exact .op (nmv_mono hr h)
 | fn hl h => exact .fn hl fun i n u a b => let ⟨h1, h2⟩ := h i n u a b; ⟨hr _ _ h1, h2⟩
 | vw h h1 h2 h3 h4 => exact .vw (hr _ _ h) h1 h2 h3 h4
 | junk h1 => exact .junk h1
theorem cells_mv {Av Av' : Nat → Prop} {ρ' : Nat → Option Value} {n m : Nat} (hi : ∀ d u, VI w Av d u → VI w Av' d u) (hr : ∀ t u, ρ t = some u → ρ' t = some u) (hx : ∀ u, nmv ρ n = some u → nmv ρ' m = some u) {ds : List D} {us : List Value}
   (h : ∀ (i : Nat) (d : D) (u : Value), ds[i]? = some d → us[i]? = some u → VA w Av ρ d u) : ∀ (i : Nat) (d : D) (u : Value), (ds.map (mvA n m))[i]? = some d → us[i]? = some u → VA w Av' ρ' d u := by
 intro i d u hd hu
 simp only [List.getElem?_map, Option.map_eq_some_iff] at hd
 obtain ⟨e, he, rfl⟩ := hd
 exact (h i e u he hu).mv hi hr hx
theorem VG.mv {Av Av' : Nat → Prop} {ρ' : Nat → Option Value} {n m : Nat} (hi : ∀ d u, VI w Av d u → VI w Av' d u) (hr : ∀ t u, ρ t = some u → ρ' t = some u) (hx : ∀ u, nmv ρ n = some u → nmv ρ' m = some u) {d : D} {u : Value} (h : VG w Av ρ d u) : VG w Av' ρ' (mvD n m d) u := by
 by_cases ha : ∃ ds, d = .agg ds
 · obtain ⟨ds, rfl⟩ := ha
   obtain ⟨us, rfl, hl, h1, hq⟩ := (VR.gr h).agg_inv
   exact .agg (by simpa using hl) h1 (cells_mv hi hr hx hq)
 · by_cases ht : ∃ ds, d = .tup ds
   · obtain ⟨ds, rfl⟩ := ht
     cases h with | atom h => cases h with | im h => cases h
   · have hd : mvD n m d = mvA n m d := by cases d <;> first | rfl | exact absurd ⟨_, rfl⟩ ha | exact absurd ⟨_, rfl⟩ ht
     rw [hd]
     cases h with
     | atom h => exact .atom (h.mv hi hr hx)
     | agg => exact absurd ⟨_, rfl⟩ ha
theorem VR.mv {Av Av' : Nat → Prop} {ρ' : Nat → Option Value} {n m : Nat} (hi : ∀ d u, VI w Av d u → VI w Av' d u) (hr : ∀ t u, ρ t = some u → ρ' t = some u) (hx : ∀ u, nmv ρ n = some u → nmv ρ' m = some u) {d : D} {u : Value} (h : VR w Av ρ d u) : VR w Av' ρ' (mvD n m d) u := by
 cases h with
 | gr h => exact .gr (h.mv hi hr hx)
 | tup hl h => exact .tup hl fun i d u p q => (h i d u p q).mono hi hr
theorem bk_mvB {n m : Nat} {b : Blk} {o : Option Value} {x : Nat} : bk (mvB n m b) o x ↔ bk b o x := by
 cases b <;> exact Iff.rfl
theorem live_mvB (n m : Nat) (b : Blk) : live (mvB n m b) = live b := by cases b <;> rfl
theorem R.named2 (h : R E cx tm S a w ρ) {n m : Nat} (hx : ∀ u, nmv ρ n = some u → nmv ρ m = some u) : R E cx (tm.map fun (t, d) => (t, mvD n m d)) (S.map fun (t, b) => (t, mvB n m b)) a w ρ := by
 have look : ∀ t b, lk (S.map fun (t, b) => (t, mvB n m b)) t = some b → ∃ b0, lk S t = some b0 ∧ b = mvB n m b0 := by
  intro t b hl
  rw [lk_map, Option.map_eq_some_iff] at hl
  obtain ⟨b0, h1, h2⟩ := hl
  exact ⟨b0, h1, h2.symm⟩
 have hheld : ∀ x, Held (S.map fun (t, b) => (t, mvB n m b)) ρ x → Held S ρ x := by
  rintro x ⟨t, b, hl, hv, hx⟩
  obtain ⟨b0, h1, rfl⟩ := look t b hl
  rw [live_mvB] at hv
  exact ⟨t, b0, h1, hv, bk_mvB.1 hx⟩
 have hi : ∀ d u, VI w (AvS cx.G S ρ) d u → VI w (AvS cx.G (S.map fun (t, b) => (t, mvB n m b)) ρ) d u := fun d u hv =>
  hv.mono (fun _ _ _ => rfl) (Nat.le_refl _) fun x _ hav => hav.imp id (hheld x)
 have hr : ∀ t u, ρ t = some u → ρ t = some u := fun _ _ h => h
 refine ⟨fun t d ht => ?_, fun t b hl => ?_, fun t t' b b' x h1 h2 l1 l2 x1 x2 => ?_, fun x hx => h.new x (hheld x hx), h.keep, fun g cs hg => hi _ _ (h.gl g cs hg), h.fr, h.g, h.gf, h.defers, h.num⟩
 · rw [lk_map, Option.map_eq_some_iff] at ht
   obtain ⟨d0, e1, rfl⟩ := ht
   exact (h.tm t d0 e1).mv hi hr hx
 · obtain ⟨b0, e1, rfl⟩ := look t b hl
   cases b0 with
   | box e cs =>
     obtain ⟨g, us, f1, f2, f3, f4, f5⟩ := h.st t _ e1
     exact ⟨g, us, f1, f2, by simpa using f3, f4, cells_mv hi hr hx f5⟩
   | own e ys =>
     obtain ⟨u, us, f1, f2, f3⟩ := h.st t _ e1
     exact ⟨u, us, f1, f2, f3.mono hi⟩
   | row e ys =>
     obtain ⟨u, us, f1, f2, f3⟩ := h.st t _ e1
     refine ⟨u, us, f1, by rw [List.length_map]; exact f2, ⟨by rw [List.length_map]; exact f3.len, fun cs hcs => ?_, f3.one, fun i' j cs d p q => ?_⟩⟩
     · obtain ⟨cs0, h0, rfl⟩ := List.mem_map.1 hcs
       rw [List.length_map]; exact f3.el cs0 h0
     · simp only [List.getElem?_map, Option.map_eq_some_iff] at p
       obtain ⟨cs0, h0, rfl⟩ := p
       simp only [List.getElem?_map, Option.map_eq_some_iff] at q
       obtain ⟨d0, h1, rfl⟩ := q
       obtain ⟨u', g1, g2⟩ := f3.at_ i' j cs0 d0 h0 h1
       exact ⟨u', g1, g2.mv hi hr hx⟩
   | fr ys =>
     obtain ⟨u, f1, f2⟩ := h.st t _ e1
     exact ⟨u, f1, hi _ _ f2⟩
   | deep e e2 zs =>
     obtain ⟨u, vs, us, hd⟩ := h.st t _ e1
     exact ⟨u, vs, us, hd.name, hd.lv, hd.lu, hd.own, hd.one, fun j z x v h1 h2 h3 => by
      have hs := hd.slot j z x v h1 h2 h3
      cases z with
      | an xs => exact ⟨hs.1, let ⟨ys, q1, q2⟩ := hs.2; ⟨ys, q1, q2.mono hi⟩⟩
      | nm a => exact hs
      | lost => trivial, hd.apart, hd.dis⟩
 · obtain ⟨c, e1, rfl⟩ := look t b h1
   obtain ⟨c', e2, rfl⟩ := look t' b' h2
   rw [live_mvB] at l1 l2
   exact h.dis t t' c c' x e1 e2 l1 l2 (bk_mvB.1 x1) (bk_mvB.1 x2)
theorem closeZ_get {e2 : TypeId} : ∀ {zs ws : List Slot} {ns : List Nat}, closeZ S e2 zs = some (ws, ns) → ws.length = zs.length ∧
   (∀ (i : Nat) (w : Slot), ws[i]? = some w → ∃ xs, w = .an xs ∧ (zs[i]? = some (.an xs) ∨ ∃ a, zs[i]? = some (.nm a) ∧ a ∈ ns ∧ lk S a = some (.own e2 xs))) ∧
   (∀ m ∈ ns, ∃ xs, lk S m = some (.own e2 xs)) ∧ (nodupB ns = true → ∀ (i j a : Nat), zs[i]? = some (.nm a) → zs[j]? = some (.nm a) → i = j)
 | [], ws, ns, h => by simp [closeZ] at h; obtain ⟨rfl, rfl⟩ := h; simp
 | .an xs :: r, ws, ns, h => by
   simp only [closeZ] at h
   split at h
   · rename_i ws' ns' hr
     cases h
     obtain ⟨h1, h2, h3, h4⟩ := closeZ_get hr
     refine ⟨by simp [h1], fun i w hw => ?_, h3, fun hn i j a hi hj => ?_⟩
     · cases i with
       | zero => simp at hw; subst hw; exact ⟨xs, rfl, .inl rfl⟩
       | succ i => simpa using h2 i w (by simpa using hw)
     · cases i with
       | zero => simp at hi
       | succ i =>
         cases j with
         | zero => simp at hj
         | succ j => rw [h4 hn i j a (by simpa using hi) (by simpa using hj)]
   · cases h
 | .nm a :: r, ws, ns, h => by
   simp only [closeZ] at h
   split at h
   · rename_i e3 xs hl
     split at h
     · rename_i hb
       have := Nat.eq_of_beq_eq_true hb
       subst this
       split at h
       · rename_i ws' ns' hr
         cases h
         obtain ⟨h1, h2, h3, h4⟩ := closeZ_get hr
         have hin : ∀ (i b : Nat), r[i]? = some (.nm b) → b ∈ ns' := by
          intro i b hi
          have hlt : i < ws'.length := by rw [h1]; exact (List.getElem?_eq_some_iff.1 hi).1
          obtain ⟨ys, _, q⟩ := h2 i _ (List.getElem?_eq_getElem hlt)
          rcases q with q | ⟨c, q1, q2, _⟩
          · rw [hi] at q; cases q
          · rw [hi] at q1; cases q1; exact q2
         refine ⟨by simp [h1], fun i w hw => ?_, fun m hm => ?_, fun hn i j b hi hj => ?_⟩
         · cases i with
           | zero => simp at hw; subst hw; exact ⟨xs, rfl, .inr ⟨a, rfl, by simp, hl⟩⟩
           | succ i =>
             obtain ⟨ys, q1, q2⟩ := h2 i w (by simpa using hw)
             refine ⟨ys, q1, q2.imp (fun q => by simpa using q) ?_⟩
             rintro ⟨b, r1, r2, r3⟩
             exact ⟨b, by simpa using r1, by simp [r2], r3⟩
         · rcases List.mem_cons.1 hm with rfl | hm
           · exact ⟨xs, hl⟩
           · exact h3 m hm
         · simp only [nodupB, Bool.and_eq_true, Bool.not_eq_true'] at hn
           have ha : a ∉ ns' := fun hin => by rw [memB_iff.2 hin] at hn; exact absurd hn.1 (by simp)
           cases i with
           | zero =>
             simp at hi
             subst hi
             cases j with
             | zero => rfl
             | succ j => exact absurd (hin j _ (by simpa using hj)) ha
           | succ i =>
             cases j with
             | zero =>
               simp at hj
               subst hj
               exact absurd (hin i _ (by simpa using hi)) ha
             | succ j => rw [h4 hn.2 i j b (by simpa using hi) (by simpa using hj)]
       · cases h
     · cases h
   · cases h
 | .lost :: r, ws, ns, h => by simp [closeZ] at h
theorem lk_dels (S : Store) : ∀ (ns : List Nat) (t : Nat), lk (dels ns S) t = if t ∈ ns then none else lk S t
 | [], t => by simp [dels]
 | n :: r, t => by
   rw [dels, lk_del, lk_dels S r t]
   by_cases e : t = n
   · simp [e]
   · simp [e]
theorem R.close (h : R E cx tm S a w ρ) (hf : Fresh nx ρ) {n : Nat} {e e2 : TypeId} {zs ws : List Slot} {ns : List Nat} (hl : lk S n = some (.deep e e2 zs)) (hz : closeZ S e2 zs = some (ws, ns)) (hnd : nodupB (n :: ns) = true) :
   ∃ ρ', R E cx tm ((nx, .deep e e2 ws) :: del n (dels ns S)) a w ρ' ∧ Fresh (nx + 1) ρ' ∧ ∀ u, nmv ρ' n = some u → nmv ρ' nx = some u := by
 obtain ⟨c1, c2, c3, c4⟩ := closeZ_get hz
 simp only [nodupB, Bool.and_eq_true, Bool.not_eq_true'] at hnd
 have hnin : n ∉ ns := fun hin => by rw [memB_iff.2 hin] at hnd; exact absurd hnd.1 (by simp)
 have c4 := c4 hnd.2
 obtain ⟨u, vs, us, hd⟩ := h.st _ _ hl
 have hfn := hf nx (Nat.le_refl _)
 have at_ : ∀ (i : Nat) (xs : List (List D)) (x : Value), ws[i]? = some (.an xs) → us[i]? = some x → (zs[i]? = some (.an xs) ∧ vs[i]? = some x) ∨ ∃ b, zs[i]? = some (.nm b) ∧ b ∈ ns ∧ lk S b = some (.own e2 xs) ∧ ρ b = some x := by
  intro i xs x hw hx
  obtain ⟨ys, q1, q2⟩ := c2 i _ hw
  cases q1
  rcases q2 with q2 | ⟨b, q2, q3, q4⟩
  · obtain ⟨x', v, g1, g2, g3, _⟩ := hd.us_at q2
    rw [hx] at g1
    cases g1
    exact .inl ⟨q2, by rw [g2, g3]⟩
  · obtain ⟨x', v, g1, g2, g3⟩ := hd.us_at q2
    rw [hx] at g1
    cases g1
    obtain ⟨ub, ubs, r1, r2, _⟩ := h.st _ _ q4
    have g3 : nmv ρ b = some x := g3
    rw [nmv_of r1 (top_row r2)] at g3
    cases g3
    exact .inr ⟨b, q2, q3, q4, r1⟩
 have inner : ∀ (i : Nat) (xs : List (List D)) (x : Value), ws[i]? = some (.an xs) → us[i]? = some x → ∃ ys : List Value, w.ownsRow 0 e2 (E.P.cellsOf e2) x xs.length ys ∧ Rows (VI w (AvS cx.G S ρ)) (E.P.cellsOf e2) xs ys := by
  intro i xs x hw hx
  rcases at_ i xs x hw hx with ⟨q1, q2⟩ | ⟨b, q1, q2, q3, q4⟩
  · obtain ⟨x', v, g1, g2, g3, ys, g4, g5⟩ := hd.us_at q1
    rw [hx] at g1
    cases g1
    subst g3
    exact ⟨ys, g4, g5⟩
  · obtain ⟨ub, ubs, r1, r2, r3⟩ := h.st _ _ q3
    rw [q4] at r1
    cases r1
    exact ⟨ubs, r2, r3⟩
 have has : ∀ (i : Nat) (xs : List (List D)) (x : Value) (y : Nat), ws[i]? = some (.an xs) → us[i]? = some x → blkOf x = some y → (zs[i]? = some (.an xs) ∧ vs[i]? = some x) ∨ ∃ b, zs[i]? = some (.nm b) ∧ b ∈ ns ∧ lk S b = some (.own e2 xs) ∧ bk (.own e2 xs) (ρ b) y := by
  intro i xs x y hw hx hy
  rcases at_ i xs x hw hx with q | ⟨b, q1, q2, q3, q4⟩
  · exact .inl q
  · exact .inr ⟨b, q1, q2, q3, by rw [q4]; exact hy⟩
 have hms : ∀ m ∈ n :: ns, ∃ b, lk S m = some b ∧ live b = true := by
  intro m hm
  rcases List.mem_cons.1 hm with rfl | hm
  · exact ⟨_, hl, rfl⟩
  · obtain ⟨xs, hx⟩ := c3 m hm
    exact ⟨_, hx, rfl⟩
 have hR := h.swaps hfn (ms := n :: ns) (b' := .deep e e2 ws) hms (v := .tuple (u :: us).toArray) (w' := w) (Fr.refl _ w) (fun x hx => by
  obtain ⟨u', vs', q1, q2⟩ := hx
  obtain ⟨rfl, rfl⟩ := tup_inj rfl q1
  left
  rcases q2 with q2 | ⟨i, xs, v, q2, q3, q4⟩
  · exact ⟨n, _, by simp, hl, rfl, hd.bk.2 (.inl q2)⟩
  · rcases has i xs v x q2 q3 q4 with ⟨r1, r2⟩ | ⟨b, r1, r2, r3, r4⟩
    · exact ⟨n, _, by simp, hl, rfl, hd.bk.2 (.inr ⟨i, xs, v, r1, r2, q4⟩)⟩
    · exact ⟨b, _, by simp [r2], r3, rfl, r4⟩) fun hi hr => by
  refine ⟨u, us, us, withName_same _ _, by rw [c1]; exact hd.lu, by rw [c1]; exact hd.lu, by rw [c1]; exact hd.own, hd.one, fun i z x v h1 h2 h3 => ?_, fun i xs v x h1 h2 h3 hu => ?_, fun i j xs ys v v' x h1 h2 h3 h4 h5 h6 => ?_⟩
  · rw [h2] at h3
    cases h3
    obtain ⟨xs, rfl, _⟩ := c2 i z h1
    obtain ⟨ys, q1, q2⟩ := inner i xs x h1 h2
    exact ⟨rfl, ys, q1, q2.mono hi⟩
  · rcases has i xs v x h1 h2 h3 with ⟨r1, r2⟩ | ⟨b, r1, r2, r3, r4⟩
    · exact hd.apart i xs v x r1 r2 h3 hu
    · have := h.dis n b _ _ x hl r3 rfl rfl (hd.bk.2 (.inl hu)) r4
      subst this
      exact hnin r2
  · rcases has i xs v x h1 h3 h5 with ⟨r1, r2⟩ | ⟨b, r1, r2, r3, r4⟩
    · rcases has j ys v' x h2 h4 h6 with ⟨s1, s2⟩ | ⟨c, s1, s2, s3, s4⟩
      · exact hd.dis i j xs ys v v' x r1 s1 r2 s2 h5 h6
      · have := h.dis n c _ _ x hl s3 rfl rfl (hd.bk.2 (.inr ⟨i, xs, v, r1, r2, h5⟩)) s4
        subst this
        exact absurd s2 hnin
    · rcases has j ys v' x h2 h4 h6 with ⟨s1, s2⟩ | ⟨c, s1, s2, s3, s4⟩
      · have := h.dis n b _ _ x hl r3 rfl rfl (hd.bk.2 (.inr ⟨j, ys, v', s1, s2, h6⟩)) r4
        subst this
        exact absurd r2 hnin
      · have := h.dis b c _ _ x r3 s3 rfl rfl r4 s4
        subst this
        exact c4 i j b r1 s1
 refine ⟨_, hR.ext (fun _ => rfl) (fun t => ?_), fun t ht => ?_, fun u' hu' => ?_⟩
 · rw [lk_ap, lk_cons, lk_cons, lk_del, lk_dels, lk_gone]
   by_cases e1 : nx = t
   · simp [e1]
   · by_cases e2 : t = n
     · subst e2; simp [e1]
     · by_cases e3 : t ∈ ns <;> simp [e1, e2, e3]
 · rw [withName_other _ (by omega)]
   exact hf t (by omega)
 · have hne : n ≠ nx := by
     rintro rfl
     rw [hd.name] at hfn
     cases hfn
   rw [nmv_eq (show withName ρ nx (.tuple (u :: us).toArray) n = ρ n from withName_other _ hne), nmv_tuple hd.name] at hu'
   cases hu'
   exact nmv_tuple (withName_same _ _)
theorem R.shut (h : R E cx tm S a w ρ) (hf : Fresh nx ρ) {n : Nat} {e e2 : TypeId} {zs ws : List Slot} {ns : List Nat} (hl : lk S n = some (.deep e e2 zs)) (hz : closeZ S e2 zs = some (ws, ns)) (hnd : nodupB (n :: ns) = true) :
   ∃ ρ', R E cx tm ((n, .deep e e2 ws) :: del n (dels ns S)) a w ρ' ∧ Fresh nx ρ' := by
 obtain ⟨c1, c2, c3, c4⟩ := closeZ_get hz
 simp only [nodupB, Bool.and_eq_true, Bool.not_eq_true'] at hnd
 have hnin : n ∉ ns := fun hin => by rw [memB_iff.2 hin] at hnd; exact absurd hnd.1 (by simp)
 have c4 := c4 hnd.2
 obtain ⟨u, vs, us, hd⟩ := h.st _ _ hl
 have at_ : ∀ (i : Nat) (xs : List (List D)) (x : Value), ws[i]? = some (.an xs) → us[i]? = some x → (zs[i]? = some (.an xs) ∧ vs[i]? = some x) ∨ ∃ b, zs[i]? = some (.nm b) ∧ b ∈ ns ∧ lk S b = some (.own e2 xs) ∧ ρ b = some x := by
  intro i xs x hw hx
  obtain ⟨ys, q1, q2⟩ := c2 i _ hw
  cases q1
  rcases q2 with q2 | ⟨b, q2, q3, q4⟩
  · obtain ⟨x', v, g1, g2, g3, _⟩ := hd.us_at q2
    rw [hx] at g1
    cases g1
    exact .inl ⟨q2, by rw [g2, g3]⟩
  · obtain ⟨x', v, g1, g2, g3⟩ := hd.us_at q2
    rw [hx] at g1
    cases g1
    obtain ⟨ub, ubs, r1, r2, _⟩ := h.st _ _ q4
    have g3 : nmv ρ b = some x := g3
    rw [nmv_of r1 (top_row r2)] at g3
    cases g3
    exact .inr ⟨b, q2, q3, q4, r1⟩
 have inner : ∀ (i : Nat) (xs : List (List D)) (x : Value), ws[i]? = some (.an xs) → us[i]? = some x → ∃ ys : List Value, w.ownsRow 0 e2 (E.P.cellsOf e2) x xs.length ys ∧ Rows (VI w (AvS cx.G S ρ)) (E.P.cellsOf e2) xs ys := by
  intro i xs x hw hx
  rcases at_ i xs x hw hx with ⟨q1, q2⟩ | ⟨b, q1, q2, q3, q4⟩
  · obtain ⟨x', v, g1, g2, g3, ys, g4, g5⟩ := hd.us_at q1
    rw [hx] at g1
    cases g1
    subst g3
    exact ⟨ys, g4, g5⟩
  · obtain ⟨ub, ubs, r1, r2, r3⟩ := h.st _ _ q3
    rw [q4] at r1
    cases r1
    exact ⟨ubs, r2, r3⟩
 have has : ∀ (i : Nat) (xs : List (List D)) (x : Value) (y : Nat), ws[i]? = some (.an xs) → us[i]? = some x → blkOf x = some y → (zs[i]? = some (.an xs) ∧ vs[i]? = some x) ∨ ∃ b, zs[i]? = some (.nm b) ∧ b ∈ ns ∧ lk S b = some (.own e2 xs) ∧ bk (.own e2 xs) (ρ b) y := by
  intro i xs x y hw hx hy
  rcases at_ i xs x hw hx with q | ⟨b, q1, q2, q3, q4⟩
  · exact .inl q
  · exact .inr ⟨b, q1, q2, q3, by rw [q4]; exact hy⟩
 have hms : ∀ m ∈ n :: ns, ∃ b, lk S m = some b ∧ live b = true := by
  intro m hm
  rcases List.mem_cons.1 hm with rfl | hm
  · exact ⟨_, hl, rfl⟩
  · obtain ⟨xs, hx⟩ := c3 m hm
    exact ⟨_, hx, rfl⟩
 have hlo : ∀ m, lk ((n, some (Blk.deep e e2 ws)) :: gone ns) m = if n = m then some (some (.deep e e2 ws)) else if m ∈ ns then some none else none := fun m => by rw [lk_cons, lk_gone]
 have hlo2 : ∀ m b, lk ((n, some (Blk.deep e e2 ws)) :: gone ns) m = some (some b) → m = n ∧ b = .deep e e2 ws := by
  intro m b hm
  rw [hlo] at hm
  by_cases e1 : n = m
  · rw [if_pos e1] at hm; cases hm; exact ⟨e1.symm, rfl⟩
  · rw [if_neg e1] at hm
    split at hm <;> cases hm
 have hlo3 : ∀ m, m ∈ n :: ns → lk ((n, some (Blk.deep e e2 ws)) :: gone ns) m ≠ none := by
  intro m hm
  rw [hlo]
  by_cases e1 : n = m
  · rw [if_pos e1]; simp
  · rw [if_neg e1, if_pos ((List.mem_cons.1 hm).resolve_left (Ne.symm e1))]; simp
 have hT : TurnK E cx S w ρ ((n, some (Blk.deep e e2 ws)) :: gone ns) w (withName ρ n (.tuple (u :: us).toArray)) := by
  refine ⟨Fr.refl _ w, fun t g ht => ?_, fun t g ht hg => ?_, fun m b hm hv x hx => ?_, fun m m' b c x h1 h2 _ _ _ _ => by rw [(hlo2 m b h1).1, (hlo2 m' c h2).1], fun hi m b hm => ?_⟩
  · by_cases e1 : t = n
    · subst e1
      rw [hd.name] at ht
      cases ht
      exact ⟨_, withName_same _ _, .inr ⟨u, vs, us, rfl, rfl⟩⟩
    · exact ⟨g, by rw [withName_other _ e1]; exact ht, .refl g⟩
  · have e1 : t ≠ n := by
      rintro rfl
      exact hlo3 t (by simp) ht
    rw [withName_other _ e1]
    exact hg
  · obtain ⟨e0, rfl⟩ := hlo2 m b hm
    have e0 := e0.symm
    subst e0
    rw [withName_same] at hx
    have conv : (∃ m' b', m' ∈ n :: ns ∧ lk S m' = some b' ∧ live b' = true ∧ bk b' (ρ m') x) → ∃ m' b', lk ((n, some (Blk.deep e e2 ws)) :: gone ns) m' ≠ none ∧ lk S m' = some b' ∧ live b' = true ∧ bk b' (ρ m') x :=
     fun ⟨m', b', q1, q2⟩ => ⟨m', b', hlo3 m' q1, q2⟩
    have hA : ∃ m' b', m' ∈ n :: ns ∧ lk S m' = some b' ∧ live b' = true ∧ bk b' (ρ m') x := by
     obtain ⟨u', vs', q1, q2⟩ := hx
     obtain ⟨rfl, rfl⟩ := tup_inj rfl q1
     rcases q2 with q2 | ⟨i, xs, v, q2, q3, q4⟩
     · exact ⟨n, _, by simp, hl, rfl, hd.bk.2 (.inl q2)⟩
     · rcases has i xs v x q2 q3 q4 with ⟨r1, r2⟩ | ⟨b, r1, r2, r3, r4⟩
       · exact ⟨n, _, by simp, hl, rfl, hd.bk.2 (.inr ⟨i, xs, v, r1, r2, q4⟩)⟩
       · exact ⟨b, _, by simp [r2], r3, rfl, r4⟩
    exact .inr (conv hA)
  · obtain ⟨e0, rfl⟩ := hlo2 m b hm
    have e0 := e0.symm
    subst e0
    refine ⟨u, us, us, withName_same _ _, by rw [c1]; exact hd.lu, by rw [c1]; exact hd.lu, by rw [c1]; exact hd.own, hd.one, fun i z x v h1 h2 h3 => ?_, fun i xs v x h1 h2 h3 hu => ?_, fun i j xs ys v v' x h1 h2 h3 h4 h5 h6 => ?_⟩
    · rw [h2] at h3
      cases h3
      obtain ⟨xs, rfl, _⟩ := c2 i z h1
      obtain ⟨ys, q1, q2⟩ := inner i xs x h1 h2
      exact ⟨rfl, ys, q1, q2.mono hi⟩
    · rcases has i xs v x h1 h2 h3 with ⟨r1, r2⟩ | ⟨b, r1, r2, r3, r4⟩
      · exact hd.apart i xs v x r1 r2 h3 hu
      · have := h.dis n b _ _ x hl r3 rfl rfl (hd.bk.2 (.inl hu)) r4
        subst this
        exact hnin r2
    · rcases has i xs v x h1 h3 h5 with ⟨r1, r2⟩ | ⟨b, r1, r2, r3, r4⟩
      · rcases has j ys v' x h2 h4 h6 with ⟨s1, s2⟩ | ⟨c, s1, s2, s3, s4⟩
        · exact hd.dis i j xs ys v v' x r1 s1 r2 s2 h5 h6
        · have := h.dis n c _ _ x hl s3 rfl rfl (hd.bk.2 (.inr ⟨i, xs, v, r1, r2, h5⟩)) s4
          subst this
          exact absurd s2 hnin
      · rcases has j ys v' x h2 h4 h6 with ⟨s1, s2⟩ | ⟨c, s1, s2, s3, s4⟩
        · have := h.dis n b _ _ x hl r3 rfl rfl (hd.bk.2 (.inr ⟨j, ys, v', s1, s2, h6⟩)) r4
          subst this
          exact absurd r2 hnin
        · have := h.dis b c _ _ x r3 s3 rfl rfl r4 s4
          subst this
          exact c4 i j b r1 s1
 refine ⟨_, (h.turnK hT).ext (fun _ => rfl) (fun t => ?_), fun t ht => ?_⟩
 · rw [lk_ap, hlo, lk_cons, lk_del, lk_dels]
   by_cases e1 : n = t
   · simp [e1]
   · by_cases e3 : t ∈ ns <;> simp [e1, Ne.symm e1, e3]
 · have e1 : t ≠ n := by
     rintro rfl
     have := hd.name
     rw [hf t ht] at this
     cases this
   rw [withName_other _ e1]
   exact hf t ht
theorem mv_sound {m : Mv} {tm' : Tm} {S' : Store} {nx' : Nat} (hm : mv m tm S nx = some (tm', S', nx')) (h : R E cx tm S a w ρ) (hf : Fresh nx ρ) : ∃ ρ', R E cx tm' S' a w ρ' ∧ Fresh nx' ρ' := by
 cases m with
 | ice n =>
   simp only [mv] at hm
   split at hm
   · rename_i b hl
     split at hm
     · rename_i xs hb
       cases hm
       exact ⟨ρ, h.ice (by rw [hl]; exact hb), hf⟩
     · cases hm
   · cases hm
 | thaw t e =>
   simp only [mv] at hm
   split at hm
   · rename_i d hd
     split at hm
     · rename_i hn
       cases hm
       have := isNil_eq hn
       subst this
       have hv := (h.tm t _ hd).nil_inv
       obtain ⟨h1, h2, h3⟩ := h.thawed hf e
       refine ⟨_, h1.slot ?_, h2⟩
       rw [hv]
       exact .gr (.atom h3)
     · cases hm
   · cases hm
 | thawT t e e2 =>
   simp only [mv] at hm
   split at hm
   · rename_i d hd
     split at hm
     · rename_i hn
       cases hm
       have := isNil_eq hn
       subst this
       have hv := (h.tm t _ hd).nil_inv
       obtain ⟨h1, h2, h3⟩ := h.thawedD hf (e := e) (e2 := e2)
       refine ⟨_, h1.slot ?_, h2⟩
       rw [hv]
       exact .gr (.atom h3)
     · cases hm
   · cases hm
 | thawB n i e =>
   simp only [mv] at hm
   split at hm
   · rename_i e' cs hl
     split at hm
     · rename_i d hd
       split at hm
       · rename_i hn
         cases hm
         have := isNil_eq hn
         subst this
         obtain ⟨h1, h2, h3⟩ := h.thawed hf e
         have hne : n ≠ nx := by
          rintro rfl
          obtain ⟨u, hu⟩ := h.named hl
          rw [hf n (Nat.le_refl _)] at hu
          cases hu
         have hl' : lk ((nx, Blk.own e []) :: S) n = some (.box e' cs) := by rw [lk_cons, if_neg (Ne.symm hne)]; exact hl
         refine ⟨_, ?_, h2⟩
         obtain ⟨b, us, f1, f2, f3, f4, f5⟩ := h1.st n _ hl'
         have hw := h1.write (b' := .box e' (cs.set i (.own nx))) hl' rfl (g := b) (by rw [f1]; rfl) (Fr.refl _ w |>.weaken fun _ h => h) fun hi => by
          refine ⟨b, us, f1, f2, by rw [List.length_set]; exact f3, f4, fun j d u p q => ?_⟩
          rw [List.getElem?_set] at p
          by_cases e1 : i = j
          · subst e1
            rw [if_pos rfl] at p
            split at p
            · cases p
              have hu : u = .slice none 0 0 := by
               have := f5 i .nil u hd q
               cases this with | im h => cases h; rfl
              subst hu
              exact h3.mono hi (fun _ _ h => h)
            · cases p
          · rw [if_neg e1] at p
            exact (f5 j d u p q).mono hi (fun _ _ h => h)
         refine hw.ext (fun _ => rfl) fun m => ?_
         rw [lk_ap]
         simp only [setB, lk_cons, lk_del]
         by_cases e1 : nx = m
         · have : n ≠ m := by rintro rfl; exact hne e1.symm
           simp [e1, this, lk]
         · by_cases e2 : n = m
           · simp [e1, e2]
           · simp [e1, e2, Ne.symm e2, lk]
       · cases hm
     · cases hm
   · cases hm
 | thawD n i e e2 =>
   simp only [mv] at hm
   split at hm
   · rename_i e' cs hl
     split at hm
     · rename_i d hd
       split at hm
       · rename_i hn
         cases hm
         have := isNil_eq hn
         subst this
         obtain ⟨h1, h2, h3⟩ := h.thawedD hf (e := e) (e2 := e2)
         have hne : n ≠ nx := by
          rintro rfl
          obtain ⟨u, hu⟩ := h.named hl
          rw [hf n (Nat.le_refl _)] at hu
          cases hu
         have hl' : lk ((nx, Blk.deep e e2 []) :: S) n = some (.box e' cs) := by rw [lk_cons, if_neg (Ne.symm hne)]; exact hl
         refine ⟨_, ?_, h2⟩
         obtain ⟨b, us, f1, f2, f3, f4, f5⟩ := h1.st n _ hl'
         have hw := h1.write (b' := .box e' (cs.set i (.own nx))) hl' rfl (g := b) (by rw [f1]; rfl) (Fr.refl _ w |>.weaken fun _ h => h) fun hi => by
          refine ⟨b, us, f1, f2, by rw [List.length_set]; exact f3, f4, fun j d u p q => ?_⟩
          rw [List.getElem?_set] at p
          by_cases e1 : i = j
          · subst e1
            rw [if_pos rfl] at p
            split at p
            · cases p
              have hu : u = .slice none 0 0 := by
               have := f5 i .nil u hd q
               cases this with | im h => cases h; rfl
              subst hu
              exact h3.mono hi (fun _ _ h => h)
            · cases p
          · rw [if_neg e1] at p
            exact (f5 j d u p q).mono hi (fun _ _ h => h)
         refine hw.ext (fun _ => rfl) fun m => ?_
         rw [lk_ap]
         simp only [setB, lk_cons, lk_del]
         by_cases e1 : nx = m
         · have : n ≠ m := by rintro rfl; exact hne e1.symm
           simp [e1, this, lk]
         · by_cases e2 : n = m
           · simp [e1, e2]
           · simp [e1, e2, Ne.symm e2, lk]
       · cases hm
     · cases hm
   · cases hm
 | shut n =>
   simp only [mv] at hm
   split at hm
   · rename_i e e2 zs hl
     split at hm
     · rename_i ws ns hz
       split at hm
       · rename_i hnd
         cases hm
         exact h.shut hf hl hz hnd
       · cases hm
     · cases hm
   · cases hm
 | close n =>
   simp only [mv] at hm
   split at hm
   · rename_i e e2 zs hl
     split at hm
     · rename_i ws ns hz
       split at hm
       · rename_i hnd
         cases hm
         obtain ⟨ρ', h1, h2, h3⟩ := h.close hf hl hz hnd
         exact ⟨ρ', h1.named2 h3, h2⟩
       · cases hm
     · cases hm
   · cases hm
 | trim t =>
   simp only [mv] at hm
   split at hm
   · rename_i n z b ht
     split at hm
     · rename_i e xs hl
       cases hm
       obtain ⟨n0, c0, A0, hr, p1, p2, p3, p4, hv⟩ := (h.tm t _ ht).vw_inv
       obtain ⟨u, us, hr', hown, hc⟩ := h.st _ _ hl
       rw [hr] at hr'
       cases hr'
       have hn0 : n0 = xs.length := by
        rcases hown.2 with ⟨e1, e2⟩ | ⟨g, cap, cur, e1, _⟩
        · injection e1 with _ q _; omega
        · injection e1
       have hA : (if c0 = 0 then A0 else A0.map (·.add (0 * z))) = A0 := by
        split
        · rfl
        · rcases hown.2 with ⟨e1, _⟩ | ⟨g, cap, cur, e1, _⟩
          · have : A0 = none := by injection e1
            rw [this]; rfl
          · have : A0 = some ⟨g, 0, none⟩ := by injection e1
            rw [this]; simp [add_zero0]
       rw [hA] at hv
       simp only [Nat.sub_zero] at hv
       have hfn := hf nx (Nat.le_refl _)
       have hlen : (xs.take b).length = b := by rw [List.length_take]; omega
       have hR := h.swap hfn (b' := .own e (xs.take b)) hl rfl (v := .slice A0 b c0) (w' := w) (Fr.refl _ w) (fun x hx => by
        left
        simp only [bk, hr, Option.bind_some] at hx ⊢
        cases A0 <;> exact hx) fun hi => by
        refine ⟨_, us.take (b * E.P.cellsOf e), withName_same _ _, ?_, (hc.take b).mono hi⟩
        refine ⟨by rw [hlen, List.length_take, hc.len]; exact Nat.min_eq_left (Nat.mul_le_mul_right _ (by omega)), ?_⟩
        rw [hlen]
        rcases hown.2 with ⟨e1, e2⟩ | ⟨g, cap, cur, e1, q1, q2, q3, q4, q5, q6⟩
        · left
          injection e1 with r1 r2 r3
          have : b = 0 := by omega
          subst r1 r3 this
          exact ⟨rfl, rfl⟩
        · injection e1 with r1 r2 r3
          subst r1 r3
          refine .inr ⟨g, c0, cur, rfl, q1, q2, by omega, q4, q5, ?_⟩
          rw [← q6, List.take_take]
          congr 1
          exact (Nat.min_eq_left (Nat.mul_le_mul_right _ (by omega))).symm
       have hR2 := hR.ext (tm' := tm) (S' := (nx, .own e (xs.take b)) :: del n S) (fun _ => rfl) fun k => by
        rw [lk_ap, lk_cons, lk_cons, lk_cons, lk_del]
        by_cases e1 : nx = k
        · simp [e1]
        · by_cases e2 : n = k
          · subst e2; simp [e1]
          · simp [e1, e2, Ne.symm e2, lk]
       refine ⟨_, hR2.slot ?_, fun k hk => by rw [withName_other _ (by omega)]; exact hf k (by omega)⟩
       rw [hv]
       exact .gr (.atom (.own (by unfold nmv; rw [withName_same]; rfl) rfl))
     · cases hm
   · cases hm
 | anew n =>
   simp only [mv] at hm
   split at hm
   · rename_i e xs hl
     cases hm
     obtain ⟨u, us, hr, hown, hc⟩ := h.st _ _ hl
     have hfn := hf nx (Nat.le_refl _)
     have hne : n ≠ nx := by
      rintro rfl
      rw [hr] at hfn
      cases hfn
     have hR := h.swap hfn (b' := .own e xs) hl rfl (v := u) (w' := w) (Fr.refl _ w) (fun x hx => .inl (by simpa only [bk, hr] using hx)) fun hi => ⟨_, us, withName_same _ _, hown, hc.mono hi⟩
     have hR2 := hR.ext (tm' := tm) (S' := (nx, .own e xs) :: del n S) (fun _ => rfl) fun k => by
      rw [lk_ap, lk_cons, lk_cons, lk_cons, lk_del]
      by_cases e1 : nx = k
      · simp [e1]
      · by_cases e2 : n = k
        · subst e2; simp [e1]
        · simp [e1, e2, Ne.symm e2, lk]
     refine ⟨_, hR2.named2 (n := n) (m := nx) (fun u' hu' => ?_), fun k hk => by rw [withName_other _ (by omega)]; exact hf k (by omega)⟩
     rw [nmv_eq (show withName ρ nx u n = ρ n from withName_other _ hne), nmv_of hr (top_row hown)] at hu'
     cases hu'
     exact nmv_of (withName_same _ _) (top_row hown)
   · cases hm
 | openA n i =>
   simp only [mv] at hm
   split at hm
   · rename_i e e2 zs hl
     split at hm
     · rename_i xs hz
       cases hm
       obtain ⟨q, _, _, _, hR⟩ := h.opened (hf nx (Nat.le_refl _)) hl hz
       refine ⟨_, hR.ext (fun _ => rfl) fun m => ?_, fun k hk => by rw [withName_other _ (by omega)]; exact hf k (by omega)⟩
       rw [lk_ap]
       simp only [lk_cons, setB, lk_del]
       by_cases e1 : nx = m
       · simp [e1]
       · by_cases e2 : n = m
         · simp [e1, e2]
         · simp [e1, e2, Ne.symm e2, lk]
     · cases hm
   · cases hm
theorem mvs_sound : ∀ {l : List Mv} {tm : Tm} {S : Store} {nx : Nat} {ρ : Nat → Option Value} {tm' : Tm} {S' : Store} {nx' : Nat}, mvs l tm S nx = some (tm', S', nx') → R E cx tm S a w ρ → Fresh nx ρ → ∃ ρ', R E cx tm' S' a w ρ' ∧ Fresh nx' ρ'
 | [], _, _, _, _, _, _, _, hm, h, hf => by simp [mvs] at hm; obtain ⟨rfl, rfl, rfl⟩ := hm; exact ⟨_, h, hf⟩
 | m :: r, tm, S, nx, ρ, tm', S', nx', hm, h, hf => by
   simp only [mvs] at hm
   split at hm
   · rename_i tm1 S1 nx1 h1
     obtain ⟨ρ1, h2, h3⟩ := mv_sound h1 h hf
     exact mvs_sound hm h2 h3
   · cases hm
theorem land_sound {J : Tm → Store → Nat → Prop} (hj : landK cx.k0 tm S nx J) (h : R E cx tm S a w ρ) (hf : Fresh nx ρ) : ∃ tm' S' nx' ρ', R E cx tm' S' a w ρ' ∧ Fresh nx' ρ' ∧ J tm' S' nx' := by
 obtain ⟨ms, ts, ns, hj⟩ := hj
 split at hj
 · rename_i tm1 S1 nx1 hm
   obtain ⟨h1, h2, h3⟩ := hj
   obtain ⟨ρ1, h4, h5⟩ := mvs_sound hm h hf
   exact ⟨_, _, _, _, (h4.carry ts h1 h2).1, fresh_car ns, h3⟩
 · exact hj.elim
end
end Go.Ab
namespace Go.Ab
open Go Go.RowKit
section
variable {E : Env} {cx : Cx}
def Nx (E : Env) (cx : Cx) (K : Tm → Store → Nat → Prop) (a : Act) (w : World) : Prop :=
 ∃ tm S nx ρ, R E cx tm S a w ρ ∧ Fresh nx ρ ∧ K tm S nx
def exOf : Ex → Exit
 | .normal => .normal
 | .exit i => .exit i
 | .ret => .ret
def codeOk (N : Nat) : Code → Bool
 | .region _ ops _ => opersOk N ops.toList
 | .seq a b => codeOk N a && codeOk N b
 | .cond _ a b => codeOk N a && codeOk N b
 | .block _ b => codeOk N b
 | .loop b => codeOk N b
 | _ => true
theorem R.drew {tm : Tm} {S : Store} {a : Act} {w : World} {ρ : Nat → Option Value} (h : R E cx tm S a w ρ) : R E cx tm S a { w with drawn := w.drawn + 1 } ρ := by
 have hi : ∀ d u, VI w (AvS cx.G S ρ) d u → VI { w with drawn := w.drawn + 1 } (AvS cx.G S ρ) d u := fun d u hv => VI.mono (w := w) (w' := { w with drawn := w.drawn + 1 }) (fun _ _ _ => rfl) (Nat.le_refl _) (fun _ _ h => h) hv
 exact ⟨fun t d ht => (h.tm t d ht).mono hi fun _ _ h => h, fun t b hl => (h.st t b hl).mono hi (fun _ _ h => h) fun _ _ _ => rfl, h.dis, h.new, h.keep, fun g cs hg => hi _ _ (h.gl g cs hg), ⟨h.fr.os, h.fr.tape, h.fr.output, h.fr.size, h.fr.block⟩, h.g, h.gf, h.defers, h.num⟩
def AW (E : Env) (N k0 : Nat) (c : Code) (tm : Tm) (S : Store) (nx : Nat) (Q : Ex → Tm → Store → Nat → Prop) : Prop :=
 ∀ (cx : Cx) (a : Act) (w : World) (ρ : Nat → Option Value) (Q' : Exit → Act → World → Prop), cx.N = N → cx.k0 = k0 → R E cx tm S a w ρ → Fresh nx ρ → (∀ e a w, Nx E cx (Q e) a w → Q' (exOf e) a w) → c.wp E.P Q' a w
def parTm : Nat → List D → Tm
 | _, [] => []
 | i, d :: r => (i, d) :: parTm (i + 1) r
theorem lk_parTm : ∀ (ds : List D) (i t : Nat), lk (parTm i ds) t = if i ≤ t then ds[t - i]? else none
 | [], i, t => by simp [parTm, lk]
 | d :: r, i, t => by
   rw [parTm, lk_cons, lk_parTm r]
   by_cases h : i = t
   · subst h; simp
   · rw [if_neg h]
     by_cases h2 : i + 1 ≤ t
     · rw [if_pos h2, if_pos (by omega)]
       have : t - i = (t - (i + 1)) + 1 := by omega
       rw [this]; simp
     · rw [if_neg h2, if_neg (by omega)]
def resOne (tmps : Array Value) (rv : ResultVar) : Sem Value :=
 match rv with
 | .tmp t => pure (tmps.getD t undef)
 | .cell x t => do loadVar t (← asAddr (tmps.getD x undef))
theorem resK_run (hty : TyOk E) {tm : Tm} {S : Store} {a : Act} {w : World} {ρ : Nat → Option Value} (h : R E cx tm S a w ρ) : ∀ (rv : List ResultVar) (K : List D → Prop), resK E tm S rv K →
   ∃ ds us, (rv.mapM (resOne a.tmps)).run E.P w = .ok us w ∧ ds.length = us.length ∧
     (∀ (i : Nat) (d : D) (u : Value), ds[i]? = some d → us[i]? = some u → VR w (AvS cx.G S ρ) ρ d u) ∧ K ds
 | [], K, hk => ⟨[], [], by simp, rfl, by simp, hk⟩
 | .tmp t :: r, K, hk => by
   unfold resK at hk
   split at hk
   · rename_i d hd
     obtain ⟨ds, us, e1, e2, e3, e4⟩ := resK_run hty h r _ hk
     refine ⟨d :: ds, a.tmps.getD t undef :: us, by rw [List.mapM_cons]; simp only [resOne, Sem.run_bind, Sem.run_pure, Result.andThen_ok, e1], by simp [e2], fun i d' u' p q => ?_, e4⟩
     cases i with
     | zero => simp only [List.getElem?_cons_zero, Option.some.injEq] at p q; subst p q; exact h.tm t _ hd
     | succ i => exact e3 i d' u' (by simpa using p) (by simpa using q)
   · exact hk.elim
 | .cell x t :: r, K, hk => by
   unfold resK at hk
   split at hk
   · rename_i d hd
     obtain ⟨td, ht, hk⟩ := tyK_inv hk
     obtain ⟨d', u, hrun, hg, hk⟩ := addrK_run hty h ht (h.tm x d hd) hk
     obtain ⟨ds, us, e1, e2, e3, e4⟩ := resK_run hty h r _ hk
     have hrun' : (resOne a.tmps (.cell x t)).run E.P w = .ok u w := by
      rw [← hrun]
      unfold resOne
      simp only
      generalize a.tmps.getD x undef = v at hrun ⊢
      cases v with
      | pointer p => cases p <;> simp [Instr.loadAt, Instr.sureAddr, asAddr] at hrun ⊢
      | _ => simp [Instr.loadAt, Instr.sureAddr] at hrun ⊢
     refine ⟨d' :: ds, u :: us, ?_, by simp [e2], fun i d2 u2 p q => ?_, e4⟩
     · rw [List.mapM_cons]
       simp only [Sem.run_bind, hrun', Result.andThen_ok, e1, Sem.run_pure]
     · cases i with
       | zero => simp at p q; subst p q; exact .gr hg
       | succ i => exact e3 i d2 u2 (by simpa using p) (by simpa using q)
   · exact hk.elim
theorem VR.carG {w : World} {Av Av' : Nat → Prop} {ρ : Nat → Option Value} {ns : List Nat} (hi : ∀ d u, VI w Av d u → VI w Av' d u) {d d' : D} {u : Value} (h : VR w Av ρ d u) (hc : carD ns d = some d') : VG w Av' (carρ ns ρ) d' u := by
 cases h with
 | gr h => exact h.car hi hc
 | tup => simp [carD] at hc
theorem carGs_get {ns : List Nat} : ∀ {ds ds' : List D}, carGs ns ds = some ds' → ds'.length = ds.length ∧ ∀ (i : Nat) (d d' : D), ds[i]? = some d → ds'[i]? = some d' → carD ns d = some d'
 | [], ds', h => by simp [carGs] at h; subst h; simp
 | d :: r, ds', h => by
   simp only [carGs] at h
   split at h
   · rename_i d1 hd1
     split at h
     · rename_i r1 hr1
       cases h
       obtain ⟨h1, h2⟩ := carGs_get hr1
       refine ⟨by simp [h1], fun i e e' p q => ?_⟩
       cases i with
       | zero => simp at p q; subst p q; exact hd1
       | succ i => exact h2 i e e' (by simpa using p) (by simpa using q)
     · cases h
   · cases h
theorem results_run {P : Program} {fn : Func} {tmps : Array Value} {w : World} {us : List Value} (h : (fn.results.toList.mapM (resOne tmps)).run P w = .ok us w) :
   (results fn tmps).run P w = .ok (match us with | [u] => u | us => .tuple us.toArray) w := by
 have he : results fn tmps = (do
    let vs ← fn.results.mapM (resOne tmps)
    pure (if h : vs.size = 1 then vs[0] else .tuple vs)) := by
  unfold results
  congr 1
 rw [he]
 simp only [Sem.run_bind, Array.mapM_eq_mapM_toList, Sem.run_map, h, Result.andThen_ok, Sem.run_pure]
 match us with
 | [] => rfl
 | [u] => rfl
 | u :: v :: r => simp
theorem con_of_AW (hty : TyOk E) {f : FuncId} {fn : Func} {c : Code} (hf : E.P.funcs[f]? = some fn) (hb : fn.body = some c) (hname : (fn.name == "runtime.NumGoroutine") = false)
   {k : Nat} {cds : List D} {Sa : Store} {d : D} {S' : Store} (hle : cds.length ≤ fn.ntmps) (h : AW E fn.ntmps k c (parTm 0 cds) Sa k (finQ E k fn.results.toList d S')) : Con E f k cds Sa d S' := by
 refine ⟨⟨fn, hf, by simp [hb], hname⟩, fun w vs ρ G hl hG hGF hargs hst hdis hdom hgl => ?_⟩
 refine calls_of_wp hf hb ?_
 let cx : Cx := ⟨fn.ntmps, w, ρ, k, Held Sa ρ, G⟩
 have hR : R E cx (parTm 0 cds) Sa { tmps := vs.toArray ++ Array.replicate (fn.ntmps - vs.toArray.size) undef, defers := [] } w ρ := by
  refine ⟨fun t d ht => ?_, hst, hdis, fun x hx => .inr hx, fun _ u _ h => ⟨u, h, .refl u⟩, hgl, Fr.refl _ _, hG, hGF, rfl, ?_⟩
  · rw [lk_parTm, if_pos (Nat.zero_le _)] at ht
    simp only [Nat.sub_zero] at ht
    have hlt : t < vs.length := by rw [← hl]; exact (List.getElem?_eq_some_iff.1 ht).1
    have hv := hargs t d vs[t] ht (List.getElem?_eq_getElem hlt)
    have : (vs.toArray ++ Array.replicate (fn.ntmps - vs.toArray.size) undef).getD t undef = vs[t] := by
     rw [Array.getD_eq_getD_getElem?, Array.getElem?_append_left (by simpa using hlt)]
     simp [hlt]
    show VR w _ ρ d ((vs.toArray ++ Array.replicate (fn.ntmps - vs.toArray.size) undef).getD t undef)
    rw [this]
    exact .gr hv
  · simp [cx]
    omega
 refine h cx _ w ρ _ rfl rfl hR hdom fun e a w' hn => ?_
 obtain ⟨tm0, S0, nx0, ρ0, h0, hf0, hk⟩ := hn
 have fin : finK E k fn.results.toList d S' tm0 S0 nx0 → a.defers = [] ∧ ∃ v, (results fn a.tmps).run E.P w' = .ok v w' ∧ ∃ v' ρ', Ending.returned v = .returned v' ∧ VR w' (AvS G S' ρ') ρ' d v' ∧ (∀ t b, lk S' t = some b → SR E.P w' (AvS G S' ρ') ρ' t b) ∧ Dis S' ρ' ∧
    (∀ x, Held S' ρ' x → w.heap.size ≤ x ∨ Held Sa ρ x) ∧ (∀ t u, t < k → ρ t = some u → ∃ u', ρ' t = some u' ∧ Kp u u') ∧ Fr (Held Sa ρ) w w' := by
  intro hk
  obtain ⟨ms, ns, hk⟩ := hk
  split at hk
  · rename_i tm S nx hm
    obtain ⟨ρ1, h1, hf1⟩ := mvs_sound hm h0 hf0
    obtain ⟨ds, us, e1, e2, e3, hn, hp, hcr, hcs⟩ := resK_run hty h1 _ _ hk
    obtain ⟨hc, hi⟩ := h1.carry [] hn hp
    rw [hcs] at hc hi
    refine ⟨h1.defers, _, results_run e1, _, carρ ns ρ1, rfl, ?_, hc.st, hc.dis, hc.new, hc.keep, hc.fr⟩
    have several : ∀ (ds' : List D), ds'.length = us.length → (∀ (i : Nat) (d' : D) (u : Value), ds'[i]? = some d' → us[i]? = some u → VG w' (AvS G S' (carρ ns ρ1)) (carρ ns ρ1) d' u) → VR w' (AvS G S' (carρ ns ρ1)) (carρ ns ρ1) (.tup ds') (.tuple us.toArray) := fun ds' hl h => .tup hl h
    have each : ∀ {ds' : List D}, carGs ns ds = some ds' → ds'.length = us.length ∧ ∀ (i : Nat) (d' : D) (u : Value), ds'[i]? = some d' → us[i]? = some u → VG w' (AvS G S' (carρ ns ρ1)) (carρ ns ρ1) d' u := by
     intro ds' hg
     obtain ⟨g1, g2⟩ := carGs_get hg
     refine ⟨by rw [g1, e2], fun i d' u p q => ?_⟩
     have hlt : i < ds.length := by rw [← g1]; exact (List.getElem?_eq_some_iff.1 p).1
     have hdi : ds[i]? = some ds[i] := List.getElem?_eq_getElem hlt
     exact (e3 i _ u hdi q).carG hi (g2 i _ d' hdi p)
    have tupled : carR ns (.tup ds) = some d → VR w' (AvS G S' (carρ ns ρ1)) (carρ ns ρ1) d (.tuple us.toArray) := by
     intro hcr
     simp only [carR] at hcr
     split at hcr
     · rename_i ds' hg
       cases hcr
       obtain ⟨g1, g2⟩ := each hg
       exact several ds' g1 g2
     · cases hcr
    have lone : ∀ (x : D) (u : Value), ds = [x] → us = [u] → VR w' (AvS G S' (carρ ns ρ1)) (carρ ns ρ1) d u := by
     intro x u hds hus
     subst hds
     subst hus
     simp only [oneRes] at hcr
     have hx := e3 0 x u rfl rfl
     by_cases ht : ∃ ys, x = .tup ys
     · obtain ⟨ys, rfl⟩ := ht
       simp only [carR] at hcr
       split at hcr
       · rename_i ys' hg
         cases hcr
         obtain ⟨vs, rfl, q1, q2⟩ := hx.tup_inv
         obtain ⟨g1, g2⟩ := carGs_get hg
         refine .tup (by rw [g1, q1]) fun i d' u p q => ?_
         have hlt : i < ys.length := by rw [← g1]; exact (List.getElem?_eq_some_iff.1 p).1
         have hdi : ys[i]? = some ys[i] := List.getElem?_eq_getElem hlt
         exact (q2 i _ u hdi q).car hi (g2 i _ d' hdi p)
       · cases hcr
     · have : carR ns x = carD ns x := by cases x <;> first | rfl | exact absurd ⟨_, rfl⟩ ht
       rw [this] at hcr
       exact .gr (hx.carG hi hcr)
    clear several each
    cases us with
    | nil =>
      have : ds = [] := List.eq_nil_of_length_eq_zero e2
      subst this
      exact tupled hcr
    | cons u q =>
      cases q with
      | nil =>
        have : ∃ x, ds = [x] := by
         match ds, e2 with
         | [x], _ => exact ⟨x, rfl⟩
        obtain ⟨x, hx⟩ := this
        exact lone x u hx rfl
      | cons v q =>
        refine tupled ?_
        have : oneRes ds = .tup ds := by
         match ds, e2 with
         | x :: y :: r, _ => rfl
        rw [this] at hcr
        exact hcr
  · exact hk.elim
 cases e with
 | normal => exact fin hk
 | ret => exact fin hk
 | exit i => exact hk.elim
end
end Go.Ab
namespace Go.Ab
open Go Go.RowKit Go.ChangeShapes Go.WideShapes Go.ChangeAt
def argFields (P : Program) (rec : TypeId → Bool) : List Field → Nat → Nat → Bool
 | [], off, n => Nat.beq off n
 | f :: fs, off, n => Nat.beq f.offset off && rec f.type && argFields P rec fs (off + P.cellsOf f.type) n
def argTy (P : Program) : Nat → TypeId → Bool
 | 0, _ => false
 | d + 1, t => match P.underlying t with
   | some .string => Nat.beq (P.cellsOf t) 1
   | some .bool => Nat.beq (P.cellsOf t) 1
   | some (.int _) => Nat.beq (P.cellsOf t) 1
   | some (.slice e) => Nat.beq (P.cellsOf t) 1 && Nat.blt 0 (P.cellsOf e) && argTy P d e
   | some (.struct fs) => argFields P (argTy P d) fs.toList 0 (P.cellsOf t)
   | _ => false
inductive Shp (P : Program) : TypeId → List D → Prop
 | str {t : TypeId} (h : P.underlying t = some .string) (l : List UInt8) (hl : l.length ≤ maxLen) : Shp P t [.s l]
 | int {t : TypeId} {k : IntKind} (h : P.underlying t = some (.int k)) (n : Int) (hn : (Lit.int k n).wf = true) : Shp P t [.k k n]
 | bool {t : TypeId} (h : P.underlying t = some .bool) (b : Bool) : Shp P t [.b b]
 | slice {t e : TypeId} (h : P.underlying t = some (.slice e)) (xs : List (List D)) (hl : xs.length ≤ maxLen) (hx : ∀ cs ∈ xs, Shp P e cs) : Shp P t [.sl xs]
 | struct {t : TypeId} {fs : Array Field} (h : P.underlying t = some (.struct fs)) (dss : List (List D)) (hl : dss.length = fs.toList.length) (hx : ∀ (i : Nat) (f : Field) (ds : List D), fs.toList[i]? = some f → dss[i]? = some ds → Shp P f.type ds) : Shp P t dss.flatten
section
variable {H : Type} {enc : TypeId × Value → H} {P : Program} {W : World} {sp : Nat → Bool} {held : Bool}
abbrev noAv : Nat → Prop := fun _ => False
theorem fields_shp {fuel : Nat} {rec : TypeId → Bool}
   (ih : ∀ (t : TypeId) (cs : List Value) (x : DataW H × List MemPlace), rec t = true → DataW.trod enc P W 0 sp held fuel t cs = some x → cs.length = P.cellsOf t ∧ (∀ u ∈ cs, u.oneCell' = true) ∧ ∃ ds, ds.length = cs.length ∧ (∀ (i : Nat) (d : D) (u : Value), ds[i]? = some d → cs[i]? = some u → VI W noAv d u) ∧ Shp P t ds) :
   ∀ (fs : List Field) (off : Nat) (cs : List Value), argFields P rec fs off cs.length = true → (∀ (i : Nat) (f : Field), fs[i]? = some f → ∃ x, DataW.trod enc P W 0 sp held fuel f.type ((cs.drop f.offset).take (P.cellsOf f.type)) = some x) →
     off ≤ cs.length ∧ (∀ u ∈ cs.drop off, u.oneCell' = true) ∧ ∃ dss : List (List D), dss.length = fs.length ∧ (∀ (i : Nat) (f : Field) (ds : List D), fs[i]? = some f → dss[i]? = some ds → Shp P f.type ds) ∧ dss.flatten.length = cs.length - off ∧
       ∀ (i : Nat) (d : D) (u : Value), dss.flatten[i]? = some d → (cs.drop off)[i]? = some u → VI W noAv d u
 | [], off, cs, ha, _ => by
   simp only [argFields] at ha
   have := Nat.eq_of_beq_eq_true ha
   refine ⟨by omega, by simp [this], [], rfl, by simp, by simp [this], by simp⟩
 | f :: fs, off, cs, ha, hm => by
   simp only [argFields, Bool.and_eq_true] at ha
   obtain ⟨⟨h1, h2⟩, h3⟩ := ha
   have hoff := Nat.eq_of_beq_eq_true h1
   obtain ⟨x, hx⟩ := hm 0 f rfl
   rw [hoff] at hx
   obtain ⟨g1, g2, ds, g3, g4, g5⟩ := ih f.type _ x h2 hx
   obtain ⟨q1, q2, dss, q3, q4, q5, q6⟩ := fields_shp ih fs (off + P.cellsOf f.type) cs h3 (fun i f' hf => hm (i + 1) f' (by simpa using hf))
   have hl : ((cs.drop off).take (P.cellsOf f.type)).length = P.cellsOf f.type := g1
   simp only [List.length_take, List.length_drop] at hl
   have hsplit : cs.drop off = (cs.drop off).take (P.cellsOf f.type) ++ cs.drop (off + P.cellsOf f.type) := by
    rw [← List.drop_drop, List.take_append_drop]
   refine ⟨by omega, fun u hu => ?_, ds :: dss, by simp [q3], fun i f' ds' hf hd => ?_, ?_, fun i d u hd hu => ?_⟩
   · rw [hsplit] at hu
     rcases List.mem_append.1 hu with h | h
     · exact g2 u h
     · exact q2 u h
   · cases i with
     | zero => simp at hf hd; subst hf hd; exact g5
     | succ i => exact q4 i f' ds' (by simpa using hf) (by simpa using hd)
   · simp only [List.flatten_cons, List.length_append, q5, g3, g1]
     omega
   · rw [hsplit] at hu
     simp only [List.flatten_cons] at hd
     by_cases hi : i < ds.length
     · rw [List.getElem?_append_left hi] at hd
       rw [List.getElem?_append_left (by rw [← g3]; exact hi)] at hu
       exact g4 i d u hd hu
     · rw [List.getElem?_append_right (by omega)] at hd
       rw [List.getElem?_append_right (by rw [← g3]; omega), ← g3] at hu
       exact q6 _ d u hd hu
theorem trod_shp : ∀ (dp : Nat) (fuel : Nat) (t : TypeId) (cs : List Value) (x : DataW H × List MemPlace), argTy P dp t = true → DataW.trod enc P W 0 sp held fuel t cs = some x →
   cs.length = P.cellsOf t ∧ (∀ u ∈ cs, u.oneCell' = true) ∧ ∃ ds, ds.length = cs.length ∧ (∀ (i : Nat) (d : D) (u : Value), ds[i]? = some d → cs[i]? = some u → VI W noAv d u) ∧ Shp P t ds := by
 intro dp
 induction dp with
 | zero => intro fuel t cs x h; simp [argTy] at h
 | succ dp ih =>
   intro fuel t cs x h hx
   cases fuel with
   | zero => simp [DataW.trod] at hx
   | succ fuel =>
   unfold argTy at h
   have one : ∀ (v : Value) (d : D), v.oneCell' = true → VI W noAv d v → Shp P t [d] → Nat.beq (P.cellsOf t) 1 = true → cs = [v] → cs.length = P.cellsOf t ∧ (∀ u ∈ cs, u.oneCell' = true) ∧ ∃ ds, ds.length = cs.length ∧ (∀ (i : Nat) (d : D) (u : Value), ds[i]? = some d → cs[i]? = some u → VI W noAv d u) ∧ Shp P t ds := by
    intro v d h1 hv hs hz hc
    subst hc
    refine ⟨by rw [Nat.eq_of_beq_eq_true hz]; rfl, by simpa using h1, [d], rfl, fun i d' u p q => ?_, hs⟩
    cases i with
    | zero => simp at p q; subst p q; exact hv
    | succ i => simp at p
   split at h
   · -- string
     rename_i hu
     obtain ⟨v, rfl, _, hs⟩ := DataW.trod_string hu hx
     have hse : v = ⟨v.data.toList.toArray⟩ := by cases v; simp
     refine one (.string v) (.s v.data.toList) rfl ?_ (.str hu _ (by rw [Array.length_toList]; exact hs)) h rfl
     have := VI.s (w := W) (Av := noAv) v.data.toList
     rw [← hse] at this
     exact this
   · rename_i hu
     obtain ⟨b, rfl, _⟩ := DataW.trod_bool hu hx
     exact one (.bool b) (.b b) rfl (.b b) (.bool hu b) h rfl
   · rename_i k hu
     obtain ⟨n, rfl, _, hw⟩ := DataW.trod_int hu hx
     exact one (.int k n) (.k k n) rfl (.k k n) (.int hu n hw) h rfl
   · rename_i e hu
     simp only [Bool.and_eq_true] at h
     obtain ⟨⟨hz, hce0⟩, he⟩ := h
     have hce0 : 0 < P.cellsOf e := Nat.le_of_ble_eq_true hce0
     rcases Go.Deep.open_slice hu hx with ⟨rfl, _⟩ | ⟨a, len, cap, m, n, Dd, Pl, rfl, _, hlc, hcm, hm, _, hel⟩
     · exact one (.slice none 0 0) (.sl []) rfl .sl0 (.slice hu [] (by simp) (by simp)) hz rfl
     · have hlm : len ≤ m := by rw [hm]; split <;> omega
       have elem : ∀ i, i < len → ∃ (ds : List D) (us : List Value), ds.length = P.cellsOf e ∧ us.length = P.cellsOf e ∧ (∀ u ∈ us, u.oneCell' = true) ∧ (∀ (j : Nat) (d : D) (u : Value), ds[j]? = some d → us[j]? = some u → VI W noAv d u) ∧ Shp P e ds ∧ ∀ j u, us[j]? = some u → W.cell? (a.add (i * P.cellsOf e + j)) = some u := by
        intro i hi
        obtain ⟨cs', h1, h2⟩ := hel i (by omega)
        obtain ⟨g1, g2, ds, g3, g4, g5⟩ := ih n e cs' _ he h2
        obtain ⟨_, c1, c2⟩ := World.cells?_some h1
        refine ⟨ds, cs', by rw [g3, g1], g1, g2, g4, g5, fun j u hu => ?_⟩
        have hj : j < P.cellsOf e := by rw [← c1]; exact (List.getElem?_eq_some_iff.1 hu).1
        have := c2 j hj
        rw [add_add] at this
        rw [this]; exact hu
       have cho : ∃ (F : Nat → List D) (G : Nat → List Value), ∀ i, i < len → (F i).length = P.cellsOf e ∧ (G i).length = P.cellsOf e ∧ (∀ u ∈ G i, u.oneCell' = true) ∧ (∀ (j : Nat) (d : D) (u : Value), (F i)[j]? = some d → (G i)[j]? = some u → VI W noAv d u) ∧ Shp P e (F i) ∧ ∀ j u, (G i)[j]? = some u → W.cell? (a.add (i * P.cellsOf e + j)) = some u := by
        refine ⟨fun i => if hi : i < len then (elem i hi).choose else [], fun i => if hi : i < len then (elem i hi).choose_spec.choose else [], fun i hi => ?_⟩
        simp only [hi, dif_pos]
        exact (elem i hi).choose_spec.choose_spec
       obtain ⟨F, G, hFG⟩ := cho
       have hxs : ∀ (i : Nat) (cs : List D), ((List.range len).map F)[i]? = some cs → i < len ∧ cs = F i := by
        intro i cs hc
        simp only [List.getElem?_map, Option.map_eq_some_iff] at hc
        obtain ⟨k, hk, rfl⟩ := hc
        have hlt : i < len := by have := (List.getElem?_eq_some_iff.1 hk).1; simpa using this
        rw [List.getElem?_range hlt] at hk
        cases hk
        exact ⟨hlt, rfl⟩
       have hcell : ∀ (i j : Nat) (cs : List D) (d : D), ((List.range len).map F)[i]? = some cs → cs[j]? = some d → W.cell? (a.add (i * P.cellsOf e + j)) = some ((G i).getD j undef) ∧ ((G i).getD j undef).oneCell' = true ∧ VI W noAv d ((G i).getD j undef) := by
        intro i j cs d hc hd
        obtain ⟨hi, rfl⟩ := hxs i cs hc
        obtain ⟨f1, f2, f3, f4, f5, f6⟩ := hFG i hi
        have hj : j < (G i).length := by rw [f2, ← f1]; exact (List.getElem?_eq_some_iff.1 hd).1
        have hg : (G i)[j]? = some ((G i).getD j undef) := by simp [List.getD, hj]
        exact ⟨f6 j _ hg, f3 _ (List.mem_of_getElem? hg), f4 j d _ hd hg⟩
       refine one (.slice (some a) len cap) (.sl ((List.range len).map F)) rfl ?_ (.slice hu _ (by simp; omega) fun cs hcs => ?_) hz rfl
       · refine .sl (sz := P.cellsOf e) (fun i j => (G i).getD j undef) (by simp) hlc hcm (fun hne => ?_) (fun _ h => h) (fun cs hcs => ?_) (fun i j cs d p q => (hcell i j cs d p q).1) (fun i j cs d p q => (hcell i j cs d p q).2.1) (fun i j cs d p q => (hcell i j cs d p q).2.2)
         · have hl0 : 0 < len := by
             cases hlen : len with
             | zero => rw [hlen] at hne; simp at hne
             | succ k => omega
           obtain ⟨f1, f2, f3, f4, f5, f6⟩ := hFG 0 hl0
           have hg : (G 0)[0]? = some ((G 0).getD 0 undef) := by
            have : 0 < (G 0).length := by omega
            simp [List.getD, this]
           have := f6 0 _ hg
           simp only [Nat.zero_mul, Nat.add_zero] at this
           have hc : W.cell? a = some ((G 0).getD 0 undef) := this
           unfold World.cell? at hc
           split at hc
           · rename_i hh; exact (Array.getElem?_eq_some_iff.1 hh).1
           · cases hc
         · obtain ⟨i, hi⟩ := List.mem_iff_getElem?.1 hcs
           obtain ⟨hlt, rfl⟩ := hxs i cs hi
           exact (hFG i hlt).1
       · obtain ⟨i, hi⟩ := List.mem_iff_getElem?.1 hcs
         obtain ⟨hlt, rfl⟩ := hxs i cs hi
         exact (hFG i hlt).2.2.2.2.1
   · rename_i fs hu
     obtain ⟨xs, n, rfl', _, hl, hxl, hf⟩ := DataW.trod_struct hu hx
     obtain ⟨q1, q2, dss, q3, q4, q5, q6⟩ := fields_shp (rec := argTy P dp) (fun t cs x h1 h2 => ih n t cs x h1 h2) fs.toList 0 cs (by rw [hl]; exact h) (fun i f hi => by
      have hi' : fs[i]? = some f := by simpa using hi
      have hlt : i < xs.length := by rw [hxl]; exact (Array.getElem?_eq_some_iff.1 hi').1
      exact ⟨xs[i], by rw [hf i f hi']; exact List.getElem?_eq_getElem hlt⟩)
     simp only [List.drop_zero, Nat.sub_zero] at q2 q5 q6
     exact ⟨hl, q2, dss.flatten, q5, q6, .struct hu dss q3 q4⟩
   · cases h
def ShpV (P : Program) (t : TypeId) (d : D) : Prop :=
 match P.underlying t with
 | some (.struct _) => ∃ ds, d = .agg ds ∧ Shp P t ds
 | _ => Shp P t [d]
theorem arg_shp {dp : Nat} {t : TypeId} (ha : argTy P dp t = true) {v : Value} {x : DataW H} {ps : List MemPlace} (h : DataW.Trod enc P W 0 sp held t v x ps) {b0 : Nat} (hok : Value.okWide P W .any b0 t v) : ∃ d, (∀ Av ρ, (∀ y, ¬ Av y) → VG W Av ρ d v) ∧ ShpV P t d := by
 obtain ⟨fuel, hx⟩ := h
 obtain ⟨h1, h2, ds, h3, h4, h5⟩ := trod_shp dp fuel t _ _ ha hx
 have up : ∀ (Av : Nat → Prop), (∀ y, ¬ Av y) → ∀ d u, VI W noAv d u → VI W Av d u := fun Av hA d u hv => hv.mono (fun _ _ _ => rfl) (Nat.le_refl _) fun x _ hx => (hA x hx).elim
 have one : v.oneCell' = true → ∃ d, (∀ Av ρ, (∀ y, ¬ Av y) → VG W Av ρ d v) ∧ Shp P t [d] := by
  intro hone
  rw [cells_one hone] at h3 h4
  match ds, h3, h4, h5 with
  | [d], _, h4, h5 => exact ⟨d, fun Av ρ hA => .atom (.im (up Av hA d v (h4 0 d v rfl rfl))), h5⟩
 unfold Value.okWide at hok
 unfold ShpV
 cases dp with
 | zero => simp [argTy] at ha
 | succ dp =>
 unfold argTy at ha
 split at ha
 · rename_i hu
   rw [hu] at hok ⊢
   exact one (by cases v <;> first | rfl | (simp [Cell.okWide, hu, Cell.ok] at hok))
 · rename_i hu
   rw [hu] at hok ⊢
   exact one (by cases v <;> first | rfl | (simp [Cell.okWide, hu, Cell.ok] at hok))
 · rename_i hu
   rw [hu] at hok ⊢
   exact one (by cases v <;> first | rfl | (simp [Cell.okWide, hu, Cell.ok] at hok))
 · rename_i hu
   rw [hu] at hok ⊢
   exact one (by cases v <;> first | rfl | (simp [Cell.okWide, hu, Cell.ok] at hok))
 · rename_i hu
   rw [hu] at hok ⊢
   obtain ⟨cs, rfl, _, _⟩ := hok
   exact ⟨.agg ds, fun Av ρ hA => .agg (us := cs.toList) (by simpa [Value.cells] using h3) (by simpa [Value.cells] using h2) fun i d u p q => .im (up Av hA d u (h4 i d u p (by simpa [Value.cells] using q))), ds, rfl, h5⟩
 · cases ha
end
section
variable {H : Type} {enc : TypeId × Value → H} {P : Program}
theorem post_below {f : Func} {s : ChangeSpec} {apart fresh handsOn again : Bool} {W W' : World} {args : Array Value} {v : Value} {ds gs : List (DataW H)} {before pa pv : List MemPlace}
   (hW : DataW.Whole enc P f.params.toList s.vars apart W args.toList ds gs before)
   (hres : ∀ (b : Nat) (sp : Nat → Bool) (hd : Bool), DataW.TrodAll enc P W' b sp hd f.resultTypes.toList (v.resultList f.resultTypes.size) (s.fn H (ds ++ gs)).results [])
   (hargs : ∀ sp : Nat → Bool, (∀ p ∈ before, sp p.block = true) → DataW.TrodAll enc P W' 0 sp true f.params.toList args.toList (s.fn H (ds ++ gs)).args pa)
   (hvars : ∀ sp : Nat → Bool, (∀ p ∈ before, sp p.block = true) → DataW.TrodVars enc P W' sp s.vars (s.fn H (ds ++ gs)).vars pv)
   (hps : before = pa ++ pv) (hb : Below W.heap.size W W')
   (hok : ∀ (j : Nat) (t : TypeId) (r : Value), f.resultTypes[j]? = some t → (v.resultList f.resultTypes.size)[j]? = some r → Value.okWide P W' .any 0 t r) :
   s.post enc P f apart fresh handsOn again W args v W' := by
 have hlt : ∀ p ∈ before, p.block < W.heap.size := fun p hp => hW.lt p hp
 have hold : ∀ p ∈ before, (fun b => decide (b < W.heap.size)) p.block = true := fun p hp => by simpa using hlt p hp
 refine ⟨ds, gs, before, [], pa, pv, hW, hres _ _ _, hargs _ hold, hvars _ hold, World.keptBut_mono (fun p hp => ⟨hp, ?_⟩) (hb.frame (· ∈ before)), fun _ => ?_⟩
 · rw [hps, List.mem_append] at hp
   exact Or.inr hp
 · obtain ⟨_, _, _, _, _, hz, hn⟩ := hW
   refine ⟨hok, _, _, ([] ++ pa) ++ pv, ⟨[] ++ pa, pv, trodAll_append (hargs _ (fun _ _ => rfl)) (hres _ _ _), hvars _ (fun _ _ => rfl), rfl, ?_, ?_⟩, ?_⟩
   · intro b off hp
     have hin : MemPlace.cell b off ∈ before := by rw [hps]; simpa using hp
     rw [hb.frozen (hlt _ hin)]
     exact hz b off hin
   · intro ha
     have := hn ha
     rw [hps] at this
     simpa using this
   · intro p hp _
     rw [hps]
     simpa using hp
theorem trodAll_len {W : World} {sp : Nat → Bool} {held : Bool} : ∀ {ts : List TypeId} {vs : List Value} {ds : List (DataW H)} {ps : List MemPlace}, DataW.TrodAll enc P W 0 sp held ts vs ds ps → vs.length = ts.length ∧ ds.length = ts.length
 | [], [], [], _, _ => ⟨rfl, rfl⟩
 | t :: ts, v :: vs, d :: ds, ps, h => by
   obtain ⟨p, q, _, h2, _⟩ := h
   have := trodAll_len h2
   simp [this.1, this.2]
 | [], _ :: _, _, _, h => h.elim
 | [], [], _ :: _, _, h => h.elim
 | _ :: _, [], _, _, h => h.elim
 | _ :: _, _ :: _, [], _, h => h.elim
def ShpAll (P : Program) : List TypeId → List D → Prop
 | [], [] => True
 | t :: ts, d :: ds => ShpV P t d ∧ ShpAll P ts ds
 | _, _ => False
theorem args_shp {dp : Nat} {W : World} {sp : Nat → Bool} {held : Bool} {b0 : Nat} : ∀ {ts : List TypeId} {vs : List Value} {ds : List (DataW H)} {ps : List MemPlace}, ts.all (argTy P dp) = true → (∀ (j : Nat) (t : TypeId) (v : Value), ts[j]? = some t → vs[j]? = some v → Value.okWide P W .any b0 t v) →
   DataW.TrodAll enc P W 0 sp held ts vs ds ps → ∃ cds, cds.length = vs.length ∧ ShpAll P ts cds ∧ ∀ (i : Nat) (d : D) (u : Value), cds[i]? = some d → vs[i]? = some u → ∀ Av ρ, (∀ y, ¬ Av y) → VG W Av ρ d u
 | [], [], [], _, _, _, _ => ⟨[], rfl, trivial, by simp⟩
 | t :: ts, v :: vs, d :: ds, ps, ha, hok, h => by
   obtain ⟨p, q, h1, h2, _⟩ := h
   simp only [List.all_cons, Bool.and_eq_true] at ha
   obtain ⟨c, g1, g2⟩ := arg_shp ha.1 h1 (hok 0 t v rfl rfl)
   obtain ⟨cs, k1, k2, k3⟩ := args_shp ha.2 (fun j t v p q => hok (j + 1) t v (by simpa using p) (by simpa using q)) h2
   refine ⟨c :: cs, by simp [k1], ⟨g2, k2⟩, fun i d u p q => ?_⟩
   cases i with
   | zero => simp at p q; subst p q; exact g1
   | succ i => exact k3 i d u (by simpa using p) (by simpa using q)
 | [], _ :: _, _, _, _, _, h => h.elim
 | [], [], _ :: _, _, _, _, h => h.elim
 | _ :: _, [], _, _, _, _, h => h.elim
 | _ :: _, _ :: _, [], _, _, _, h => h.elim
theorem args_stay {W W' : World} {sp' : Nat → Bool} (hl : laidOutB P = true) (hb : Below W.heap.size W W') : ∀ {ts : List TypeId} {vs : List Value} {ds : List (DataW H)} {ps : List MemPlace}, (∀ t ∈ ts, P.readableRec t = true ∧ t < P.types.size) → (∀ x ∈ ps, x.block < W.heap.size) → (∀ x ∈ ps, sp' x.block = true) →
   DataW.TrodAll enc P W 0 (fun _ => true) true ts vs ds ps → DataW.TrodAll enc P W' 0 sp' true ts vs ds ps
 | [], [], [], _, _, _, _, h => h
 | t :: ts, v :: vs, d :: ds, ps, hr, hlt, hsp, h => by
   obtain ⟨p, q, h1, h2, rfl⟩ := h
   obtain ⟨r1, r2⟩ := hr t (by simp)
   exact ⟨p, q, WideElems.Trod_stays hl r1 r2 h1 (fun x hx => hb.same (hlt x (by simp [hx]))) (fun x hx => hsp x (by simp [hx])),
    args_stay hl hb (fun t ht => hr t (by simp [ht])) (fun x hx => hlt x (by simp [hx])) (fun x hx => hsp x (by simp [hx])) h2, rfl⟩
 | [], _ :: _, _, _, _, _, _, h => h.elim
 | [], [], _ :: _, _, _, _, _, h => h.elim
 | _ :: _, [], _, _, _, _, _, h => h.elim
 | _ :: _, _ :: _, [], _, _, _, _, h => h.elim
end
end Go.Ab
namespace Go.Ab
open Go Go.RowKit
section
variable {P : Program}
theorem Shp.str_inv {t : TypeId} {ds : List D} (hu : P.underlying t = some .string) (h : Shp P t ds) : ∃ l : List UInt8, ds = [.s l] ∧ l.length ≤ maxLen := by
 cases h with
 | str h l hl => exact ⟨l, rfl, hl⟩
 | int h => rw [hu] at h; cases h
 | bool h => rw [hu] at h; cases h
 | slice h => rw [hu] at h; cases h
 | struct h => rw [hu] at h; cases h
theorem Shp.int_inv {t : TypeId} {ds : List D} {k : IntKind} (hu : P.underlying t = some (.int k)) (h : Shp P t ds) : ∃ n : Int, ds = [.k k n] ∧ (Lit.int k n).wf = true := by
 cases h with
 | str h => rw [hu] at h; cases h
 | int h n hn => rw [hu] at h; cases h; exact ⟨n, rfl, hn⟩
 | bool h => rw [hu] at h; cases h
 | slice h => rw [hu] at h; cases h
 | struct h => rw [hu] at h; cases h
theorem Shp.bool_inv {t : TypeId} {ds : List D} (hu : P.underlying t = some .bool) (h : Shp P t ds) : ∃ b : Bool, ds = [.b b] := by
 cases h with
 | str h => rw [hu] at h; cases h
 | int h => rw [hu] at h; cases h
 | bool h b => exact ⟨b, rfl⟩
 | slice h => rw [hu] at h; cases h
 | struct h => rw [hu] at h; cases h
theorem Shp.slice_inv {t e : TypeId} {ds : List D} (hu : P.underlying t = some (.slice e)) (h : Shp P t ds) : ∃ xs : List (List D), ds = [.sl xs] ∧ xs.length ≤ maxLen ∧ ∀ cs ∈ xs, Shp P e cs := by
 cases h with
 | str h => rw [hu] at h; cases h
 | int h => rw [hu] at h; cases h
 | bool h => rw [hu] at h; cases h
 | slice h xs hl hx => rw [hu] at h; cases h; exact ⟨xs, rfl, hl, hx⟩
 | struct h => rw [hu] at h; cases h
def ShpF (P : Program) : List TypeId → List D → Prop
 | [], ds => ds = []
 | t :: ts, ds => ∃ a b, ds = a ++ b ∧ Shp P t a ∧ ShpF P ts b
theorem shpF_of {ts : List TypeId} : ∀ {dss : List (List D)}, dss.length = ts.length → (∀ (i : Nat) (t : TypeId) (ds : List D), ts[i]? = some t → dss[i]? = some ds → Shp P t ds) → ShpF P ts dss.flatten := by
 induction ts with
 | nil => intro dss hl _; match dss, hl with | [], _ => rfl
 | cons t ts ih =>
   intro dss hl hx
   match dss, hl with
   | d :: dss, hl =>
     exact ⟨d, dss.flatten, rfl, hx 0 t d rfl rfl, ih (by simpa using hl) fun i t ds h1 h2 => hx (i + 1) t ds (by simpa using h1) (by simpa using h2)⟩
theorem Shp.struct_inv {t : TypeId} {ds : List D} {fs : Array Field} (hu : P.underlying t = some (.struct fs)) (h : Shp P t ds) : ShpF P (fs.toList.map (·.type)) ds := by
 cases h with
 | str h => rw [hu] at h; cases h
 | int h => rw [hu] at h; cases h
 | bool h => rw [hu] at h; cases h
 | slice h => rw [hu] at h; cases h
 | struct h dss hl hx =>
   rw [hu] at h; cases h
   refine shpF_of (by simpa using hl) fun i t ds h1 h2 => ?_
   simp only [List.getElem?_map, Option.map_eq_some_iff] at h1
   obtain ⟨f, hf, rfl⟩ := h1
   exact hx i f ds hf h2
theorem ShpV.struct {t : TypeId} {d : D} {fs : Array Field} (hu : P.underlying t = some (.struct fs)) (h : ShpV P t d) : ∃ ds, d = .agg ds ∧ ShpF P (fs.toList.map (·.type)) ds := by
 unfold ShpV at h
 rw [hu] at h
 obtain ⟨ds, rfl, h⟩ := h
 exact ⟨ds, rfl, h.struct_inv hu⟩
theorem readB_mem {ts : List TypeId} (h : (ts.all fun t => P.readableRec t && Nat.blt t P.types.size) = true) : ∀ t ∈ ts, P.readableRec t = true ∧ t < P.types.size := by
 intro t ht
 have := List.all_eq_true.1 h t ht
 simp only [Bool.and_eq_true] at this
 exact ⟨this.1, Nat.le_of_ble_eq_true this.2⟩
end
end Go.Ab
