/- An abstract reading of the elaborated code. Part 8: '==' between structs, conversions, lengths, parts. -/
import Derived.Test.YtgeieehampfkcaaDoorBg
import Derived.Laws.BytesString
namespace Go.Ab
open Go Go.RowKit

section
variable {P : Program} {w : World}
theorem eqA_fits {Av : Nat → Prop} {ρ : Nat → Option Value} {c : Nat} {d e : D} {u v : Value} {x : Bool} (h : eqA c d e = some x) (hu : VA w Av ρ d u) (hv : VA w Av ρ e v) :
    (c = 0 ∧ ∃ a b, u = .bool a ∧ v = .bool b ∧ x = (a == b)) ∨ (c = 1 ∧ ∃ k m n, u = .int k m ∧ v = .int k n ∧ x = (m == n)) ∨ (c = 2 ∧ ∃ s t : ByteArray, u = .string s ∧ v = .string t ∧ x = (s.toList == t.toList)) := by
  unfold eqA at h
  split at h
  · cases h
    cases hu with | im hu => cases hv with | im hv => cases hu; cases hv; exact .inl ⟨rfl, _, _, rfl, rfl, rfl⟩
  · split at h
    · rename_i hk
      cases h
      have := of_decide_eq_true hk
      subst this
      cases hu with | im hu => cases hv with | im hv => cases hu; cases hv; exact .inr (.inl ⟨rfl, _, _, _, rfl, rfl, rfl⟩)
    · cases h
  · cases h
    cases hu with | im hu => cases hv with | im hv =>
      cases hu; cases hv
      refine .inr (.inr ⟨rfl, _, _, rfl, rfl, ?_⟩)
      rw [ByteArray.toList_mk, ByteArray.toList_mk]
      rename_i l l'
      by_cases e : l = l' <;> simp [e]
  · cases h
theorem eqAs_append : ∀ {c1 c2 : List Nat} {ds es : List D} {x : Bool}, eqAs (c1 ++ c2) ds es = some x → ∃ x1 x2, eqAs c1 (ds.take c1.length) (es.take c1.length) = some x1 ∧ eqAs c2 (ds.drop c1.length) (es.drop c1.length) = some x2 ∧ x = (x1 && x2) ∧ ds.length = c1.length + c2.length ∧ es.length = c1.length + c2.length
  | [], c2, ds, es, x, h => by
    have hl : ∀ (c : List Nat) (ds es : List D) (x : Bool), eqAs c ds es = some x → ds.length = c.length ∧ es.length = c.length := by
      intro c
      induction c with
      | nil => intro ds es x h; cases ds <;> cases es <;> simp [eqAs] at h ⊢
      | cons a r ih =>
        intro ds es x h
        cases ds with
        | nil => cases es <;> simp [eqAs] at h
        | cons d ds =>
          cases es with
          | nil => simp [eqAs] at h
          | cons e es =>
            simp only [eqAs] at h
            split at h
            · split at h
              · rename_i h2
                have := ih _ _ _ h2
                simp [this.1, this.2]
              · cases h
            · cases h
    have := hl c2 ds es x h
    exact ⟨true, x, rfl, by simpa using h, by simp, by simp [this.1], by simp [this.2]⟩
  | a :: c1, c2, [], es, x, h => by cases es <;> simp [eqAs] at h
  | a :: c1, c2, d :: ds, [], x, h => by simp [eqAs] at h
  | a :: c1, c2, d :: ds, e :: es, x, h => by
    simp only [List.cons_append, eqAs] at h
    split at h
    · rename_i e1 he1
      split at h
      · rename_i e2 he2
        cases h
        obtain ⟨x1, x2, h1, h2, h3, h4, h5⟩ := eqAs_append he2
        refine ⟨e1 && x1, x2, ?_, h2, by rw [h3, Bool.and_assoc], by simp [h4]; omega, by simp [h5]; omega⟩
        simp [eqAs, he1, h1]
      · cases h
    · cases h

/-- a value out of its cells -/
def pv (P : Program) (t : TypeId) (us : List Value) : Value :=
  match P.underlying t with
  | some (.struct _) => .agg us.toArray
  | _ => us.headD undef
theorem part_run {t : TypeId} {n off : Nat} (hz : P.cellsOf t = n) (hn : 0 < n) {us : List Value} (hl : off + n ≤ us.length) (hna : ∀ m e, P.underlying t ≠ some (.array m e)) (hs : ∃ d, P.underlying t = some d) :
    (part t us.toArray off).run P w = .ok (pv P t ((us.drop off).take n)) w := by
  obtain ⟨d, hd⟩ := hs
  have hsz := sizeOf_cells hz hn w
  have hlt : off < us.length := by omega
  have head : ((us.drop off).take n).headD undef = us[off] := by
    cases n with
    | zero => omega
    | succ n => rw [List.drop_eq_getElem_cons hlt]; rfl
  unfold part pv
  rw [hd]
  cases d <;> first
    | (exact absurd hd (hna _ _))
    | (simp only [Sem.run_bind, isAgg, run_underlying hd, Result.andThen_ok, Sem.run_pure, hsz, if_true]
       congr 2
       apply Array.ext'
       simp [List.extract_eq_take_drop])
    | (simp only [head]; simp [Sem.run_bind, isAgg, run_underlying hd, Result.andThen_ok, Sem.run_pure, hlt]; done)

theorem eqCodes_len {d : Nat} {t : TypeId} {c : List Nat} (h : eqCodes P d t = some c) : (∀ m e, P.underlying t ≠ some (.array m e)) ∧ (∃ d, P.underlying t = some d) := by
  cases d with
  | zero => simp [eqCodes] at h
  | succ d =>
    unfold eqCodes at h
    split at h
    · rename_i hu; exact ⟨fun m e h => by (rw [hu] at h; cases h), _, hu⟩
    · rename_i hu; exact ⟨fun m e h => by (rw [hu] at h; cases h), _, hu⟩
    · rename_i hu; exact ⟨fun m e h => by (rw [hu] at h; cases h), _, hu⟩
    · rename_i hu; exact ⟨fun m e h => by (rw [hu] at h; cases h), _, hu⟩
    · cases h

theorem equalIn_plain {Av : Nat → Prop} {ρ : Nat → Option Value} : ∀ (d : Nat) (t : TypeId) (c : List Nat) (k : Nat) (ds es : List D) (us vs : List Value) (x : Bool), eqCodes P d t = some c → ds.length = us.length → es.length = vs.length →
    (∀ (i : Nat) (d : D) (u : Value), ds[i]? = some d → us[i]? = some u → VA w Av ρ d u) → (∀ (i : Nat) (d : D) (u : Value), es[i]? = some d → vs[i]? = some u → VA w Av ρ d u) →
    eqAs c ds es = some x → (Op.equalIn (d + k) t (pv P t us) (pv P t vs)).run P w = .ok x w := by
  intro d
  induction d with
  | zero => intro t c k ds es us vs x h; simp [eqCodes] at h
  | succ d ih =>
    intro t c k ds es us vs x h hl1 hl2 hr1 hr2 hx
    have hdk : d + 1 + k = (d + k) + 1 := by omega
    rw [hdk]
    have scal : ∀ a, c = [a] → ∃ d1 e1 u1 v1, ds = [d1] ∧ es = [e1] ∧ us = [u1] ∧ vs = [v1] ∧ eqA a d1 e1 = some x ∧ VA w Av ρ d1 u1 ∧ VA w Av ρ e1 v1 := by
      intro a hc
      subst hc
      match ds, es, us, vs, hl1, hl2, hr1, hr2, hx with
      | [], [], _, _, _, _, _, _, hx => simp [eqAs] at hx
      | [], _ :: _, _, _, _, _, _, _, hx => simp [eqAs] at hx
      | _ :: _, [], _, _, _, _, _, _, hx => simp [eqAs] at hx
      | [d1], [e1], [u1], [v1], _, _, hr1, hr2, hx =>
        simp only [eqAs] at hx
        split at hx
        · rename_i y hy
          simp at hx
          subst hx
          exact ⟨d1, e1, u1, v1, rfl, rfl, rfl, rfl, hy, hr1 0 d1 u1 rfl rfl, hr2 0 e1 v1 rfl rfl⟩
        · cases hx
      | [_], [_], [], _, hl, _, _, _, _ => simp at hl
      | [_], [_], _ :: _ :: _, _, hl, _, _, _, _ => simp at hl
      | [_], [_], [_], [], _, hl, _, _, _ => simp at hl
      | [_], [_], [_], _ :: _ :: _, _, hl, _, _, _ => simp at hl
      | _ :: _ :: _, [_], _, _, _, _, _, _, hx => simp only [eqAs] at hx; split at hx <;> cases hx
      | [_], _ :: _ :: _, _, _, _, _, _, _, hx => simp only [eqAs] at hx; split at hx <;> cases hx
      | _ :: _ :: _, _ :: _ :: _, _, _, _, _, _, _, hx => simp only [eqAs] at hx; split at hx <;> cases hx
    unfold eqCodes at h
    split at h
    · rename_i hu
      split at h
      · cases h
        obtain ⟨d1, e1, u1, v1, rfl, rfl, rfl, rfl, h1, h2, h3⟩ := scal 2 rfl
        rcases eqA_fits h1 h2 h3 with ⟨e, _⟩ | ⟨e, _⟩ | ⟨_, s, s', rfl, rfl, rfl⟩
        · cases e
        · cases e
        · simp only [pv, hu, List.headD_cons]
          exact run_equalIn_string w _ t s s' hu
      · cases h
    · rename_i hu
      split at h
      · cases h
        obtain ⟨d1, e1, u1, v1, rfl, rfl, rfl, rfl, h1, h2, h3⟩ := scal 0 rfl
        rcases eqA_fits h1 h2 h3 with ⟨_, a, b, rfl, rfl, rfl⟩ | ⟨e, _⟩ | ⟨e, _⟩
        · simp only [pv, hu, List.headD_cons]
          exact run_equalIn_bool' w _ t a b hu
        · cases e
        · cases e
      · cases h
    · rename_i kd hu
      split at h
      · cases h
        obtain ⟨d1, e1, u1, v1, rfl, rfl, rfl, rfl, h1, h2, h3⟩ := scal 1 rfl
        rcases eqA_fits h1 h2 h3 with ⟨e, _⟩ | ⟨_, k', m, n, rfl, rfl, rfl⟩ | ⟨e, _⟩
        · cases e
        · simp only [pv, hu, List.headD_cons]
          simp [Op.equalIn, run_underlying hu]
        · cases e
      · cases h
    · rename_i fs hu
      split at h
      · cases h
      · rename_i hp
        have hfo : P.fieldsOf t = fs := by simp [Program.fieldsOf, hu]
        simp only [pv, hu]
        rw [run_equalIn_struct w _ t _ _ (by rw [hfo]; exact hu) (by simpa using hp), hfo]
        -- over the fields
        have key : ∀ (fs : List Field) (off : Nat) (c : List Nat) (x : Bool), eqFields P (eqCodes P d) fs off (P.cellsOf t) = some c → eqAs c (ds.drop off) (es.drop off) = some x →
            (Op.eqFields (d + k) us.toArray vs.toArray fs).run P w = .ok x w := by
          intro fs
          induction fs with
          | nil =>
            intro off c x h hx
            simp only [eqFields] at h
            split at h
            · cases h
              cases hd : ds.drop off with
              | nil =>
                cases he : es.drop off with
                | nil => rw [hd, he] at hx; simp [eqAs] at hx; subst hx; simp [Op.eqFields]
                | cons => rw [hd, he] at hx; simp [eqAs] at hx
              | cons => rw [hd] at hx; cases he : es.drop off <;> rw [he] at hx <;> simp [eqAs] at hx
            · cases h
          | cons f r ihf =>
            intro off c x h hx
            simp only [eqFields] at h
            split at h
            · rename_i c1 hb hc1
              simp only [Bool.and_eq_true] at hb
              obtain ⟨⟨hn, ho⟩, hpos⟩ := hb
              split at h
              · rename_i c2 hc2
                split at h
                · rename_i hlen
                  cases h
                  have hlen := Nat.eq_of_beq_eq_true hlen
                  have ho := Nat.eq_of_beq_eq_true ho
                  have hpos : 0 < P.cellsOf f.type := Nat.le_of_ble_eq_true hpos
                  obtain ⟨x1, x2, h1, h2, h3, h4, h5⟩ := eqAs_append hx
                  have hnm : f.name ≠ "_" := by simpa using hn
                  have hu1 := eqCodes_len hc1
                  rw [hlen] at h1 h2
                  simp only [List.length_drop] at h4 h5
                  have p1 := part_run (w := w) rfl hpos (us := us) (off := off) (by rw [← hl1]; omega) hu1.1 hu1.2
                  have p2 := part_run (w := w) rfl hpos (us := vs) (off := off) (by rw [← hl2]; omega) hu1.1 hu1.2
                  have cut : ∀ (ds : List D) (us : List Value), ds.length = us.length → (∀ (i : Nat) (d : D) (u : Value), ds[i]? = some d → us[i]? = some u → VA w Av ρ d u) →
                      ((ds.drop off).take (P.cellsOf f.type)).length = ((us.drop off).take (P.cellsOf f.type)).length ∧ ∀ (i : Nat) (d : D) (u : Value), ((ds.drop off).take (P.cellsOf f.type))[i]? = some d → ((us.drop off).take (P.cellsOf f.type))[i]? = some u → VA w Av ρ d u := by
                    intro ds us hl hr
                    refine ⟨by simp [hl], fun i d u a b => ?_⟩
                    rw [List.getElem?_take] at a b
                    split at a
                    · rename_i hi
                      rw [if_pos hi] at b
                      rw [List.getElem?_drop] at a b
                      exact hr _ d u a b
                    · cases a
                  obtain ⟨q1, q2⟩ := cut ds us hl1 hr1
                  obtain ⟨q3, q4⟩ := cut es vs hl2 hr2
                  have heq := ih f.type c1 k _ _ _ _ x1 hc1 q1 q3 q2 q4 h1
                  have hrest := ihf (off + P.cellsOf f.type) c2 x2 hc2 (by simpa [List.drop_drop] using h2)
                  rw [Op.eqFields, if_pos hnm, ho]
                  simp only [Sem.run_bind, p1, p2, Result.andThen_ok, heq]
                  subst h3
                  cases x1
                  · simp
                  · simpa using hrest
                · cases h
              · cases h
            · cases h
        exact key fs.toList 0 c x h (by simpa using hx)
    · cases h
end

section
variable {E : Env} {tm : Tm} {S : Store} {nx : Nat} {o : Oper} {K : Kt}

theorem VR.agg_inv {w : World} {Av : Nat → Prop} {ρ : Nat → Option Value} {ds : List D} {v : Value} (h : VR w Av ρ (.agg ds) v) : ∃ us : List Value, v = .agg us.toArray ∧ ds.length = us.length ∧ (∀ u ∈ us, u.oneCell' = true) ∧ ∀ (i : Nat) (d : D) (u : Value), ds[i]? = some d → us[i]? = some u → VA w Av ρ d u := by
  cases h with
  | gr h =>
    cases h with
    | atom h => cases h with | im h => cases h with | agg hl h1 hr => exact ⟨_, rfl, hl, h1, fun i d u a b => .im (hr i d u a b)⟩
    | agg hl h1 hr => exact ⟨_, rfl, hl, h1, hr⟩

/-- an operator whose result turns on nothing but its operands -/
theorem ok_bin {op : BinOp} {t yt : TypeId} {x y : Operand} (ho : o.op = .binOp op t x y yt) {dx dy d : D} (hx : ev E.gl tm x = some dx) (hy : ev E.gl tm y = some dy) (hk : K fp0 (put o.dst d tm) S nx)
    (hrun : ∀ (w : World) (Av : Nat → Prop) (ρ : Nat → Option Value) (u v : Value), VR w Av ρ dx u → VR w Av ρ dy v → (eqGuard op t x y u v).run E.P w = .ok () w ∧ ∃ r, (binOp op t u v).run E.P w = .ok r w ∧ VI w Av d r) : Ok1 E o tm S nx K := by
  refine Ok1.pure (fp := []) hk fun cx tm' S' a w ρ he _ h => ?_
  obtain ⟨e1, r, e2, e3⟩ := hrun w (AvS cx.G S' ρ) ρ _ _ (h.eval ((he x (by simp [ho, Op.operands])).trans hx)) (h.eval ((he y (by simp [ho, Op.operands])).trans hy))
  exact ⟨r, by simp [execOp, ho, e1, e2], .gr (.atom (.im e3))⟩
theorem intOp_ex {op : BinOp} {kd : IntKind} {m n : Int} {K : D → Prop} (hk : intOp op kd m n K) : ∃ d, (∀ K' : D → Prop, K' d → intOp op kd m n K') ∧ K d := by
  unfold intOp at hk ⊢
  cases op <;> first
    | (obtain ⟨r, h1, h2⟩ := hk; exact ⟨_, fun K' h => ⟨r, h1, h⟩, h2⟩)
    | (obtain ⟨h0, r, h1, h2⟩ := hk; exact ⟨_, fun K' h => ⟨h0, r, h1, h⟩, h2⟩)
    | exact ⟨_, fun K' h => h, hk⟩
    | exact hk.elim
theorem strOp_ex {op : BinOp} {a b : List UInt8} {K : D → Prop} (hk : strOp op a b K) : ∃ d, (∀ K' : D → Prop, K' d → strOp op a b K') ∧ K d := by
  unfold strOp at hk ⊢
  cases op <;> first
    | exact ⟨_, fun K' h => h, hk⟩
    | (obtain ⟨h1, h2⟩ := hk; exact ⟨_, fun K' h => ⟨h1, h⟩, h2⟩)
    | exact hk.elim
theorem eqGuard_plain {P : Program} {w : World} (op : BinOp) (t : TypeId) (x y : Operand) (u v : Value) (h : (∃ k n, u = .int k n) ∨ (∃ s, u = .string s) ∨ ∃ b, u = .bool b) : (eqGuard op t x y u v).run P w = .ok () w := by
  rcases h with ⟨k, n, rfl⟩ | ⟨s, rfl⟩ | ⟨b, rfl⟩ <;> cases op <;> simp [eqGuard]
theorem ok_int {op : BinOp} {t yt : TypeId} {x y : Operand} (ho : o.op = .binOp op t x y yt) {kd : IntKind} {m n : Int} (hx : ev E.gl tm x = some (.k kd m)) (hy : ev E.gl tm y = some (.k kd n))
    (hk : intOp op kd m n fun d => K fp0 (put o.dst d tm) S nx) : Ok1 E o tm S nx K := by
  obtain ⟨d, h1, h2⟩ := intOp_ex hk
  refine ok_bin ho hx hy h2 fun w Av ρ u v hu hv => ?_
  obtain rfl := hu.k_inv
  obtain rfl := hv.k_inv
  obtain ⟨d', r, e1, e2, rfl⟩ := intOp_run (P := E.P) (w := w) (t := t) (Av := Av) (h1 (fun x => x = d) rfl)
  exact ⟨eqGuard_plain _ _ _ _ _ _ (.inl ⟨_, _, rfl⟩), r, e1, e2⟩
theorem ok_str {op : BinOp} {t yt : TypeId} {x y : Operand} (ho : o.op = .binOp op t x y yt) {p q : List UInt8} (hx : ev E.gl tm x = some (.s p)) (hy : ev E.gl tm y = some (.s q))
    (hk : strOp op p q fun d => K fp0 (put o.dst d tm) S nx) : Ok1 E o tm S nx K := by
  obtain ⟨d, h1, h2⟩ := strOp_ex hk
  refine ok_bin ho hx hy h2 fun w Av ρ u v hu hv => ?_
  obtain rfl := hu.s_inv
  obtain rfl := hv.s_inv
  obtain ⟨d', r, e1, e2, rfl⟩ := strOp_run (P := E.P) (w := w) (t := t) (Av := Av) (h1 (fun x => x = d) rfl)
  exact ⟨eqGuard_plain _ _ _ _ _ _ (.inr (.inl ⟨_, rfl⟩)), r, e1, e2⟩
theorem ok_bool (hty : TyOk E) {op : BinOp} {t yt : TypeId} {x y : Operand} (ho : o.op = .binOp op t x y yt) {p q : Bool} (hx : ev E.gl tm x = some (.b p)) (hy : ev E.gl tm y = some (.b q)) {td : TD} (ht : E.ty t = some td) (hkd : td.kind = .bool)
    (hk : boolOpK op p q fun d => K fp0 (put o.dst d tm) S nx) : Ok1 E o tm S nx K := by
  have hu : E.P.underlying t = some .bool := by
    have := hty.kind ht
    rw [hkd] at this
    unfold kindChk at this
    split at this <;> (try (cases this; done)) <;> rename_i h1 h2 <;> first | exact h2 | (cases h1; done)
  obtain ⟨d, h1, h2⟩ : ∃ d, (∀ K' : D → Prop, K' d → boolOpK op p q K') ∧ K fp0 (put o.dst d tm) S nx := by
    unfold boolOpK at hk ⊢
    cases op <;> first | exact ⟨_, fun K' h => h, hk⟩ | exact hk.elim
  refine ok_bin ho hx hy h2 fun w Av ρ u v hu' hv => ?_
  obtain rfl := hu'.b_inv
  obtain rfl := hv.b_inv
  obtain ⟨d', r, e1, e2, rfl⟩ := boolOp_run (P := E.P) (w := w) (t := t) hu (Av := Av) (h1 (fun x => x = d) rfl)
  exact ⟨eqGuard_plain _ _ _ _ _ _ (.inr (.inr ⟨_, rfl⟩)), r, e1, e2⟩
theorem ok_agg (hty : TyOk E) {op : BinOp} {t yt : TypeId} {x y : Operand} (ho : o.op = .binOp op t x y yt) {ds es : List D} (hx : ev E.gl tm x = some (.agg ds)) (hy : ev E.gl tm y = some (.agg es)) {td : TD} (ht : E.ty t = some td) {c : List Nat} (hc : td.eqv = some c)
    (hk : aggOpK op c ds es fun d => K fp0 (put o.dst d tm) S nx) : Ok1 E o tm S nx K := by
  obtain ⟨h1, h2, fs, h3⟩ := hty.eqv ht hc
  unfold aggOpK at hk
  split at hk
  · rename_i z hz
    have both : ∀ (w : World) (Av : Nat → Prop) (ρ : Nat → Option Value) (u v : Value), VR w Av ρ (.agg ds) u → VR w Av ρ (.agg es) v → ∃ us vs : List Value, u = .agg us.toArray ∧ v = .agg vs.toArray ∧ (Op.equalIn 10000 t (.agg us.toArray) (.agg vs.toArray)).run E.P w = .ok z w := by
      intro w Av ρ u v hu hv
      obtain ⟨us, rfl, e1, _, e2⟩ := hu.agg_inv
      obtain ⟨vs, rfl, e3, _, e4⟩ := hv.agg_inv
      have := equalIn_plain (P := E.P) (w := w) 5 t c 9995 ds es us vs z h1 e1 e3 e2 e4 hz
      simp only [pv, h3] at this
      exact ⟨us, vs, rfl, rfl, this⟩
    split at hk
    · refine ok_bin ho hx hy hk fun w Av ρ u v hu hv => ?_
      obtain ⟨us, vs, rfl, rfl, e⟩ := both w Av ρ u v hu hv
      exact ⟨run_eqGuard_agg w _ t x y _ _ h2, _, by rw [run_eql_struct, e]; rfl, .b _⟩
    · refine ok_bin ho hx hy hk fun w Av ρ u v hu hv => ?_
      obtain ⟨us, vs, rfl, rfl, e⟩ := both w Av ρ u v hu hv
      exact ⟨run_eqGuard_agg w _ t x y _ _ h2, _, by rw [run_neq_struct, e]; rfl, .b _⟩
    · exact hk.elim
  · exact hk.elim
theorem ok_not {t : TypeId} {x : Operand} (ho : o.op = .unOp .not t x) {p : Bool} (hx : ev E.gl tm x = some (.b p)) (hk : K fp0 (put o.dst (.b (!p)) tm) S nx) : Ok1 E o tm S nx K := by
  refine Ok1.pure (fp := []) hk fun cx tm' S' a w ρ he _ h => ?_
  have hv := (h.eval ((he x (by simp [ho, Op.operands])).trans hx)).b_inv
  exact ⟨_, by simp [execOp, ho, hv, Op.unary], .gr (.atom (.im (.b _)))⟩
theorem ok_neg {t : TypeId} {x : Operand} (ho : o.op = .unOp .neg t x) {kd : IntKind} {n : Int} (hx : ev E.gl tm x = some (.k kd n)) (hk : K fp0 (put o.dst (.k kd (kd.wrap (0 - n))) tm) S nx) : Ok1 E o tm S nx K := by
  refine Ok1.pure (fp := []) hk fun cx tm' S' a w ρ he _ h => ?_
  have hv := (h.eval ((he x (by simp [ho, Op.operands])).trans hx)).k_inv
  exact ⟨_, by simp [execOp, ho, hv, Op.unary, Op.intArith], .gr (.atom (.im (.k _ _)))⟩
theorem VR.tup_inv {w : World} {Av : Nat → Prop} {ρ : Nat → Option Value} {ds : List D} {v : Value} (h : VR w Av ρ (.tup ds) v) : ∃ us : List Value, v = .tuple us.toArray ∧ ds.length = us.length ∧ ∀ (i : Nat) (d : D) (u : Value), ds[i]? = some d → us[i]? = some u → VG w Av ρ d u := by
  cases h with
  | gr h => cases h with | atom h => cases h with | im h => cases h
  | tup hl hr => exact ⟨_, rfl, hl, hr⟩
theorem ok_extract {x : Operand} {i : Nat} (ho : o.op = .extract x i) {ds : List D} (hx : ev E.gl tm x = some (.tup ds)) {d : D} (hd : ds[i]? = some d) (hk : K fp0 (put o.dst d tm) S nx) : Ok1 E o tm S nx K := by
  refine Ok1.pure (fp := []) hk fun cx tm' S' a w ρ he _ h => ?_
  have hv := h.eval ((he x (by simp [ho, Op.operands])).trans hx)
  obtain ⟨us, hv', hl, hr⟩ := hv.tup_inv
  have hi : i < us.length := by rw [← hl]; exact (List.getElem?_eq_some_iff.1 hd).1
  exact ⟨us[i], by simp [execOp, ho, hv', Instr.extract, hi], .gr (hr i d _ hd (List.getElem?_eq_getElem hi))⟩
theorem ok_nilCheck {x : Operand} (ho : o.op = .nilCheck x) {d : D} (hx : ev E.gl tm x = some d) (hd : (∃ n off, d = .bp n off) ∨ (∃ n z i off, d = .op n z i off) ∨ ∃ cs, d = .ep cs) (hk : K fp0 (put o.dst d tm) S nx) : Ok1 E o tm S nx K := by
  refine Ok1.pure (fp := []) hk fun cx tm' S' a w ρ he _ h => ?_
  have hv := h.eval ((he x (by simp [ho, Op.operands])).trans hx)
  refine ⟨a.eval x, ?_, hv⟩
  rcases hd with ⟨n, off, rfl⟩ | ⟨n, z, i, off, rfl⟩ | ⟨cs, rfl⟩
  · obtain ⟨b, _, e⟩ := hv.bp_inv; simp [execOp, ho, e]
  · obtain ⟨g, l, c, _, e⟩ := hv.op_inv; simp [execOp, ho, e]
  · obtain ⟨ad, e, _⟩ := hv.ep_inv.ep_inv; simp [execOp, ho, e]
theorem ok_convInt (hty : TyOk E) {s t : TypeId} {x : Operand} (ho : o.op = .convert s t x) {kd kd' : IntKind} {n : Int} (hx : ev E.gl tm x = some (.k kd n)) {ts td : TD} (hs : E.ty s = some ts) (ht : E.ty t = some td) {ks : IntKind} (h1 : ts.kind = .int ks) (h2 : td.kind = .int kd')
    (hk : K ⟨nmD (.k kd n), []⟩ (put o.dst (.k kd' (kd'.wrap n)) tm) S nx) : Ok1 E o tm S nx K := by
  refine Ok1.pure (fp := []) hk fun cx tm' S' a w ρ he _ h => ?_
  have hv := (h.eval ((he x (by simp [ho, Op.operands])).trans hx)).k_inv
  have u1 := hty.kind hs
  have u2 := hty.kind ht
  rw [h1] at u1
  rw [h2] at u2
  exact ⟨_, by simp [execOp, ho, hv, convert, run_underlying (kind_int u1), run_underlying (kind_int u2), Conv.intToInt], .gr (.atom (.im (.k _ _)))⟩
theorem ok_convStr (hty : TyOk E) {s t : TypeId} {x : Operand} (ho : o.op = .convert s t x) {l : List UInt8} (hx : ev E.gl tm x = some (.s l)) {ts td : TD} (hs : E.ty s = some ts) (ht : E.ty t = some td) (h1 : ts.kind = .str) (h2 : td.kind = .str)
    (hk : K ⟨nmD (.s l), []⟩ (put o.dst (.s l) tm) S nx) : Ok1 E o tm S nx K := by
  refine Ok1.pure (fp := []) hk fun cx tm' S' a w ρ he _ h => ?_
  have hv := (h.eval ((he x (by simp [ho, Op.operands])).trans hx)).s_inv
  have u1 := hty.kind hs
  have u2 := hty.kind ht
  rw [h1] at u1
  rw [h2] at u2
  exact ⟨_, by simp [execOp, ho, hv, convert, run_underlying (kind_str u1), run_underlying (kind_str u2)], .gr (.atom (.im (.s _)))⟩

/-- what is lent, cell by cell, where it is not frozen -/
theorem imm_cells {cx : Cx} {a : Act} {w : World} {ρ : Nat → Option Value} (h : R E cx tm S a w ρ) {d : D} {v : Value} (hv : VR w (AvS cx.G S ρ) ρ d v) {xs : List (List D)} (hi : immD S d = some (.sl xs)) :
    ∃ A n c, v = .slice A n c ∧ xs.length = n ∧ (A = none → xs = []) ∧ ∀ ad, A = some ad → ∃ sz, (∀ cs ∈ xs, cs.length = sz) ∧ ∀ (i j : Nat) (cs : List D) (d : D), xs[i]? = some cs → cs[j]? = some d → ∃ u, w.cell? (ad.add (i * sz + j)) = some u ∧ VI w (AvS cx.G S ρ) d u := by
  have imm : VI w (AvS cx.G S ρ) (.sl xs) v → ∃ A n c, v = .slice A n c ∧ xs.length = n ∧ (A = none → xs = []) ∧ ∀ ad, A = some ad → ∃ sz, (∀ cs ∈ xs, cs.length = sz) ∧ ∀ (i j : Nat) (cs : List D) (d : D), xs[i]? = some cs → cs[j]? = some d → ∃ u, w.cell? (ad.add (i * sz + j)) = some u ∧ VI w (AvS cx.G S ρ) d u := by
    intro hv
    obtain ⟨A, n, c, rfl, hn, _, _, hnone, hsome⟩ := hv.sl_inv
    refine ⟨A, n, c, rfl, hn, fun h => (hnone h).1, fun ad h => ?_⟩
    obtain ⟨_, _, sz, h1, h2⟩ := hsome ad h
    exact ⟨sz, h1, fun i j cs d p q => let ⟨u, e1, _, e3⟩ := h2 i j cs d p q; ⟨u, e1, e3⟩⟩
  cases d with
  | nil =>
    simp [immD, immA] at hi
    subst hi
    rw [hv.nil_inv]
    exact ⟨none, 0, 0, rfl, rfl, fun _ => rfl, fun ad h => by cases h⟩
  | sl ys =>
    simp [immD, immA] at hi
    subst hi
    exact imm hv.sl_inv
  | own t =>
    simp only [immD, immA] at hi
    split at hi
    · rename_i e ys hl
      cases hi
      obtain ⟨u, us, hr, ho, hc⟩ := h.st _ _ hl
      have := hv.own_inv
      rw [hr] at this
      cases this
      rcases ho.2 with ⟨rfl, hn⟩ | ⟨g, cap, cur, rfl, _⟩
      · exact ⟨none, 0, 0, rfl, hn, fun _ => List.eq_nil_of_length_eq_zero hn, fun ad h => by cases h⟩
      · refine ⟨_, _, _, rfl, rfl, (fun h => by cases h), fun ad h => ?_⟩
        cases h
        refine ⟨_, hc.el, fun i j cs d p q => ?_⟩
        obtain ⟨u, e1, e2⟩ := hc.at_ i j cs d p q
        exact ⟨u, ho.cells (g := g) rfl _ _ e1, e2⟩
    · rename_i ys hl
      cases hi
      obtain ⟨u, hr, hvi⟩ := h.st _ _ hl
      have := hv.own_inv
      rw [hr] at this
      cases this
      exact imm hvi
    · cases hi
  | fn f cs => simp only [immD, immA] at hi; split at hi <;> cases hi
  | agg ds => simp only [immD] at hi; split at hi <;> cases hi
  | bp => simp [immD, immA] at hi
  | op => simp [immD, immA] at hi
  | junk => simp [immD, immA] at hi
  | tup => simp [immD, immA] at hi
  | b => simp [immD, immA] at hi
  | k => simp [immD, immA] at hi
  | s => simp [immD, immA] at hi
  | v => simp [immD, immA] at hi
  | ep => simp [immD, immA] at hi
theorem immD_agree {S' : Store} {d : D} (hf : ∀ n ∈ nmD d, lk S' n = lk S n) : immD S' d = immD S d := by
  have atom : ∀ d, (∀ n ∈ nmA d, lk S' n = lk S n) → immA S' d = immA S d := by
    intro d h
    cases d <;> simp only [immA]
    rw [h _ (by simp [nmA])]
  have atoms : ∀ ds : List D, (∀ n ∈ nmAs ds, lk S' n = lk S n) → immAs S' ds = immAs S ds := by
    intro ds
    induction ds with
    | nil => intro _; rfl
    | cons d r ih =>
      intro h
      simp only [immAs]
      rw [atom d fun n hn => h n (by simp [nmAs, hn]), ih fun n hn => h n (by simp [nmAs, hn])]
  cases d with
  | agg ds => simp only [immD]; rw [atoms ds fun n hn => hf n (by simp [nmD, hn])]
  | tup => rfl
  | own t => exact atom (.own t) hf
  | _ => rfl
theorem ok_convBytes (hty : TyOk E) {s t e : TypeId} {x : Operand} (ho : o.op = .convert s t x) {d : D} (hx : ev E.gl tm x = some d) {ts td te : TD} (hs : E.ty s = some ts) (ht : E.ty t = some td) (he : E.ty e = some te) (h1 : ts.kind = .slice e) (h2 : td.kind = .str) (h3 : te.kind = .int .u8)
    {l : List UInt8} (hl : immD S d = some (.sl (bytesOf l))) (hk : K ⟨nmD d, []⟩ (put o.dst (.s l) tm) S nx) : Ok1 E o tm S nx K := by
  refine Ok1.pure (fp := nmD d) hk fun cx tm' S' a w ρ hev hf h => ?_
  have hv := h.eval ((hev x (by simp [ho, Op.operands])).trans hx)
  have u1 := hty.kind hs
  have u2 := hty.kind ht
  have u3 := hty.kind he
  rw [h1] at u1
  rw [h2] at u2
  rw [h3] at u3
  rw [← immD_agree hf] at hl
  obtain ⟨A, n, c, hva, hn, hnone, hsome⟩ := imm_cells h hv hl
  have hconv := run_convert_bytes_string (P := E.P) w s t e A n c (kind_slice u1) (kind_int u3) (kind_str u2)
  refine ⟨.string ⟨l.toArray⟩, ?_, .gr (.atom (.im (.s _)))⟩
  simp only [execOp, ho, hva, hconv, Sem.run_bind, Sem.run_pure]
  cases A with
  | none =>
    have : l = [] := by
      have := hnone rfl
      simpa [bytesOf] using this
    subst this
    simp [Conv.bytesToString]
    rfl
  | some ad =>
    obtain ⟨sz, hsz, hcell⟩ := hsome ad rfl
    have hcells : (loadCells ad n).run E.P w = .ok ((l.map fun c => (c.toNat : Int)).map (Value.int .u8)).toArray w := by
      have := run_loadCells_list (P := E.P) w ad ((l.map fun c => (c.toNat : Int)).map (Value.int .u8)) (fun j u hu => by
        have hj : j < l.length := by have := (List.getElem?_eq_some_iff.1 hu).1; simpa using this
        have hbs : (bytesOf l)[j]? = some [D.k .u8 ((l[j]).toNat : Int)] := by simp [bytesOf, hj]
        have hsz1 : sz = 1 := (hsz _ (List.mem_of_getElem? hbs)).symm
        obtain ⟨u', e1, e2⟩ := hcell j 0 _ _ hbs rfl
        cases e2
        subst hsz1
        simp [hj] at hu
        subst hu
        simpa using e1)
      rw [← hn]
      simpa [bytesOf] using this
    rw [run_bytesToString w ad n c _ hcells]
    simp only [Result.andThen_ok]
    have key : ∀ (l : List UInt8) (s : List UInt8), (l.map fun c => (c.toNat : Int)).foldl (fun r n => ByteArray.push r (UInt8.ofNat n.toNat)) (⟨s.toArray⟩ : ByteArray) = ⟨(s ++ l).toArray⟩ := by
      intro l
      induction l with
      | nil => intro s; simp
      | cons c r ih =>
        intro s
        simp only [List.map_cons, List.foldl_cons]
        have : ByteArray.push (⟨s.toArray⟩ : ByteArray) (UInt8.ofNat ((c.toNat : Int)).toNat) = ⟨(s ++ [c]).toArray⟩ := by
          simp [ByteArray.push]
        rw [this, ih]
        simp
    have := key l []
    simp only [List.nil_append] at this
    congr 3
theorem ok_len (hty : TyOk E) {x : Operand} {t : TypeId} {ca : Array Operand} {ct : Array TypeId} (ho : o.op = .call { callee := .builtin .len, args := ca, argTypes := ct }) (hca : ca = #[x]) (hct : ct = #[t]) {d : D} (hx : ev E.gl tm x = some d) {td : TD} (ht : E.ty t = some td)
    (hk : lenK td.kind S d fun n => K ⟨nmD d, []⟩ (put o.dst (.k .i64 n) tm) S nx) : Ok1 E o tm S nx K := by
  subst hca hct
  have ex : ∃ n, (∀ K' : Int → Prop, K' n → lenK td.kind S d K') ∧ K ⟨nmD d, []⟩ (put o.dst (.k .i64 n) tm) S nx := by
    unfold lenK at hk ⊢
    cases hkd : td.kind <;> rw [hkd] at hk <;> (try exact hk.elim) <;> cases d <;> (try exact hk.elim) <;> simp only at hk ⊢
    · exact ⟨_, fun K' h => h, hk⟩
    · exact ⟨_, fun K' h => h, hk⟩
    · exact ⟨_, fun K' h => h, hk⟩
    · split at hk
      all_goals first | exact ⟨_, fun K' h => h, hk⟩ | exact hk.elim
  obtain ⟨n, h1, h2⟩ := ex
  refine Ok1.pure (fp := nmD d) h2 fun cx tm' S' a w ρ hev hf h => ?_
  have hv := h.eval ((hev x (by simp [ho, Op.operands, Call.operands])).trans hx)
  have hk' := lenK_agree hf (h1 (fun x => x = n) rfl)
  have hkc := hty.kind ht
  have run : ∀ (v : Value) (r : Int), a.eval x = v → (Builtin.len_ #[t] o.type #[v]).run E.P w = .ok (.int .i64 r) w → (execOp a.eval o).run E.P w = .ok (.value (.int .i64 r)) w := by
    intro v r hv hr
    simp only [execOp, ho, resolve, invoke, builtin, Sem.run_bind, Sem.run_pure, Result.andThen_ok, List.map_toArray, List.map_cons, List.map_nil, hv, hr]
  have sl : ∀ (A : Option Addr) (m c : Nat) (e : TypeId), E.P.underlying t = some (.slice e) → (Builtin.len_ #[t] o.type #[.slice A m c]).run E.P w = .ok (.int .i64 (m : Int)) w := by
    intro A m c e hu
    simp [Builtin.len_, run_underlying hu, goInt]
  unfold lenK at hk'
  cases hkd : td.kind <;> rw [hkd] at hk' hkc <;> (try exact hk'.elim) <;> cases d <;> (try exact hk'.elim) <;> simp only at hk'
  · rename_i l
    subst hk'
    refine ⟨_, run _ _ hv.s_inv ?_, .gr (.atom (.im (.k _ _)))⟩
    have hsz : (⟨l.toArray⟩ : ByteArray).size = l.length := by simp [ByteArray.size]
    simp [Builtin.len_, run_underlying (kind_str hkc), goInt, hsz]
  · subst hk'
    exact ⟨_, run _ _ hv.nil_inv (sl _ _ _ _ (kind_slice hkc)), .gr (.atom (.im (.k _ _)))⟩
  · subst hk'
    obtain ⟨A, m, c, e, hn, _⟩ := hv.sl_inv.sl_inv
    subst hn
    exact ⟨_, run _ _ e (sl _ _ _ _ (kind_slice hkc)), .gr (.atom (.im (.k _ _)))⟩
  · rename_i e0 t0
    have key : ∀ (u : Value) (xs : List (List D)), ρ t0 = some u → (∃ A m c, u = .slice A m c ∧ m = xs.length) → n = (xs.length : Int) → ∃ v, (execOp a.eval o).run E.P w = .ok (.value v) w ∧ VR w (AvS cx.G S' ρ) ρ (.k .i64 n) v := by
      rintro u xs hr ⟨A, m, c, rfl, rfl⟩ rfl
      have := hv.own_inv
      rw [hr] at this
      exact ⟨_, run _ _ (Option.some.inj this).symm (sl _ _ _ _ (kind_slice hkc)), .gr (.atom (.im (.k _ _)))⟩
    have owned : ∀ (e : TypeId) (u : Value) (us : List Value) (xs : List (List D)), w.ownsRow 0 e (E.P.cellsOf e) u xs.length us → ∃ A m c, u = .slice A m c ∧ m = xs.length := by
      intro e u us xs ho
      rcases ho.2 with ⟨rfl, hn⟩ | ⟨g, cap, cur, rfl, _⟩
      · exact ⟨_, _, _, rfl, hn.symm⟩
      · exact ⟨_, _, _, rfl, rfl⟩
    split at hk'
    · rename_i e xs hl
      obtain ⟨u, us, hr, ho', _⟩ := h.st _ _ hl
      exact key u xs hr (owned e u us xs ho') hk'.symm
    · rename_i e xs hl
      obtain ⟨u, us, hr, ho', _⟩ := h.st _ _ hl
      exact key u xs hr (owned e u us xs ho') hk'.symm
    · rename_i xs hl
      obtain ⟨u, hr, hvi⟩ := h.st _ _ hl
      obtain ⟨A, m, c, e, hn, _⟩ := hvi.sl_inv
      exact key u xs hr ⟨A, m, c, e, hn.symm⟩ hk'.symm
    · exact hk'.elim
end
end Go.Ab
