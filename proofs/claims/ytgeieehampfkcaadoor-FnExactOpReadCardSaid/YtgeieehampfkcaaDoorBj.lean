/- An abstract reading of the elaborated code. Part 10: slice literals, make, stores. -/
import Derived.Test.YtgeieehampfkcaaDoorBi
namespace Go.Ab
open Go Go.RowKit

section
variable {E : Env} {cx : Cx} {tm : Tm} {S S0 : Store} {nx : Nat} {a : Act} {w : World} {ρ : Nat → Option Value} {o : Oper} {K : Kt}

/-- a step that hands back nothing -/
theorem Ok1.unit {fp : Fp} {out : Out} {nx' : Nat} {S2 : Store} (h1 : ∀ n, lk out n ≠ none → n ∈ fp.wr) (h2 : ∀ n ∈ fp.wr, n ∈ fp.all) (h3 : nx ≤ nx') (h4 : ∀ n, nx ≤ n → n < nx' → n ∈ fp.wr) (h5 : ∀ n, lk S2 n = lk (ap out S) n)
    (hk : K fp (put o.dst (.tup []) tm) S2 nx')
    (hs : ∀ (cx : Cx) (tm' : Tm) (S' : Store) (a : Act) (w : World) (ρ : Nat → Option Value), (∀ x ∈ o.op.operands, ev E.gl tm' x = ev E.gl tm x) → (∀ n ∈ fp.all, lk S' n = lk S n) → R E cx tm' S' a w ρ → (∀ n, nx ≤ n → n < nx' → ρ n = none) →
      ∃ w' ρ', (execOp a.eval o).run E.P w = .ok .skip w' ∧ R E cx tm' (ap out S') a w' ρ' ∧ ∀ n, ¬ (nx ≤ n ∧ n < nx') → ρ' n = ρ n) : Ok1 E o tm S nx K := by
  refine ⟨fp, out, nx', .tup [], S2, fun cx tm' S' a w ρ Q hd he hf h hn => ?_, h1, h2, h3, h4, h5, hk⟩
  obtain ⟨w', ρ', e1, e2, e4⟩ := hs cx tm' S' a w ρ he hf h hn
  exact wp_unit e1 ⟨ρ', e2.value hd VR.undef, e4⟩

theorem lk_ap2 (o1 o2 : Out) (S : Store) {T : Store} (h : ∀ n, lk T n = lk (ap o2 S) n) (n : Nat) : lk (ap o1 T) n = lk (ap (o1 ++ o2) S) n := by
  rw [ap_append, lk_ap, lk_ap (out := o1), h]
theorem lk_cons_ap {n : Nat} {b : Blk} {T : Store} {o2 : Out} {S : Store} (h : ∀ m, lk T m = lk (ap o2 S) m) (m : Nat) : lk ((n, b) :: T) m = lk (ap ((n, some b) :: o2) S) m := by
  have := lk_ap2 [(n, some b)] o2 S h m
  rw [lk_ap_one' m]
  exact this

/-- a block of the call's own is written -/
theorem R.write (h : R E cx tm S a w ρ) {n g : Nat} {b b' : Blk} (hl : lk S n = some b) (hb : live b = true) (hg : (ρ n).bind blkOf = some g) {w' : World} (hf : Fr (fun x => x = g) w w')
    (hs : (∀ d u, VI w (AvS cx.G S ρ) d u → VI w' (AvS cx.G (ap [(n, some b')] S) ρ) d u) → SR E.P w' (AvS cx.G (ap [(n, some b')] S) ρ) ρ n b') : R E cx tm (ap [(n, some b')] S) a w' ρ := by
  have lo : ∀ m c, lk [(n, some b')] m = some c → m = n ∧ c = some b' := by
    intro m c hm
    rw [lk_cons] at hm
    by_cases e : n = m
    · rw [if_pos e] at hm; cases hm; exact ⟨e.symm, rfl⟩
    · rw [if_neg e] at hm; simp [lk] at hm
  have here : lk [(n, some b')] n ≠ none := by simp [lk_cons]
  refine h.turn ⟨hf.weaken ?_, fun _ _ h => h, fun m c hm hv x hx => ?_, fun m m' c c' x h1 h2 _ _ _ _ => ?_, fun hi m c hm => ?_⟩
  · rintro x rfl
    exact ⟨n, b, here, hl, hb, hg⟩
  · obtain ⟨rfl, e⟩ := lo m _ hm
    exact .inr ⟨m, b, here, hl, hb, hx⟩
  · rw [(lo m _ h1).1, (lo m' _ h2).1]
  · obtain ⟨rfl, e⟩ := lo m _ hm
    cases e
    exact hs hi

theorem fillX_all {α : Type} (vs us : List α) (h : us.length = vs.length) : fillX us 0 vs = vs := by
  rw [← fillX_eq vs us 0 (by omega)]
  simp [h]
theorem sliceParts_ex {gl : Nat → Option (List D)} {sz : Nat} : ∀ (parts : List (Nat × Operand)) (xs : List (List D)) (K : List (List D) → Prop), sliceParts gl tm S sz parts xs K → ∃ xs', (∀ K' : List (List D) → Prop, K' xs' → sliceParts gl tm S sz parts xs K') ∧ K xs'
  | [], xs, K, h => ⟨xs, fun _ h => h, h⟩
  | (i, x) :: r, xs, K, h => by
    unfold sliceParts at h
    obtain ⟨d, hx, h⟩ := evK_inv h
    split at h
    · rename_i d' hd'
      split at h
      · rename_i hb
        obtain ⟨xs', h1, h2⟩ := sliceParts_ex r _ K h
        refine ⟨xs', fun K' hK => ?_, h2⟩
        unfold sliceParts
        simp only [evK, hx, hd', hb]
        exact h1 K' hK
      · exact h.elim
    · exact h.elim
theorem sliceParts_run {tm0 : Tm} (h : R E cx tm S a w ρ) {sz : Nat} : ∀ (parts : List (Nat × Operand)) (xs : List (List D)) (us : List Value) (K : List (List D) → Prop),
    sliceParts E.gl tm0 S0 sz parts xs K → (∀ p ∈ parts, ev E.gl tm p.2 = ev E.gl tm0 p.2) → (∀ t ∈ partNames E.gl tm0 parts, ∀ ys, ((∃ e, lk S0 t = some (.own e ys)) ∨ lk S0 t = some (.fr ys)) → lk S t = some (.fr ys)) → Rows (VI w (AvS cx.G S ρ)) sz xs us →
    ∃ xs' us', Instr.fill (fun i => some (i * sz, sz)) us.toArray (parts.map fun (i, x) => (i, a.eval x)) = some us'.toArray ∧ Rows (VI w (AvS cx.G S ρ)) sz xs' us' ∧ xs'.length = xs.length ∧ K xs'
  | [], xs, us, K, hf, _, _, hr => ⟨xs, us, rfl, hr, rfl, hf⟩
  | (i, x) :: r, xs, us, K, hf, he, hn, hr => by
    unfold sliceParts at hf
    obtain ⟨d, hx, hf⟩ := evK_inv hf
    split at hf
    · rename_i d' hd'
      split at hf
      · rename_i hb
        simp only [Bool.and_eq_true] at hb
        obtain ⟨hb1, hb2⟩ := hb
        have hsz : (cellsOf d').length = sz := Nat.eq_of_beq_eq_true hb1
        have hil : i < xs.length := Nat.le_of_ble_eq_true hb2
        have hvi := immD_VI (S0 := S0) h (fun t ht => hn t (by simp [partNames, hx, ht])) (h.eval ((he (i, x) (by simp)).trans hx)) hd'
        obtain ⟨q1, q2, q3⟩ := hvi.cells
        have hi : xs[i]? = some xs[i] := List.getElem?_eq_getElem hil
        have hcl : (xs[i]).length = sz := hr.el _ (List.getElem_mem hil)
        have hset := hr.set (off := 0) hi (by omega) q1 q2 q3
        rw [fillX_all _ _ (by rw [hcl, hsz])] at hset
        obtain ⟨xs', us', e1, e2, e3, e4⟩ := sliceParts_run h r _ _ K hf (fun p hp => he p (by simp [hp])) (fun t ht => hn t (by simp [partNames, hx, ht])) hset
        refine ⟨xs', us', ?_, e2, by rw [e3, List.length_set], e4⟩
        rw [List.map_cons, fill_step _ us i (i * sz) sz _ _ rfl (by rw [← q1, hsz]) ?_]
        · simpa using e1
        · have : (i + 1) * sz ≤ xs.length * sz := Nat.mul_le_mul_right sz hil
          rw [Nat.add_mul] at this
          rw [hr.len]
          omega
      · exact hf.elim
    · exact hf.elim

/-- out of a freeze and a new block -/
theorem Ok1.frzNew {ns fp : List Nat} {b : Blk} (hsub : ∀ n ∈ ns, n ∈ fp) (hk : K ⟨nx :: fp, nx :: fp⟩ (put o.dst (.own nx) tm) ((nx, b) :: frz ns S) (nx + 1))
    (hs : ∀ (cx : Cx) (tm' : Tm) (S' : Store) (a : Act) (w : World) (ρ : Nat → Option Value), (∀ x ∈ o.op.operands, ev E.gl tm' x = ev E.gl tm x) → (∀ n ∈ fp, lk S' n = lk S n) → R E cx tm' S' a w ρ → R E cx tm' (ap (frzOut S ns) S') a w ρ → ρ nx = none →
      ∃ v w' u, (execOp a.eval o).run E.P w = .ok (.value v) w' ∧ R E cx tm' (ap [(nx, some b)] (ap (frzOut S ns) S')) a w' (withName ρ nx u) ∧ VR w' (AvS cx.G (ap [(nx, some b)] (ap (frzOut S ns) S')) (withName ρ nx u)) (withName ρ nx u) (.own nx) v) : Ok1 E o tm S nx K := by
  refine Ok1.val (fp := ⟨nx :: fp, nx :: fp⟩) (out := (nx, some b) :: frzOut S ns) (nx' := nx + 1) (d := .own nx) (fun n h => ?_) (fun n h => h) (Nat.le_succ _) (fun n h1 h2 => by simp; omega) (fun n => lk_cons_ap (frz_ap ns S) n) hk ?_
  · rw [lk_cons] at h
    by_cases e : nx = n
    · simp [e]
    · rw [if_neg e, lk_frzOut] at h
      by_cases hn : n ∈ ns
      · simp [hsub n hn]
      · rw [if_neg hn] at h; exact absurd rfl h
  · intro cx tm' S' a w ρ he hf h hn
    have hag : ∀ n ∈ fp, lk S' n = lk S n := fun n hn => hf n (by simp [hn])
    obtain ⟨v, w', u, e1, e2, e3⟩ := hs cx tm' S' a w ρ he hag h (h.frzs ns fun t ht => hag t (hsub t ht)) (hn nx (Nat.le_refl _) (Nat.lt_succ_self _))
    have heq : ap ((nx, some b) :: frzOut S ns) S' = ap [(nx, some b)] (ap (frzOut S ns) S') := rfl
    refine ⟨v, w', _, e1, by rw [heq]; exact e2, by rw [heq]; exact e3, fun n hne => withName_other u (by rintro rfl; exact hne ⟨Nat.le_refl _, Nat.lt_succ_self _⟩)⟩

theorem buildSlice_run {P : Program} (w : World) (t e : TypeId) (n : Nat) (parts : Array (Nat × Value)) (us : List Value) (i : TypeInfo) (z : Value) (hu : P.underlying t = some (.slice e)) (hi : P.info? e = some i) (hz : i.zero = some z)
    (hn : n ≤ 65536) (hs : i.size ≤ 256) (hfill : Instr.fill (fun j => some (j * i.size, i.size)) (madeCells z.cells (n * i.size)) parts.toList = some us.toArray) :
    (Instr.buildSlice t n parts).run P w = .ok (.slice (some ⟨w.heap.size, 0, none⟩) n n) (w.alloc (.cells us.toArray e)) := by
  have hsmall : ¬ n * i.size > 16777216 := by
    have := Nat.mul_le_mul hn hs
    omega
  by_cases h0 : n * i.size = 0
  · have hm : madeCells z.cells (n * i.size) = #[] := by rw [h0]; simp [madeCells]
    rw [hm] at hfill
    have ha : ∀ zero : Array Value, (Array.range (n * i.size)).map (fun x => zero[x % zero.size]!) = #[] := by intro zero; rw [h0]; simp
    unfold Instr.buildSlice
    simp only [Sem.run_bind, run_underlying hu, Result.andThen_ok, Go.sizeOf, typeInfo, hi, Sem.run_pure, run_program, ha, hfill]
    simp [h0, newRow]
  · exact run_buildSlice w t e n parts us.toArray i z hu hi hz hsmall h0 hfill

theorem ok_buildSlice (hty : TyOk E) {t e : TypeId} {n : Nat} {parts : Array (Nat × Operand)} (ho : o.op = .buildSlice t n parts) {td te : TD} (ht : E.ty t = some td) (hkd : td.kind = .slice e) (hte : E.ty e = some te)
    (hf : sliceParts E.gl tm S te.size parts.toList (List.replicate n (cellsOf te.zero)) fun xs => n ≤ 65536 ∧ te.size ≤ 256 ∧
      K ⟨nx :: partNames E.gl tm parts.toList, nx :: partNames E.gl tm parts.toList⟩ (put o.dst (.own nx) tm) ((nx, .own e xs) :: frz (partNames E.gl tm parts.toList) S) (nx + 1)) : Ok1 E o tm S nx K := by
  obtain ⟨xs', hx1, hn, hs256, hk⟩ := sliceParts_ex _ _ _ hf
  refine Ok1.frzNew (ns := partNames E.gl tm parts.toList) (fun _ h => h) hk fun cx tm' S' a w ρ he hag h h' hfresh => ?_
  have hu : E.P.underlying t = some (.slice e) := by
    have := hty.kind ht
    rw [hkd] at this
    exact kind_slice this
  obtain ⟨i, v, hi, hs, _, hz, hpos, hzl, hzc, _⟩ := hty.info hte
  obtain ⟨c1, c2⟩ := zeroChk_cells (w := w) (Av := AvS cx.G (ap (frzOut S (partNames E.gl tm parts.toList)) S') ρ) (ρ := ρ) hzc
  have hvs : v.cells.size = te.size := by have := c1.len; rw [hzl] at this; simpa using this.symm
  have hrw := Rows.made (z := v.cells) (zs := cellsOf te.zero) (by rw [hzl, hvs]) (by omega) c1.one c2 n
  rw [hvs] at hrw
  obtain ⟨xs2, us', e1, e2, e3, e4⟩ := sliceParts_run (S0 := S) h' parts.toList _ _ _ (hx1 (fun x => x = xs') rfl) (fun p hp => he p.2 (by rw [ho]; simp [Op.operands]; exact ⟨p.1, by simpa using hp⟩)) (frz_fits hag) hrw
  have e4 : xs2 = xs' := e4
  subst e4
  have hlen : xs2.length = n := by rw [e3]; simp
  have hce : E.P.cellsOf e = te.size := hty.cells hte
  have hfill : Instr.fill (fun i => some (i * te.size, te.size)) (madeCells v.cells (n * te.size)) (parts.map fun (i, x) => (i, a.eval x)).toList = some us'.toArray := by
    rw [← e1]
    simp
  have hrun := buildSlice_run (P := E.P) w t e n (parts.map fun (i, x) => (i, a.eval x)) us' i v hu hi hz hn (by rw [hs]; exact hs256) (by rw [hs]; exact hfill)
  have hown : (w.alloc (.cells us'.toArray e)).ownsRow w.heap.size e (E.P.cellsOf e) (.slice (some ⟨w.heap.size, 0, none⟩) n n) xs2.length us' := by
    rw [hlen, hce]
    refine ⟨by rw [e2.len, hlen], .inr ⟨w.heap.size, n, us'.toArray, rfl, Nat.le_refl _, heap_alloc_new w _, Nat.le_refl _, by simp only [maxLen]; omega, by simp [e2.len, hlen], ?_⟩⟩
    rw [List.take_of_length_le]
    simp [e2.len, hlen]
  rw [← hce] at e2
  obtain ⟨h2, hv⟩ := h'.own hfresh e2 (fr_alloc w _) hown
  exact ⟨_, _, _, by simp [execOp, ho, hrun], h2, hv⟩

theorem ok_make (hty : TyOk E) {t e : TypeId} {x y : Operand} (ho : o.op = .makeSlice t x y) {td te : TD} (ht : E.ty t = some td) (hkd : td.kind = .slice e) (hte : E.ty e = some te)
    {kl kc : IntKind} {n : Nat} (hx : ev E.gl tm x = some (.k kl (n : Int))) (hy : ev E.gl tm y = some (.k kc (n : Int))) (hn : n ≤ room) (hb : te.bytes ≤ wide)
    (hk : K (fpN nx) (put o.dst (.own nx) tm) ((nx, .own e (List.replicate n (cellsOf te.zero))) :: S) (nx + 1)) : Ok1 E o tm S nx K := by
  refine Ok1.one hk fun cx tm' S' a w ρ he h hfresh => ?_
  have hu : E.P.underlying t = some (.slice e) := by
    have := hty.kind ht
    rw [hkd] at this
    exact kind_slice this
  obtain ⟨i, v, hi, hs, hby, hz, hpos, hzl, hzc, _⟩ := hty.info hte
  obtain ⟨c1, c2⟩ := zeroChk_cells (w := w) (Av := AvS cx.G S' ρ) (ρ := ρ) hzc
  have hvs : v.cells.size = te.size := by have := c1.len; rw [hzl] at this; simpa using this.symm
  have hrw := Rows.made (z := v.cells) (zs := cellsOf te.zero) (by rw [hzl, hvs]) (by omega) c1.one c2 n
  rw [hvs] at hrw
  have hce : E.P.cellsOf e = te.size := hty.cells hte
  have hprod : te.bytes * n ≤ wide * room := Nat.mul_le_mul hb hn
  unfold room at hn hprod
  unfold wide at hprod
  have hpi : ((i.bytes : Nat) : Int) * ((n : Nat) : Int) ≤ 281474976710656 := by
    have h3 : ((te.bytes * n : Nat) : Int) ≤ 281474976710656 := by omega
    rw [hby]
    rw [Int.natCast_mul] at h3
    exact h3
  have hrun := run_make (P := E.P) w t e i v hu hi hz kl kc (n : Int) (n : Int) (by omega) (by omega) hpi (by omega)
  simp only [Int.toNat_natCast, hs] at hrun
  have hown : (w.alloc (.cells (madeCells v.cells (n * te.size)) e)).ownsRow w.heap.size e (E.P.cellsOf e) (.slice (some ⟨w.heap.size, 0, none⟩) n n) (List.replicate n (cellsOf te.zero)).length (madeCells v.cells (n * te.size)).toList := by
    rw [hce, List.length_replicate]
    refine ⟨by simp [size_madeCells], .inr ⟨w.heap.size, n, _, rfl, Nat.le_refl _, heap_alloc_new w _, Nat.le_refl _, by simp only [maxLen]; omega, by simp [size_madeCells], ?_⟩⟩
    rw [List.take_of_length_le]
    simp [size_madeCells]
  rw [← hce] at hrw
  obtain ⟨h2, hv⟩ := h.own hfresh hrw (fr_alloc w _) (by rw [hce] at *; exact hown)
  have h1 := (h.eval ((he x (by simp [ho, Op.operands])).trans hx)).k_inv
  have h2' := (h.eval ((he y (by simp [ho, Op.operands])).trans hy)).k_inv
  refine ⟨_, _, _, ?_, h2, hv⟩
  simp [execOp, ho, h1, h2', hrun]

/-- a row of the call's own with some cells written -/
theorem row_written {p q : D → Value → Prop} (hpq : ∀ d u, p d u → q d u) {w : World} {e : TypeId} {sz g len c off i : Nat} {cur : Array Value} {xs : List (List D)} {us vs : List Value} {cs ds : List D} (hown : w.ownsRow 0 e sz (.slice (some ⟨g, 0, none⟩) len c) xs.length us) (hh : w.heap[g]? = some (.cells cur e (0, 0)))
    (hrw : Rows p sz xs us) (hcs : xs[i]? = some cs) (hle : off + ds.length ≤ cs.length) (q1 : ds.length = vs.length) (q2 : ∀ v ∈ vs, v.oneCell' = true) (q3 : ∀ (i : Nat) (d : D) (u : Value), ds[i]? = some d → vs[i]? = some u → p d u) :
    i * sz + off + vs.length ≤ cur.size ∧ (w.setRow g (fillX cur.toList (i * sz + off) vs).toArray).ownsRow 0 e sz (.slice (some ⟨g, 0, none⟩) len c) (xs.set i (fillX cs off ds)).length (fillX us (i * sz + off) vs) ∧ Rows q sz (xs.set i (fillX cs off ds)) (fillX us (i * sz + off) vs) := by
  have hset := hrw.set hcs hle q1 q2 q3
  have hil : i < xs.length := (List.getElem?_eq_some_iff.1 hcs).1
  have hcl : cs.length = sz := hrw.el cs (List.mem_of_getElem? hcs)
  have hul : us.length = xs.length * sz := hrw.len
  have hfit : i * sz + off + vs.length ≤ us.length := by
    have : (i + 1) * sz ≤ xs.length * sz := Nat.mul_le_mul_right sz hil
    rw [Nat.add_mul] at this
    omega
  rcases hown.2 with ⟨hbad, _⟩ | ⟨g', cap, cur', hgv, _, hh', hnc, hcm, hcsz, htake⟩
  · cases hbad
  · simp at hgv
    obtain ⟨rfl, rfl, rfl⟩ := hgv
    rw [hh] at hh'
    cases hh'
    have hcap : xs.length * sz ≤ cur.size := by rw [hcsz]; exact Nat.mul_le_mul_right sz hnc
    refine ⟨by omega, ⟨?_, .inr ⟨g, _, _, by rw [List.length_set], Nat.zero_le _, setRow_heap w g _ _ e _ hh, ?_, hcm, ?_, ?_⟩⟩, hset.mono hpq⟩
    · rw [fillX_len, List.length_set]; exact hul
    · rw [List.length_set]; exact hnc
    · rw [List.size_toArray, fillX_len, Array.length_toList]; exact hcsz
    · rw [List.length_set, take_fillX _ _ _ _ (by omega) (by rw [Array.length_toList]; exact hcap), htake]

theorem ok_store (hty : TyOk E) {t : TypeId} {x y : Operand} (ho : o.op = .store t x y) {da dx : D} (hx : ev E.gl tm x = some da) (hy : ev E.gl tm y = some dx) {td : TD} (ht : E.ty t = some td)
    (hsz : td.size = (cellsOf dx).length) (htup : isTup dx = false) (hk : storeK E S da dx fun fp S' => K fp (put o.dst (.tup []) tm) S' nx) : Ok1 E o tm S nx K := by
  have fin : ∀ {cx : Cx} {tm' S' a w w' ρ} {out : Out}, (Instr.storeAt t (Act.eval a x) (a.eval y)).run E.P w = .ok () w' → R E cx tm' (ap out S') a w' ρ →
      ∃ w' ρ', (execOp a.eval o).run E.P w = .ok .skip w' ∧ R E cx tm' (ap out S') a w' ρ' ∧ ∀ n, ¬ (nx ≤ n ∧ n < nx) → ρ' n = ρ n := by
    intro cx tm' S' a w w' ρ out hrun hR
    exact ⟨w', ρ, by simp [execOp, ho, hrun], hR, fun _ _ => rfl⟩
  unfold storeK at hk
  split at hk
  · rename_i n off
    split at hk
    · rename_i e cs hl
      split at hk
      · rename_i hb
        have hle : off + (cellsOf dx).length ≤ cs.length := Nat.le_of_ble_eq_true hb
        refine Ok1.unit (fp := ⟨[n], [n]⟩) (out := [(n, some (.box e (fillX cs off (cellsOf dx))))]) (nx' := nx) (fun m hm => by simp [lk_one hm]) (fun _ h => h) (Nat.le_refl _) (fun m h1 h2 => by omega) (fun m => ?_) hk ?_
        · rfl
        · intro cx tm' S' a w ρ he hf h hfresh
          have hvx := (h.eval ((he y (by simp [ho, Op.operands])).trans hy)).vg htup
          have hcx := hvx.cells
          have hlen : (a.eval y).cells.toList.length = td.size := by rw [hsz]; exact hcx.len.symm
          have hl' : lk S' n = some (.box e cs) := by rw [hf n (by simp)]; exact hl
          obtain ⟨b, hr, hax⟩ := (h.eval ((he x (by simp [ho, Op.operands])).trans hx)).bp_inv
          obtain ⟨b', us, hr', hh, hcl, h1, hc⟩ := h.st _ _ hl'
          rw [hr] at hr'
          simp at hr'
          subst hr'
          refine fin (w' := w.setRow b (fillX us off (a.eval y).cells.toList).toArray) ?_ ?_
          · rw [hax]
            have := storeVar_run hty ht hh (v := a.eval y) (off := off) hlen (by simp; omega) hcx.one
            simpa using this
          · refine h.write hl' rfl (g := b) (by rw [hr]; rfl) (fr_setRow w b _) fun hi => ?_
            have hcs : Cs w (AvS cx.G S' ρ) ρ cs us := ⟨hcl, h1, hc⟩
            have hf := hcs.fill hcx hle
            exact ⟨b, fillX us off (a.eval y).cells.toList, hr, setRow_heap w b _ _ e _ hh, hf.len, hf.one, fun i d u p q => (hf.at_ i d u p q).mono hi (fun _ _ h => h)⟩
      · exact hk.elim
    · exact hk.elim
  · rename_i n sz i off
    split at hk
    · rename_i e xs hl
      split at hk
      · rename_i dx' hdx
        obtain ⟨hnm, hk⟩ := hk
        obtain ⟨te, hte, hsz', cs, hcs, hle, hk⟩ := szK_inv hk
        have hz : E.P.cellsOf e = sz := by rw [hty.cells hte, hsz']
        have hnin : n ∉ nmD dx := fun hin => by rw [memB_iff.2 hin] at hnm; cases hnm
        refine Ok1.unit (fp := ⟨n :: nmD dx, n :: nmD dx⟩) (out := (n, some (.own e (xs.set i (fillX cs off (cellsOf dx'))))) :: frzOut S (nmD dx)) (nx' := nx) (fun m hm => ?_) (fun _ h => h) (Nat.le_refl _) (fun m h1 h2 => by omega) (fun m => ?_) hk ?_
        · rw [lk_cons] at hm
          by_cases e : n = m
          · simp [e]
          · rw [if_neg e, lk_frzOut] at hm
            by_cases hin : m ∈ nmD dx
            · simp [hin]
            · rw [if_neg hin] at hm; exact absurd rfl hm
        · exact lk_ap2 [(n, some (.own e (xs.set i (fillX cs off (cellsOf dx')))))] (frzOut S (nmD dx)) S (frz_ap (nmD dx) S) m
        · intro cx tm' S' a w ρ he hf h hfresh
          have hag : ∀ m ∈ nmD dx, lk S' m = lk S m := fun m hm => hf m (by simp [hm])
          have h' := h.frzs (S0 := S) (nmD dx) hag
          have hl' : lk (ap (frzOut S (nmD dx)) S') n = some (.own e xs) := by
            rw [lk_ap, lk_frzOut, if_neg hnin]
            simp only
            rw [hf n (by simp)]
            exact hl
          have hvy := h'.eval ((he y (by simp [ho, Op.operands])).trans hy)
          have hvi := immD_VI (S0 := S) h' (frz_fits hag) hvy hdx
          obtain ⟨q1, q2, q3⟩ := hvi.cells
          have hlen' : (a.eval y).cells.toList.length = td.size := by rw [hsz]; exact ((hvy.vg htup).cells.len).symm
          obtain ⟨g, len, c, hr, hax⟩ := (h.eval ((he x (by simp [ho, Op.operands])).trans hx)).op_inv
          obtain ⟨u0, us, hr', hown, hc⟩ := h'.st _ _ hl'
          rw [hr] at hr'
          simp at hr'
          subst hr'
          rw [hz] at hown hc
          have hh : ∃ cur, w.heap[g]? = some (.cells cur e (0, 0)) := by
            rcases hown.2 with ⟨hbad, _⟩ | ⟨g', cap, cur, hgv, _, hh, _⟩
            · cases hbad
            · simp at hgv
              obtain ⟨rfl, _⟩ := hgv
              exact ⟨cur, hh⟩
          obtain ⟨cur, hh⟩ := hh
          obtain ⟨w1, w2, _⟩ := row_written (q := fun _ _ => True) (fun _ _ _ => trivial) hown hh hc hcs hle q1 q2 q3
          refine fin (w' := w.setRow g (fillX cur.toList (i * sz + off) (a.eval y).cells.toList).toArray) ?_ ?_
          · rw [hax]
            exact storeVar_run hty ht hh hlen' (by rw [← hlen']; omega) q2
          · show R E cx tm' (ap [(n, some (.own e (xs.set i (fillX cs off (cellsOf dx')))))] (ap (frzOut S (nmD dx)) S')) a _ ρ
            refine h'.write hl' rfl (g := g) (by rw [hr]; rfl) (fr_setRow w g _) fun hi => ?_
            obtain ⟨_, _, w3⟩ := row_written (q := VI (w.setRow g (fillX cur.toList (i * sz + off) (a.eval y).cells.toList).toArray) (AvS cx.G (ap [(n, some (.own e (xs.set i (fillX cs off (cellsOf dx')))))] (ap (frzOut S (nmD dx)) S')) ρ)) hi hown hh hc hcs hle q1 q2 q3
            exact ⟨_, _, hr, by rw [hz]; exact w2, by rw [hz]; exact w3⟩
      · exact hk.elim
    · rename_i e xs hl
      obtain ⟨te, hte, hsz', cs, hcs, hle, hk⟩ := szK_inv hk
      have hz : E.P.cellsOf e = sz := by rw [hty.cells hte, hsz']
      refine Ok1.unit (fp := ⟨[n], [n]⟩) (out := [(n, some (.row e (xs.set i (fillX cs off (cellsOf dx)))))]) (nx' := nx) (fun m hm => by simp [lk_one hm]) (fun _ h => h) (Nat.le_refl _) (fun m h1 h2 => by omega) (fun m => rfl) hk ?_
      intro cx tm' S' a w ρ he hf h hfresh
      have hl' : lk S' n = some (.row e xs) := by rw [hf n (by simp)]; exact hl
      have hvx := (h.eval ((he y (by simp [ho, Op.operands])).trans hy)).vg htup
      have hcx := hvx.cells
      have hlen' : (a.eval y).cells.toList.length = td.size := by rw [hsz]; exact hcx.len.symm
      obtain ⟨g, len, c, hr, hax⟩ := (h.eval ((he x (by simp [ho, Op.operands])).trans hx)).op_inv
      obtain ⟨u0, us, hr', hown, hc⟩ := h.st _ _ hl'
      rw [hr] at hr'
      simp at hr'
      subst hr'
      rw [hz] at hown hc
      have hh : ∃ cur, w.heap[g]? = some (.cells cur e (0, 0)) := by
        rcases hown.2 with ⟨hbad, _⟩ | ⟨g', cap, cur, hgv, _, hh, _⟩
        · cases hbad
        · simp at hgv
          obtain ⟨rfl, _⟩ := hgv
          exact ⟨cur, hh⟩
      obtain ⟨cur, hh⟩ := hh
      obtain ⟨w1, w2, _⟩ := row_written (q := fun _ _ => True) (fun _ _ _ => trivial) hown hh hc hcs hle hcx.len hcx.one hcx.at_
      refine fin (w' := w.setRow g (fillX cur.toList (i * sz + off) (a.eval y).cells.toList).toArray) ?_ ?_
      · rw [hax]
        exact storeVar_run hty ht hh hlen' (by rw [← hlen']; omega) hcx.one
      · refine h.write hl' rfl (g := g) (by rw [hr]; rfl) (fr_setRow w g _) fun hi => ?_
        obtain ⟨_, _, w3⟩ := row_written (q := VA (w.setRow g (fillX cur.toList (i * sz + off) (a.eval y).cells.toList).toArray) (AvS cx.G (ap [(n, some (.row e (xs.set i (fillX cs off (cellsOf dx)))))] S') ρ) ρ) (fun d u h => h.mono hi fun _ _ h => h) hown hh hc hcs hle hcx.len hcx.one hcx.at_
        exact ⟨_, _, hr, by rw [hz]; exact w2, by rw [hz]; exact w3⟩
    · exact hk.elim
  · exact hk.elim
end
end Go.Ab
