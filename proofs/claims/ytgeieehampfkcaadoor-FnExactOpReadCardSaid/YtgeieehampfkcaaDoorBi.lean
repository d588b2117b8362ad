/- An abstract reading of the elaborated code. Part 9: cells that are written; literals; new rows. -/
import Derived.Test.YtgeieehampfkcaaDoorBh
import Derived.Great.BuildSlice
import Derived.Maps.AppendAt
namespace Go.Ab
open Go Go.RowKit

theorem fillX_len {α : Type} : ∀ (vs us : List α) (o : Nat), (fillX us o vs).length = us.length
  | [], _, _ => rfl
  | v :: r, us, o => by simp [fillX, fillX_len r]
theorem fillX_mem {α : Type} : ∀ (vs us : List α) (o : Nat) (x : α), x ∈ fillX us o vs → x ∈ us ∨ x ∈ vs
  | [], us, o, x, h => .inl h
  | v :: r, us, o, x, h => by
    rcases fillX_mem r (us.set o v) (o + 1) x h with h1 | h1
    · rcases List.mem_or_eq_of_mem_set h1 with h2 | h2
      · exact .inl h2
      · exact .inr (by simp [h2])
    · exact .inr (List.mem_cons_of_mem _ h1)
theorem fillX_get {α : Type} : ∀ (vs us : List α) (o k : Nat), o + vs.length ≤ us.length → (fillX us o vs)[k]? = if o ≤ k ∧ k < o + vs.length then vs[k - o]? else us[k]?
  | [], us, o, k, _ => by
    have : ¬ (o ≤ k ∧ k < o + ([] : List α).length) := by simp only [List.length_nil]; omega
    rw [if_neg this]
    rfl
  | v :: r, us, o, k, h => by
    have hl : o < us.length := by simp at h; omega
    rw [fillX, fillX_get r (us.set o v) (o + 1) k (by simp at h ⊢; omega)]
    by_cases h1 : o + 1 ≤ k ∧ k < o + 1 + r.length
    · rw [if_pos h1, if_pos (by simp; omega)]
      have : k - o = (k - (o + 1)) + 1 := by omega
      rw [this]
      simp
    · rw [if_neg h1, List.getElem?_set]
      by_cases h2 : o = k
      · subst h2
        simp [hl]
      · rw [if_neg h2, if_neg (by simp; omega)]
theorem fillX_eq {α : Type} (vs us : List α) (o : Nat) (h : o + vs.length ≤ us.length) : us.take o ++ vs ++ us.drop (o + vs.length) = fillX us o vs := by
  apply List.ext_getElem?
  intro k
  rw [fillX_get vs us o k h]
  have h1 : (us.take o).length = o := by rw [List.length_take]; omega
  have h2 : (us.take o ++ vs).length = o + vs.length := by rw [List.length_append, h1]
  by_cases ha : k < o
  · rw [if_neg (by omega), List.append_assoc, List.getElem?_append_left (by omega), List.getElem?_take, if_pos ha]
  · by_cases hb : k < o + vs.length
    · rw [if_pos (by omega), List.getElem?_append_left (by omega), List.getElem?_append_right (by omega), h1]
    · rw [if_neg (by omega), List.getElem?_append_right (by omega), h2, List.getElem?_drop]
      congr 1
      omega

theorem fill_rel {p : D → Value → Prop} {ds : List D} {vs : List Value} {cs : List D} {us : List Value} {o : Nat} (hl : ds.length = vs.length) (hl' : cs.length = us.length) (hle : o + ds.length ≤ cs.length)
    (hd : ∀ (i : Nat) (d : D) (u : Value), ds[i]? = some d → vs[i]? = some u → p d u) (hc : ∀ (i : Nat) (d : D) (u : Value), cs[i]? = some d → us[i]? = some u → p d u) :
    ∀ (i : Nat) (d : D) (u : Value), (fillX cs o ds)[i]? = some d → (fillX us o vs)[i]? = some u → p d u := by
  intro i d u a b
  rw [fillX_get ds cs o i hle] at a
  rw [fillX_get vs us o i (by omega), ← hl] at b
  split at a
  · rename_i hi
    rw [if_pos hi] at b
    exact hd _ d u a b
  · rename_i hi
    rw [if_neg hi] at b
    exact hc _ d u a b
theorem Cs.fill {w : World} {Av : Nat → Prop} {ρ : Nat → Option Value} {cs ds : List D} {us vs : List Value} (h : Cs w Av ρ cs us) (k : Cs w Av ρ ds vs) {o : Nat} (hle : o + ds.length ≤ cs.length) : Cs w Av ρ (fillX cs o ds) (fillX us o vs) :=
  ⟨by rw [fillX_len, fillX_len]; exact h.len, fun u hu => (fillX_mem _ _ _ _ hu).elim (h.one u) (k.one u), fill_rel k.len h.len hle k.at_ h.at_⟩
theorem fold_fill : ∀ (vs : List Value) (j off : Nat) (us : List Value),
    (vs.zipIdx j).foldl (fun (cs : Array Value) (x : Value × Nat) => cs.setIfInBounds (off + x.2) x.1) us.toArray = (fillX us (off + j) vs).toArray
  | [], _, _, _ => rfl
  | v :: r, j, off, us => by
    simp only [List.zipIdx_cons, List.foldl_cons, fillX, List.setIfInBounds_toArray]
    rw [fold_fill r (j + 1) off]
    rfl
theorem fill_step (place : Nat → Option (Nat × Nat)) (us : List Value) (i off z : Nat) (v : Value) (rest : List (Nat × Value)) (hp : place i = some (off, z)) (hz : v.cells.toList.length = z) (hle : off + z ≤ us.length) :
    Instr.fill place us.toArray ((i, v) :: rest) = Instr.fill place (fillX us off v.cells.toList).toArray rest := by
  have h1 : ¬ (v.cells.size ≠ z ∨ off + v.cells.size > us.length) := by
    have : v.cells.size = z := by simpa using hz
    omega
  have h2 := fold_fill v.cells.toList 0 off us
  simp only [Nat.add_zero] at h2
  simp only [Instr.fill, hp, List.size_toArray]
  rw [if_neg (by simpa using h1)]
  rw [← Array.foldl_toList, Array.toList_zipIdx]
  rw [h2]

theorem row_lt {i i' j sz : Nat} (hj : j < sz) (h : i' < i) : i' * sz + j < i * sz := by
  have : (i' + 1) * sz ≤ i * sz := Nat.mul_le_mul_right sz h
  rw [Nat.add_mul] at this
  omega

theorem Rows.set {p : D → Value → Prop} {sz : Nat} {xs : List (List D)} {us : List Value} (h : Rows p sz xs us) {i off : Nat} {cs ds : List D} {vs : List Value} (hi : xs[i]? = some cs) (hl : off + ds.length ≤ cs.length) (hdl : ds.length = vs.length)
    (h1 : ∀ v ∈ vs, v.oneCell' = true) (hv : ∀ (i : Nat) (d : D) (u : Value), ds[i]? = some d → vs[i]? = some u → p d u) : Rows p sz (xs.set i (fillX cs off ds)) (fillX us (i * sz + off) vs) := by
  have hil : i < xs.length := (List.getElem?_eq_some_iff.1 hi).1
  have hcs : cs.length = sz := h.el cs (List.mem_of_getElem? hi)
  have hfit : i * sz + off + vs.length ≤ us.length := by
    have : (i + 1) * sz ≤ xs.length * sz := Nat.mul_le_mul_right sz hil
    rw [Nat.add_mul] at this
    rw [h.len]
    omega
  refine ⟨by rw [fillX_len, List.length_set]; exact h.len, fun c hc => ?_, fun u hu => (fillX_mem _ _ _ _ hu).elim (h.one u) (h1 u), fun i' j c d hc hd => ?_⟩
  · rcases List.mem_or_eq_of_mem_set hc with h2 | rfl
    · exact h.el c h2
    · rw [fillX_len]; exact hcs
  · rw [List.getElem?_set] at hc
    rw [fillX_get _ _ _ _ hfit]
    by_cases e : i = i'
    · subst e
      rw [if_pos rfl, if_pos hil] at hc
      cases hc
      have hj : j < sz := by rw [← hcs, ← fillX_len ds cs off]; exact (List.getElem?_eq_some_iff.1 hd).1
      -- the old element, cell by cell
      obtain ⟨olds, o1, o2⟩ := list_of (fun (k : Nat) (d : D) (u : Value) => us[i * sz + k]? = some u ∧ p d u) cs (fun k d hk => h.at_ i k cs d hi hk)
      have hj' : j < (fillX olds off vs).length := by rw [fillX_len, o1, hcs]; exact hj
      have hrel := fill_rel (p := p) hdl o1.symm hl hv (fun i d u p q => (o2 i d u p q).2) j d _ hd (List.getElem?_eq_getElem hj')
      refine ⟨_, ?_, hrel⟩
      have hg := fillX_get vs olds off j (by rw [o1]; omega)
      rw [List.getElem?_eq_getElem hj'] at hg
      by_cases hin : off ≤ j ∧ j < off + vs.length
      · rw [if_pos (by omega)]
        rw [if_pos hin] at hg
        rw [hg]
        congr 1
        omega
      · rw [if_neg (by omega)]
        rw [if_neg hin] at hg
        have hjc : j < cs.length := by omega
        have := (o2 j cs[j] _ (List.getElem?_eq_getElem hjc) hg.symm).1
        rw [this]
    · rw [if_neg e] at hc
      obtain ⟨u, e1, e2⟩ := h.at_ i' j c d hc hd
      refine ⟨u, ?_, e2⟩
      have hj : j < sz := by rw [← h.el c (List.mem_of_getElem? hc)]; exact (List.getElem?_eq_some_iff.1 hd).1
      rw [if_neg ?_]
      · exact e1
      · rcases Nat.lt_or_gt_of_ne e with hlt | hgt
        · have := row_lt (i := i') (i' := i) (j := off + vs.length - 1) (sz := sz)
          intro hh
          have h3 : i * sz + sz ≤ i' * sz := by
            have : (i + 1) * sz ≤ i' * sz := Nat.mul_le_mul_right sz hlt
            rw [Nat.add_mul] at this
            omega
          omega
        · intro hh
          have h3 := row_lt (i := i) (i' := i') hj hgt
          omega

theorem made_get (z : Array Value) (n k : Nat) (hk : k < n) (_hz : 0 < z.size) : (madeCells z n).toList[k]? = some z[k % z.size]! := by
  simp [madeCells, hk]
theorem Rows.made {p : D → Value → Prop} {z : Array Value} {zs : List D} (hl : zs.length = z.size) (hz : 0 < z.size) (h1 : ∀ u ∈ z.toList, u.oneCell' = true)
    (hv : ∀ (i : Nat) (d : D) (u : Value), zs[i]? = some d → z.toList[i]? = some u → p d u) (n : Nat) : Rows p z.size (List.replicate n zs) (madeCells z (n * z.size)).toList := by
  have hget : ∀ k, k < z.size → z[k]? = some z[k]! := fun k hk => by simp [hk]
  refine ⟨by simp [madeCells], fun c hc => ?_, fun u hu => ?_, fun i j c d hc hd => ?_⟩
  · rw [(List.mem_replicate.1 hc).2]; exact hl
  · obtain ⟨k, hk⟩ := List.mem_iff_getElem?.1 hu
    have hlt : k < n * z.size := by have := (List.getElem?_eq_some_iff.1 hk).1; simpa [madeCells] using this
    rw [made_get z _ k hlt hz] at hk
    cases hk
    have hm := Nat.mod_lt k hz
    exact h1 _ (by rw [Array.mem_toList_iff]; exact Array.mem_of_getElem? (hget _ hm))
  · have hi : i < n := by have := (List.getElem?_eq_some_iff.1 hc).1; simpa using this
    have hc' : c = zs := by
      have := List.mem_of_getElem? hc
      exact (List.mem_replicate.1 this).2
    subst hc'
    have hj : j < z.size := by rw [← hl]; exact (List.getElem?_eq_some_iff.1 hd).1
    have hlt : i * z.size + j < n * z.size := row_lt hj hi
    refine ⟨_, made_get z _ _ hlt hz, ?_⟩
    have : (i * z.size + j) % z.size = j := by rw [Nat.mul_comm, Nat.mul_add_mod]; exact Nat.mod_eq_of_lt hj
    rw [this]
    exact hv j d _ hd (by simpa using hget j hj)

theorem Rows.append {p : D → Value → Prop} {sz : Nat} {xs ys : List (List D)} {us vs : List Value} (h : Rows p sz xs us) (k : Rows p sz ys vs) : Rows p sz (xs ++ ys) (us ++ vs) := by
  refine ⟨by rw [List.length_append, List.length_append, h.len, k.len, Nat.add_mul], fun c hc => ?_, fun u hu => ?_, fun i j c d hc hd => ?_⟩
  · rcases List.mem_append.1 hc with h1 | h1
    · exact h.el c h1
    · exact k.el c h1
  · rcases List.mem_append.1 hu with h1 | h1
    · exact h.one u h1
    · exact k.one u h1
  · by_cases hi : i < xs.length
    · rw [List.getElem?_append_left hi] at hc
      obtain ⟨u, e1, e2⟩ := h.at_ i j c d hc hd
      refine ⟨u, ?_, e2⟩
      rw [List.getElem?_append_left (List.getElem?_eq_some_iff.1 e1).1]
      exact e1
    · rw [List.getElem?_append_right (by omega)] at hc
      obtain ⟨u, e1, e2⟩ := k.at_ (i - xs.length) j c d hc hd
      refine ⟨u, ?_, e2⟩
      have hge : xs.length * sz ≤ i * sz := Nat.mul_le_mul_right sz (by omega)
      rw [List.getElem?_append_right (by rw [h.len]; omega), ← e1, h.len]
      congr 1
      rw [Nat.sub_mul]
      omega

section
variable {E : Env} {cx : Cx} {tm : Tm} {S S0 : Store} {nx : Nat} {a : Act} {w : World} {ρ : Nat → Option Value} {o : Oper} {K : Kt}

theorem VI.cells {Av : Nat → Prop} {d : D} {u : Value} (h : VI w Av d u) : (cellsOf d).length = u.cells.toList.length ∧ (∀ x ∈ u.cells.toList, x.oneCell' = true) ∧
    ∀ (i : Nat) (d' : D) (x : Value), (cellsOf d)[i]? = some d' → u.cells.toList[i]? = some x → VI w Av d' x := by
  by_cases ha : ∃ ds, d = .agg ds
  · obtain ⟨ds, rfl⟩ := ha
    cases h with
    | agg hl h1 hr => exact ⟨by simpa [cellsOf, Value.cells] using hl, by simpa [Value.cells] using h1, fun i d x p q => hr i d x p (by simpa [Value.cells] using q)⟩
  · have h1 := h.one fun ds e => ha ⟨ds, e⟩
    have hc : cellsOf d = [d] := by cases d <;> first | rfl | exact absurd ⟨_, rfl⟩ ha
    rw [cells_one h1, hc]
    refine ⟨rfl, by simpa using h1, fun i d' x p q => ?_⟩
    cases i with
    | zero => simp at p q; subst p q; exact h
    | succ i => simp at p
theorem take_fillX (vs us : List Value) (o m : Nat) (h : o + vs.length ≤ m) (hm : m ≤ us.length) : (fillX us o vs).take m = fillX (us.take m) o vs := by
  apply List.ext_getElem?
  intro k
  rw [List.getElem?_take, fillX_get _ _ _ _ (by omega), fillX_get _ _ _ _ (by rw [List.length_take]; omega), List.getElem?_take]
  by_cases hk : k < m
  · rw [if_pos hk, if_pos hk]
  · rw [if_neg hk, if_neg hk]
    split
    · omega
    · rfl

theorem fr_setRow (w : World) (g : Nat) (cs : Array Value) : Fr (fun x => x = g) w (w.setRow g cs) :=
  ⟨rfl, rfl, rfl, by simp, fun k _ hk => setRow_other w g k cs hk⟩

theorem storeVar_run (hty : TyOk E) {t : TypeId} {td : TD} (ht : E.ty t = some td) {g off : Nat} {e : TypeId} {cur : Array Value} (hg : w.heap[g]? = some (.cells cur e (0, 0))) {v : Value} (hs : v.cells.toList.length = td.size)
    (hfit : off + td.size ≤ cur.size) (h1 : ∀ u ∈ v.cells.toList, u.oneCell' = true) :
    (Instr.storeAt t (.pointer (some ⟨g, off, none⟩)) v).run E.P w = .ok () (w.setRow g (fillX cur.toList off v.cells.toList).toArray) := by
  have h2 := run_storeCells_at E.P g off e v.cells.toList 0 cur w hg (by omega) h1
  simp only [Nat.add_zero] at h2
  rw [fillX_eq _ _ _ (by rw [hs, Array.length_toList]; exact hfit)] at h2
  have h3 : v.cells.size = td.size := by simpa using hs
  simp [Instr.storeAt, Instr.sureAddr, storeVar, sizeOf_run hty ht, h3, h2]

theorem fillParts_ex {gl : Nat → Option (List D)} {pl : List (Nat × Nat)} : ∀ (parts : List (Nat × Operand)) (cs : List D) (K : List D → Prop), fillParts gl tm pl parts cs K → ∃ cs', (∀ K' : List D → Prop, K' cs' → fillParts gl tm pl parts cs K') ∧ K cs'
  | [], cs, K, h => ⟨cs, fun _ h => h, h⟩
  | (i, x) :: r, cs, K, h => by
    unfold fillParts at h
    split at h
    · rename_i o z hp
      obtain ⟨d, hx, h⟩ := evK_inv h
      split at h
      · rename_i hb
        obtain ⟨cs', h1, h2⟩ := fillParts_ex r _ K h
        refine ⟨cs', fun K' hK => ?_, h2⟩
        unfold fillParts
        simp only [hp, evK, hx, hb]
        exact h1 K' hK
      · exact h.elim
    · exact h.elim
theorem fillParts_ev {gl : Nat → Option (List D)} {tm' : Tm} {pl : List (Nat × Nat)} : ∀ (parts : List (Nat × Operand)) (cs : List D) (K : List D → Prop), (∀ p ∈ parts, ev gl tm' p.2 = ev gl tm p.2) → fillParts gl tm pl parts cs K → fillParts gl tm' pl parts cs K
  | [], cs, K, _, h => h
  | (i, x) :: r, cs, K, he, h => by
    unfold fillParts at h ⊢
    split at h
    · rename_i o z hp
      obtain ⟨d, hx, h⟩ := evK_inv h
      have hx' : ev gl tm' x = some d := (he (i, x) (by simp)).trans hx
      split at h
      · rename_i hb
        simp only [evK, hx', hb]
        exact fillParts_ev r _ K (fun p hp => he p (by simp [hp])) h
      · exact h.elim
    · exact h.elim
theorem fillParts_run (h : R E cx tm S a w ρ) {pl : List (Nat × Nat)} : ∀ (parts : List (Nat × Operand)) (cs : List D) (us : List Value) (K : List D → Prop), fillParts E.gl tm pl parts cs K → Cs w (AvS cx.G S ρ) ρ cs us →
    ∃ cs' us', Instr.fill (fun i => pl[i]?) us.toArray (parts.map fun (i, x) => (i, a.eval x)) = some us'.toArray ∧ Cs w (AvS cx.G S ρ) ρ cs' us' ∧ K cs'
  | [], cs, us, K, hf, hc => ⟨cs, us, rfl, hc, hf⟩
  | (i, x) :: r, cs, us, K, hf, hc => by
    unfold fillParts at hf
    split at hf
    · rename_i off z hp
      obtain ⟨d, hx, hf⟩ := evK_inv hf
      split at hf
      · rename_i hb
        simp only [Bool.and_eq_true] at hb
        obtain ⟨⟨h1, h2⟩, h3⟩ := hb
        have hd := ((h.eval hx).vg (by simpa using h3)).cells
        have hz : (a.eval x).cells.toList.length = z := by rw [← hd.len]; exact Nat.eq_of_beq_eq_true h1
        have hle : off + z ≤ us.length := by rw [← hc.len]; exact Nat.le_of_ble_eq_true h2
        obtain ⟨cs', us', e1, e2, e3⟩ := fillParts_run h r _ (fillX us off (a.eval x).cells.toList) K hf (hc.fill hd (Nat.le_of_ble_eq_true h2 |> fun q => by rw [Nat.eq_of_beq_eq_true h1]; exact q))
        refine ⟨cs', us', ?_, e2, e3⟩
        rw [List.map_cons, fill_step _ us i off z _ _ hp hz hle]
        exact e1
      · exact hf.elim
    · exact hf.elim

theorem places_mapM : ∀ {pl : List (Nat × Nat)} {fs : List Field}, placesChk E.P pl fs = true → fs.mapM (fun f => (E.P.info? f.type).map fun i => (f.offset, i.size)) = some pl
  | [], [], _ => rfl
  | [], _ :: _, h => by simp [placesChk] at h
  | _ :: _, [], h => by simp [placesChk] at h
  | (o, z) :: r, f :: fs, h => by
    simp only [placesChk, Bool.and_eq_true] at h
    obtain ⟨⟨⟨h1, h2⟩, h3⟩, h4⟩ := h
    have h2 := Nat.eq_of_beq_eq_true h2
    have h3 := Nat.le_of_ble_eq_true h3
    have h1 := Nat.eq_of_beq_eq_true h1
    unfold Program.cellsOf at h2
    cases hi : E.P.info? f.type with
    | none => rw [hi] at h2; simp at h2; omega
    | some i =>
      rw [hi] at h2
      simp at h2
      simp [List.mapM_cons, hi, places_mapM h4, h1, h2]

theorem ok_build (hty : TyOk E) {t : TypeId} {parts : Array (Nat × Operand)} (ho : o.op = .build t parts) {td : TD} (ht : E.ty t = some td) {pl : List (Nat × Nat)} (hk : td.kind = .struct pl)
    (hf : fillParts E.gl tm pl parts.toList (cellsOf td.zero) fun cs => K fp0 (put o.dst (.agg cs) tm) S nx) : Ok1 E o tm S nx K := by
  obtain ⟨cs', h1, h2⟩ := fillParts_ex _ _ _ hf
  refine Ok1.pure (fp := []) h2 fun cx tm' S' a w ρ he _ h => ?_
  obtain ⟨i, v, hi, hs, _, hz, _, _, hzc, hkc⟩ := hty.info ht
  rw [hk] at hkc
  obtain ⟨fs, hu, hp⟩ := kind_struct hkc
  have hf' := fillParts_ev (tm' := tm') parts.toList _ (fun x => x = cs') (fun p hp => he p.2 (by rw [ho]; simp [Op.operands]; exact ⟨p.1, by simpa using hp⟩)) (h1 (fun x => x = cs') rfl)
  obtain ⟨cs2, us', e1, e2, e3⟩ := fillParts_run h parts.toList _ v.cells.toList _ hf' (zeroChk_cells (w := w) hzc).1
  have e3 : cs2 = cs' := e3
  subst e3
  have hb : E.P.built t (parts.map fun (i, x) => (i, a.eval x)).toList = some us'.toArray := by
    simp only [Program.built, hi, hu, hz, places_mapM hp]
    rw [← e1]
    simp
  refine ⟨.agg us'.toArray, ?_, .gr (.agg e2.len e2.one e2.at_)⟩
  simp [execOp, ho, run_build w t _ _ hb]
end
end Go.Ab
