/- From the contract of a law (for all data of its types it answers true) to the statement's own form. -/
import Derived.Test.YtgeieehampfkcaaDoorBs
import Derived.ProofKit
import Derived.OpenShut
import Derived.Deep.Slices
import Derived.WideKeyArgs
namespace Go.Ab
open Go Go.RowKit Go.ChangeShapes Go.WideShapes Go.ChangeAt

/-- types of plain data: strings, numbers, bools, slices and structs of these -/
def argFields (P : Program) (rec : TypeId → Bool) : List Field → Nat → Nat → Bool
  | [], off, n => Nat.beq off n
  | f :: fs, off, n => Nat.beq f.offset off && rec f.type && argFields P rec fs (off + P.cellsOf f.type) n
def argTy (P : Program) : Nat → TypeId → Bool
  | 0, _ => false
  | d + 1, t => match P.underlying t with
    | some .string => Nat.beq (P.cellsOf t) 1
    | some .bool => Nat.beq (P.cellsOf t) 1
    | some (.int _) => Nat.beq (P.cellsOf t) 1
    | some (.slice e) => Nat.beq (P.cellsOf t) 1 && Nat.blt 0 (P.cellsOf e) && argTy P d e
    | some (.struct fs) => argFields P (argTy P d) fs.toList 0 (P.cellsOf t)
    | _ => false

/-- the cells of a value of a type -/
inductive Shp (P : Program) : TypeId → List D → Prop
  | str {t : TypeId} (h : P.underlying t = some .string) (l : List UInt8) (hl : l.length ≤ maxLen) : Shp P t [.s l]
  | int {t : TypeId} {k : IntKind} (h : P.underlying t = some (.int k)) (n : Int) (hn : (Lit.int k n).wf = true) : Shp P t [.k k n]
  | bool {t : TypeId} (h : P.underlying t = some .bool) (b : Bool) : Shp P t [.b b]
  | slice {t e : TypeId} (h : P.underlying t = some (.slice e)) (xs : List (List D)) (hl : xs.length ≤ maxLen) (hx : ∀ cs ∈ xs, Shp P e cs) : Shp P t [.sl xs]
  | struct {t : TypeId} {fs : Array Field} (h : P.underlying t = some (.struct fs)) (dss : List (List D)) (hl : dss.length = fs.toList.length) (hx : ∀ (i : Nat) (f : Field) (ds : List D), fs.toList[i]? = some f → dss[i]? = some ds → Shp P f.type ds) : Shp P t dss.flatten

section
variable {H : Type} {enc : TypeId × Value → H} {P : Program} {W : World} {sp : Nat → Bool} {held : Bool}
abbrev noAv : Nat → Prop := fun _ => False

theorem fields_shp {fuel : Nat} {rec : TypeId → Bool}
    (ih : ∀ (t : TypeId) (cs : List Value) (x : DataW H × List MemPlace), rec t = true → DataW.trod enc P W 0 sp held fuel t cs = some x → cs.length = P.cellsOf t ∧ (∀ u ∈ cs, u.oneCell' = true) ∧ ∃ ds, ds.length = cs.length ∧ (∀ (i : Nat) (d : D) (u : Value), ds[i]? = some d → cs[i]? = some u → VI W noAv d u) ∧ Shp P t ds) :
    ∀ (fs : List Field) (off : Nat) (cs : List Value), argFields P rec fs off cs.length = true → (∀ (i : Nat) (f : Field), fs[i]? = some f → ∃ x, DataW.trod enc P W 0 sp held fuel f.type ((cs.drop f.offset).take (P.cellsOf f.type)) = some x) →
      off ≤ cs.length ∧ (∀ u ∈ cs.drop off, u.oneCell' = true) ∧ ∃ dss : List (List D), dss.length = fs.length ∧ (∀ (i : Nat) (f : Field) (ds : List D), fs[i]? = some f → dss[i]? = some ds → Shp P f.type ds) ∧ dss.flatten.length = cs.length - off ∧
        ∀ (i : Nat) (d : D) (u : Value), dss.flatten[i]? = some d → (cs.drop off)[i]? = some u → VI W noAv d u
  | [], off, cs, ha, _ => by
    simp only [argFields] at ha
    have := Nat.eq_of_beq_eq_true ha
    refine ⟨by omega, by simp [this], [], rfl, by simp, by simp [this], by simp⟩
  | f :: fs, off, cs, ha, hm => by
    simp only [argFields, Bool.and_eq_true] at ha
    obtain ⟨⟨h1, h2⟩, h3⟩ := ha
    have hoff := Nat.eq_of_beq_eq_true h1
    obtain ⟨x, hx⟩ := hm 0 f rfl
    rw [hoff] at hx
    obtain ⟨g1, g2, ds, g3, g4, g5⟩ := ih f.type _ x h2 hx
    obtain ⟨q1, q2, dss, q3, q4, q5, q6⟩ := fields_shp ih fs (off + P.cellsOf f.type) cs h3 (fun i f' hf => hm (i + 1) f' (by simpa using hf))
    have hl : ((cs.drop off).take (P.cellsOf f.type)).length = P.cellsOf f.type := g1
    simp only [List.length_take, List.length_drop] at hl
    have hsplit : cs.drop off = (cs.drop off).take (P.cellsOf f.type) ++ cs.drop (off + P.cellsOf f.type) := by
      rw [← List.drop_drop, List.take_append_drop]
    refine ⟨by omega, fun u hu => ?_, ds :: dss, by simp [q3], fun i f' ds' hf hd => ?_, ?_, fun i d u hd hu => ?_⟩
    · rw [hsplit] at hu
      rcases List.mem_append.1 hu with h | h
      · exact g2 u h
      · exact q2 u h
    · cases i with
      | zero => simp at hf hd; subst hf hd; exact g5
      | succ i => exact q4 i f' ds' (by simpa using hf) (by simpa using hd)
    · simp only [List.flatten_cons, List.length_append, q5, g3, g1]
      omega
    · rw [hsplit] at hu
      simp only [List.flatten_cons] at hd
      by_cases hi : i < ds.length
      · rw [List.getElem?_append_left hi] at hd
        rw [List.getElem?_append_left (by rw [← g3]; exact hi)] at hu
        exact g4 i d u hd hu
      · rw [List.getElem?_append_right (by omega)] at hd
        rw [List.getElem?_append_right (by rw [← g3]; omega), ← g3] at hu
        exact q6 _ d u hd hu

theorem trod_shp : ∀ (dp : Nat) (fuel : Nat) (t : TypeId) (cs : List Value) (x : DataW H × List MemPlace), argTy P dp t = true → DataW.trod enc P W 0 sp held fuel t cs = some x →
    cs.length = P.cellsOf t ∧ (∀ u ∈ cs, u.oneCell' = true) ∧ ∃ ds, ds.length = cs.length ∧ (∀ (i : Nat) (d : D) (u : Value), ds[i]? = some d → cs[i]? = some u → VI W noAv d u) ∧ Shp P t ds := by
  intro dp
  induction dp with
  | zero => intro fuel t cs x h; simp [argTy] at h
  | succ dp ih =>
    intro fuel t cs x h hx
    cases fuel with
    | zero => simp [DataW.trod] at hx
    | succ fuel =>
    unfold argTy at h
    have one : ∀ (v : Value) (d : D), v.oneCell' = true → VI W noAv d v → Shp P t [d] → Nat.beq (P.cellsOf t) 1 = true → cs = [v] → cs.length = P.cellsOf t ∧ (∀ u ∈ cs, u.oneCell' = true) ∧ ∃ ds, ds.length = cs.length ∧ (∀ (i : Nat) (d : D) (u : Value), ds[i]? = some d → cs[i]? = some u → VI W noAv d u) ∧ Shp P t ds := by
      intro v d h1 hv hs hz hc
      subst hc
      refine ⟨by rw [Nat.eq_of_beq_eq_true hz]; rfl, by simpa using h1, [d], rfl, fun i d' u p q => ?_, hs⟩
      cases i with
      | zero => simp at p q; subst p q; exact hv
      | succ i => simp at p
    split at h
    · -- string
      rename_i hu
      obtain ⟨v, rfl, _, hs⟩ := DataW.trod_string hu hx
      have hse : v = ⟨v.data.toList.toArray⟩ := by cases v; simp
      refine one (.string v) (.s v.data.toList) rfl ?_ (.str hu _ (by rw [Array.length_toList]; exact hs)) h rfl
      have := VI.s (w := W) (Av := noAv) v.data.toList
      rw [← hse] at this
      exact this
    · rename_i hu
      obtain ⟨b, rfl, _⟩ := DataW.trod_bool hu hx
      exact one (.bool b) (.b b) rfl (.b b) (.bool hu b) h rfl
    · rename_i k hu
      obtain ⟨n, rfl, _, hw⟩ := DataW.trod_int hu hx
      exact one (.int k n) (.k k n) rfl (.k k n) (.int hu n hw) h rfl
    · rename_i e hu
      simp only [Bool.and_eq_true] at h
      obtain ⟨⟨hz, hce0⟩, he⟩ := h
      have hce0 : 0 < P.cellsOf e := Nat.le_of_ble_eq_true hce0
      rcases Go.Deep.open_slice hu hx with ⟨rfl, _⟩ | ⟨a, len, cap, m, n, Dd, Pl, rfl, _, hlc, hcm, hm, _, hel⟩
      · exact one (.slice none 0 0) (.sl []) rfl .sl0 (.slice hu [] (by simp) (by simp)) hz rfl
      · have hlm : len ≤ m := by rw [hm]; split <;> omega
        have elem : ∀ i, i < len → ∃ (ds : List D) (us : List Value), ds.length = P.cellsOf e ∧ us.length = P.cellsOf e ∧ (∀ u ∈ us, u.oneCell' = true) ∧ (∀ (j : Nat) (d : D) (u : Value), ds[j]? = some d → us[j]? = some u → VI W noAv d u) ∧ Shp P e ds ∧ ∀ j u, us[j]? = some u → W.cell? (a.add (i * P.cellsOf e + j)) = some u := by
          intro i hi
          obtain ⟨cs', h1, h2⟩ := hel i (by omega)
          obtain ⟨g1, g2, ds, g3, g4, g5⟩ := ih n e cs' _ he h2
          obtain ⟨_, c1, c2⟩ := World.cells?_some h1
          refine ⟨ds, cs', by rw [g3, g1], g1, g2, g4, g5, fun j u hu => ?_⟩
          have hj : j < P.cellsOf e := by rw [← c1]; exact (List.getElem?_eq_some_iff.1 hu).1
          have := c2 j hj
          rw [add_add] at this
          rw [this]; exact hu
        have cho : ∃ (F : Nat → List D) (G : Nat → List Value), ∀ i, i < len → (F i).length = P.cellsOf e ∧ (G i).length = P.cellsOf e ∧ (∀ u ∈ G i, u.oneCell' = true) ∧ (∀ (j : Nat) (d : D) (u : Value), (F i)[j]? = some d → (G i)[j]? = some u → VI W noAv d u) ∧ Shp P e (F i) ∧ ∀ j u, (G i)[j]? = some u → W.cell? (a.add (i * P.cellsOf e + j)) = some u := by
          refine ⟨fun i => if hi : i < len then (elem i hi).choose else [], fun i => if hi : i < len then (elem i hi).choose_spec.choose else [], fun i hi => ?_⟩
          simp only [hi, dif_pos]
          exact (elem i hi).choose_spec.choose_spec
        obtain ⟨F, G, hFG⟩ := cho
        have hxs : ∀ (i : Nat) (cs : List D), ((List.range len).map F)[i]? = some cs → i < len ∧ cs = F i := by
          intro i cs hc
          simp only [List.getElem?_map, Option.map_eq_some_iff] at hc
          obtain ⟨k, hk, rfl⟩ := hc
          have hlt : i < len := by have := (List.getElem?_eq_some_iff.1 hk).1; simpa using this
          rw [List.getElem?_range hlt] at hk
          cases hk
          exact ⟨hlt, rfl⟩
        have hcell : ∀ (i j : Nat) (cs : List D) (d : D), ((List.range len).map F)[i]? = some cs → cs[j]? = some d → W.cell? (a.add (i * P.cellsOf e + j)) = some ((G i).getD j undef) ∧ ((G i).getD j undef).oneCell' = true ∧ VI W noAv d ((G i).getD j undef) := by
          intro i j cs d hc hd
          obtain ⟨hi, rfl⟩ := hxs i cs hc
          obtain ⟨f1, f2, f3, f4, f5, f6⟩ := hFG i hi
          have hj : j < (G i).length := by rw [f2, ← f1]; exact (List.getElem?_eq_some_iff.1 hd).1
          have hg : (G i)[j]? = some ((G i).getD j undef) := by simp [List.getD, hj]
          exact ⟨f6 j _ hg, f3 _ (List.mem_of_getElem? hg), f4 j d _ hd hg⟩
        refine one (.slice (some a) len cap) (.sl ((List.range len).map F)) rfl ?_ (.slice hu _ (by simp; omega) fun cs hcs => ?_) hz rfl
        · refine .sl (sz := P.cellsOf e) (fun i j => (G i).getD j undef) (by simp) hlc hcm (fun hne => ?_) (fun _ h => h) (fun cs hcs => ?_) (fun i j cs d p q => (hcell i j cs d p q).1) (fun i j cs d p q => (hcell i j cs d p q).2.1) (fun i j cs d p q => (hcell i j cs d p q).2.2)
          · have hl0 : 0 < len := by
              cases hlen : len with
              | zero => rw [hlen] at hne; simp at hne
              | succ k => omega
            obtain ⟨f1, f2, f3, f4, f5, f6⟩ := hFG 0 hl0
            have hg : (G 0)[0]? = some ((G 0).getD 0 undef) := by
              have : 0 < (G 0).length := by omega
              simp [List.getD, this]
            have := f6 0 _ hg
            simp only [Nat.zero_mul, Nat.add_zero] at this
            have hc : W.cell? a = some ((G 0).getD 0 undef) := this
            unfold World.cell? at hc
            split at hc
            · rename_i hh; exact (Array.getElem?_eq_some_iff.1 hh).1
            · cases hc
          · obtain ⟨i, hi⟩ := List.mem_iff_getElem?.1 hcs
            obtain ⟨hlt, rfl⟩ := hxs i cs hi
            exact (hFG i hlt).1
        · obtain ⟨i, hi⟩ := List.mem_iff_getElem?.1 hcs
          obtain ⟨hlt, rfl⟩ := hxs i cs hi
          exact (hFG i hlt).2.2.2.2.1
    · rename_i fs hu
      obtain ⟨xs, n, rfl', _, hl, hxl, hf⟩ := DataW.trod_struct hu hx
      obtain ⟨q1, q2, dss, q3, q4, q5, q6⟩ := fields_shp (rec := argTy P dp) (fun t cs x h1 h2 => ih n t cs x h1 h2) fs.toList 0 cs (by rw [hl]; exact h) (fun i f hi => by
        have hi' : fs[i]? = some f := by simpa using hi
        have hlt : i < xs.length := by rw [hxl]; exact (Array.getElem?_eq_some_iff.1 hi').1
        exact ⟨xs[i], by rw [hf i f hi']; exact List.getElem?_eq_getElem hlt⟩)
      simp only [List.drop_zero, Nat.sub_zero] at q2 q5 q6
      exact ⟨hl, q2, dss.flatten, q5, q6, .struct hu dss q3 q4⟩
    · cases h

/-- an argument, as the symbolic run sees it -/
def ShpV (P : Program) (t : TypeId) (d : D) : Prop :=
  match P.underlying t with
  | some (.struct _) => ∃ ds, d = .agg ds ∧ Shp P t ds
  | _ => Shp P t [d]
theorem arg_shp {dp : Nat} {t : TypeId} (ha : argTy P dp t = true) {v : Value} {x : DataW H} {ps : List MemPlace} (h : DataW.Trod enc P W 0 sp held t v x ps) {b0 : Nat} (hok : Value.okWide P W .any b0 t v) : ∃ d, (∀ Av ρ, (∀ y, ¬ Av y) → VG W Av ρ d v) ∧ ShpV P t d := by
  obtain ⟨fuel, hx⟩ := h
  obtain ⟨h1, h2, ds, h3, h4, h5⟩ := trod_shp dp fuel t _ _ ha hx
  have up : ∀ (Av : Nat → Prop), (∀ y, ¬ Av y) → ∀ d u, VI W noAv d u → VI W Av d u := fun Av hA d u hv => hv.mono (fun _ _ _ => rfl) (Nat.le_refl _) fun x _ hx => (hA x hx).elim
  have one : v.oneCell' = true → ∃ d, (∀ Av ρ, (∀ y, ¬ Av y) → VG W Av ρ d v) ∧ Shp P t [d] := by
    intro hone
    rw [cells_one hone] at h3 h4
    match ds, h3, h4, h5 with
    | [d], _, h4, h5 => exact ⟨d, fun Av ρ hA => .atom (.im (up Av hA d v (h4 0 d v rfl rfl))), h5⟩
  unfold Value.okWide at hok
  unfold ShpV
  cases dp with
  | zero => simp [argTy] at ha
  | succ dp =>
  unfold argTy at ha
  split at ha
  · rename_i hu
    rw [hu] at hok ⊢
    exact one (by cases v <;> first | rfl | (simp [Cell.okWide, hu, Cell.ok] at hok))
  · rename_i hu
    rw [hu] at hok ⊢
    exact one (by cases v <;> first | rfl | (simp [Cell.okWide, hu, Cell.ok] at hok))
  · rename_i hu
    rw [hu] at hok ⊢
    exact one (by cases v <;> first | rfl | (simp [Cell.okWide, hu, Cell.ok] at hok))
  · rename_i hu
    rw [hu] at hok ⊢
    exact one (by cases v <;> first | rfl | (simp [Cell.okWide, hu, Cell.ok] at hok))
  · rename_i hu
    rw [hu] at hok ⊢
    obtain ⟨cs, rfl, _, _⟩ := hok
    exact ⟨.agg ds, fun Av ρ hA => .agg (us := cs.toList) (by simpa [Value.cells] using h3) (by simpa [Value.cells] using h2) fun i d u p q => .im (up Av hA d u (h4 i d u p (by simpa [Value.cells] using q))), ds, rfl, h5⟩
  · cases ha
end

section
variable {H : Type} {enc : TypeId × Value → H} {P : Program}
theorem post_below {f : Func} {s : ChangeSpec} {apart fresh handsOn again : Bool} {W W' : World} {args : Array Value} {v : Value} {ds gs : List (DataW H)} {before pa pv : List MemPlace}
    (hW : DataW.Whole enc P f.params.toList s.vars apart W args.toList ds gs before)
    (hres : ∀ (b : Nat) (sp : Nat → Bool) (hd : Bool), DataW.TrodAll enc P W' b sp hd f.resultTypes.toList (v.resultList f.resultTypes.size) (s.fn H (ds ++ gs)).results [])
    (hargs : ∀ sp : Nat → Bool, (∀ p ∈ before, sp p.block = true) → DataW.TrodAll enc P W' 0 sp true f.params.toList args.toList (s.fn H (ds ++ gs)).args pa)
    (hvars : ∀ sp : Nat → Bool, (∀ p ∈ before, sp p.block = true) → DataW.TrodVars enc P W' sp s.vars (s.fn H (ds ++ gs)).vars pv)
    (hps : before = pa ++ pv) (hb : Below W.heap.size W W')
    (hok : ∀ (j : Nat) (t : TypeId) (r : Value), f.resultTypes[j]? = some t → (v.resultList f.resultTypes.size)[j]? = some r → Value.okWide P W' .any 0 t r) :
    s.post enc P f apart fresh handsOn again W args v W' := by
  have hlt : ∀ p ∈ before, p.block < W.heap.size := fun p hp => hW.lt p hp
  have hold : ∀ p ∈ before, (fun b => decide (b < W.heap.size)) p.block = true := fun p hp => by simpa using hlt p hp
  refine ⟨ds, gs, before, [], pa, pv, hW, hres _ _ _, hargs _ hold, hvars _ hold, World.keptBut_mono (fun p hp => ⟨hp, ?_⟩) (hb.frame (· ∈ before)), fun _ => ?_⟩
  · rw [hps, List.mem_append] at hp
    exact Or.inr hp
  · obtain ⟨_, _, _, _, _, hz, hn⟩ := hW
    refine ⟨hok, _, _, ([] ++ pa) ++ pv, ⟨[] ++ pa, pv, trodAll_append (hargs _ (fun _ _ => rfl)) (hres _ _ _), hvars _ (fun _ _ => rfl), rfl, ?_, ?_⟩, ?_⟩
    · intro b off hp
      have hin : MemPlace.cell b off ∈ before := by rw [hps]; simpa using hp
      rw [hb.frozen (hlt _ hin)]
      exact hz b off hin
    · intro ha
      have := hn ha
      rw [hps] at this
      simpa using this
    · intro p hp _
      rw [hps]
      simpa using hp

theorem trodAll_len {W : World} {sp : Nat → Bool} {held : Bool} : ∀ {ts : List TypeId} {vs : List Value} {ds : List (DataW H)} {ps : List MemPlace}, DataW.TrodAll enc P W 0 sp held ts vs ds ps → vs.length = ts.length ∧ ds.length = ts.length
  | [], [], [], _, _ => ⟨rfl, rfl⟩
  | t :: ts, v :: vs, d :: ds, ps, h => by
    obtain ⟨p, q, _, h2, _⟩ := h
    have := trodAll_len h2
    simp [this.1, this.2]
  | [], _ :: _, _, _, h => h.elim
  | [], [], _ :: _, _, h => h.elim
  | _ :: _, [], _, _, h => h.elim
  | _ :: _, _ :: _, [], _, h => h.elim
/-- the arguments, as the symbolic run sees them -/
def ShpAll (P : Program) : List TypeId → List D → Prop
  | [], [] => True
  | t :: ts, d :: ds => ShpV P t d ∧ ShpAll P ts ds
  | _, _ => False
theorem args_shp {dp : Nat} {W : World} {sp : Nat → Bool} {held : Bool} {b0 : Nat} : ∀ {ts : List TypeId} {vs : List Value} {ds : List (DataW H)} {ps : List MemPlace}, ts.all (argTy P dp) = true → (∀ (j : Nat) (t : TypeId) (v : Value), ts[j]? = some t → vs[j]? = some v → Value.okWide P W .any b0 t v) →
    DataW.TrodAll enc P W 0 sp held ts vs ds ps → ∃ cds, cds.length = vs.length ∧ ShpAll P ts cds ∧ ∀ (i : Nat) (d : D) (u : Value), cds[i]? = some d → vs[i]? = some u → ∀ Av ρ, (∀ y, ¬ Av y) → VG W Av ρ d u
  | [], [], [], _, _, _, _ => ⟨[], rfl, trivial, by simp⟩
  | t :: ts, v :: vs, d :: ds, ps, ha, hok, h => by
    obtain ⟨p, q, h1, h2, _⟩ := h
    simp only [List.all_cons, Bool.and_eq_true] at ha
    obtain ⟨c, g1, g2⟩ := arg_shp ha.1 h1 (hok 0 t v rfl rfl)
    obtain ⟨cs, k1, k2, k3⟩ := args_shp ha.2 (fun j t v p q => hok (j + 1) t v (by simpa using p) (by simpa using q)) h2
    refine ⟨c :: cs, by simp [k1], ⟨g2, k2⟩, fun i d u p q => ?_⟩
    cases i with
    | zero => simp at p q; subst p q; exact g1
    | succ i => exact k3 i d u (by simpa using p) (by simpa using q)
  | [], _ :: _, _, _, _, _, h => h.elim
  | [], [], _ :: _, _, _, _, h => h.elim
  | _ :: _, [], _, _, _, _, h => h.elim
  | _ :: _, _ :: _, [], _, _, _, h => h.elim
theorem args_stay {W W' : World} {sp' : Nat → Bool} (hl : laidOutB P = true) (hb : Below W.heap.size W W') : ∀ {ts : List TypeId} {vs : List Value} {ds : List (DataW H)} {ps : List MemPlace}, (∀ t ∈ ts, P.readableRec t = true ∧ t < P.types.size) → (∀ x ∈ ps, x.block < W.heap.size) → (∀ x ∈ ps, sp' x.block = true) →
    DataW.TrodAll enc P W 0 (fun _ => true) true ts vs ds ps → DataW.TrodAll enc P W' 0 sp' true ts vs ds ps
  | [], [], [], _, _, _, _, h => h
  | t :: ts, v :: vs, d :: ds, ps, hr, hlt, hsp, h => by
    obtain ⟨p, q, h1, h2, rfl⟩ := h
    obtain ⟨r1, r2⟩ := hr t (by simp)
    exact ⟨p, q, WideElems.Trod_stays hl r1 r2 h1 (fun x hx => hb.same (hlt x (by simp [hx]))) (fun x hx => hsp x (by simp [hx])),
      args_stay hl hb (fun t ht => hr t (by simp [ht])) (fun x hx => hlt x (by simp [hx])) (fun x hx => hsp x (by simp [hx])) h2, rfl⟩
  | [], _ :: _, _, _, _, _, _, h => h.elim
  | [], [], _ :: _, _, _, _, _, h => h.elim
  | _ :: _, [], _, _, _, _, _, h => h.elim
  | _ :: _, _ :: _, [], _, _, _, _, h => h.elim

/-- the law's contract gives what the row asks of a call -/
theorem law_calls {E : Env} {f : FuncId} {fn : Func} {s : ChangeSpec} {bt : TypeId} {dp : Nat} (hgl : ∀ g, E.gl g = none) (hl : laidOutB E.P = true) (hr : ∀ t ∈ fn.params.toList, E.P.readableRec t = true ∧ t < E.P.types.size) (ha : fn.params.toList.all (argTy E.P dp) = true)
    (hbt : E.P.underlying bt = some .bool) (hres : fn.resultTypes = #[bt]) (hvars : s.vars = []) (hspec : ∀ (H : Type) (ds : List (DataW H)), ds.length = fn.params.size → s.fn H ds = { results := [.lit (.bool true)], args := ds })
    (hcon : ∀ cds, ShpAll E.P fn.params.toList cds → Con E f 0 cds [] (.b true) [])
    (W : World) (base : Nat) (args : Array Value) (ds gs : List (DataW H)) (before : List MemPlace) (hval : ∀ (j : Nat) t v, fn.params[j]? = some t → args[j]? = some v → Value.okWide E.P W .any base t v)
    (hW : DataW.Whole enc E.P fn.params.toList s.vars false W args.toList ds gs before) :
    Calls E.P f args W fun e W' => ∃ v, e = .returned v ∧ s.post enc E.P fn false true false false W args v W' := by
  have hW' := hW
  obtain ⟨p, q, hA, hV, rfl, hfz, hnd⟩ := hW
  rw [hvars] at hV
  obtain ⟨rfl, rfl⟩ := trodVars_none hV
  obtain ⟨cds, c1, c2, c3⟩ := args_shp ha (fun j t v h1 h2 => hval j t v (by simpa using h1) (by simpa using h2)) hA
  have hheld : ∀ x, ¬ Held [] (fun _ => none) x := by rintro x ⟨t, b, h, _⟩; simp [lk] at h
  have hav : ∀ y, ¬ AvS (fun _ => False) [] (fun _ => none) y := by
    rintro y (h | h)
    · exact h
    · exact hheld y h
  have hc := (hcon cds c2).2 W args.toList (fun _ => none) (fun _ => False) c1 (fun _ h => h.elim) (fun _ h => h.elim) (fun i d u h1 h2 => c3 i d u h1 h2 _ _ hav) (fun t b h => by simp [lk] at h) (fun t t' b b' x h => by simp [lk] at h) (fun _ _ => rfl) (fun g cs h => by rw [hgl] at h; cases h)
  have hargs : args.toList.toArray = args := by simp
  rw [hargs] at hc
  refine hc.mono fun e W2 hpost => ?_
  obtain ⟨v, ρ', rfl, hv, _, _, _, _, hfr⟩ := hpost
  obtain rfl := hv.b_inv
  refine ⟨_, rfl, ?_⟩
  have hb : Below W.heap.size W W2 := ⟨hfr.os, hfr.tape, hfr.output, hfr.size, fun k hk => hfr.block k hk (hheld k)⟩
  have hlen := (trodAll_len hA).2
  have hs := hspec H ds (by simpa using hlen)
  have hlt : ∀ x ∈ p, x.block < W.heap.size := fun x hx => hW'.lt x (by simpa using hx)
  refine post_below (pa := p) (pv := []) hW' (fun b sp hd => ?_) (fun sp hsp => ?_) (fun sp _ => ?_) rfl hb ?_
  · rw [hres, List.append_nil, hs]
    exact trodAll_mk1 (shut_bool hbt true)
  · rw [List.append_nil, hs]
    exact args_stay hl hb hr hlt (fun x hx => hsp x (by simpa using hx)) hA
  · rw [hvars, List.append_nil, hs]
    rfl
  · exact ok_one hres rfl (okWide_bool_mk hbt true)
end
end Go.Ab
