/- A package variable that is an array of texts; a law whose row names a listed variable. -/
import Derived.Test.YtgeieehampfkcaaDoorBy
import Derived.OpenShut
import Derived.FnData
import Derived.ChangeVars
import Derived.WideKeyArgs
import Derived.MakeChecks
set_option linter.unusedSimpArgs false
set_option linter.unusedVariables false
namespace Go.Ab
open Go Go.RowKit Go.ChangeShapes Go.WideShapes Go.ChangeAt

section
variable {H : Type} {enc : TypeId × Value → H} {P : Program} {W : World}
theorem arr_cells {sp : Nat → Bool} {held : Bool} {base fuel n : Nat} {t e : TypeId} {cs : List Value} {ls : List (List UInt8)} {p : List MemPlace} (ht : P.underlying t = some (.array n e)) (he : P.underlying e = some .string) (hc : P.cellsOf e = 1)
    (h : DataW.trod enc P W base sp held fuel t cs = some (.agg (ls.map fun l => .lit (.string l)), p)) : ∀ (j : Nat) (l : List UInt8), ls[j]? = some l → cs[j]? = some (.string ⟨l.toArray⟩) := by
  obtain ⟨xs, m, rfl, hx, hlen, hn, hel⟩ := DataW.trod_array ht h
  intro j l hj
  simp only [Prod.mk.injEq, DataW.agg.injEq] at hx
  have h1 : (xs.map (·.1))[j]? = some (.lit (.string l)) := by rw [← hx.1, List.getElem?_map, hj]; rfl
  rw [List.getElem?_map] at h1
  have hjn : j < n := by
    cases hx2 : xs[j]? with
    | none => rw [hx2] at h1; cases h1
    | some y => rw [← hn]; exact (List.getElem?_eq_some_iff.1 hx2).1
  have h2 := hel j hjn
  rw [hc] at h2
  cases hx2 : xs[j]? with
  | none => rw [hx2] at h1; cases h1
  | some y =>
    rw [hx2] at h1 h2
    obtain ⟨s, e1, e2, _⟩ := DataW.trod_string he h2
    simp only [Option.map_some, Option.some.injEq] at h1
    rw [e2] at h1
    simp only [DataW.lit.injEq, Lit.string.injEq] at h1
    have h3 : (List.drop (j * 1) cs)[0]? = some (.string s) := by
      have := congrArg (·[0]?) e1
      simpa [List.getElem?_take] using this
    rw [List.getElem?_drop] at h3
    have : j * 1 + 0 = j := by omega
    rw [this] at h3
    rw [h3]
    congr 2
    rw [← h1]
/-- the cells of an array of texts, laid -/
theorem gl_texts {n : String} {g k : Nat} {t e : TypeId} {cs : Array Value} {fuel base : Nat} {sp : Nat → Bool} {held : Bool} {ls : List (List UInt8)} {p : List MemPlace} (hg : P.globalNamed n = some g) (hv : W.var? P n = some cs) (ht : P.underlying t = some (.array k e)) (he : P.underlying e = some .string) (hc : P.cellsOf e = 1) (hne : ls ≠ [])
    (h : DataW.trod enc P W base sp held fuel t cs.toList = some (.agg (ls.map fun l => .lit (.string l)), p)) : VI W noAv (.ep (ls.map .s)) (.pointer (some ⟨g, 0, none⟩)) := by
  have hcell : ∀ (j : Nat) (l : List UInt8), ls[j]? = some l → W.cell? ⟨g, j, none⟩ = some (.string ⟨l.toArray⟩) := by
    intro j l hj
    rw [World.var?_cell hg hv j, ← Array.getElem?_toList]
    exact arr_cells ht he hc h j l hj
  have get : ∀ (j : Nat) (d : D), (ls.map D.s)[j]? = some d → ∃ l, ls[j]? = some l ∧ d = .s l := by
    intro j d hd
    simp only [List.getElem?_map, Option.map_eq_some_iff] at hd
    obtain ⟨l, h1, h2⟩ := hd
    exact ⟨l, h1, h2.symm⟩
  refine .ep (fun j => .string ⟨(ls.getD j []).toArray⟩) ?_ (fun h => h) (fun j d hd => ?_) (fun _ _ _ => rfl) (fun j d hd => ?_)
  · match ls, hne, hcell with
    | l :: _, _, hcell => exact World.block_lt_of_cell? _ _ (hcell 0 l rfl)
  · obtain ⟨l, h1, rfl⟩ := get j d hd
    have := hcell j l h1
    have e1 : ls.getD j [] = l := by rw [List.getD_eq_getElem?_getD, h1]; rfl
    rw [e1]
    by_cases hj : j = 0
    · subst hj
      simpa [Addr.add] using this
    · simpa [Addr.add, hj] using this
  · obtain ⟨l, h1, rfl⟩ := get j d hd
    have e1 : ls.getD j [] = l := by rw [List.getD_eq_getElem?_getD, h1]; rfl
    rw [e1]
    exact .s l
theorem laid_mem {l : List (String × DataW Unit)} : ∀ {ps : List MemPlace}, DataW.LaidVars P W l ps → ∀ (n : String) (d : DataW Unit), (n, d) ∈ l → ∃ (g : Nat) (t : TypeId) (cs : Array Value) (fuel : Nat) (p : List MemPlace), P.globalNamed n = some g ∧ (P.globals[g]?).map (·.type) = some t ∧ W.var? P n = some cs ∧
    DataW.trod (fun _ => ()) P W 0 (fun _ => true) false fuel t cs.toList = some (d, p) := by
  induction l with
  | nil => intro ps _ n d h; cases h
  | cons x l ih =>
    intro ps h n d hm
    obtain ⟨n0, d0⟩ := x
    obtain ⟨g, t, cs, fuel, p, q, h1, h2, h3, h4, h5, _⟩ := h
    rcases List.mem_cons.1 hm with he | hm
    · cases he
      exact ⟨g, t, cs, fuel, p, h1, h2, h3, h4⟩
    · exact ih h5 n d hm
theorem vars_one_stay {W' : World} {sp' : Nat → Bool} {n : String} {g : Nat} {t : TypeId} {gs : List (DataW H)} {ps : List MemPlace} (hl : laidOutB P = true) (hg : P.globalNamed n = some g) (ht : (P.globals[g]?).map (·.type) = some t) (hr : P.readableRec t = true) (hrow : t < P.types.size)
    (hb : Below W.heap.size W W') (hlt : ∀ x ∈ ps, x.block < W.heap.size) (hsp : ∀ x ∈ ps, sp' x.block = true) (h : DataW.TrodVars enc P W (fun _ => true) [n] gs ps) : DataW.TrodVars enc P W' sp' [n] gs ps := by
  obtain ⟨g1, t1, cs, fuel, d, p, rfl, h1, h2, h3, h4, rfl⟩ := trodVars_one h
  obtain rfl := Option.some.inj (hg.symm.trans h1)
  obtain rfl := Option.some.inj (ht.symm.trans h2)
  have hv : W'.var? P n = some cs := by
    simp only [World.var?, hg, Option.bind_some] at h3 ⊢
    have hgl : g < W.heap.size := by
      by_cases hgl : g < W.heap.size
      · exact hgl
      · rw [Array.getElem?_eq_none (by omega)] at h3
        cases h3
    rw [hb.block g hgl]
    exact h3
  have h5 : DataW.Trod enc P W 0 (fun _ => true) true t (.agg cs) d p := ⟨fuel, by simpa [Value.cells] using h4⟩
  obtain ⟨f2, h6⟩ := WideElems.Trod_stays hl hr hrow h5 (fun x hx => hb.same (hlt x (by simp [hx]))) (fun x hx => hsp x (by simp [hx]))
  exact trodVars_mk1 hg ht hv (by simpa [Value.cells] using h6)
/-- the law's contract gives what the row asks of a call, over package variables that are laid, one of them named -/
theorem law_calls_gv {E : Env} {f : FuncId} {fn : Func} {s : ChangeSpec} {bt : TypeId} {dp : Nat} {n : String} {g : Nat} {tv : TypeId} (hl : laidOutB E.P = true) (hr : ∀ t ∈ fn.params.toList, E.P.readableRec t = true ∧ t < E.P.types.size) (ha : fn.params.toList.all (argTy E.P dp) = true)
    (hbt : E.P.underlying bt = some .bool) (hres : fn.resultTypes = #[bt]) (hvars : s.vars = [n]) (hg : E.P.globalNamed n = some g) (ht : (E.P.globals[g]?).map (·.type) = some tv) (hrv : E.P.readableRec tv = true) (hrow : tv < E.P.types.size)
    (hspec : ∀ (H : Type) (ds : List (DataW H)) (gv : DataW H), ds.length = fn.params.size → s.fn H (ds ++ [gv]) = { results := [.lit (.bool true)], args := ds, vars := [gv] })
    (hcon : ∀ cds, ShpAll E.P fn.params.toList cds → Con E f 0 cds [] (.b true) [])
    (W : World) (hgl : ∀ g cs, E.gl g = some cs → VI W noAv (.ep cs) (.pointer (some ⟨g, 0, none⟩))) (base : Nat) (args : Array Value) (ds gs : List (DataW H)) (before : List MemPlace) (hval : ∀ (j : Nat) t v, fn.params[j]? = some t → args[j]? = some v → Value.okWide E.P W .any base t v)
    (hW : DataW.Whole enc E.P fn.params.toList s.vars false W args.toList ds gs before) :
    Calls E.P f args W fun e W' => ∃ v, e = .returned v ∧ s.post enc E.P fn false true false false W args v W' := by
  have hW' := hW
  obtain ⟨p, q, hA, hV, rfl, hfz, hnd⟩ := hW
  rw [hvars] at hV
  obtain ⟨cds, c1, c2, c3⟩ := args_shp ha (fun j t v h1 h2 => hval j t v (by simpa using h1) (by simpa using h2)) hA
  have hheld : ∀ x, ¬ Held [] (fun _ => none) x := by rintro x ⟨t, b, h, _⟩; simp [lk] at h
  have hav : ∀ y, ¬ AvS (fun _ => False) [] (fun _ => none) y := by
    rintro y (h | h)
    · exact h
    · exact hheld y h
  have hc := (hcon cds c2).2 W args.toList (fun _ => none) (fun _ => False) c1 (fun _ h => h.elim) (fun _ h => h.elim) (fun i d u h1 h2 => c3 i d u h1 h2 _ _ hav) (fun t b h => by simp [lk] at h) (fun t t' b b' x h => by simp [lk] at h) (fun _ _ => rfl)
    (fun g cs h => (hgl g cs h).mono (fun _ _ _ => rfl) (Nat.le_refl _) fun x _ hx => (hav x hx).elim)
  have hargs : args.toList.toArray = args := by simp
  rw [hargs] at hc
  refine hc.mono fun e W2 hpost => ?_
  obtain ⟨v, ρ', rfl, hv, _, _, _, _, hfr⟩ := hpost
  obtain rfl := hv.b_inv
  refine ⟨_, rfl, ?_⟩
  have hb : Below W.heap.size W W2 := ⟨hfr.os, hfr.tape, hfr.output, hfr.size, fun k hk => hfr.block k hk (hheld k)⟩
  have hlen := (trodAll_len hA).2
  obtain ⟨g1, t1, cs, fuel, d, pv, hgs, _⟩ := trodVars_one hV
  have hs := hspec H ds d (by simpa using hlen)
  have hlt : ∀ x ∈ p ++ q, x.block < W.heap.size := fun x hx => hW'.lt x hx
  refine post_below (pa := p) (pv := q) hW' (fun b sp hd => ?_) (fun sp hsp => ?_) (fun sp hsp => ?_) rfl hb ?_
  · rw [hres, hgs, hs]
    exact trodAll_mk1 (shut_bool hbt true)
  · rw [hgs, hs]
    exact args_stay hl hb hr (fun x hx => hlt x (by simp [hx])) (fun x hx => hsp x (by simp [hx])) hA
  · rw [hvars, hgs, hs]
    rw [hgs] at hV
    exact vars_one_stay hl hg ht hrv hrow hb (fun x hx => hlt x (by simp [hx])) (fun x hx => hsp x (by simp [hx])) hV
  · exact ok_one hres rfl (okWide_bool_mk hbt true)
end
end Go.Ab
