/- Contracts of library functions out of what the kit's shelf says of their calls; a law over package variables. -/
import Derived.Test.YtgeieehampfkcaaDoorBu
import Derived.HandedShaped
namespace Go.Ab
open Go Go.RowKit Go.ChangeShapes Go.WideShapes Go.ChangeAt

section
variable {E : Env} {f : FuncId} {cds : List D}
/-- arguments in a world -/
structure Meets (E : Env) (w : World) (Av : Nat → Prop) (cds : List D) (vs : List Value) : Prop where
  len : cds.length = vs.length
  arg : ∀ (i : Nat) (d : D) (u : Value), cds[i]? = some d → vs[i]? = some u → VG w Av (fun _ => none) d u
  gl : ∀ g cs, E.gl g = some cs → VI w Av (.ep cs) (.pointer (some ⟨g, 0, none⟩))
theorem VG.s_inv {w : World} {Av : Nat → Prop} {ρ : Nat → Option Value} {l : List UInt8} {v : Value} (h : VG w Av ρ (.s l) v) : v = .string ⟨l.toArray⟩ := VR.s_inv (.gr h)
theorem VG.k_inv {w : World} {Av : Nat → Prop} {ρ : Nat → Option Value} {kd : IntKind} {n : Int} {v : Value} (h : VG w Av ρ (.k kd n) v) : v = .int kd n := VR.k_inv (.gr h)

theorem heap_new (w : World) (o : Obj) : (w.alloc o).heap[w.heap.size]? = some o := by
  unfold World.alloc
  simp

/-- a function that turns nothing -/
theorem con_still {d : D} (hf : Callable E.P f) (h : ∀ (w : World) (vs : List Value) (Av : Nat → Prop), Meets E w Av cds vs → Calls E.P f vs.toArray w fun e w' => w' = w ∧ ∃ v, e = .returned v ∧ VR w Av (fun _ => none) d v) : Con E f 0 cds [] d [] := by
  refine ⟨hf, fun w vs ρ G hl _ _ ha hs _ hd hg => ?_⟩
  have hρ : ρ = fun _ => none := funext fun t => hd t (Nat.zero_le _)
  subst hρ
  refine (h w vs _ ⟨hl, ha, hg⟩).mono fun e w' ⟨hw, v, he, hv⟩ => ?_
  subst hw
  exact ⟨v, fun _ => none, he, hv, fun t b h => by simp [lk] at h, fun t t' b b' x h => by simp [lk] at h, fun x hx => .inr hx, fun _ _ h => absurd h (Nat.not_lt_zero _), Fr.refl _ _⟩

/-- a function that turns nothing that was there -/
theorem con_fr {d : D} (hf : Callable E.P f) (h : ∀ (w : World) (vs : List Value) (Av : Nat → Prop), Meets E w Av cds vs → Calls E.P f vs.toArray w fun e w' => Fr (fun _ => False) w w' ∧ ∃ v, e = .returned v ∧ VR w' Av (fun _ => none) d v) : Con E f 0 cds [] d [] := by
  refine ⟨hf, fun w vs ρ G hl _ _ ha hs _ hd hg => ?_⟩
  have hρ : ρ = fun _ => none := funext fun t => hd t (Nat.zero_le _)
  subst hρ
  refine (h w vs _ ⟨hl, ha, hg⟩).mono fun e w' ⟨hw, v, he, hv⟩ => ?_
  exact ⟨v, fun _ => none, he, hv, fun t b h => by simp [lk] at h, fun t t' b b' x h => by simp [lk] at h, fun x hx => .inr hx, fun _ _ h => absurd h (Nat.not_lt_zero _), hw.os, hw.tape, hw.output, hw.size, fun k hk _ => hw.block k hk (fun h => h)⟩
theorem Fr.of_below {w w' : World} (h : Below w.heap.size w w') : Fr (fun _ => False) w w' := ⟨h.os, h.tape, h.output, h.size, fun k hk _ => h.block k hk⟩
/-- the strings of a slice that is only read -/
theorem VG.strs {w : World} {Av : Nat → Prop} {ρ : Nat → Option Value} {ls : List (List UInt8)} {u : Value} (h : VG w Av ρ (.sl (ls.map fun l => [.s l])) u) :
    (ls = [] ∧ ∃ a c, u = .slice a 0 c) ∨ ∃ bk o c, u = .slice (some ⟨bk, o, none⟩) ls.length c ∧ ls.length ≤ c ∧ bk < w.heap.size ∧ ∀ (j : Nat) l, ls[j]? = some l → w.cell? ⟨bk, o + j, none⟩ = some (.string ⟨l.toArray⟩) := by
  obtain ⟨A, n, c, rfl, hn, hnc, hc, hA, hE⟩ := (VR.sl_inv (.gr h)).sl_inv
  rw [List.length_map] at hn
  by_cases hl : ls = []
  · subst hl
    subst hn
    exact .inl ⟨rfl, A, c, rfl⟩
  · right
    have hne : (ls.map fun l => [D.s l]) ≠ [] := by simpa using hl
    match A with
    | none => exact absurd (hA rfl).1 hne
    | some ad =>
      obtain ⟨hb, _, sz, hsz, hcell⟩ := hE ad rfl
      have h1 : sz = 1 := by
        have := hsz ((ls.map fun l => [D.s l]).head hne) (List.head_mem hne)
        match ls, hl with
        | l :: r, _ => simpa using this.symm
      subst h1
      have get : ∀ (j : Nat) l, ls[j]? = some l → w.cell? (ad.add j) = some (.string ⟨l.toArray⟩) := by
        intro j l hj
        obtain ⟨u, hu, _, hv⟩ := hcell j 0 [.s l] (.s l) (by simp [hj]) rfl
        have : u = .string ⟨l.toArray⟩ := by
          cases hv with
          | s => rfl
        rw [this] at hu
        simpa using hu
      have hsub : ad = ⟨ad.block, ad.off, none⟩ := by
        match ls, hl, get with
        | l :: r, _, get =>
          have := get 0 l rfl
          match ad, this with
          | ⟨b, o, none⟩, _ => rfl
          | ⟨b, o, some q⟩, this =>
            simp only [World.cell?, Addr.add] at this
            split at this <;> simp at this
      refine ⟨ad.block, ad.off, c, by rw [← hsub, hn], by omega, hb hne, fun j l hj => ?_⟩
      have := get j l hj
      rw [hsub] at this
      by_cases hj0 : j = 0
      · subst hj0
        simpa [Addr.add] using this
      · simpa [Addr.add, hj0] using this
/-- a function that lays a new slice of strings -/
theorem con_strs {et : TypeId} {ls : List (List UInt8)} (hce : E.P.cellsOf et = 1) (hf : Callable E.P f) (hlen : ls.length ≤ maxLen)
    (h : ∀ (w : World) (vs : List Value) (Av : Nat → Prop), Meets E w Av cds vs → Calls E.P f vs.toArray w fun e w' =>
      e = .returned (.slice (some ⟨w.heap.size, 0, none⟩) ls.length ls.length) ∧ w' = w.alloc (.cells (ls.map fun l => Value.string ⟨l.toArray⟩).toArray et)) : Con E f 0 cds [] (.own 0) [(0, .own et (ls.map fun l => [.s l]))] := by
  refine ⟨hf, fun w vs ρ G hl hG _ ha hs _ hd hg => ?_⟩
  have hρ : ρ = fun _ => none := funext fun t => hd t (Nat.zero_le _)
  subst hρ
  refine (h w vs _ ⟨hl, ha, hg⟩).mono fun e w' ⟨he, hw⟩ => ?_
  subst hw
  let v : Value := .slice (some ⟨w.heap.size, 0, none⟩) ls.length ls.length
  let ρ' : Nat → Option Value := fun t => if t = 0 then some v else none
  have h0 : ∀ {t : Nat} {b : Blk}, lk [(0, Blk.own et (ls.map fun l => [D.s l]))] t = some b → t = 0 ∧ b = .own et (ls.map fun l => [D.s l]) := by
    intro t b hb
    rw [lk_cons] at hb
    split at hb
    · rename_i ht; cases hb; exact ⟨ht.symm, rfl⟩
    · simp [lk] at hb
  have hblk : ∀ {t x : Nat} {b : Blk}, lk [(0, Blk.own et (ls.map fun l => [D.s l]))] t = some b → (ρ' t).bind blkOf = some x → x = w.heap.size := by
    intro t x b hb hx
    obtain ⟨rfl, _⟩ := h0 hb
    simp [ρ', v, blkOf] at hx
    exact hx.symm
  refine ⟨v, ρ', he, .gr (.atom (.own (by simp [ρ']) rfl)), fun t b hb => ?_, fun t t' b b' x hb hb' _ _ _ _ => by rw [(h0 hb).1, (h0 hb').1], fun x ⟨t, b, hb, _, hx⟩ => .inl (Nat.le_of_eq (hblk hb hx).symm), fun _ _ h => absurd h (Nat.not_lt_zero _), ?_⟩
  · obtain ⟨rfl, rfl⟩ := h0 hb
    refine ⟨v, ls.map fun l => Value.string ⟨l.toArray⟩, by simp [ρ'], ⟨by simp [hce], ?_⟩, by simp [hce], fun cs hcs => ?_, fun u hu => ?_, fun i j cs d hc hd' => ?_⟩
    · by_cases hn : ls.length = 0 ∧ False
      · exact hn.2.elim
      · refine .inr ⟨w.heap.size, ls.length, (ls.map fun l => Value.string ⟨l.toArray⟩).toArray, by simp [v], Nat.zero_le _, heap_new w _, by simp, hlen, by simp [hce], by rw [hce]; simp [List.take_of_length_le]⟩
    · obtain ⟨l, _, rfl⟩ := List.mem_map.1 hcs
      simp [hce]
    · obtain ⟨l, _, rfl⟩ := List.mem_map.1 hu
      rfl
    · simp only [List.getElem?_map, Option.map_eq_some_iff] at hc
      obtain ⟨l, hl', rfl⟩ := hc
      cases j with
      | zero =>
        simp at hd'
        subst hd'
        exact ⟨.string ⟨l.toArray⟩, by simp [hce, hl'], .s l⟩
      | succ j => simp at hd'
  · have := fr_alloc w (.cells (ls.map fun l => Value.string ⟨l.toArray⟩).toArray et)
    exact ⟨this.os, this.tape, this.output, this.size, fun k hk _ => this.block k hk (fun h => h)⟩
end

section
variable {H : Type} {enc : TypeId × Value → H}
/-- the law's contract gives what the row asks of a call, over package variables that are laid -/
theorem law_calls_gl {E : Env} {f : FuncId} {fn : Func} {s : ChangeSpec} {bt : TypeId} {dp : Nat} (hl : laidOutB E.P = true) (hr : ∀ t ∈ fn.params.toList, E.P.readableRec t = true ∧ t < E.P.types.size) (ha : fn.params.toList.all (argTy E.P dp) = true)
    (hbt : E.P.underlying bt = some .bool) (hres : fn.resultTypes = #[bt]) (hvars : s.vars = []) (hspec : ∀ (H : Type) (ds : List (DataW H)), ds.length = fn.params.size → s.fn H ds = { results := [.lit (.bool true)], args := ds })
    (hcon : ∀ cds, ShpAll E.P fn.params.toList cds → Con E f 0 cds [] (.b true) [])
    (W : World) (hgl : ∀ g cs, E.gl g = some cs → VI W noAv (.ep cs) (.pointer (some ⟨g, 0, none⟩))) (base : Nat) (args : Array Value) (ds gs : List (DataW H)) (before : List MemPlace) (hval : ∀ (j : Nat) t v, fn.params[j]? = some t → args[j]? = some v → Value.okWide E.P W .any base t v)
    (hW : DataW.Whole enc E.P fn.params.toList s.vars false W args.toList ds gs before) :
    Calls E.P f args W fun e W' => ∃ v, e = .returned v ∧ s.post enc E.P fn false true false false W args v W' := by
  have hW' := hW
  obtain ⟨p, q, hA, hV, rfl, hfz, hnd⟩ := hW
  rw [hvars] at hV
  obtain ⟨rfl, rfl⟩ := trodVars_none hV
  obtain ⟨cds, c1, c2, c3⟩ := args_shp ha (fun j t v h1 h2 => hval j t v (by simpa using h1) (by simpa using h2)) hA
  have hheld : ∀ x, ¬ Held [] (fun _ => none) x := by rintro x ⟨t, b, h, _⟩; simp [lk] at h
  have hav : ∀ y, ¬ AvS (fun _ => False) [] (fun _ => none) y := by
    rintro y (h | h)
    · exact h
    · exact hheld y h
  have hc := (hcon cds c2).2 W args.toList (fun _ => none) (fun _ => False) c1 (fun _ h => h.elim) (fun _ h => h.elim) (fun i d u h1 h2 => c3 i d u h1 h2 _ _ hav) (fun t b h => by simp [lk] at h) (fun t t' b b' x h => by simp [lk] at h) (fun _ _ => rfl)
    (fun g cs h => (hgl g cs h).mono (fun _ _ _ => rfl) (Nat.le_refl _) fun x _ hx => (hav x hx).elim)
  have hargs : args.toList.toArray = args := by simp
  rw [hargs] at hc
  refine hc.mono fun e W2 hpost => ?_
  obtain ⟨v, ρ', rfl, hv, _, _, _, _, hfr⟩ := hpost
  obtain rfl := hv.b_inv
  refine ⟨_, rfl, ?_⟩
  have hb : Below W.heap.size W W2 := ⟨hfr.os, hfr.tape, hfr.output, hfr.size, fun k hk => hfr.block k hk (hheld k)⟩
  have hlen := (trodAll_len hA).2
  have hs := hspec H ds (by simpa using hlen)
  have hlt : ∀ x ∈ p, x.block < W.heap.size := fun x hx => hW'.lt x (by simpa using hx)
  refine post_below (pa := p) (pv := []) hW' (fun b sp hd => ?_) (fun sp hsp => ?_) (fun sp _ => ?_) rfl hb ?_
  · rw [hres, List.append_nil, hs]
    exact trodAll_mk1 (shut_bool hbt true)
  · rw [List.append_nil, hs]
    exact args_stay hl hb hr hlt (fun x hx => hsp x (by simpa using hx)) hA
  · rw [hvars, List.append_nil, hs]
    rfl
  · exact ok_one hres rfl (okWide_bool_mk hbt true)
end

/-- the row over a condition on the world, with the shape of the world at hand -/
theorem returns_laid {H : Type} {enc : TypeId × Value → H} {a : Assume} {C : Checked} {os : Os} {f : FuncId} {fn : Func} {s : ChangeSpec} {conds : List PathCond} {apart fresh handsOn again : Bool} {X : World → Array Value → Prop}
    (hX : ∀ (w w' : World) (args : Array Value), w.heap = w'.heap → X w args → X w' args)
    (own : ownKnob C.prog.godebug = none) (started : os.Started) (noInit : C.prog.inits.idxOf? f = none) (hfn : C.prog.funcs[f]? = some fn)
    (witness : ∃ (w : World) (tape : Tape) (i : Input), w.os = os ∧ (w.forCall tape i).Shaped C.prog ∧ i.vars = [] ∧ Input.okWide C.prog (w.forCall tape i) .any w.heap.size f i ∧
      ((s.pre enc C.prog fn conds apart (w.forCall tape i).memory i.args ∧ X (w.forCall tape i).memory i.args) ∧ sizedMet enc C.prog fn (OpenSpec.ofChange s) apart (w.forCall tape i).memory i.args) ∧ a.holds C.prog (lone (Frame.enter C.prog f i.args .normal) [] (w.forCall tape i)))
    (contract : ∀ (W : World) (base : Nat) (args : Array Value) (ds gs : List (DataW H)) (before : List MemPlace),
      (∀ (j : Nat) t v, fn.params[j]? = some t → args[j]? = some v → Value.okWide C.prog W .any base t v) →
      DataW.Whole enc C.prog fn.params.toList s.vars apart W args.toList ds gs before → W.ShapedOpen C.prog → X W args →
      Calls C.prog f args W fun e W' => ∃ v, e = .returned v ∧ s.post enc C.prog fn apart fresh handsOn again W args v W') :
    ReturnsInHanded a C os f .any (fun w args => (s.pre enc C.prog fn conds apart w args ∧ X w args) ∧ sizedMet enc C.prog fn (OpenSpec.ofChange s) apart w args) (s.post enc C.prog fn apart fresh handsOn again) := by
  refine returnsInHanded_of_calls own started noInit witness ?_
  intro w tape i _ hsh _ hok hpre _
  obtain ⟨_, _, _, fn', hfn', _, _, _, _, hval⟩ := hok
  have e : fn' = fn := Option.some.inj (hfn'.symm.trans hfn)
  subst e
  obtain ⟨⟨⟨ds, gs, before, hw, _⟩, hx⟩, _⟩ := hpre
  have hw' := DataW.Whole.of_heap (w' := w.forCall tape i) (by rfl) hw
  refine (contract (w.forCall tape i) w.heap.size i.args ds gs before hval hw' hsh (hX _ _ _ (by rfl) hx)).mono fun e W' ⟨v, he, hp⟩ => ?_
  subst he
  exact ChangeSpec.post_blind hp
/-- one cell of a package variable, laid -/
theorem gl_one {W : World} {g : Nat} {d : D} {u : Value} (h : W.cell? ⟨g, 0, none⟩ = some u) (h1 : u.oneCell' = true) (hv : VI W noAv d u) : VI W noAv (.ep [d]) (.pointer (some ⟨g, 0, none⟩)) := by
  refine .ep (fun _ => u) (World.block_lt_of_cell? _ _ h) (fun h => h) (fun j d' hj => ?_) (fun j d' hj => h1) (fun j d' hj => ?_)
  · cases j with
    | zero => exact h
    | succ j => simp at hj
  · cases j with
    | zero => simp at hj; subst hj; exact hv
    | succ j => simp at hj
/-- a contract holds where more is laid -/
theorem Con.wide {P : Program} {ty : TypeId → Option TD} {gl gl' : Nat → Option (List D)} {f : FuncId} {k : Nat} {cds : List D} {Sa : Store} {d : D} {S' : Store} (hg : ∀ g cs, gl g = some cs → gl' g = some cs)
    (h : Con ⟨P, ty, gl⟩ f k cds Sa d S') : Con ⟨P, ty, gl'⟩ f k cds Sa d S' :=
  ⟨h.1, fun w vs ρ G h1 h2 h3 h4 h5 h6 h7 h8 => h.2 w vs ρ G h1 h2 h3 h4 h5 h6 h7 fun g cs e => h8 g cs (hg g cs e)⟩
theorem bsplit.tt {K : Bool → Prop} (h : K true) : bsplit true K := ⟨fun _ => h, fun h => Bool.noConfusion h⟩
theorem bsplit.ff {K : Bool → Prop} (h : K false) : bsplit false K := ⟨fun h => Bool.noConfusion h, fun _ => h⟩

/-! the names that a round's end keeps, found by themselves -/
def addNew : List Nat → List Nat → List Nat
  | ns, [] => ns
  | ns, n :: r => match memB n ns with
    | true => addNew ns r
    | false => addNew (ns ++ [n]) r
def slotNames (tm : Tm) : List Nat → List Nat → List Nat
  | [], ns => ns
  | t :: r, ns => match lk tm t with
    | some d => slotNames tm r (addNew ns (nmR d))
    | none => slotNames tm r ns
def reachNames (S : Store) : Nat → List Nat → List Nat → List Nat
  | 0, _, ns => ns
  | _ + 1, [], ns => ns
  | f + 1, n :: r, ns => match lk S n with
    | some b => reachNames S f (r ++ minus ns (blkNames b)) (addNew ns (blkNames b))
    | none => reachNames S f r ns
def autoNs (k0 : Nat) (tm : Tm) (S : Store) (ts : List Nat) : List Nat :=
  match slotNames tm ts (news 0 k0) with
  | ns => reachNames S 16 ns ns
theorem landK.auto {k0 : Nat} {tm : Tm} {S : Store} {nx : Nat} {J : Tm → Store → Nat → Prop} (ts : List Nat)
    (h : nodupB (autoNs k0 tm S ts) = true ∧ preB 0 k0 (autoNs k0 tm S ts) = true ∧ J (carTm (autoNs k0 tm S ts) tm ts) (carS (autoNs k0 tm S ts) S (autoNs k0 tm S ts) 0) (autoNs k0 tm S ts).length) : landK k0 tm S nx J :=
  ⟨[], ts, autoNs k0 tm S ts, h⟩
theorem loadK_some {td : TD} {cs : List D} {K : D → Prop} (h : loadK td cs K) : ∃ d, K d ∧ ∀ K' : D → Prop, K' d → loadK td cs K' := by
  unfold loadK at h ⊢
  split at h
  · rename_i h1
    split at h
    · rename_i h2
      exact ⟨_, h, fun K' hk => hk⟩
    · exact h.elim
  · rename_i h1
    match cs, h with
    | d :: _, h => exact ⟨d, h, fun K' hk => hk⟩
theorem addrK_some {E : Env} {S : Store} {d : D} {td : TD} {K : D → Prop} (h : addrK E S d td K) : ∃ d', K d' ∧ ∀ K' : D → Prop, K' d' → addrK E S d td K' := by
  cases d with
  | bp n off =>
    simp only [addrK] at h ⊢
    match hl : lk S n, h with
    | some (.box e cs), h => exact loadK_some h
  | ep cs => exact loadK_some h
  | op n sz i off =>
    simp only [addrK] at h ⊢
    have go : ∀ {e : TypeId} {xs : List (List D)}, szK E e sz (∃ cs, xs[i]? = some cs ∧ loadK td (cs.drop off) K) → ∃ d', K d' ∧ ∀ K' : D → Prop, K' d' → szK E e sz (∃ cs, xs[i]? = some cs ∧ loadK td (cs.drop off) K') := by
      intro e xs h
      unfold szK at h ⊢
      match hE : E.ty e, h with
      | some te, h =>
        cases hb : Nat.beq te.size sz with
        | true =>
          simp only [hb] at h
          obtain ⟨cs, h1, h2⟩ := h
          obtain ⟨d', h3, h4⟩ := loadK_some h2
          exact ⟨d', h3, fun K' hk => by simp only [hb]; exact ⟨cs, h1, h4 K' hk⟩⟩
        | false => simp only [hb] at h
    match hl : lk S n, h with
    | some (.own e xs), h => exact go h
    | some (.row e xs), h => exact go h
  | b x => exact h.elim
  | k kd n => exact h.elim
  | s l => exact h.elim
  | v x => exact h.elim
  | nil => exact h.elim
  | sl xs => exact h.elim
  | own t => exact h.elim
  | fn f caps => exact h.elim
  | agg ds => exact h.elim
  | tup ds => exact h.elim
  | junk => exact h.elim
theorem resK_some {E : Env} {tm : Tm} {S : Store} : ∀ {rv : List ResultVar} {K : List D → Prop}, resK E tm S rv K → ∃ ds, K ds ∧ ∀ K' : List D → Prop, K' ds → resK E tm S rv K'
  | [], K, h => ⟨[], h, fun _ hk => hk⟩
  | .tmp t :: r, K, h => by
    simp only [resK] at h ⊢
    match hl : lk tm t, h with
    | some d, h =>
      obtain ⟨ds, h1, h2⟩ := resK_some h
      exact ⟨d :: ds, h1, fun K' hk => h2 _ hk⟩
  | .cell a t :: r, K, h => by
    simp only [resK] at h ⊢
    match hl : lk tm a, h with
    | some d, h =>
      obtain ⟨td, ht, h⟩ := tyK_inv h
      obtain ⟨d', h1, h2⟩ := addrK_some h
      obtain ⟨ds, h3, h4⟩ := resK_some h1
      refine ⟨d' :: ds, h3, fun K' hk => ?_⟩
      simp only [tyK, ht]
      exact h2 _ (h4 _ hk)
theorem finK.auto {E : Env} {k0 : Nat} {rv : List ResultVar} {d : D} {S' : Store} {tm : Tm} {S : Store} {nx : Nat}
    (h : resK E tm S rv fun ds => nodupB (reachNames S 16 (addNew (news 0 k0) (nmDs ds)) (addNew (news 0 k0) (nmDs ds))) = true ∧ preB 0 k0 (reachNames S 16 (addNew (news 0 k0) (nmDs ds)) (addNew (news 0 k0) (nmDs ds))) = true ∧
      carR (reachNames S 16 (addNew (news 0 k0) (nmDs ds)) (addNew (news 0 k0) (nmDs ds))) (oneRes ds) = some d ∧
      carS (reachNames S 16 (addNew (news 0 k0) (nmDs ds)) (addNew (news 0 k0) (nmDs ds))) S (reachNames S 16 (addNew (news 0 k0) (nmDs ds)) (addNew (news 0 k0) (nmDs ds))) 0 = S') : finK E k0 rv d S' tm S nx := by
  obtain ⟨ds, h1, h2⟩ := resK_some h
  exact ⟨[], reachNames S 16 (addNew (news 0 k0) (nmDs ds)) (addNew (news 0 k0) (nmDs ds)), h2 _ h1⟩

theorem all_false {α : Type} {p : α → Bool} {l : List α} {i : Nat} {x : α} (h : l[i]? = some x) (hp : p x = false) : l.all p = false := by
  rw [List.all_eq_false]
  exact ⟨x, List.mem_of_getElem? h, by simp [hp]⟩
theorem all_take_succ {α : Type} {p : α → Bool} {l : List α} {i : Nat} {x : α} (ha : (l.take i).all p = true) (h : l[i]? = some x) (hp : p x = true) : (l.take (i + 1)).all p = true := by
  rw [List.take_add_one, h]
  simp only [List.all_append, ha, Option.toList_some, List.all_cons, hp, List.all_nil, Bool.and_self]
theorem all_take_full {α : Type} {p : α → Bool} {l : List α} {i : Nat} (ha : (l.take i).all p = true) (h : l.length ≤ i) : l.all p = true := by
  rw [List.take_of_length_le h] at ha
  exact ha
theorem map_get {α β : Type} {l : List α} {f : α → β} {i : Nat} (h : i < l.length) : (l.map f)[i]? = some (f l[i]) := by
  rw [List.getElem?_map, List.getElem?_eq_getElem h]
  rfl
theorem map_len {α : Type} {l : List α} {f : α → List D} {z : Nat} (h : ∀ a, (f a).length = z) : ∀ cs ∈ l.map f, cs.length = z := by
  intro cs hcs
  obtain ⟨a, _, rfl⟩ := List.mem_map.1 hcs
  exact h a
theorem one_len {cs : List D} {z : Nat} (h : cs.length = z) : ∀ x ∈ [cs], x.length = z := by
  intro x hx
  rw [List.mem_singleton] at hx
  rw [hx]; exact h
theorem room_one : 1 ≤ room := by decide
/-- a round's end (two constructors: no step takes it for a pair) -/
inductive RoundEnd (n : Nat) (L : Nat → Prop) : Prop where
  | here (h : ∃ m', m' < n ∧ L m')
  | never (h : False)
theorem RoundEnd.out {n : Nat} {L : Nat → Prop} (h : RoundEnd n L) : ∃ m', m' < n ∧ L m' := by
  cases h with
  | here h => exact h
  | never h => exact h.elim
/-- a call's end -/
inductive CallEnd (P : List Mv → List Nat → Prop) : Prop where
  | here (h : ∃ ms ns, P ms ns)
  | never (h : False)
theorem CallEnd.out {P : List Mv → List Nat → Prop} (h : CallEnd P) : ∃ ms ns, P ms ns := by
  cases h with
  | here h => exact h
  | never h => exact h.elim
end Go.Ab
