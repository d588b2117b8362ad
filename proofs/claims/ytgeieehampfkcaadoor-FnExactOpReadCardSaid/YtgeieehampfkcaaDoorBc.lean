/- An abstract reading of the elaborated code. Part 3: what a step does to the blocks. -/
import Derived.Test.YtgeieehampfkcaaDoorBb
namespace Go.Ab
open Go Go.RowKit

theorem Fr.refl (F : Nat → Prop) (w : World) : Fr F w w := ⟨rfl, rfl, rfl, Nat.le_refl _, fun _ _ _ => rfl⟩
theorem Fr.trans {F F' : Nat → Prop} {a b c : World} (h : Fr F a b) (k : Fr F' b c) (hF : ∀ x, x < a.heap.size → F' x → F x) : Fr F a c :=
  ⟨k.os.trans h.os, k.tape.trans h.tape, k.output.trans h.output, Nat.le_trans h.size k.size,
    fun i hi hn => (k.block i (Nat.lt_of_lt_of_le hi h.size) (fun hf => hn (hF i hi hf))).trans (h.block i hi hn)⟩
theorem Fr.weaken {F F' : Nat → Prop} {a b : World} (h : Fr F a b) (hF : ∀ x, F x → F' x) : Fr F' a b :=
  ⟨h.os, h.tape, h.output, h.size, fun k hk hn => h.block k hk fun hf => hn (hF k hf)⟩

section
variable {P : Program}
theorem SR.named {w : World} {Av : Nat → Prop} {ρ : Nat → Option Value} {t : Nat} {b : Blk} (h : SR P w Av ρ t b) : ∃ u, ρ t = some u := by
  cases b with
  | box e cs => obtain ⟨_, _, h, _⟩ := h; exact ⟨_, h⟩
  | own e xs => obtain ⟨_, _, h, _⟩ := h; exact ⟨_, h⟩
  | row e xs => obtain ⟨_, _, h, _⟩ := h; exact ⟨_, h⟩
  | fr xs => obtain ⟨_, h, _⟩ := h; exact ⟨_, h⟩
/-- the blocks of a name are there -/
theorem SR.lt {w : World} {Av : Nat → Prop} {ρ : Nat → Option Value} {t : Nat} {b : Blk} (h : SR P w Av ρ t b) (hlv : live b = true) {x : Nat} (hx : (ρ t).bind blkOf = some x) : x < w.heap.size := by
  have row : ∀ (e : TypeId) (u : Value) (us : List Value) (n : Nat), ρ t = some u → w.ownsRow 0 e (P.cellsOf e) u n us → x < w.heap.size := by
    intro e u us n hr ho
    rw [hr] at hx
    rcases ho.2 with ⟨rfl, _⟩ | ⟨g, cap, cur, rfl, _, hh, _⟩
    · simp [blkOf] at hx
    · simp [blkOf] at hx
      subst hx
      exact (Array.getElem?_eq_some_iff.1 hh).1
  cases b with
  | box e cs =>
    obtain ⟨g, us, hr, hh, _⟩ := h
    rw [hr] at hx
    simp [blkOf] at hx
    subst hx
    exact (Array.getElem?_eq_some_iff.1 hh).1
  | own e xs => obtain ⟨u, us, hr, ho, _⟩ := h; exact row e u us _ hr ho
  | row e xs => obtain ⟨u, us, hr, ho, _⟩ := h; exact row e u us _ hr ho
  | fr xs => simp [live] at hlv
theorem Rows.mono {p q : D → Value → Prop} (h : ∀ d u, p d u → q d u) {sz : Nat} {xs : List (List D)} {us : List Value} (k : Rows p sz xs us) : Rows q sz xs us :=
  ⟨k.len, k.el, k.one, fun i j cs d a b => let ⟨u, e1, e2⟩ := k.at_ i j cs d a b; ⟨u, e1, h _ _ e2⟩⟩
theorem ownsRow_kept {w w' : World} {e : TypeId} {sz : Nat} {u : Value} {n : Nat} {us : List Value} (h : w.ownsRow 0 e sz u n us) (hb : ∀ x, blkOf u = some x → w'.heap[x]? = w.heap[x]?) : w'.ownsRow 0 e sz u n us := by
  refine ⟨h.1, ?_⟩
  rcases h.2 with hn | ⟨g, cap, cur, rfl, hb0, hh, rest⟩
  · exact .inl hn
  · refine .inr ⟨g, cap, cur, rfl, hb0, ?_, rest⟩
    rw [hb g rfl]
    exact hh
/-- a name whose block has not turned -/
theorem SR.mono {w w' : World} {Av Av' : Nat → Prop} {ρ ρ' : Nat → Option Value} {t : Nat} {b : Blk} (hi : ∀ d u, VI w Av d u → VI w' Av' d u) (hr : ∀ t u, ρ t = some u → ρ' t = some u)
    (hb : live b = true → ∀ x, (ρ t).bind blkOf = some x → w'.heap[x]? = w.heap[x]?) (h : SR P w Av ρ t b) : SR P w' Av' ρ' t b := by
  cases b with
  | box e cs =>
    obtain ⟨g, us, h0, hh, hl, h1, hc⟩ := h
    refine ⟨g, us, hr _ _ h0, ?_, hl, h1, fun i d u a b => (hc i d u a b).mono hi hr⟩
    rw [hb rfl g (by rw [h0]; rfl)]
    exact hh
  | own e xs =>
    obtain ⟨u, us, h0, ho, hc⟩ := h
    exact ⟨u, us, hr _ _ h0, ownsRow_kept ho fun x hx => hb rfl x (by rw [h0]; exact hx), hc.mono hi⟩
  | row e xs =>
    obtain ⟨u, us, h0, ho, hc⟩ := h
    exact ⟨u, us, hr _ _ h0, ownsRow_kept ho fun x hx => hb rfl x (by rw [h0]; exact hx), hc.mono fun _ _ h => h.mono hi hr⟩
  | fr xs =>
    obtain ⟨u, h0, hv⟩ := h
    exact ⟨u, hr _ _ h0, hi _ _ hv⟩
end

theorem VI_ofV {w : World} {Av : Nat → Prop} {x : Value} {d : D} (h : ofV x = some d) : VI w Av d x := by
  unfold ofV at h
  split at h <;> try (cases h; done)
  · cases h; exact .b _
  · cases h; exact .k _ _
  · rename_i s
    cases h
    have : s = ⟨s.data.toList.toArray⟩ := by cases s; simp
    rw [this]
    exact .s _
  · cases h; exact .nil

section
variable {E : Env} {cx : Cx} {tm : Tm} {S : Store} {a : Act} {w : World} {ρ : Nat → Option Value}

theorem R.eval (h : R E cx tm S a w ρ) {x : Operand} {d : D} (hx : ev E.gl tm x = some d) : VR w (AvS cx.G S ρ) ρ d (a.eval x) := by
  cases x with
  | tmp t => exact h.tm t d hx
  | const v => exact .gr (.atom (.im (VI_ofV hx)))
  | func f => simp only [ev, Option.some.injEq] at hx; subst hx; exact .gr (.atom (.im (.fn f)))
  | global g =>
    simp only [ev] at hx
    split at hx
    · rename_i cs hg
      cases hx
      exact .gr (.atom (.im (h.gl g cs hg)))
    · cases hx
theorem R.held_lt (h : R E cx tm S a w ρ) {x : Nat} (hx : Held S ρ x) : x < w.heap.size := by
  obtain ⟨t, b, hl, hv, hb⟩ := hx
  exact (h.st t b hl).lt hv hb
theorem R.named (h : R E cx tm S a w ρ) {n : Nat} {b : Blk} (hl : lk S n = some b) : ∃ u, ρ n = some u := (h.st n b hl).named
theorem R.noName (h : R E cx tm S a w ρ) {n : Nat} (hn : ρ n = none) : lk S n = none := by
  cases hl : lk S n with
  | none => rfl
  | some b => obtain ⟨u, hu⟩ := h.named hl; rw [hn] at hu; cases hu

theorem held_ext {S S' : Store} (h : ∀ n, lk S' n = lk S n) {x : Nat} : Held S' ρ x ↔ Held S ρ x := by
  constructor <;> rintro ⟨t, b, h1, h2, h3⟩
  · exact ⟨t, b, by rw [← h]; exact h1, h2, h3⟩
  · exact ⟨t, b, by rw [h]; exact h1, h2, h3⟩
theorem avs_ext {G : Nat → Prop} {S S' : Store} (h : ∀ n, lk S' n = lk S n) : AvS G S' ρ = AvS G S ρ := by
  funext x
  simp only [AvS, held_ext h]
/-- only what is looked up counts -/
theorem R.ext (h : R E cx tm S a w ρ) {tm' : Tm} {S' : Store} (ht : ∀ t, lk tm' t = lk tm t) (hs : ∀ n, lk S' n = lk S n) : R E cx tm' S' a w ρ := by
  refine ⟨fun t d hd => ?_, fun t b hl => ?_, fun t t' b b' x h1 h2 => ?_, fun x hx => h.new x ((held_ext hs).1 hx), h.keep, ?_, h.fr, h.g, h.gf, h.defers, h.num⟩
  · rw [avs_ext hs]; exact h.tm t d (by rw [← ht]; exact hd)
  · rw [avs_ext hs]; exact h.st t b (by rw [← hs]; exact hl)
  · rw [hs] at h1 h2; exact h.dis t t' b b' x h1 h2
  · rw [avs_ext hs]; exact h.gl

theorem put_size (a : Act) (dst : Option Nat) (v : Value) : (a.put dst v).tmps.size = a.tmps.size := by
  cases dst <;> simp [Act.put]
theorem put_defers (a : Act) (dst : Option Nat) (v : Value) : (a.put dst v).defers = a.defers := by
  cases dst <;> simp [Act.put]
theorem getD_put (a : Act) (t t' : Nat) (v : Value) (ht : t < a.tmps.size) : (a.put (some t) v).tmps.getD t' undef = if t' = t then v else a.tmps.getD t' undef := by
  simp only [Act.put, Array.getD_eq_getD_getElem?, Array.getElem?_setIfInBounds]
  by_cases h : t = t'
  · subst h; simp [ht]
  · simp [h, Ne.symm h]

/-- a slot is written -/
theorem R.value (h : R E cx tm S a w ρ) {dst : Option Nat} (hd : ∀ t, dst = some t → t < cx.N) {d : D} {v : Value} (hv : VR w (AvS cx.G S ρ) ρ d v) :
    R E cx (put dst d tm) S (a.put dst v) w ρ := by
  refine ⟨fun t d' ht => ?_, h.st, h.dis, h.new, h.keep, h.gl, h.fr, h.g, h.gf, by rw [put_defers]; exact h.defers, by rw [put_size]; exact h.num⟩
  cases dst with
  | none => exact h.tm t d' ht
  | some t0 =>
    have hlt : t0 < a.tmps.size := by rw [h.num]; exact hd t0 rfl
    rw [getD_put a t0 t v hlt]
    simp only [put, lk_cons] at ht
    by_cases e : t0 = t
    · subst e
      simp at ht
      subst ht
      simpa using hv
    · rw [if_neg e] at ht
      rw [if_neg (Ne.symm e)]
      exact h.tm t d' ht

/-- what a step may do to the blocks -/
structure Turn (E : Env) (cx : Cx) (S : Store) (w : World) (ρ : Nat → Option Value) (out : Out) (w' : World) (ρ' : Nat → Option Value) : Prop where
  fr : Fr (fun x => ∃ n b, lk out n ≠ none ∧ lk S n = some b ∧ live b = true ∧ (ρ n).bind blkOf = some x) w w'
  old : ∀ t u, ρ t = some u → ρ' t = some u
  blk : ∀ n b, lk out n = some (some b) → live b = true → ∀ x, (ρ' n).bind blkOf = some x → w.heap.size ≤ x ∨ ∃ m b', lk out m ≠ none ∧ lk S m = some b' ∧ live b' = true ∧ (ρ m).bind blkOf = some x
  dis : ∀ n m b c x, lk out n = some (some b) → lk out m = some (some c) → live b = true → live c = true → (ρ' n).bind blkOf = some x → (ρ' m).bind blkOf = some x → n = m
  st : (∀ d u, VI w (AvS cx.G S ρ) d u → VI w' (AvS cx.G (ap out S) ρ') d u) → ∀ n b, lk out n = some (some b) → SR E.P w' (AvS cx.G (ap out S) ρ') ρ' n b

theorem Turn.held (h : R E cx tm S a w ρ) {out : Out} {w' : World} {ρ' : Nat → Option Value} (k : Turn E cx S w ρ out w' ρ') {x : Nat} (hx : Held (ap out S) ρ' x) : w.heap.size ≤ x ∨ Held S ρ x := by
  obtain ⟨t, b, hl, hv, hb⟩ := hx
  rw [lk_ap] at hl
  split at hl
  · rename_i o ho
    subst hl
    rcases k.blk t b ho hv x hb with h1 | ⟨m, b', _, h2, h3, h4⟩
    · exact .inl h1
    · exact .inr ⟨m, b', h2, h3, h4⟩
  · obtain ⟨u, hu⟩ := h.named hl
    rw [k.old t u hu] at hb
    exact .inr ⟨t, b, hl, hv, by rw [hu]; exact hb⟩
theorem Turn.vi (h : R E cx tm S a w ρ) {out : Out} {w' : World} {ρ' : Nat → Option Value} (k : Turn E cx S w ρ out w' ρ') : ∀ d u, VI w (AvS cx.G S ρ) d u → VI w' (AvS cx.G (ap out S) ρ') d u := by
  intro d u hv
  refine hv.mono (fun b hb hav => k.fr.block b hb ?_) k.fr.size fun x hx hav => ?_
  · rintro ⟨n, c, _, h2, h3, h4⟩
    exact hav (.inr ⟨n, c, h2, h3, h4⟩)
  · rcases hav with hg | hh
    · exact .inl hg
    · rcases k.held h hh with h1 | h1
      · omega
      · exact .inr h1
theorem R.turn (h : R E cx tm S a w ρ) {out : Out} {w' : World} {ρ' : Nat → Option Value} (k : Turn E cx S w ρ out w' ρ') : R E cx tm (ap out S) a w' ρ' := by
  have hi := k.vi h
  refine ⟨fun t d ht => (h.tm t d ht).mono hi k.old, fun t b hl => ?_, fun t t' b b' x h1 h2 l1 l2 x1 x2 => ?_, fun x hx => ?_, fun t u ht hu => k.old _ _ (h.keep t u ht hu), fun g cs hg => hi _ _ (h.gl g cs hg), ?_, h.g, h.gf, h.defers, h.num⟩
  · rw [lk_ap] at hl
    split at hl
    · rename_i o ho
      subst hl
      exact k.st hi t b ho
    · rename_i hn
      refine (h.st t b hl).mono hi k.old fun hlv x hx => k.fr.block x ((h.st t b hl).lt hlv hx) ?_
      rintro ⟨n, c, e1, e2, e3, e4⟩
      have := h.dis t n b c x hl e2 hlv e3 hx e4
      subst this
      exact e1 hn
  · rw [lk_ap] at h1 h2
    have old : ∀ (s : Nat) (c : Blk) (y : Nat), lk out s = none → lk S s = some c → (ρ' s).bind blkOf = some y → (ρ s).bind blkOf = some y := by
      intro s c y _ hs hy
      obtain ⟨u, hu⟩ := h.named hs
      rw [k.old s u hu] at hy
      rw [hu]; exact hy
    have mix : ∀ (s s' : Nat) (c c' : Blk), lk out s = some (some c) → live c = true → (ρ' s).bind blkOf = some x → lk out s' = none → lk S s' = some c' → live c' = true → (ρ' s').bind blkOf = some x → False := by
      intro s s' c c' a1 a2 a3 b1 b2 b3 b4
      have b5 := old s' c' x b1 b2 b4
      rcases k.blk s c a1 a2 x a3 with q | ⟨m, d, q1, q2, q3, q4⟩
      · have := (h.st s' c' b2).lt b3 b5; omega
      · have := h.dis m s' d c' x q2 b2 q3 b3 q4 b5
        subst this
        exact q1 b1
    cases ho : lk out t with
    | none =>
      rw [ho] at h1
      cases ho' : lk out t' with
      | none => rw [ho'] at h2; exact h.dis t t' b b' x h1 h2 l1 l2 (old t b x ho h1 x1) (old t' b' x ho' h2 x2)
      | some o => rw [ho'] at h2; simp only at h2; subst h2; exact (mix t' t b' b ho' l2 x2 ho h1 l1 x1).elim
    | some o =>
      rw [ho] at h1; simp only at h1; subst h1
      cases ho' : lk out t' with
      | none => rw [ho'] at h2; exact (mix t t' b b' ho l1 x1 ho' h2 l2 x2).elim
      | some o => rw [ho'] at h2; simp only at h2; subst h2; exact k.dis t t' b b' x ho ho' l1 l2 x1 x2
  · rcases k.held h hx with h1 | h1
    · exact .inl (Nat.le_trans h.fr.size h1)
    · exact h.new x h1
  · refine h.fr.trans k.fr fun x hx hh => ?_
    obtain ⟨n, b, _, h2, h3, h4⟩ := hh
    rcases h.new x ⟨n, b, h2, h3, h4⟩ with h1 | h1
    · omega
    · exact h1
end
end Go.Ab
