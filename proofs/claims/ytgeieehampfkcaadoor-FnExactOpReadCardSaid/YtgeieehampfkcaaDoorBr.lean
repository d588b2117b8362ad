/- An abstract reading of the elaborated code. Part 18: turns of the view; a change of names. -/
import Derived.Test.YtgeieehampfkcaaDoorBq
namespace Go.Ab
open Go Go.RowKit

section
variable {E : Env} {cx : Cx} {tm : Tm} {S : Store} {nx : Nat} {a : Act} {w : World} {ρ : Nat → Option Value}

theorem preB_get : ∀ {k i : Nat} {ns : List Nat}, preB i k ns = true → ∀ j, j < k → ns[j]? = some (i + j)
  | 0, i, ns, h, j, hj => by omega
  | k + 1, i, [], h, j, hj => by simp [preB] at h
  | k + 1, i, n :: r, h, j, hj => by
    simp only [preB, Bool.and_eq_true] at h
    cases j with
    | zero => simp; exact Nat.eq_of_beq_eq_true h.1
    | succ j =>
      have := preB_get h.2 j (by omega)
      simp only [List.getElem?_cons_succ, this]
      congr 1
      omega

theorem lk_carS (ns : List Nat) (S : Store) : ∀ (l : List Nat) (k i : Nat), lk (carS ns S l k) i = if k ≤ i then ((l[i - k]?).bind (lk S)).map (carB ns) else none
  | [], k, i => by simp [carS, lk]
  | n :: r, k, i => by
    have ih := lk_carS ns S r (k + 1) i
    have step : i ≠ k → (if k ≤ i then (((n :: r)[i - k]?).bind (lk S)).map (carB ns) else none) = lk (carS ns S r (k + 1)) i := by
      intro hne
      rw [ih]
      by_cases hk : k + 1 ≤ i
      · rw [if_pos hk, if_pos (by omega)]
        have : i - k = (i - (k + 1)) + 1 := by omega
        rw [this]
        simp
      · rw [if_neg hk, if_neg (by omega)]
    simp only [carS]
    cases hl : lk S n with
    | none =>
      simp only
      by_cases hik : i = k
      · subst hik
        rw [ih, if_neg (by omega)]
        simp [hl]
      · rw [step hik]
    | some b =>
      simp only [lk_cons]
      by_cases hik : i = k
      · subst hik
        simp [hl]
      · rw [if_neg (Ne.symm hik), step hik]

theorem live_carB (ns : List Nat) (b : Blk) : live (carB ns b) = live b := by cases b <;> rfl
theorem held_car {ns : List Nat} {x : Nat} (h : Held (carS ns S ns 0) (carρ ns ρ) x) : ∃ (i n : Nat) (b : Blk), ns[i]? = some n ∧ lk S n = some b ∧ live b = true ∧ (ρ n).bind blkOf = some x := by
  obtain ⟨i, b, hl, hlv, hx⟩ := h
  rw [lk_carS, if_pos (Nat.zero_le _)] at hl
  simp only [Nat.sub_zero] at hl
  cases hn : ns[i]? with
  | none => rw [hn] at hl; simp at hl
  | some n =>
    rw [hn] at hl
    simp only [Option.bind_some, Option.map_eq_some_iff] at hl
    obtain ⟨b0, h1, rfl⟩ := hl
    rw [live_carB] at hlv
    exact ⟨i, n, b0, hn, h1, hlv, by simpa [carρ, hn] using hx⟩
theorem VA.car {Av Av' : Nat → Prop} {ns : List Nat} (hi : ∀ d u, VI w Av d u → VI w Av' d u) {d d' : D} {u : Value} (h : VA w Av ρ d u) (hc : carA ns d = some d') : VA w Av' (carρ ns ρ) d' u := by
  cases h with
  | im h =>
    cases h with
    | fn f =>
      simp only [carA, posAll, Option.some.injEq] at hc
      subst hc
      exact .im (.fn f)
    | b => simp [carA] at hc; subst hc; exact .im (hi _ _ (.b _))
    | k => simp [carA] at hc; subst hc; exact .im (hi _ _ (.k _ _))
    | s => simp [carA] at hc; subst hc; exact .im (hi _ _ (.s _))
    | v h => simp [carA] at hc; subst hc; exact .im (hi _ _ (.v h))
    | nil => simp [carA] at hc; subst hc; exact .im (hi _ _ .nil)
    | sl0 => simp [carA] at hc; subst hc; exact .im (hi _ _ .sl0)
    | sl U a1 a2 a3 a4 a5 a6 a7 a8 a9 => simp [carA] at hc; subst hc; exact .im (hi _ _ (.sl U a1 a2 a3 a4 a5 a6 a7 a8 a9))
    | ep U a1 a2 a3 a4 a5 => simp [carA] at hc; subst hc; exact .im (hi _ _ (.ep U a1 a2 a3 a4 a5))
    | agg hl h1 hr => simp [carA] at hc; subst hc; exact .im (hi _ _ (.agg hl h1 hr))
  | own h h1 =>
    simp only [carA] at hc
    split at hc
    · rename_i i hp
      cases hc
      exact .own (by simp [carρ, posOf_get hp, h]) h1
    · cases hc
  | bp h =>
    simp only [carA] at hc
    split at hc
    · rename_i i hp
      cases hc
      exact .bp (by simp [carρ, posOf_get hp, h])
    · cases hc
  | op h => simp [carA] at hc
  | @fn f cs us hl h =>
    simp only [carA] at hc
    split at hc
    · rename_i qs hq
      cases hc
      obtain ⟨q1, q2⟩ := posAll_get hq
      refine .fn (by rw [q1, hl]) fun i m u hm hu => ?_
      have hlt : i < cs.length := by rw [← q1]; exact (List.getElem?_eq_some_iff.1 hm).1
      obtain ⟨h1, h2⟩ := h i cs[i] u (List.getElem?_eq_getElem hlt) hu
      exact ⟨by simp [carρ, q2 i cs[i] m (List.getElem?_eq_getElem hlt) hm, h1], h2⟩
    · cases hc
  | junk h1 => simp [carA] at hc
theorem carAs_spec (ns : List Nat) : ∀ (ds : List D), (carAs ns ds).length = ds.length ∧ ∀ (i : Nat) (d' : D), (carAs ns ds)[i]? = some d' → ∃ d, ds[i]? = some d ∧ (carA ns d = some d' ∨ d' = .junk)
  | [] => by simp [carAs]
  | d :: r => by
    obtain ⟨i1, i2⟩ := carAs_spec ns r
    simp only [carAs]
    split
    · rename_i d1 hd1
      refine ⟨by simp [i1], fun i d' h => ?_⟩
      cases i with
      | zero => simp at h; subst h; exact ⟨d, rfl, .inl hd1⟩
      | succ i => simpa using i2 i d' (by simpa using h)
    · refine ⟨by simp [i1], fun i d' h => ?_⟩
      cases i with
      | zero => simp at h; subst h; exact ⟨d, rfl, .inr rfl⟩
      | succ i => simpa using i2 i d' (by simpa using h)
theorem cells_car {Av Av' : Nat → Prop} {ns : List Nat} (hi : ∀ d u, VI w Av d u → VI w Av' d u) {ds : List D} {us : List Value} (h1 : ∀ u ∈ us, u.oneCell' = true)
    (h : ∀ (i : Nat) (d : D) (u : Value), ds[i]? = some d → us[i]? = some u → VA w Av ρ d u) :
    ∀ (i : Nat) (d : D) (u : Value), (carAs ns ds)[i]? = some d → us[i]? = some u → VA w Av' (carρ ns ρ) d u := by
  intro i d' u hd hu
  obtain ⟨d, e1, e2⟩ := (carAs_spec ns ds).2 i d' hd
  rcases e2 with e2 | rfl
  · exact (h i d u e1 hu).car hi e2
  · exact .junk (h1 _ (List.mem_of_getElem? hu))
theorem VG.car {Av Av' : Nat → Prop} {ns : List Nat} (hi : ∀ d u, VI w Av d u → VI w Av' d u) {d d' : D} {u : Value} (h : VG w Av ρ d u) (hc : carD ns d = some d') : VG w Av' (carρ ns ρ) d' u := by
  by_cases ha : ∃ ds, d = .agg ds
  · obtain ⟨ds, rfl⟩ := ha
    simp only [carD, Option.some.injEq] at hc
    subst hc
    obtain ⟨us, rfl, hl, h1, hr⟩ := (VR.gr h).agg_inv
    exact .agg (by rw [(carAs_spec ns ds).1]; exact hl) h1 (cells_car hi h1 hr)
  · have hd : carD ns d = carA ns d ∨ carD ns d = none := by cases d <;> first | exact .inl rfl | exact .inr rfl | exact absurd ⟨_, rfl⟩ ha
    rcases hd with hd | hd
    · rw [hd] at hc
      cases h with
      | atom h => exact .atom (h.car hi hc)
      | agg => exact absurd ⟨_, rfl⟩ ha
    · rw [hd] at hc; cases hc
theorem VR.car {Av Av' : Nat → Prop} {ns : List Nat} (hi : ∀ d u, VI w Av d u → VI w Av' d u) {d d' : D} {u : Value} (h : VR w Av ρ d u) (hc : carD ns d = some d') : VG w Av' (carρ ns ρ) d' u := by
  cases h with
  | gr h => exact h.car hi hc
  | tup => simp [carD] at hc
theorem lk_carTm (ns : List Nat) : ∀ (ts : List Nat) (t : Nat) (d' : D), lk (carTm ns tm ts) t = some d' → ∃ d, lk tm t = some d ∧ carD ns d = some d'
  | [], t, d', h => by simp [carTm, lk] at h
  | t0 :: r, t, d', h => by
    simp only [carTm] at h
    split at h
    · rename_i d hd
      split at h
      · rename_i d1 hd1
        rw [lk_cons] at h
        by_cases e : t0 = t
        · subst e
          rw [if_pos rfl] at h
          cases h
          exact ⟨d, hd, hd1⟩
        · rw [if_neg e] at h
          exact lk_carTm ns r t d' h
      · exact lk_carTm ns r t d' h
    · exact lk_carTm ns r t d' h

theorem R.carry (h : R E cx tm S a w ρ) (ts : List Nat) {ns : List Nat} (hn : nodupB ns = true) (hp : preB 0 cx.k0 ns = true) :
    R E cx (carTm ns tm ts) (carS ns S ns 0) a w (carρ ns ρ) ∧ ∀ d u, VI w (AvS cx.G S ρ) d u → VI w (AvS cx.G (carS ns S ns 0) (carρ ns ρ)) d u := by
  have hheld : ∀ x, Held (carS ns S ns 0) (carρ ns ρ) x → Held S ρ x := fun x hx => let ⟨i, n, b, _, h2, h3, h4⟩ := held_car hx; ⟨n, b, h2, h3, h4⟩
  have hi : ∀ d u, VI w (AvS cx.G S ρ) d u → VI w (AvS cx.G (carS ns S ns 0) (carρ ns ρ)) d u := fun d u hv =>
    hv.mono (fun _ _ _ => rfl) (Nat.le_refl _) fun x _ hav => hav.imp id (hheld x)
  have look : ∀ i b, lk (carS ns S ns 0) i = some b → ∃ n b0, ns[i]? = some n ∧ lk S n = some b0 ∧ b = carB ns b0 := by
    intro i b hl
    rw [lk_carS, if_pos (Nat.zero_le _)] at hl
    simp only [Nat.sub_zero] at hl
    cases hn : ns[i]? with
    | none => rw [hn] at hl; simp at hl
    | some n =>
      rw [hn] at hl
      simp only [Option.bind_some, Option.map_eq_some_iff] at hl
      obtain ⟨b0, h1, h2⟩ := hl
      exact ⟨n, b0, rfl, h1, h2.symm⟩
  refine ⟨⟨fun t d' ht => ?_, fun i b hl => ?_, ?_, fun x hx => h.new x (hheld x hx), fun t u ht hu => ?_, fun g cs hg => hi _ _ (h.gl g cs hg), h.fr, h.g, h.gf, h.defers, h.num⟩, hi⟩
  · obtain ⟨d, e1, e2⟩ := lk_carTm ns ts t d' ht
    exact .gr ((h.tm t d e1).car hi e2)
  · obtain ⟨n, b0, e1, e2, rfl⟩ := look i b hl
    have hρ : carρ ns ρ i = ρ n := by simp [carρ, e1]
    cases b0 with
    | box e cs =>
      obtain ⟨g, us, f1, f2, f3, f4, f5⟩ := h.st n _ e2
      exact ⟨g, us, by rw [hρ]; exact f1, f2, by rw [(carAs_spec ns cs).1]; exact f3, f4, cells_car hi f4 f5⟩
    | own e xs =>
      obtain ⟨u, us, f1, f2, f3⟩ := h.st n _ e2
      exact ⟨u, us, by rw [hρ]; exact f1, f2, f3.mono hi⟩
    | row e xs =>
      obtain ⟨u, us, f1, f2, f3⟩ := h.st n _ e2
      refine ⟨u, us, by rw [hρ]; exact f1, by rw [List.length_map]; exact f2, ⟨by rw [List.length_map]; exact f3.len, fun cs hcs => ?_, f3.one, fun i' j cs d p q => ?_⟩⟩
      · obtain ⟨cs0, h0, rfl⟩ := List.mem_map.1 hcs
        rw [(carAs_spec ns cs0).1]; exact f3.el cs0 h0
      · simp only [List.getElem?_map, Option.map_eq_some_iff] at p
        obtain ⟨cs0, h0, rfl⟩ := p
        obtain ⟨d0, e3, e4⟩ := (carAs_spec ns cs0).2 j d q
        obtain ⟨u', g1, g2⟩ := f3.at_ i' j cs0 d0 h0 e3
        refine ⟨u', g1, ?_⟩
        rcases e4 with e4 | rfl
        · exact g2.car hi e4
        · exact .junk (f3.one _ (List.mem_of_getElem? g1))
    | fr xs =>
      obtain ⟨u, f1, f2⟩ := h.st n _ e2
      exact ⟨u, by rw [hρ]; exact f1, hi _ _ f2⟩
  · intro i j b b' x h1 h2 l1 l2 x1 x2
    obtain ⟨n, c, e1, e2, rfl⟩ := look i b h1
    obtain ⟨n', c', e1', e2', rfl⟩ := look j b' h2
    rw [live_carB] at l1 l2
    have := h.dis n n' c c' x e2 e2' l1 l2 (by simpa [carρ, e1] using x1) (by simpa [carρ, e1'] using x2)
    subst this
    exact nodupB_get hn i j n e1 e1'
  · have := preB_get hp t ht
    simp only [Nat.zero_add] at this
    simp only [carρ, this, Option.bind_some]
    exact h.keep t u ht hu
theorem fresh_car (ns : List Nat) : Fresh ns.length (carρ ns ρ) := by
  intro n hn
  simp [carρ, List.getElem?_eq_none hn]

/-! ice -/
theorem VA.ice {Av Av' : Nat → Prop} {n : Nat} {xs : List (List D)} (hi : ∀ d u, VI w Av d u → VI w Av' d u) (hx : ∀ u, ρ n = some u → VI w Av' (.sl xs) u) {d : D} {u : Value} (h : VA w Av ρ d u) : VA w Av' ρ (iceA n xs d) u := by
  cases h with
  | im h =>
    have : iceA n xs d = d := by cases h <;> rfl
    rw [this]
    exact .im (hi _ _ h)
  | own h h1 =>
    rename_i t
    simp only [iceA]
    split
    · rename_i hb
      have := Nat.eq_of_beq_eq_true hb
      subst this
      exact .im (hx _ h)
    · exact .own h h1
  | bp h => exact .bp h
  | op h => exact .op h
  | fn hl h => exact .fn hl h
  | junk h1 => exact .junk h1
theorem cells_ice {Av Av' : Nat → Prop} {n : Nat} {xs : List (List D)} (hi : ∀ d u, VI w Av d u → VI w Av' d u) (hx : ∀ u, ρ n = some u → VI w Av' (.sl xs) u) {ds : List D} {us : List Value}
    (h : ∀ (i : Nat) (d : D) (u : Value), ds[i]? = some d → us[i]? = some u → VA w Av ρ d u) : ∀ (i : Nat) (d : D) (u : Value), (ds.map (iceA n xs))[i]? = some d → us[i]? = some u → VA w Av' ρ d u := by
  intro i d u hd hu
  simp only [List.getElem?_map, Option.map_eq_some_iff] at hd
  obtain ⟨e, he, rfl⟩ := hd
  exact (h i e u he hu).ice hi hx
theorem VG.ice {Av Av' : Nat → Prop} {n : Nat} {xs : List (List D)} (hi : ∀ d u, VI w Av d u → VI w Av' d u) (hx : ∀ u, ρ n = some u → VI w Av' (.sl xs) u) {d : D} {u : Value} (h : VG w Av ρ d u) : VG w Av' ρ (iceD n xs d) u := by
  by_cases ha : ∃ ds, d = .agg ds
  · obtain ⟨ds, rfl⟩ := ha
    obtain ⟨us, rfl, hl, h1, hr⟩ := (VR.gr h).agg_inv
    exact .agg (by simpa using hl) h1 (cells_ice hi hx hr)
  · have hd : iceD n xs d = iceA n xs d := by cases d <;> first | rfl | exact absurd ⟨_, rfl⟩ ha
    rw [hd]
    cases h with
    | atom h => exact .atom (h.ice hi hx)
    | agg => exact absurd ⟨_, rfl⟩ ha
theorem VR.ice {Av Av' : Nat → Prop} {n : Nat} {xs : List (List D)} (hi : ∀ d u, VI w Av d u → VI w Av' d u) (hx : ∀ u, ρ n = some u → VI w Av' (.sl xs) u) {d : D} {u : Value} (h : VR w Av ρ d u) : VR w Av' ρ (iceD n xs d) u := by
  cases h with
  | gr h => exact .gr (h.ice hi hx)
  | tup hl h => exact .tup hl fun i d u p q => (h i d u p q).mono hi (fun _ _ h => h)
theorem live_iceB (n : Nat) (xs : List (List D)) (b : Blk) : live (iceB n xs b) = live b := by cases b <;> rfl
theorem R.ice (h0 : R E cx tm S a w ρ) {n : Nat} {xs : List (List D)} (hl0 : (∃ e, lk S n = some (.own e xs)) ∨ lk S n = some (.fr xs)) :
    R E cx (tm.map fun (t, d) => (t, iceD n xs d)) ((del n S).map fun (t, b) => (t, iceB n xs b)) a w ρ := by
  have h := h0.frz1 hl0
  obtain ⟨u0, hr0, hv0⟩ := h.st n (.fr xs) (by rw [lk_ap, lk_cons, if_pos rfl])
  have look : ∀ t b, lk ((del n S).map fun (t, b) => (t, iceB n xs b)) t = some b → t ≠ n ∧ ∃ b0, lk (ap [(n, some (.fr xs))] S) t = some b0 ∧ b = iceB n xs b0 := by
    intro t b hl
    rw [lk_map, lk_del] at hl
    by_cases e : t = n
    · rw [if_pos e] at hl; simp at hl
    · rw [if_neg e] at hl
      simp only [Option.map_eq_some_iff] at hl
      obtain ⟨b0, h1, h2⟩ := hl
      refine ⟨e, b0, ?_, h2.symm⟩
      rw [lk_ap, lk_cons, if_neg (Ne.symm e)]
      exact h1
  have hheld : ∀ x, Held ((del n S).map fun (t, b) => (t, iceB n xs b)) ρ x → Held (ap [(n, some (.fr xs))] S) ρ x := by
    rintro x ⟨t, b, hl, hv, hx⟩
    obtain ⟨_, b0, h1, rfl⟩ := look t b hl
    rw [live_iceB] at hv
    exact ⟨t, b0, h1, hv, hx⟩
  have hi : ∀ d u, VI w (AvS cx.G (ap [(n, some (.fr xs))] S) ρ) d u → VI w (AvS cx.G ((del n S).map fun (t, b) => (t, iceB n xs b)) ρ) d u := fun d u hv =>
    hv.mono (fun _ _ _ => rfl) (Nat.le_refl _) fun x _ hav => hav.imp id (hheld x)
  have hx : ∀ u, ρ n = some u → VI w (AvS cx.G ((del n S).map fun (t, b) => (t, iceB n xs b)) ρ) (.sl xs) u := by
    intro u hu
    rw [hr0] at hu
    cases hu
    exact hi _ _ hv0
  refine ⟨fun t d ht => ?_, fun t b hl => ?_, fun t t' b b' x h1 h2 l1 l2 x1 x2 => ?_, fun x hx => h.new x (hheld x hx), h.keep, fun g cs hg => hi _ _ (h.gl g cs hg), h.fr, h.g, h.gf, h.defers, h.num⟩
  · rw [lk_map] at ht
    simp only [Option.map_eq_some_iff] at ht
    obtain ⟨d0, e1, rfl⟩ := ht
    exact (h.tm t d0 e1).ice hi hx
  · obtain ⟨_, b0, e1, rfl⟩ := look t b hl
    cases b0 with
    | box e cs =>
      obtain ⟨g, us, f1, f2, f3, f4, f5⟩ := h.st t _ e1
      exact ⟨g, us, f1, f2, by simpa using f3, f4, cells_ice hi hx f5⟩
    | own e ys =>
      obtain ⟨u, us, f1, f2, f3⟩ := h.st t _ e1
      exact ⟨u, us, f1, f2, f3.mono hi⟩
    | row e ys =>
      obtain ⟨u, us, f1, f2, f3⟩ := h.st t _ e1
      refine ⟨u, us, f1, by rw [List.length_map]; exact f2, ⟨by rw [List.length_map]; exact f3.len, fun cs hcs => ?_, f3.one, fun i' j cs d p q => ?_⟩⟩
      · obtain ⟨cs0, h0, rfl⟩ := List.mem_map.1 hcs
        rw [List.length_map]; exact f3.el cs0 h0
      · simp only [List.getElem?_map, Option.map_eq_some_iff] at p
        obtain ⟨cs0, h0, rfl⟩ := p
        simp only [List.getElem?_map, Option.map_eq_some_iff] at q
        obtain ⟨d0, h1, rfl⟩ := q
        obtain ⟨u', g1, g2⟩ := f3.at_ i' j cs0 d0 h0 h1
        exact ⟨u', g1, g2.ice hi hx⟩
    | fr ys =>
      obtain ⟨u, f1, f2⟩ := h.st t _ e1
      exact ⟨u, f1, hi _ _ f2⟩
  · obtain ⟨_, c, e1, rfl⟩ := look t b h1
    obtain ⟨_, c', e2, rfl⟩ := look t' b' h2
    rw [live_iceB] at l1 l2
    exact h.dis t t' c c' x e1 e2 l1 l2 x1 x2

theorem R.slot (h : R E cx tm S a w ρ) {t : Nat} {d : D} (hv : VR w (AvS cx.G S ρ) ρ d (a.tmps.getD t undef)) : R E cx ((t, d) :: tm) S a w ρ := by
  refine ⟨fun t' d' hd => ?_, h.st, h.dis, h.new, h.keep, h.gl, h.fr, h.g, h.gf, h.defers, h.num⟩
  rw [lk_cons] at hd
  by_cases e : t = t'
  · subst e
    rw [if_pos rfl] at hd
    cases hd
    exact hv
  · rw [if_neg e] at hd
    exact h.tm t' d' hd
theorem R.again (h : R E cx tm S a w ρ) {t : Nat} {x : Bool} (ht : lk tm t = some (.b x)) : R E cx ((t, .b x) :: tm) S a w ρ := h.slot (h.tm t _ ht)
theorem isNil_eq {d : D} (h : isNil d = true) : d = .nil := by cases d <;> first | rfl | cases h
/-- a new slice of the call's own that has nothing -/
theorem R.thawed (h : R E cx tm S a w ρ) (hf : Fresh nx ρ) (e : TypeId) : R E cx tm ((nx, .own e []) :: S) a w (withName ρ nx (.slice none 0 0)) ∧ Fresh (nx + 1) (withName ρ nx (.slice none 0 0)) ∧
    VA w (AvS cx.G ((nx, .own e []) :: S) (withName ρ nx (.slice none 0 0))) (withName ρ nx (.slice none 0 0)) (.own nx) (.slice none 0 0) := by
  obtain ⟨h', _⟩ := h.own (hf nx (Nat.le_refl _)) (e := e) (xs := []) (us := []) (u := .slice none 0 0) (w' := w) ⟨by simp, by simp, by simp, by simp⟩ (Fr.refl _ w) (World.ownsRow_nil _ _ _ _)
  refine ⟨h'.ext (fun _ => rfl) (fun n => lk_ap_one' n), fun n hn => ?_, .own (withName_same _ _) rfl⟩
  rw [withName_other _ (by omega)]
  exact hf n (by omega)
theorem mv_sound {m : Mv} {tm' : Tm} {S' : Store} {nx' : Nat} (hm : mv m tm S nx = some (tm', S', nx')) (h : R E cx tm S a w ρ) (hf : Fresh nx ρ) : ∃ ρ', R E cx tm' S' a w ρ' ∧ Fresh nx' ρ' := by
  cases m with
  | ice n =>
    simp only [mv] at hm
    split at hm
    · rename_i e xs hl
      cases hm
      exact ⟨ρ, h.ice (.inl ⟨e, hl⟩), hf⟩
    · rename_i xs hl
      cases hm
      exact ⟨ρ, h.ice (.inr hl), hf⟩
    · cases hm
  | thaw t e =>
    simp only [mv] at hm
    split at hm
    · rename_i d hd
      split at hm
      · rename_i hn
        cases hm
        have := isNil_eq hn
        subst this
        have hv := (h.tm t _ hd).nil_inv
        obtain ⟨h1, h2, h3⟩ := h.thawed hf e
        refine ⟨_, h1.slot ?_, h2⟩
        rw [hv]
        exact .gr (.atom h3)
      · cases hm
    · cases hm
  | thawB n i e =>
    simp only [mv] at hm
    split at hm
    · rename_i e' cs hl
      split at hm
      · rename_i d hd
        split at hm
        · rename_i hn
          cases hm
          have := isNil_eq hn
          subst this
          obtain ⟨h1, h2, h3⟩ := h.thawed hf e
          have hne : n ≠ nx := by
            rintro rfl
            obtain ⟨u, hu⟩ := h.named hl
            rw [hf n (Nat.le_refl _)] at hu
            cases hu
          have hl' : lk ((nx, Blk.own e []) :: S) n = some (.box e' cs) := by rw [lk_cons, if_neg (Ne.symm hne)]; exact hl
          refine ⟨_, ?_, h2⟩
          obtain ⟨b, us, f1, f2, f3, f4, f5⟩ := h1.st n _ hl'
          have hw := h1.write (b' := .box e' (cs.set i (.own nx))) hl' rfl (g := b) (by rw [f1]; rfl) (Fr.refl _ w |>.weaken fun _ h => h) fun hi => by
            refine ⟨b, us, f1, f2, by rw [List.length_set]; exact f3, f4, fun j d u p q => ?_⟩
            rw [List.getElem?_set] at p
            by_cases e1 : i = j
            · subst e1
              rw [if_pos rfl] at p
              split at p
              · cases p
                have hu : u = .slice none 0 0 := by
                  have := f5 i .nil u hd q
                  cases this with | im h => cases h; rfl
                subst hu
                exact h3.mono hi (fun _ _ h => h)
              · cases p
            · rw [if_neg e1] at p
              exact (f5 j d u p q).mono hi (fun _ _ h => h)
          refine hw.ext (fun _ => rfl) fun m => ?_
          rw [lk_ap]
          simp only [setB, lk_cons, lk_del]
          by_cases e1 : nx = m
          · have : n ≠ m := by rintro rfl; exact hne e1.symm
            simp [e1, this, lk]
          · by_cases e2 : n = m
            · simp [e1, e2]
            · simp [e1, e2, Ne.symm e2, lk]
        · cases hm
      · cases hm
    · cases hm
theorem mvs_sound : ∀ {l : List Mv} {tm : Tm} {S : Store} {nx : Nat} {ρ : Nat → Option Value} {tm' : Tm} {S' : Store} {nx' : Nat}, mvs l tm S nx = some (tm', S', nx') → R E cx tm S a w ρ → Fresh nx ρ → ∃ ρ', R E cx tm' S' a w ρ' ∧ Fresh nx' ρ'
  | [], _, _, _, _, _, _, _, hm, h, hf => by simp [mvs] at hm; obtain ⟨rfl, rfl, rfl⟩ := hm; exact ⟨_, h, hf⟩
  | m :: r, tm, S, nx, ρ, tm', S', nx', hm, h, hf => by
    simp only [mvs] at hm
    split at hm
    · rename_i tm1 S1 nx1 h1
      obtain ⟨ρ1, h2, h3⟩ := mv_sound h1 h hf
      exact mvs_sound hm h2 h3
    · cases hm
theorem land_sound {J : Tm → Store → Nat → Prop} (hj : landK cx.k0 tm S nx J) (h : R E cx tm S a w ρ) (hf : Fresh nx ρ) : ∃ tm' S' nx' ρ', R E cx tm' S' a w ρ' ∧ Fresh nx' ρ' ∧ J tm' S' nx' := by
  obtain ⟨ms, ts, ns, hj⟩ := hj
  split at hj
  · rename_i tm1 S1 nx1 hm
    obtain ⟨h1, h2, h3⟩ := hj
    obtain ⟨ρ1, h4, h5⟩ := mvs_sound hm h hf
    exact ⟨_, _, _, _, (h4.carry ts h1 h2).1, fresh_car ns, h3⟩
  · exact hj.elim
end
end Go.Ab
