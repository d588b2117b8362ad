/- An abstract reading of the elaborated code. Part 13: calls. -/
import Derived.Test.YtgeieehampfkcaaDoorBl
namespace Go.Ab
open Go Go.RowKit

/-- what a name means behind a change of names -/
def carρ (ns : List Nat) (ρ : Nat → Option Value) (i : Nat) : Option Value := (ns[i]?).bind ρ

theorem minus_mem {ns : List Nat} : ∀ {l : List Nat} {n : Nat}, n ∈ minus ns l ↔ n ∈ l ∧ n ∉ ns
  | [], n => by simp [minus]
  | m :: r, n => by
    simp only [minus]
    split
    · rename_i h
      have hm := memB_iff.1 h
      rw [minus_mem]
      constructor
      · rintro ⟨h1, h2⟩; exact ⟨by simp [h1], h2⟩
      · rintro ⟨h1, h2⟩
        rcases List.mem_cons.1 h1 with rfl | h1
        · exact absurd hm h2
        · exact ⟨h1, h2⟩
    · rename_i h
      have hm : m ∉ ns := fun hin => by rw [memB_iff.2 hin] at h; cases h
      rw [List.mem_cons, minus_mem, List.mem_cons]
      constructor
      · rintro (rfl | ⟨h1, h2⟩)
        · exact ⟨.inl rfl, hm⟩
        · exact ⟨.inr h1, h2⟩
      · rintro ⟨rfl | h1, h2⟩
        · exact .inl rfl
        · exact .inr ⟨h1, h2⟩
theorem news_mem : ∀ {c nx n : Nat}, n ∈ news nx c ↔ nx ≤ n ∧ n < nx + c
  | 0, nx, n => by simp only [news, List.not_mem_nil, false_iff]; omega
  | c + 1, nx, n => by
    simp only [news, List.mem_cons, news_mem]
    omega
theorem news_len : ∀ (c nx : Nat), (news nx c).length = c
  | 0, nx => rfl
  | c + 1, nx => by simp [news, news_len c]
theorem news_get : ∀ {c nx j : Nat}, j < c → (news nx c)[j]? = some (nx + j)
  | 0, nx, j, h => by omega
  | c + 1, nx, j, h => by
    cases j with
    | zero => simp [news]
    | succ j =>
      simp only [news, List.getElem?_cons_succ]
      rw [news_get (by omega)]
      congr 1
      omega
theorem nmOf_get {ns : List Nat} {nx c j n : Nat} (h : (ns ++ news nx c)[j]? = some n) : n = nmOf ns nx j ∧ j < ns.length + c := by
  have hj : j < (ns ++ news nx c).length := (List.getElem?_eq_some_iff.1 h).1
  rw [List.length_append, news_len] at hj
  refine ⟨?_, hj⟩
  unfold nmOf
  by_cases hlt : j < ns.length
  · rw [List.getElem?_append_left hlt] at h
    rw [h]
  · rw [List.getElem?_append_right (by omega), news_get (by omega)] at h
    rw [List.getElem?_eq_none (by omega)]
    simpa using h.symm
theorem get_nmOf {ns : List Nat} {nx c j : Nat} (h : j < ns.length + c) : (ns ++ news nx c)[j]? = some (nmOf ns nx j) := by
  have : j < (ns ++ news nx c).length := by rw [List.length_append, news_len]; exact h
  obtain ⟨n, hn⟩ : ∃ n, (ns ++ news nx c)[j]? = some n := ⟨_, List.getElem?_eq_getElem this⟩
  rw [hn, (nmOf_get hn).1]

theorem lk_callOut (f : Nat → Nat) (S' : Store) : ∀ (l : List Nat) (i : Nat) (n : Nat), (∀ (j k m : Nat), l[j]? = some m → l[k]? = some m → j = k) →
    (n ∉ l → lk (callOut f S' l i) n = none) ∧ ∀ j : Nat, l[j]? = some n → lk (callOut f S' l i) n = some ((lk S' (i + j)).map (renB f))
  | [], i, n, _ => ⟨fun _ => rfl, by simp⟩
  | m :: r, i, n, hd => by
    have ih := lk_callOut f S' r (i + 1) n (fun j k m h1 h2 => by have := hd (j + 1) (k + 1) m (by simpa using h1) (by simpa using h2); omega)
    simp only [callOut, lk_cons]
    constructor
    · intro hn
      have hmn : m ≠ n := by rintro rfl; simp at hn
      rw [if_neg hmn]
      exact ih.1 (by simp at hn; exact hn.2)
    · intro j hj
      cases j with
      | zero =>
        simp at hj
        subst hj
        rw [if_pos rfl]
        cases lk S' i <;> simp [Option.map]
      | succ j =>
        simp at hj
        have hmn : m ≠ n := by
          rintro rfl
          have := hd 0 (j + 1) m rfl (by simpa using hj)
          omega
        rw [if_neg hmn, ih.2 j hj]
        congr 3
        omega

theorem argS_get {ns : List Nat} {S : Store} : ∀ {l : List Nat} {i : Nat} {Sa : Store}, argS ns S l i = some Sa →
    (∀ (j n : Nat), l[j]? = some n → ∃ b b', lk S n = some b ∧ argB ns S b = some b' ∧ lk Sa (i + j) = some b') ∧ (∀ (t : Nat) (b' : Blk), lk Sa t = some b' → ∃ j n b, t = i + j ∧ l[j]? = some n ∧ lk S n = some b ∧ argB ns S b = some b')
  | [], i, Sa, h => by simp [argS] at h; subst h; simp [lk]
  | n :: r, i, Sa, h => by
    simp only [argS] at h
    split at h
    · rename_i b hb
      split at h
      · rename_i b' hb'
        split at h
        · rename_i q hq
          cases h
          obtain ⟨h1, h2⟩ := argS_get hq
          constructor
          · intro j m hj
            cases j with
            | zero =>
              simp at hj
              subst hj
              exact ⟨b, b', hb, hb', by simp [lk_cons]⟩
            | succ j =>
              obtain ⟨c, c', e1, e2, e3⟩ := h1 j m (by simpa using hj)
              refine ⟨c, c', e1, e2, ?_⟩
              rw [lk_cons, if_neg (by omega), ← e3]
              congr 1
              omega
          · intro t c' ht
            rw [lk_cons] at ht
            by_cases e : i = t
            · rw [if_pos e] at ht
              cases ht
              exact ⟨0, n, b, by omega, rfl, hb, hb'⟩
            · rw [if_neg e] at ht
              obtain ⟨j, m, c, e1, e2, e3, e4⟩ := h2 t c' ht
              exact ⟨j + 1, m, c, by omega, by simpa using e2, e3, e4⟩
        · cases h
      · cases h
    · cases h
theorem live_argB {ns : List Nat} {S : Store} {b b' : Blk} (h : argB ns S b = some b') : live b = true ∧ live b' = true := by
  cases b <;> simp only [argB] at h
  · split at h <;> cases h; exact ⟨rfl, rfl⟩
  · cases h; exact ⟨rfl, rfl⟩
  · split at h <;> cases h; exact ⟨rfl, rfl⟩
  · cases h

theorem ltB_iff {k : Nat} {l : List Nat} : ltB k l = true ↔ ∀ n ∈ l, n < k := by
  induction l with
  | nil => simp [ltB]
  | cons m r ih =>
    simp only [ltB, Bool.and_eq_true, ih, List.mem_cons]
    constructor
    · rintro ⟨h1, h2⟩ n (rfl | hn)
      · exact Nat.le_of_ble_eq_true h1
      · exact h2 n hn
    · intro h
      exact ⟨Nat.ble_eq_true_of_le (h m (.inl rfl)), fun n hn => h n (.inr hn)⟩
theorem domB_get {k : Nat} {S : Store} (h : domB k S = true) {n : Nat} {b : Blk} (hl : lk S n = some b) : ∀ m ∈ blkNames b, m < k := by
  induction S with
  | nil => simp [lk] at hl
  | cons p r ih =>
    obtain ⟨m, c⟩ := p
    simp only [domB, Bool.and_eq_true] at h
    rw [lk_cons] at hl
    by_cases e : m = n
    · rw [if_pos e] at hl; cases hl; exact ltB_iff.1 h.1
    · rw [if_neg e] at hl; exact ih h.2 hl
theorem keysB_get {k : Nat} {S : Store} (h : keysB k S = true) {n : Nat} {b : Blk} (hl : lk S n = some b) : n < k := by
  induction S with
  | nil => simp [lk] at hl
  | cons p r ih =>
    obtain ⟨m, c⟩ := p
    simp only [keysB, Bool.and_eq_true] at h
    rw [lk_cons] at hl
    by_cases e : m = n
    · subst e; exact Nat.le_of_ble_eq_true h.1
    · rw [if_neg e] at hl; exact ih h.2 hl
theorem nmAs_mem {ds : List D} {d : D} (h : d ∈ ds) {n : Nat} (hn : n ∈ nmA d) : n ∈ nmAs ds := by
  induction ds with
  | nil => cases h
  | cons e r ih =>
    simp only [nmAs, List.mem_append]
    rcases List.mem_cons.1 h with rfl | h
    · exact .inl hn
    · exact .inr (ih h)
theorem nmDs_mem {ds : List D} {d : D} (h : d ∈ ds) {n : Nat} (hn : n ∈ nmD d) : n ∈ nmDs ds := by
  induction ds with
  | nil => cases h
  | cons e r ih =>
    simp only [nmDs, List.mem_append]
    rcases List.mem_cons.1 h with rfl | h
    · exact .inl hn
    · exact .inr (ih h)
theorem rowNames_mem {xs : List (List D)} {cs : List D} (h : cs ∈ xs) {n : Nat} (hn : n ∈ nmAs cs) : n ∈ rowNames xs := by
  induction xs with
  | nil => cases h
  | cons e r ih =>
    simp only [rowNames, List.mem_append]
    rcases List.mem_cons.1 h with rfl | h
    · exact .inl hn
    · exact .inr (ih h)
theorem storeNames_mem {S : Store} {l : List Nat} {n : Nat} (h : n ∈ l) {b : Blk} (hl : lk S n = some b) {m : Nat} (hm : m ∈ blkNames b) : m ∈ storeNames S l := by
  induction l with
  | nil => cases h
  | cons e r ih =>
    simp only [storeNames]
    rcases List.mem_cons.1 h with rfl | h
    · rw [hl]; simp [hm]
    · split
      · simp [ih h]
      · exact ih h

/-! a change of names -/
/-- what is handed back is told in the caller's names -/
structure Tell (w : World) (Av Av' : Nat → Prop) (ρ ρ' : Nat → Option Value) (f : Nat → Nat) (k : Nat) (p : D → Prop) : Prop where
  im : ∀ d u, VI w Av d u → p d → VI w Av' d u
  nm : ∀ t u, t < k → ρ t = some u → ρ' (f t) = some u
section tell
variable {w : World} {Av Av' : Nat → Prop} {ρ ρ' : Nat → Option Value} {f : Nat → Nat} {k : Nat} {p : D → Prop} (T : Tell w Av Av' ρ ρ' f k p)
include T
theorem Tell.va {d : D} {u : Value} (h : VA w Av ρ d u) (hk : ∀ n ∈ nmA d, n < k) (hp : p d) : VA w Av' ρ' (renA f d) u := by
  cases h with
  | im h =>
    have hr : renA f d = d := by cases h <;> rfl
    rw [hr]
    exact .im (T.im _ _ h hp)
  | own h h1 => exact .own (T.nm _ _ (hk _ (by simp [nmA])) h) h1
  | bp h => exact .bp (T.nm _ _ (hk _ (by simp [nmA])) h)
  | op h => exact .op (T.nm _ _ (hk _ (by simp [nmA])) h)
  | fn hl h =>
    refine .fn (by simpa using hl) fun i n u hn hu => ?_
    simp only [List.getElem?_map, Option.map_eq_some_iff] at hn
    obtain ⟨m, hm, rfl⟩ := hn
    obtain ⟨h1, h2⟩ := h i m u hm hu
    exact ⟨T.nm _ _ (hk _ (by simp only [nmA]; exact List.mem_of_getElem? hm)) h1, h2⟩
  | junk h1 => exact .junk h1
theorem Tell.cells {ds : List D} {us : List Value} (h : ∀ (i : Nat) (d : D) (u : Value), ds[i]? = some d → us[i]? = some u → VA w Av ρ d u) (hk : ∀ n ∈ nmAs ds, n < k) (hp : ∀ d ∈ ds, p d) :
    ∀ (i : Nat) (d : D) (u : Value), (ds.map (renA f))[i]? = some d → us[i]? = some u → VA w Av' ρ' d u := by
  intro i d u hd hu
  simp only [List.getElem?_map, Option.map_eq_some_iff] at hd
  obtain ⟨e, he, rfl⟩ := hd
  have hm := List.mem_of_getElem? he
  exact T.va (h i e u he hu) (fun n hn => hk n (nmAs_mem hm hn)) (hp e hm)
theorem Tell.vg {d : D} {u : Value} (h : VG w Av ρ d u) (hk : ∀ n ∈ nmD d, n < k) (hp : (∀ ds, d = .agg ds → ∀ e ∈ ds, p e) ∧ ((∀ ds, d ≠ .agg ds) → p d)) : VG w Av' ρ' (renG f d) u := by
  by_cases ha : ∃ ds, d = .agg ds
  · obtain ⟨ds, rfl⟩ := ha
    have core : ∀ us : List Value, u = .agg us.toArray → ds.length = us.length → (∀ u ∈ us, u.oneCell' = true) → (∀ (i : Nat) (d : D) (u : Value), ds[i]? = some d → us[i]? = some u → VA w Av ρ d u) → VG w Av' ρ' (renG f (.agg ds)) u := by
      intro us hu hl h1 hr
      subst hu
      exact .agg (by simpa using hl) h1 (T.cells hr hk (hp.1 ds rfl))
    cases h with
    | atom h =>
      cases h with
      | im h => cases h with | agg hl h1 hr => exact core _ rfl hl h1 fun i d u a b => .im (hr i d u a b)
    | agg hl h1 hr => exact core _ rfl hl h1 hr
  · have hr : renG f d = renA f d := by cases d <;> first | rfl | exact absurd ⟨_, rfl⟩ ha
    rw [hr]
    cases h with
    | atom h =>
      refine .atom (T.va h ?_ (hp.2 fun ds e => ha ⟨ds, e⟩))
      intro n hn
      refine hk n ?_
      cases d <;> first | exact hn | exact absurd ⟨_, rfl⟩ ha | (simp [nmA] at hn)
    | agg => exact absurd ⟨_, rfl⟩ ha
theorem Tell.rows {sz : Nat} {xs : List (List D)} {us : List Value} (h : Rows (VA w Av ρ) sz xs us) (hk : ∀ n ∈ rowNames xs, n < k) (hp : ∀ cs ∈ xs, ∀ d ∈ cs, p d) : Rows (VA w Av' ρ') sz (xs.map fun cs => cs.map (renA f)) us := by
  refine ⟨by rw [List.length_map]; exact h.len, fun cs hcs => ?_, h.one, fun i j cs d hc hd => ?_⟩
  · obtain ⟨cs0, h0, rfl⟩ := List.mem_map.1 hcs
    rw [List.length_map]; exact h.el cs0 h0
  · simp only [List.getElem?_map, Option.map_eq_some_iff] at hc
    obtain ⟨cs0, h0, rfl⟩ := hc
    simp only [List.getElem?_map, Option.map_eq_some_iff] at hd
    obtain ⟨d0, h1, rfl⟩ := hd
    obtain ⟨u, e1, e2⟩ := h.at_ i j cs0 d0 h0 h1
    have m0 := List.mem_of_getElem? h0
    have m1 := List.mem_of_getElem? h1
    exact ⟨u, e1, T.va e2 (fun n hn => hk n (rowNames_mem m0 (nmAs_mem m1 hn))) (hp cs0 m0 d0 m1)⟩
def blkAll (p : D → Prop) : Blk → Prop
  | .box _ cs => ∀ d ∈ cs, p d
  | .own _ xs => ∀ cs ∈ xs, ∀ d ∈ cs, p d
  | .row _ xs => ∀ cs ∈ xs, ∀ d ∈ cs, p d
  | .fr xs => p (.sl xs)
theorem Tell.sr {P : Program} {t : Nat} {b : Blk} (h : SR P w Av ρ t b) (ht : t < k) (hk : ∀ n ∈ blkNames b, n < k) (hp : blkAll p b) : SR P w Av' ρ' (f t) (renB f b) := by
  cases b with
  | box e cs =>
    obtain ⟨g, us, h0, hh, hl, h1, hc⟩ := h
    exact ⟨g, us, T.nm _ _ ht h0, hh, by simpa using hl, h1, T.cells hc hk hp⟩
  | own e xs =>
    obtain ⟨u, us, h0, ho, hc⟩ := h
    refine ⟨u, us, T.nm _ _ ht h0, ho, ⟨hc.len, hc.el, hc.one, fun i j cs d a b => ?_⟩⟩
    obtain ⟨v, e1, e2⟩ := hc.at_ i j cs d a b
    exact ⟨v, e1, T.im _ _ e2 (hp cs (List.mem_of_getElem? a) d (List.mem_of_getElem? b))⟩
  | row e xs =>
    obtain ⟨u, us, h0, ho, hc⟩ := h
    exact ⟨u, us, T.nm _ _ ht h0, by rw [List.length_map]; exact ho, T.rows hc hk hp⟩
  | fr xs =>
    obtain ⟨u, h0, hv⟩ := h
    exact ⟨u, T.nm _ _ ht h0, T.im _ _ hv hp⟩
def resAll (p : D → Prop) : D → Prop
  | .tup ds => ∀ d ∈ ds, (∀ es, d = .agg es → ∀ e ∈ es, p e) ∧ ((∀ es, d ≠ .agg es) → p d)
  | d => (∀ es, d = .agg es → ∀ e ∈ es, p e) ∧ ((∀ es, d ≠ .agg es) → p d)
theorem Tell.vr {d : D} {u : Value} (h : VR w Av ρ d u) (hk : ∀ n ∈ nmR d, n < k) (hp : resAll p d) : VR w Av' ρ' (renD f d) u := by
  by_cases ht : ∃ ds, d = .tup ds
  · obtain ⟨ds, rfl⟩ := ht
    cases h with
    | gr h => cases h with | atom h => cases h with | im h => cases h
    | tup hl h =>
      rename_i us
      refine .tup (by simpa using hl) fun i d u hd hu => ?_
      simp only [List.getElem?_map, Option.map_eq_some_iff] at hd
      obtain ⟨e, he, rfl⟩ := hd
      have hm := List.mem_of_getElem? he
      exact T.vg (h i e u he hu) (fun n hn => hk n (nmDs_mem hm hn)) (hp e hm)
  · have hr : renD f d = renG f d := by cases d <;> first | rfl | exact absurd ⟨_, rfl⟩ ht
    rw [hr]
    cases h with
    | gr h =>
      refine .gr (T.vg h ?_ ?_)
      · intro n hn
        refine hk n ?_
        cases d <;> first | exact hn | exact absurd ⟨_, rfl⟩ ht
      · cases d <;> first | exact hp | exact absurd ⟨_, rfl⟩ ht
    | tup => exact absurd ⟨_, rfl⟩ ht
end tell
end Go.Ab
