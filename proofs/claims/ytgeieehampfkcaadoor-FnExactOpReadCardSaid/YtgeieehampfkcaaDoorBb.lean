/- An abstract reading of the elaborated code. Part 2: what stays when memory grows. -/
import Derived.Test.YtgeieehampfkcaaDoorBa
namespace Go.Ab
open Go Go.RowKit

variable {P : Program}
theorem beq_no {n m : Nat} (h : ¬ n = m) : Nat.beq n m = false := by
  cases hb : Nat.beq n m
  · rfl
  · exact absurd (Nat.eq_of_beq_eq_true hb) h
theorem lk_cons {α : Type} (n : Nat) (a : α) (r : List (Nat × α)) (m : Nat) : lk ((n, a) :: r) m = if n = m then some a else lk r m := by
  by_cases h : n = m
  · subst h; simp [lk]
  · simp [lk, h, beq_no h]
theorem lk_mem {α : Type} {l : List (Nat × α)} {m : Nat} {a : α} (h : lk l m = some a) : (m, a) ∈ l := by
  induction l with
  | nil => simp [lk] at h
  | cons p l ih =>
    obtain ⟨n, x⟩ := p
    rw [lk_cons] at h
    by_cases hn : n = m
    · subst hn; simp at h; subst h; simp
    · rw [if_neg hn] at h; exact List.mem_cons_of_mem _ (ih h)
theorem lk_del {α : Type} (l : List (Nat × α)) (m t : Nat) : lk (del m l) t = if t = m then none else lk l t := by
  induction l with
  | nil => simp [del, lk]
  | cons p l ih =>
    obtain ⟨n, a⟩ := p
    simp only [del]
    by_cases hn : n = m
    · subst hn
      simp only [Nat.beq_refl, lk_cons, ih]
      by_cases ht : t = n
      · simp [ht]
      · simp [ht, Ne.symm ht]
    · have : Nat.beq n m = false := beq_no hn
      simp only [this, lk_cons, ih]
      by_cases ht : t = m
      · subst ht; simp [hn]
      · simp [ht]
theorem lk_map {α β : Type} (f : α → β) (l : List (Nat × α)) (m : Nat) : lk (l.map fun (t, d) => (t, f d)) m = (lk l m).map f := by
  induction l with
  | nil => rfl
  | cons p l ih =>
    obtain ⟨n, a⟩ := p
    simp only [List.map_cons, lk_cons, ih]
    by_cases h : n = m <;> simp [h]
theorem lk_ap (out : Out) (S : Store) (n : Nat) : lk (ap out S) n = match lk out n with | some o => o | none => lk S n := by
  induction out with
  | nil => simp [ap, lk]
  | cons p r ih =>
    obtain ⟨m, o⟩ := p
    rw [lk_cons]
    by_cases h : m = n
    · subst h
      cases o with
      | some b => simp [ap, lk_cons]
      | none => simp [ap, lk_del]
    · rw [if_neg h]
      cases o with
      | some b => simp only [ap, lk_cons, if_neg h, lk_del, if_neg (Ne.symm h)]; exact ih
      | none => simp only [ap, lk_del, if_neg (Ne.symm h)]; exact ih
theorem memB_iff {n : Nat} {l : List Nat} : memB n l = true ↔ n ∈ l := by
  induction l with
  | nil => simp [memB]
  | cons m r ih =>
    simp only [memB, Bool.or_eq_true, ih, List.mem_cons]
    constructor
    · rintro (h | h)
      · exact .inl (Nat.eq_of_beq_eq_true h).symm
      · exact .inr h
    · rintro (h | h)
      · subst h; exact .inl (Nat.beq_refl n)
      · exact .inr h
theorem nodupB_get {l : List Nat} (h : nodupB l = true) : ∀ (i j n : Nat), l[i]? = some n → l[j]? = some n → i = j := by
  induction l with
  | nil => simp
  | cons m r ih =>
    simp only [nodupB, Bool.and_eq_true] at h
    obtain ⟨h1, h2⟩ := h
    have hm : m ∉ r := fun hin => by simp [memB_iff.2 hin] at h1
    intro i j n hi hj
    cases i with
    | zero =>
      simp at hi
      subst hi
      cases j with
      | zero => rfl
      | succ j => exact absurd (List.mem_of_getElem? (by simpa using hj)) hm
    | succ i =>
      cases j with
      | zero =>
        simp at hj
        subst hj
        exact absurd (List.mem_of_getElem? (by simpa using hi)) hm
      | succ j => rw [ih h2 i j n (by simpa using hi) (by simpa using hj)]
theorem posOf_get : ∀ {ns : List Nat} {n i : Nat}, posOf ns n = some i → ns[i]? = some n
  | [], _, _, h => by simp [posOf] at h
  | m :: r, n, i, h => by
    simp only [posOf] at h
    split at h
    · rename_i hb
      cases h
      simp [Nat.eq_of_beq_eq_true hb]
    · split at h
      · rename_i j hj
        cases h
        simpa using posOf_get hj
      · cases h
theorem posOf_none : ∀ {ns : List Nat} {n : Nat}, posOf ns n = none → n ∉ ns
  | [], _, _ => by simp
  | m :: r, n, h => by
    simp only [posOf] at h
    split at h
    · cases h
    · rename_i hb
      split at h
      · cases h
      · rename_i hj
        have : m ≠ n := by rintro rfl; rw [Nat.beq_refl] at hb; cases hb
        simp [Ne.symm this, posOf_none hj]
theorem posAll_get : ∀ {ns l q : List Nat}, posAll ns l = some q → q.length = l.length ∧ ∀ (i n m : Nat), l[i]? = some n → q[i]? = some m → ns[m]? = some n
  | ns, [], q, h => by simp [posAll] at h; subst h; simp
  | ns, n :: r, q, h => by
    simp only [posAll] at h
    split at h
    · rename_i i hi
      split at h
      · rename_i q' hq
        cases h
        obtain ⟨h1, h2⟩ := posAll_get hq
        refine ⟨by simp [h1], fun j a m hj hm => ?_⟩
        cases j with
        | zero => simp at hj hm; subst hj hm; exact posOf_get hi
        | succ j => exact h2 j a m (by simpa using hj) (by simpa using hm)
      · cases h
    · cases h

theorem VI.one {w : World} {Av : Nat → Prop} {d : D} {u : Value} (h : VI w Av d u) (hd : ∀ ds, d ≠ .agg ds) : u.oneCell' = true := by
  cases h <;> first | rfl | assumption | (exact absurd rfl (hd _))
theorem add_block (a : Addr) (n : Nat) : (a.add n).block = a.block := by unfold Addr.add; split <;> rfl
theorem ne_nil_of_get {α : Type} {l : List α} {i : Nat} {a : α} (h : l[i]? = some a) : l ≠ [] := by
  rintro rfl
  simp at h
theorem VI.mono {w w' : World} {Av Av' : Nat → Prop} (hk : ∀ b, b < w.heap.size → ¬ Av b → w'.heap[b]? = w.heap[b]?) (hz : w.heap.size ≤ w'.heap.size)
    (ha : ∀ b, b < w.heap.size → Av' b → Av b) {d : D} {u : Value} (h : VI w Av d u) : VI w' Av' d u := by
  induction h with
  | b x => exact .b x
  | k kd n => exact .k kd n
  | s l => exact .s l
  | v h => exact .v h
  | fn f => exact .fn f
  | nil => exact .nil
  | sl0 => exact .sl0
  | sl U hn hnc hc hb hav hsz hcell h1 _ ih =>
    refine .sl U hn hnc hc (fun hx => Nat.lt_of_lt_of_le (hb hx) hz) (fun hx h => hav hx (ha _ (hb hx) h)) hsz (fun i j cs d h h' => ?_) h1 ih
    have hx := ne_nil_of_get h
    rw [World.cell?_of_block (w := w) (by rw [add_block]; exact hk _ (hb hx) (hav hx))]
    exact hcell i j cs d h h'
  | ep U hb hav hcell h1 _ ih =>
    refine .ep U (by omega) (fun h => hav (ha _ hb h)) (fun j d h => ?_) h1 ih
    rw [World.cell?_of_block (w := w) (by rw [add_block]; exact hk _ hb hav)]
    exact hcell j d h
  | agg hl h1 _ ih => exact .agg hl h1 ih

section
variable {w w' : World} {Av Av' : Nat → Prop} {ρ ρ' : Nat → Option Value}
theorem VA.mono (hi : ∀ d u, VI w Av d u → VI w' Av' d u) (hr : ∀ t u, ρ t = some u → ρ' t = some u) {d : D} {u : Value} (h : VA w Av ρ d u) : VA w' Av' ρ' d u := by
  cases h with
  | im h => exact .im (hi _ _ h)
  | own h h1 => exact .own (hr _ _ h) h1
  | bp h => exact .bp (hr _ _ h)
  | op h => exact .op (hr _ _ h)
  | fn hl h => exact .fn hl fun i n u a b => let ⟨h1, h2⟩ := h i n u a b; ⟨hr _ _ h1, h2⟩
  | junk h1 => exact .junk h1
theorem VG.mono (hi : ∀ d u, VI w Av d u → VI w' Av' d u) (hr : ∀ t u, ρ t = some u → ρ' t = some u) {d : D} {u : Value} (h : VG w Av ρ d u) : VG w' Av' ρ' d u := by
  cases h with
  | atom h => exact .atom (h.mono hi hr)
  | agg hl h1 h => exact .agg hl h1 fun i d u a b => (h i d u a b).mono hi hr
theorem VR.mono (hi : ∀ d u, VI w Av d u → VI w' Av' d u) (hr : ∀ t u, ρ t = some u → ρ' t = some u) {d : D} {u : Value} (h : VR w Av ρ d u) : VR w' Av' ρ' d u := by
  cases h with
  | gr h => exact .gr (h.mono hi hr)
  | tup hl h => exact .tup hl fun i d u a b => (h i d u a b).mono hi hr
theorem VA.one {d : D} {u : Value} (h : VA w Av ρ d u) (hd : ∀ ds, d ≠ .agg ds) : u.oneCell' = true := by
  cases h with
  | im h => exact h.one hd
  | own h h1 => exact h1
  | bp h => rfl
  | op h => rfl
  | fn => rfl
  | junk h1 => exact h1
theorem VI.noImm {d : D} {u : Value} (h : VI w Av d u) (hn : NoImmA d) : VI w' Av' d u := by
  cases h with
  | b x => exact .b x
  | k kd n => exact .k kd n
  | s l => exact .s l
  | v h => exact .v h
  | fn f => exact .fn f
  | nil => exact .nil
  | sl0 => exact .sl0
  | sl => exact hn.elim
  | ep => exact hn.elim
  | agg => exact hn.elim
end
end Go.Ab
