/- Cuts of a text at a byte, names, paths: in plain Lean. -/
import Derived.Test.YtgeieehampfkcaaDoorPa
import Derived.Lib.SplitLaws
namespace Go.Par
open Go.Ab

/-- a text, cut at a byte -/
def cut (c : UInt8) : Bs → List Bs
  | [] => [[]]
  | x :: r => if x = c then [] :: cut c r else match cut c r with
    | [] => [[x]]
    | a :: q => (x :: a) :: q
def join (c : UInt8) : List Bs → Bs
  | [] => []
  | [a] => a
  | a :: b :: q => a ++ c :: join c (b :: q)
theorem cut_ne (c : UInt8) : ∀ l : Bs, cut c l ≠ []
  | [] => by simp [cut]
  | x :: r => by
    unfold cut
    split
    · simp
    · split <;> simp
theorem cut_cons (c : UInt8) (x : UInt8) (r : Bs) (h : x ≠ c) : ∃ a q, cut c r = a :: q ∧ cut c (x :: r) = (x :: a) :: q := by
  match hc : cut c r with
  | [] => exact absurd hc (cut_ne c r)
  | a :: q => exact ⟨a, q, rfl, by rw [cut, if_neg h, hc]⟩
theorem join_cut (c : UInt8) : ∀ l : Bs, join c (cut c l) = l
  | [] => rfl
  | x :: r => by
    by_cases h : x = c
    · subst h
      rw [cut, if_pos rfl]
      match hc : cut x r with
      | [] => exact absurd hc (cut_ne x r)
      | a :: q =>
        have := join_cut x r
        rw [hc] at this
        simp [join, this]
    · obtain ⟨a, q, h1, h2⟩ := cut_cons c x r h
      have := join_cut c r
      rw [h1] at this
      rw [h2]
      match q, this with
      | [], this => simpa [join] using this
      | b :: q, this => simpa [join] using this
theorem cut_free (c : UInt8) : ∀ (l : Bs), ∀ a ∈ cut c l, c ∉ a
  | [], a, h => by simp [cut] at h; simp [h]
  | x :: r, a, h => by
    by_cases hx : x = c
    · rw [cut, if_pos hx] at h
      rcases List.mem_cons.1 h with rfl | h
      · simp
      · exact cut_free c r a h
    · obtain ⟨b, q, h1, h2⟩ := cut_cons c x r hx
      rw [h2] at h
      rcases List.mem_cons.1 h with rfl | h
      · have := cut_free c r b (by rw [h1]; simp)
        simp [this, Ne.symm hx]
      · exact cut_free c r a (by rw [h1]; simp [h])
theorem cut_app (c : UInt8) : ∀ (a r : Bs), c ∉ a → cut c (a ++ c :: r) = a :: cut c r
  | [], r, _ => by simp [cut]
  | x :: a, r, h => by
    have hx : x ≠ c := by rintro rfl; simp at h
    have ih := cut_app c a r (by simp at h; exact h.2)
    simp only [List.cons_append]
    rw [cut, if_neg hx, ih]
theorem cut_none (c : UInt8) : ∀ (a : Bs), c ∉ a → cut c a = [a]
  | [], _ => rfl
  | x :: a, h => by
    have hx : x ≠ c := by rintro rfl; simp at h
    rw [cut, if_neg hx, cut_none c a (by simp at h; exact h.2)]
theorem cut_join (c : UInt8) : ∀ (w : List Bs), w ≠ [] → (∀ a ∈ w, c ∉ a) → cut c (join c w) = w
  | [], h, _ => absurd rfl h
  | [a], _, h => cut_none c a (h a (by simp))
  | a :: b :: q, _, h => by
    rw [join, cut_app c a _ (h a (by simp)), cut_join c (b :: q) (by simp) (fun x hx => h x (by simp [hx]))]

theorem index_hit {l : Bs} {c : UInt8} {i : Nat} (h : Lib.index l [c] = (i : Int)) (b : UInt8) (hb : b ≠ c) : Lib.index (b :: l) [c] = ((i + 1 : Nat) : Int) := by
  rw [Lib.index]
  have : ([c] : Bs).isPrefixOf (b :: l) = false := by simp [List.isPrefixOf, Ne.symm hb]
  rw [this, h]
  simp
theorem split_eq (c : UInt8) : ∀ s : Bs, Lib.splitK [c] 0 (Lib.count s [c]) s = cut c s
  | [] => by
    have : Lib.count [] [c] = 0 := Lib.count_miss (by simp [Lib.index])
    rw [this]; rfl
  | b :: l => by
    have ih := split_eq c l
    by_cases hb : b = c
    · subst hb
      have hi : Lib.index (b :: l) [b] = ((0 : Nat) : Int) := by simp [Lib.index, List.isPrefixOf]
      rw [Lib.count_cons_eq, Nat.add_comm, Lib.splitK, hi, cut, if_pos rfl]
      simp [ih]
    · rw [Lib.count_cons_ne b c l hb]
      obtain ⟨a, q, h1, h2⟩ := cut_cons c b l hb
      rw [h2]
      rcases Lib.index_spec l [c] with ⟨hm, _⟩ | ⟨i, hi, _⟩
      · rw [Lib.count_miss hm] at ih ⊢
        rw [h1] at ih
        simp only [Lib.splitK] at ih ⊢
        simp at ih
        rw [← ih.1, ← ih.2]
      · rw [Lib.count_hit (by simp) hi, Nat.add_comm] at ih ⊢
        rw [h1] at ih
        simp only [Lib.splitK] at ih ⊢
        rw [index_hit hi b hb]
        rw [hi] at ih
        have n1 : ¬ (((i : Nat) : Int) == -1) = true := by intro e; have := beq_iff_eq.1 e; omega
        have n2 : ¬ (((i + 1 : Nat) : Int) == -1) = true := by intro e; have := beq_iff_eq.1 e; omega
        rw [if_neg n1] at ih
        rw [if_neg n2]
        simp only [Int.toNat_natCast, Nat.add_zero, List.length_cons, List.length_nil] at ih ⊢
        rw [List.cons.injEq] at ih
        obtain ⟨e1, e2⟩ := ih
        rw [← e1, ← e2]
        simp

def lower (b : UInt8) : Bool := decide (97 ≤ b.toNat) && decide (b.toNat ≤ 122)
def digit (b : UInt8) : Bool := decide (48 ≤ b.toNat) && decide (b.toNat ≤ 57)
def nameOk (s : Bs) : Bool := decide (1 ≤ s.length) && decide (s.length ≤ 3) && s.all lower
def dataOk (s : Bs) : Bool := decide (s.length ≤ 6) && s.all fun b => lower b || digit b
/-- the names of what may be a path -/
def names : Bs → List Bs
  | [] => []
  | x :: r => if x = 47 ∧ r ≠ [] then cut 47 r else []
def pathOk (s : Bs) : Bool := decide (s.length ≤ 12) && (names s).all nameOk && decide (1 ≤ (names s).length) && decide ((names s).length ≤ 3)
/-- where the last stroke is -/
def slashAt (s : Bs) : Nat → Nat
  | 0 => 0
  | k + 1 => if s[k + 1]? = some 47 then k + 1 else slashAt s k
def slash (s : Bs) : Nat := slashAt s (s.length - 1)
def pathUp (s : Bs) : Bs := if pathOk s then (if slash s = 0 then [47] else s.take (slash s)) else []
def pathName (s : Bs) : Bs := if pathOk s then s.drop (slash s + 1) else []

/-- how far a text is cut: all ahead of place i is looked at; the piece at hand began at fr -/
structure cutting (s : Bs) (c : UInt8) (i fr : Nat) (done : List Bs) : Prop where
  len : done.length ≤ fr
  le : fr ≤ i
  fin : i ≤ s.length → cut c s = done ++ cut c (s.drop fr)
  free : ∀ k, fr ≤ k → k < i → s[k]? ≠ some c
  all : s.length < i → cut c s = done
  up : i ≤ s.length + 1
theorem cutting_none (s : Bs) (c : UInt8) : cutting s c 0 0 [] := ⟨by simp, Nat.le_refl _, fun _ => by simp, fun k _ h => absurd h (Nat.not_lt_zero _), fun h => absurd h (Nat.not_lt_zero _), Nat.zero_le _⟩
theorem piece_free {s : Bs} {c : UInt8} {i fr : Nat} (h : ∀ k, fr ≤ k → k < i → s[k]? ≠ some c) : c ∉ (s.take i).drop fr := by
  intro hm
  obtain ⟨k, hk⟩ := List.mem_iff_getElem?.1 hm
  rw [List.getElem?_drop, List.getElem?_take] at hk
  split at hk
  · exact h (fr + k) (by omega) (by omega) hk
  · cases hk
theorem cutting.hit {s : Bs} {c : UInt8} {i fr : Nat} {done : List Bs} (h : cutting s c i fr done) (hi : i < s.length) (hc : s[i]? = some c) : cutting s c (i + 1) (i + 1) (done ++ [(s.take i).drop fr]) := by
  have := h.len
  have := h.le
  refine ⟨by simp; omega, Nat.le_refl _, fun _ => ?_, fun k h1 h2 => by omega, fun h' => by omega, by omega⟩
  rw [h.fin (by omega), List.append_assoc]
  congr 1
  have e : s.drop fr = (s.take i).drop fr ++ c :: s.drop (i + 1) := by
    have h1 : s.drop fr = (s.take i ++ s.drop i).drop fr := by rw [List.take_append_drop]
    rw [h1, List.drop_append]
    have h2 : fr - (s.take i).length = 0 := by simp; omega
    rw [h2, List.drop_zero]
    congr 1
    obtain ⟨hlt, he⟩ := List.getElem?_eq_some_iff.1 hc
    rw [List.drop_eq_getElem_cons hlt, he]
  rw [e, cut_app c _ _ (piece_free h.free)]
  rfl
theorem cutting.miss {s : Bs} {c : UInt8} {i fr : Nat} {done : List Bs} (h : cutting s c i fr done) (hi : i < s.length) (hc : s[i]? ≠ some c) : cutting s c (i + 1) fr done := by
  refine ⟨h.len, Nat.le_succ_of_le h.le, fun _ => h.fin (by omega), fun k h1 h2 => ?_, fun h' => by omega, by omega⟩
  by_cases hk : k = i
  · subst hk; exact hc
  · exact h.free k h1 (by omega)
theorem cutting.last {s : Bs} {c : UInt8} {fr : Nat} {done : List Bs} (h : cutting s c s.length fr done) : cutting s c (s.length + 1) (s.length + 1) (done ++ [(s.take s.length).drop fr]) := by
  have := h.len
  have := h.le
  refine ⟨by simp; omega, Nat.le_refl _, fun h' => by omega, fun k h1 h2 => by omega, fun _ => ?_, Nat.le_refl _⟩
  rw [h.fin (Nat.le_refl _)]
  have := piece_free h.free
  rw [List.take_length] at this ⊢
  rw [cut_none c _ this]
theorem cut_len (c : UInt8) : ∀ l : Bs, (cut c l).length ≤ l.length + 1
  | [] => Nat.le_refl _
  | x :: r => by
    have := cut_len c r
    by_cases h : x = c
    · rw [cut, if_pos h]; simp; omega
    · obtain ⟨a, q, h1, h2⟩ := cut_cons c x r h
      rw [h1] at this
      rw [h2]
      simp at this ⊢
      omega
theorem names_len (s : Bs) : (names s).length ≤ s.length + 1 := by
  match s with
  | [] => simp [names]
  | x :: r =>
    have := cut_len 47 r
    have hn : names (x :: r) = if x = 47 ∧ r ≠ [] then cut 47 r else [] := rfl
    rw [hn]
    split
    · simp; omega
    · simp
theorem join_len (c : UInt8) : ∀ (w : List Bs), ∀ a ∈ w, a.length ≤ (join c w).length
  | [], a, h => by simp at h
  | [b], a, h => by simp at h; simp [join, h]
  | b :: d :: q, a, h => by
    rcases List.mem_cons.1 h with rfl | h
    · simp [join]
    · have := join_len c (d :: q) a h
      simp [join]
      omega
theorem cut_piece (c : UInt8) (l : Bs) : ∀ a ∈ cut c l, a.length ≤ l.length := by
  intro a h
  have := join_len c (cut c l) a h
  rwa [join_cut] at this
theorem names_piece (s : Bs) : ∀ a ∈ names s, a.length ≤ s.length := by
  match s with
  | [] => simp [names]
  | x :: r =>
    intro a h
    have hn : names (x :: r) = if x = 47 ∧ r ≠ [] then cut 47 r else [] := rfl
    rw [hn] at h
    split at h
    · have := cut_piece 47 r a h
      simp; omega
    · simp at h
end Go.Par
