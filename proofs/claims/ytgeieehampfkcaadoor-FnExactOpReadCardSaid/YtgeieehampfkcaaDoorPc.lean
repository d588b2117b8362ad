/- The order of texts; paths and what they are in: in plain Lean. -/
import Derived.Test.YtgeieehampfkcaaDoorPb
namespace Go.Par
open Go.Ab

abbrev lt (a b : Bs) : Bool := Op.bytesLess a b
theorem lt_irrefl : ∀ a : Bs, lt a a = false
  | [] => rfl
  | x :: a => by
    have := lt_irrefl a
    simp only [lt, Op.bytesLess] at this ⊢
    simp [this]
theorem lt_trans : ∀ a b c : Bs, lt a b = true → lt b c = true → lt a c = true
  | [], _, [], _, h => by simp [lt, Op.bytesLess] at h
  | [], _, _ :: _, _, _ => rfl
  | _ :: _, [], _, h, _ => by simp [lt, Op.bytesLess] at h
  | _ :: _, _ :: _, [], _, h => by simp [lt, Op.bytesLess] at h
  | x :: a, y :: b, z :: c, h1, h2 => by
    have ih := lt_trans a b c
    simp only [lt, Op.bytesLess, Bool.or_eq_true, Bool.and_eq_true, decide_eq_true_eq, beq_iff_eq] at h1 h2 ih ⊢
    rcases h1 with h1 | ⟨rfl, h1⟩
    · rcases h2 with h2 | ⟨rfl, h2⟩
      · left; exact UInt8.lt_trans h1 h2
      · left; exact h1
    · rcases h2 with h2 | ⟨rfl, h2⟩
      · left; exact h2
      · right; exact ⟨rfl, ih h1 h2⟩
theorem lt_asymm (a b : Bs) (h : lt a b = true) : lt b a = false := by
  cases h' : lt b a with
  | false => rfl
  | true => have := lt_trans a b a h h'; rw [lt_irrefl] at this; cases this
theorem lt_ne {a b : Bs} (h : lt a b = true) : a ≠ b := by
  rintro rfl
  rw [lt_irrefl] at h
  cases h
theorem lt_total : ∀ a b : Bs, lt a b = true ∨ a = b ∨ lt b a = true
  | [], [] => .inr (.inl rfl)
  | [], _ :: _ => .inl rfl
  | _ :: _, [] => .inr (.inr rfl)
  | x :: a, y :: b => by
    have ih := lt_total a b
    simp only [lt, Op.bytesLess, Bool.or_eq_true, Bool.and_eq_true, decide_eq_true_eq, beq_iff_eq] at ih ⊢
    rcases Nat.lt_trichotomy x.toNat y.toNat with h | h | h
    · left; left; exact UInt8.lt_iff_toNat_lt.2 h
    · have : x = y := UInt8.toNat_inj.1 h
      subst this
      rcases ih with ih | rfl | ih
      · left; right; exact ⟨rfl, ih⟩
      · right; left; rfl
      · right; right; right; exact ⟨rfl, ih⟩
    · right; right; left; exact UInt8.lt_iff_toNat_lt.2 h
theorem lt_app : ∀ (a b : Bs), b ≠ [] → lt a (a ++ b) = true
  | [], [], h => absurd rfl h
  | [], _ :: _, _ => rfl
  | x :: a, b, h => by
    have := lt_app a b h
    simp only [lt, List.cons_append, Op.bytesLess] at this ⊢
    simp [this]
/-- a list of which each is less than the next one -/
def sorted (w : List Bs) : Prop := w.Pairwise fun a b => lt a b = true
theorem sorted_of {w : List Bs} (h : ∀ (i : Nat) (a b : Bs), w[i]? = some a → w[i + 1]? = some b → lt a b = true) : sorted w := by
  induction w with
  | nil => exact .nil
  | cons x w ih =>
    have ih := ih fun i a b h1 h2 => h (i + 1) a b (by simpa using h1) (by simpa using h2)
    refine .cons (fun b hb => ?_) ih
    match w, ih, hb with
    | y :: w, ih, hb =>
      have h0 := h 0 x y rfl rfl
      rcases List.mem_cons.1 hb with rfl | hb
      · exact h0
      · exact lt_trans x y b h0 ((List.pairwise_cons.1 ih).1 b hb)
theorem sorted_at {w : List Bs} (h : sorted w) {i j : Nat} {a b : Bs} (hi : w[i]? = some a) (hj : w[j]? = some b) (hij : i < j) : lt a b = true := by
  obtain ⟨hi', rfl⟩ := List.getElem?_eq_some_iff.1 hi
  obtain ⟨hj', rfl⟩ := List.getElem?_eq_some_iff.1 hj
  exact List.pairwise_iff_getElem.1 h i j hi' hj' hij
theorem sorted_inj {w : List Bs} (h : sorted w) {i j : Nat} {a : Bs} (hi : w[i]? = some a) (hj : w[j]? = some a) : i = j := by
  rcases Nat.lt_trichotomy i j with k | k | k
  · exact absurd rfl (lt_ne (sorted_at h hi hj k))
  · exact k
  · exact absurd rfl (lt_ne (sorted_at h hj hi k))
theorem sorted_less {w : List Bs} (h : sorted w) {i j : Nat} {a b : Bs} (hi : w[i]? = some a) (hj : w[j]? = some b) (hl : lt a b = true) : i < j := by
  rcases Nat.lt_trichotomy i j with k | k | k
  · exact k
  · subst k; rw [hi] at hj; cases hj; rw [lt_irrefl] at hl; cases hl
  · have := sorted_at h hj hi k
    rw [lt_asymm _ _ hl] at this
    cases this

/-! paths -/
theorem slashAt_le (s : Bs) : ∀ k, slashAt s k ≤ k
  | 0 => Nat.le_refl _
  | k + 1 => by
    unfold slashAt
    split
    · exact Nat.le_refl _
    · exact Nat.le_succ_of_le (slashAt_le s k)
theorem slashAt_skip (s : Bs) (j : Nat) : ∀ k, (∀ i, j < i → i ≤ j + k → s[i]? ≠ some 47) → slashAt s (j + k) = slashAt s j
  | 0, _ => rfl
  | k + 1, h => by
    rw [← Nat.add_assoc, slashAt, if_neg (h (j + k + 1) (by omega) (by omega))]
    exact slashAt_skip s j k fun i h1 h2 => h i h1 (by omega)
/-- the last stroke of a text that ends in a name -/
theorem slash_app (a b : Bs) (hb : 47 ∉ b) (hne : b ≠ []) : slash (a ++ 47 :: b) = a.length := by
  unfold slash
  have hl : 0 < b.length := List.length_pos_iff.2 hne
  have e : (a ++ 47 :: b).length - 1 = a.length + b.length := by simp
  rw [e, slashAt_skip]
  · cases h : a.length with
    | zero => rfl
    | succ n =>
      unfold slashAt
      rw [if_pos]
      rw [← h, List.getElem?_append_right (Nat.le_refl _)]
      simp
  · intro i h1 h2 h3
    rw [List.getElem?_append_right (by omega)] at h3
    have : i - a.length = (i - a.length - 1) + 1 := by omega
    rw [this, List.getElem?_cons_succ] at h3
    exact hb (List.mem_of_getElem? h3)
theorem name_free {a : Bs} (h : nameOk a = true) : 47 ∉ a ∧ a ≠ [] := by
  simp only [nameOk, Bool.and_eq_true, decide_eq_true_eq, List.all_eq_true] at h
  obtain ⟨⟨h1, h2⟩, h3⟩ := h
  refine ⟨fun hm => ?_, fun he => by rw [he] at h1; simp at h1⟩
  have := h3 47 hm
  simp [lower] at this
/-- a text of names, each with a stroke ahead of it -/
def ofNames : List Bs → Bs
  | [] => []
  | a :: q => 47 :: (a ++ ofNames q)
theorem join_of : ∀ (a : Bs) (q : List Bs), 47 :: join 47 (a :: q) = ofNames (a :: q)
  | a, [] => by simp [join, ofNames]
  | a, b :: q => by
    have := join_of b q
    rw [join, ofNames, ← this]
theorem ofNames_app : ∀ (w : List Bs) (a : Bs), ofNames (w ++ [a]) = ofNames w ++ 47 :: a
  | [], a => by simp [ofNames]
  | b :: w, a => by
    have := ofNames_app w a
    simp [ofNames, this]
theorem path_names {s : Bs} (h : pathOk s = true) : s = ofNames (names s) ∧ (names s).all nameOk = true ∧ 1 ≤ (names s).length ∧ (names s).length ≤ 3 ∧ s.length ≤ 12 := by
  simp only [pathOk, Bool.and_eq_true, decide_eq_true_eq] at h
  obtain ⟨⟨⟨h1, h2⟩, h3⟩, h4⟩ := h
  refine ⟨?_, h2, h3, h4, h1⟩
  match s, h3 with
  | x :: r, h3 =>
    have hn : names (x :: r) = if x = 47 ∧ r ≠ [] then cut 47 r else [] := rfl
    rw [hn] at h3 ⊢
    split at h3
    · rename_i hx
      rw [if_pos hx, hx.1]
      have := join_cut 47 r
      match hc : cut 47 r with
      | [] => exact absurd hc (cut_ne 47 r)
      | a :: q => rw [hc] at this; rw [← join_of, this]
    · simp at h3
theorem names_of {w : List Bs} (hw : w.all nameOk = true) (hne : w ≠ []) : names (ofNames w) = w := by
  match w, hne with
  | a :: q, _ =>
    rw [← join_of, names]
    have hf : ∀ x ∈ a :: q, 47 ∉ x := fun x hx => (name_free (List.all_eq_true.1 hw x hx)).1
    have hj : join 47 (a :: q) ≠ [] := by
      have ha := (name_free (List.all_eq_true.1 hw a (by simp))).2
      match q with
      | [] => simpa [join] using ha
      | b :: q => simp [join]
    rw [if_pos ⟨rfl, hj⟩, cut_join 47 _ (by simp) hf]
theorem ofNames_len : ∀ {w : List Bs}, w.all nameOk = true → (ofNames w).length ≤ 4 * w.length
  | [], _ => by simp [ofNames]
  | a :: w, h => by
    simp only [List.all_cons, Bool.and_eq_true] at h
    have := ofNames_len h.2
    have h1 := h.1
    simp only [nameOk, Bool.and_eq_true, decide_eq_true_eq] at h1
    simp only [ofNames, List.length_cons, List.length_append]
    omega
theorem pathOk_of {w : List Bs} (hw : w.all nameOk = true) (h1 : 1 ≤ w.length) (h3 : w.length ≤ 3) : pathOk (ofNames w) = true := by
  have hn := names_of hw (by rintro rfl; simp at h1)
  have := ofNames_len hw
  simp only [pathOk, hn, hw, Bool.and_eq_true, decide_eq_true_eq]
  refine ⟨⟨⟨?_, trivial⟩, h1⟩, h3⟩
  omega
/-- a path is that of its names but the last, and the last -/
theorem path_split {s : Bs} (h : pathOk s = true) : ∃ w a, names s = w ++ [a] ∧ w.all nameOk = true ∧ nameOk a = true ∧ w.length ≤ 2 ∧ s = ofNames w ++ 47 :: a := by
  obtain ⟨h1, h2, h3, h4, _⟩ := path_names h
  have hne : names s ≠ [] := by intro e; rw [e] at h3; simp at h3
  refine ⟨(names s).dropLast, (names s).getLast hne, (List.dropLast_concat_getLast hne).symm, ?_, ?_, ?_, ?_⟩
  · exact List.all_eq_true.2 fun x hx => List.all_eq_true.1 h2 x (List.dropLast_subset _ hx)
  · exact List.all_eq_true.1 h2 _ (List.getLast_mem hne)
  · simp; omega
  · rw [← ofNames_app, List.dropLast_concat_getLast hne]; exact h1
theorem pathUp_split {w : List Bs} {a : Bs} (hw : w.all nameOk = true) (ha : nameOk a = true) (hl : w.length ≤ 2) : pathUp (ofNames w ++ 47 :: a) = if w = [] then [47] else ofNames w := by
  have hok : pathOk (ofNames w ++ 47 :: a) = true := by
    rw [← ofNames_app]
    exact pathOk_of (by simp [hw, ha]) (by simp) (by simp; omega)
  obtain ⟨f1, f2⟩ := name_free ha
  rw [pathUp, if_pos hok, slash_app _ _ f1 f2]
  match w with
  | [] => simp [ofNames]
  | b :: q =>
    rw [if_neg (by simp [ofNames]), if_neg (by simp)]
    simp
theorem pathName_split {w : List Bs} {a : Bs} (hw : w.all nameOk = true) (ha : nameOk a = true) (hl : w.length ≤ 2) : pathName (ofNames w ++ 47 :: a) = a := by
  have hok : pathOk (ofNames w ++ 47 :: a) = true := by
    rw [← ofNames_app]
    exact pathOk_of (by simp [hw, ha]) (by simp) (by simp; omega)
  obtain ⟨f1, f2⟩ := name_free ha
  rw [pathName, if_pos hok, slash_app _ _ f1 f2]
  simp
theorem pathUp_less {s : Bs} (h : pathOk s = true) : pathUp s = [47] ∨ (pathOk (pathUp s) = true ∧ lt (pathUp s) s = true) := by
  obtain ⟨w, a, h1, hw, ha, hl, rfl⟩ := path_split h
  rw [pathUp_split hw ha hl]
  by_cases hn : w = []
  · rw [if_pos hn]; exact .inl rfl
  · rw [if_neg hn]
    refine .inr ⟨pathOk_of hw ?_ (by omega), lt_app _ _ (by simp)⟩
    exact List.length_pos_iff.2 hn
/-- as the program finds it: by the names -/
theorem pathUp_join {s : Bs} (h : pathOk s = true) : pathUp s = 47 :: join 47 ((names s).dropLast) := by
  obtain ⟨w, a, h1, hw, ha, hl, rfl⟩ := path_split h
  rw [pathUp_split hw ha hl, h1]
  simp only [List.dropLast_concat]
  match w with
  | [] => rfl
  | b :: q => rw [if_neg (by simp), join_of]
theorem ld_false {b : UInt8} (h : ((b.toNat : Int) < 97 ∨ (b.toNat : Int) > 122) ∧ ((b.toNat : Int) < 48 ∨ (b.toNat : Int) > 57)) : (lower b || digit b) = false := by
  have h1 : lower b = false := by
    unfold lower
    rcases h.1 with h | h
    · have : ¬ 97 ≤ b.toNat := by omega
      simp [this]
    · have : ¬ b.toNat ≤ 122 := by omega
      simp [this]
  have h2 : digit b = false := by
    unfold digit
    rcases h.2 with h | h
    · have : ¬ 48 ≤ b.toNat := by omega
      simp [this]
    · have : ¬ b.toNat ≤ 57 := by omega
      simp [this]
  rw [h1, h2]; rfl
theorem ld_true {b : UInt8} (h : ((97 : Int) ≤ b.toNat ∧ (b.toNat : Int) ≤ 122) ∨ ((48 : Int) ≤ b.toNat ∧ (b.toNat : Int) ≤ 57)) : (lower b || digit b) = true := by
  rcases h with h | h
  · have : lower b = true := by
      unfold lower
      have : 97 ≤ b.toNat := by omega
      have : b.toNat ≤ 122 := by omega
      simp [*]
    rw [this]; rfl
  · have : digit b = true := by
      unfold digit
      have : 48 ≤ b.toNat := by omega
      have : b.toNat ≤ 57 := by omega
      simp [*]
    rw [this]; simp
theorem slash_le (s : Bs) : slash s ≤ s.length := Nat.le_trans (slashAt_le s _) (Nat.sub_le _ _)
theorem pathOk_pos {s : Bs} (h : pathOk s = true) : 1 ≤ s.length ∧ s.length ≤ 12 := by
  obtain ⟨h1, _, h3, _, h5⟩ := path_names h
  refine ⟨?_, h5⟩
  match s, h3 with
  | x :: r, _ => simp
theorem pathUp_len (s : Bs) : (pathUp s).length ≤ 12 := by
  unfold pathUp
  split
  · rename_i h
    have := pathOk_pos h
    split
    · simp
    · rw [List.length_take]; omega
  · simp
theorem pathOk_eq {s : Bs} {w : List Bs} (h : names s = w) : pathOk s = (decide (s.length ≤ 12) && w.all nameOk && decide (1 ≤ w.length) && decide (w.length ≤ 3)) := by rw [pathOk, h]
end Go.Par
