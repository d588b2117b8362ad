/- Texts of this claim, set close: lemmas and contracts. -/
import Derived.Test.YtlicaibhgcenhaaGreatDoorWZY2
import Derived.Lib.SplitLaws
import Derived.Test.YtlicaibhgcenhaaGreatDoorWZY3
import Derived.Lib.Bytealg
set_option linter.unusedSimpArgs false
set_option linter.unusedVariables false
namespace Go.Par
open Go.Ab
abbrev Bs := List UInt8
structure Ent where
 path : Bs
 dir : Bool
 data : Bs
 deriving DecidableEq
structure Mrk where
 path : Bs
 kind : Int
 data : Bs
 deriving DecidableEq
def Ent.c (e : Ent) : List D := [.s e.path, .b e.dir, .s e.data]
def Mrk.c (m : Mrk) : List D := [.s m.path, .k .i64 m.kind, .s m.data]
def less (n : Int) (k : Nat) : Int := if n - k < 0 then -1 else n - k
def less2 (n : Int) (p d : Nat) : Int := if n - p < 0 then -1 else if n - p - d < 0 then -1 else n - p - d
theorem less2_or (n : Int) (p d : Nat) : less2 n p d < 0 ∨ (less2 n p d + p + d = n ∧ 0 ≤ less2 n p d) := by
 unfold less2
 split
 · left; omega
 · split
   · left; omega
   · right; omega
end Go.Par
namespace Go.Par
open Go.Ab
def cut (c : UInt8) : Bs → List Bs
 | [] => [[]]
 | x :: r => if x = c then [] :: cut c r else match cut c r with
   | [] => [[x]]
   | a :: q => (x :: a) :: q
def join (c : UInt8) : List Bs → Bs
 | [] => []
 | [a] => a
 | a :: b :: q => a ++ c :: join c (b :: q)
theorem cut_ne (c : UInt8) : ∀ l : Bs, cut c l ≠ []
 | [] => by simp [cut]
 | x :: r => by
   unfold cut
   split
   · simp
   · split <;> simp
theorem cut_cons (c : UInt8) (x : UInt8) (r : Bs) (h : x ≠ c) : ∃ a q, cut c r = a :: q ∧ cut c (x :: r) = (x :: a) :: q := by
 match hc : cut c r with
 | [] => exact absurd hc (cut_ne c r)
 | a :: q => exact ⟨a, q, rfl, by rw [cut, if_neg h, hc]⟩
theorem join_cut (c : UInt8) : ∀ l : Bs, join c (cut c l) = l
 | [] => rfl
 | x :: r => by
   by_cases h : x = c
   · subst h
     rw [cut, if_pos rfl]
     match hc : cut x r with
     | [] => exact absurd hc (cut_ne x r)
     | a :: q =>
       have := join_cut x r
       rw [hc] at this
       simp [join, this]
   · obtain ⟨a, q, h1, h2⟩ := cut_cons c x r h
     have := join_cut c r
     rw [h1] at this
     rw [h2]
     match q, this with
     | [], this => simpa [join] using this
     | b :: q, this => simpa [join] using this
theorem cut_app (c : UInt8) : ∀ (a r : Bs), c ∉ a → cut c (a ++ c :: r) = a :: cut c r
 | [], r, _ => by simp [cut]
 | x :: a, r, h => by
   have hx : x ≠ c := by rintro rfl; simp at h
   have ih := cut_app c a r (by simp at h; exact h.2)
   simp only [List.cons_append]
   rw [cut, if_neg hx, ih]
theorem cut_none (c : UInt8) : ∀ (a : Bs), c ∉ a → cut c a = [a]
 | [], _ => rfl
 | x :: a, h => by
   have hx : x ≠ c := by rintro rfl; simp at h
   rw [cut, if_neg hx, cut_none c a (by simp at h; exact h.2)]
theorem cut_join (c : UInt8) : ∀ (w : List Bs), w ≠ [] → (∀ a ∈ w, c ∉ a) → cut c (join c w) = w
 | [], h, _ => absurd rfl h
 | [a], _, h => cut_none c a (h a (by simp))
 | a :: b :: q, _, h => by
   rw [join, cut_app c a _ (h a (by simp)), cut_join c (b :: q) (by simp) (fun x hx => h x (by simp [hx]))]
theorem index_hit {l : Bs} {c : UInt8} {i : Nat} (h : Lib.index l [c] = (i : Int)) (b : UInt8) (hb : b ≠ c) : Lib.index (b :: l) [c] = ((i + 1 : Nat) : Int) := by
 rw [Lib.index]
 have : ([c] : Bs).isPrefixOf (b :: l) = false := by simp [List.isPrefixOf, Ne.symm hb]
 rw [this, h]
 simp
theorem split_eq (c : UInt8) : ∀ s : Bs, Lib.splitK [c] 0 (Lib.count s [c]) s = cut c s
 | [] => by
   have : Lib.count [] [c] = 0 := Lib.count_miss (by simp [Lib.index])
   rw [this]; rfl
 | b :: l => by
   have ih := split_eq c l
   by_cases hb : b = c
   · subst hb
     have hi : Lib.index (b :: l) [b] = ((0 : Nat) : Int) := by simp [Lib.index, List.isPrefixOf]
     rw [Lib.count_cons_eq, Nat.add_comm, Lib.splitK, hi, cut, if_pos rfl]
     simp [ih]
   · rw [Lib.count_cons_ne b c l hb]
     obtain ⟨a, q, h1, h2⟩ := cut_cons c b l hb
     rw [h2]
     rcases Lib.index_spec l [c] with ⟨hm, _⟩ | ⟨i, hi, _⟩
     · rw [Lib.count_miss hm] at ih ⊢
       rw [h1] at ih
       simp only [Lib.splitK] at ih ⊢
       simp at ih
       rw [← ih.1, ← ih.2]
     · rw [Lib.count_hit (by simp) hi, Nat.add_comm] at ih ⊢
       rw [h1] at ih
       simp only [Lib.splitK] at ih ⊢
       rw [index_hit hi b hb]
       rw [hi] at ih
       have n1 : ¬ (((i : Nat) : Int) == -1) = true := by intro e; have := beq_iff_eq.1 e; omega
       have n2 : ¬ (((i + 1 : Nat) : Int) == -1) = true := by intro e; have := beq_iff_eq.1 e; omega
       rw [if_neg n1] at ih
       rw [if_neg n2]
       simp only [Int.toNat_natCast, Nat.add_zero, List.length_cons, List.length_nil] at ih ⊢
       rw [List.cons.injEq] at ih
       obtain ⟨e1, e2⟩ := ih
       rw [← e1, ← e2]
       simp
def lower (b : UInt8) : Bool := decide (97 ≤ b.toNat) && decide (b.toNat ≤ 122)
def digit (b : UInt8) : Bool := decide (48 ≤ b.toNat) && decide (b.toNat ≤ 57)
def nameOk (s : Bs) : Bool := decide (1 ≤ s.length) && decide (s.length ≤ 3) && s.all lower
def dataOk (s : Bs) : Bool := decide (s.length ≤ 6) && s.all fun b => lower b || digit b
def names : Bs → List Bs
 | [] => []
 | x :: r => if x = 47 ∧ r ≠ [] then cut 47 r else []
def pathOk (s : Bs) : Bool := decide (s.length ≤ 12) && (names s).all nameOk && decide (1 ≤ (names s).length) && decide ((names s).length ≤ 3)
def slashAt (s : Bs) : Nat → Nat
 | 0 => 0
 | k + 1 => if s[k + 1]? = some 47 then k + 1 else slashAt s k
def slash (s : Bs) : Nat := slashAt s (s.length - 1)
def pathUp (s : Bs) : Bs := if pathOk s then (if slash s = 0 then [47] else s.take (slash s)) else []
def pathName (s : Bs) : Bs := if pathOk s then s.drop (slash s + 1) else []
structure cutting (s : Bs) (c : UInt8) (i fr : Nat) (done : List Bs) : Prop where
 len : done.length ≤ fr
 le : fr ≤ i
 fin : i ≤ s.length → cut c s = done ++ cut c (s.drop fr)
 free : ∀ k, fr ≤ k → k < i → s[k]? ≠ some c
 all : s.length < i → cut c s = done
 up : i ≤ s.length + 1
theorem cutting_none (s : Bs) (c : UInt8) : cutting s c 0 0 [] := ⟨by simp, Nat.le_refl _, fun _ => by simp, fun k _ h => absurd h (Nat.not_lt_zero _), fun h => absurd h (Nat.not_lt_zero _), Nat.zero_le _⟩
theorem piece_free {s : Bs} {c : UInt8} {i fr : Nat} (h : ∀ k, fr ≤ k → k < i → s[k]? ≠ some c) : c ∉ (s.take i).drop fr := by
 intro hm
 obtain ⟨k, hk⟩ := List.mem_iff_getElem?.1 hm
 rw [List.getElem?_drop, List.getElem?_take] at hk
 split at hk
 · exact h (fr + k) (by omega) (by omega) hk
 · cases hk
theorem cutting.hit {s : Bs} {c : UInt8} {i fr : Nat} {done : List Bs} (h : cutting s c i fr done) (hi : i < s.length) (hc : s[i]? = some c) : cutting s c (i + 1) (i + 1) (done ++ [(s.take i).drop fr]) := by
 have := h.len
 have := h.le
 refine ⟨by simp; omega, Nat.le_refl _, fun _ => ?_, fun k h1 h2 => by omega, fun h' => by omega, by omega⟩
 rw [h.fin (by omega), List.append_assoc]
 congr 1
 have e : s.drop fr = (s.take i).drop fr ++ c :: s.drop (i + 1) := by
  have h1 : s.drop fr = (s.take i ++ s.drop i).drop fr := by rw [List.take_append_drop]
  rw [h1, List.drop_append]
  have h2 : fr - (s.take i).length = 0 := by simp; omega
  rw [h2, List.drop_zero]
  congr 1
  obtain ⟨hlt, he⟩ := List.getElem?_eq_some_iff.1 hc
  rw [List.drop_eq_getElem_cons hlt, he]
 rw [e, cut_app c _ _ (piece_free h.free)]
 rfl
theorem cutting.miss {s : Bs} {c : UInt8} {i fr : Nat} {done : List Bs} (h : cutting s c i fr done) (hi : i < s.length) (hc : s[i]? ≠ some c) : cutting s c (i + 1) fr done := by
 refine ⟨h.len, Nat.le_succ_of_le h.le, fun _ => h.fin (by omega), fun k h1 h2 => ?_, fun h' => by omega, by omega⟩
 by_cases hk : k = i
 · subst hk; exact hc
 · exact h.free k h1 (by omega)
theorem cutting.last {s : Bs} {c : UInt8} {fr : Nat} {done : List Bs} (h : cutting s c s.length fr done) : cutting s c (s.length + 1) (s.length + 1) (done ++ [(s.take s.length).drop fr]) := by
 have := h.len
 have := h.le
 refine ⟨by simp; omega, Nat.le_refl _, fun h' => by omega, fun k h1 h2 => by omega, fun _ => ?_, Nat.le_refl _⟩
 rw [h.fin (Nat.le_refl _)]
 have := piece_free h.free
 rw [List.take_length] at this ⊢
 rw [cut_none c _ this]
theorem cut_len (c : UInt8) : ∀ l : Bs, (cut c l).length ≤ l.length + 1
 | [] => Nat.le_refl _
 | x :: r => by
   have := cut_len c r
   by_cases h : x = c
   · rw [cut, if_pos h]; simp; omega
   · obtain ⟨a, q, h1, h2⟩ := cut_cons c x r h
     rw [h1] at this
     rw [h2]
     simp at this ⊢
     omega
theorem names_len (s : Bs) : (names s).length ≤ s.length + 1 := by
 match s with
 | [] => simp [names]
 | x :: r =>
   have := cut_len 47 r
   have hn : names (x :: r) = if x = 47 ∧ r ≠ [] then cut 47 r else [] := rfl
   rw [hn]
   split
   · simp; omega
   · simp
theorem join_len (c : UInt8) : ∀ (w : List Bs), ∀ a ∈ w, a.length ≤ (join c w).length
 | [], a, h => by simp at h
 | [b], a, h => by simp at h; simp [join, h]
 | b :: d :: q, a, h => by
   rcases List.mem_cons.1 h with rfl | h
   · simp [join]
   · have := join_len c (d :: q) a h
     simp [join]
     omega
theorem cut_piece (c : UInt8) (l : Bs) : ∀ a ∈ cut c l, a.length ≤ l.length := by
 intro a h
 have := join_len c (cut c l) a h
 rwa [join_cut] at this
theorem names_piece (s : Bs) : ∀ a ∈ names s, a.length ≤ s.length := by
 match s with
 | [] => simp [names]
 | x :: r =>
   intro a h
   have hn : names (x :: r) = if x = 47 ∧ r ≠ [] then cut 47 r else [] := rfl
   rw [hn] at h
   split at h
   · have := cut_piece 47 r a h
     simp; omega
   · simp at h
end Go.Par
namespace Go.Par
open Go.Ab
abbrev lt (a b : Bs) : Bool := Op.bytesLess a b
theorem lt_irrefl : ∀ a : Bs, lt a a = false
 | [] => rfl
 | x :: a => by
   have := lt_irrefl a
   simp only [lt, Op.bytesLess] at this ⊢
   simp [this]
theorem lt_trans : ∀ a b c : Bs, lt a b = true → lt b c = true → lt a c = true
 | [], _, [], _, h => by simp [lt, Op.bytesLess] at h
 | [], _, _ :: _, _, _ => rfl
 | _ :: _, [], _, h, _ => by simp [lt, Op.bytesLess] at h
 | _ :: _, _ :: _, [], _, h => by simp [lt, Op.bytesLess] at h
 | x :: a, y :: b, z :: c, h1, h2 => by
   have ih := lt_trans a b c
   simp only [lt, Op.bytesLess, Bool.or_eq_true, Bool.and_eq_true, decide_eq_true_eq, beq_iff_eq] at h1 h2 ih ⊢
   rcases h1 with h1 | ⟨rfl, h1⟩
   · rcases h2 with h2 | ⟨rfl, h2⟩
     · left; exact UInt8.lt_trans h1 h2
     · left; exact h1
   · rcases h2 with h2 | ⟨rfl, h2⟩
     · left; exact h2
     · right; exact ⟨rfl, ih h1 h2⟩
theorem lt_asymm (a b : Bs) (h : lt a b = true) : lt b a = false := by
 cases h' : lt b a with
 | false => rfl
 | true => have := lt_trans a b a h h'; rw [lt_irrefl] at this; cases this
theorem lt_ne {a b : Bs} (h : lt a b = true) : a ≠ b := by
 rintro rfl
 rw [lt_irrefl] at h
 cases h
theorem lt_total : ∀ a b : Bs, lt a b = true ∨ a = b ∨ lt b a = true
 | [], [] => .inr (.inl rfl)
 | [], _ :: _ => .inl rfl
 | _ :: _, [] => .inr (.inr rfl)
 | x :: a, y :: b => by
   have ih := lt_total a b
   simp only [lt, Op.bytesLess, Bool.or_eq_true, Bool.and_eq_true, decide_eq_true_eq, beq_iff_eq] at ih ⊢
   rcases Nat.lt_trichotomy x.toNat y.toNat with h | h | h
   · left; left; exact UInt8.lt_iff_toNat_lt.2 h
   · have : x = y := UInt8.toNat_inj.1 h
     subst this
     rcases ih with ih | rfl | ih
     · left; right; exact ⟨rfl, ih⟩
     · right; left; rfl
     · right; right; right; exact ⟨rfl, ih⟩
   · right; right; left; exact UInt8.lt_iff_toNat_lt.2 h
theorem lt_app : ∀ (a b : Bs), b ≠ [] → lt a (a ++ b) = true
 | [], [], h => absurd rfl h
 | [], _ :: _, _ => rfl
 | x :: a, b, h => by
   have := lt_app a b h
   simp only [lt, List.cons_append, Op.bytesLess] at this ⊢
   simp [this]
def sorted (w : List Bs) : Prop := w.Pairwise fun a b => lt a b = true
theorem sorted_of {w : List Bs} (h : ∀ (i : Nat) (a b : Bs), w[i]? = some a → w[i + 1]? = some b → lt a b = true) : sorted w := by
 induction w with
 | nil => exact .nil
 | cons x w ih =>
   have ih := ih fun i a b h1 h2 => h (i + 1) a b (by simpa using h1) (by simpa using h2)
   refine .cons (fun b hb => ?_) ih
   match w, ih, hb with
   | y :: w, ih, hb =>
     have h0 := h 0 x y rfl rfl
     rcases List.mem_cons.1 hb with rfl | hb
     · exact h0
     · exact lt_trans x y b h0 ((List.pairwise_cons.1 ih).1 b hb)
theorem sorted_at {w : List Bs} (h : sorted w) {i j : Nat} {a b : Bs} (hi : w[i]? = some a) (hj : w[j]? = some b) (hij : i < j) : lt a b = true := by
 obtain ⟨hi', rfl⟩ := List.getElem?_eq_some_iff.1 hi
 obtain ⟨hj', rfl⟩ := List.getElem?_eq_some_iff.1 hj
 exact List.pairwise_iff_getElem.1 h i j hi' hj' hij
theorem sorted_less {w : List Bs} (h : sorted w) {i j : Nat} {a b : Bs} (hi : w[i]? = some a) (hj : w[j]? = some b) (hl : lt a b = true) : i < j := by
 rcases Nat.lt_trichotomy i j with k | k | k
 · exact k
 · subst k; rw [hi] at hj; cases hj; rw [lt_irrefl] at hl; cases hl
 · have := sorted_at h hj hi k
   rw [lt_asymm _ _ hl] at this
   cases this
theorem slashAt_le (s : Bs) : ∀ k, slashAt s k ≤ k
 | 0 => Nat.le_refl _
 | k + 1 => by
   unfold slashAt
   split
   · exact Nat.le_refl _
   · exact Nat.le_succ_of_le (slashAt_le s k)
theorem slashAt_skip (s : Bs) (j : Nat) : ∀ k, (∀ i, j < i → i ≤ j + k → s[i]? ≠ some 47) → slashAt s (j + k) = slashAt s j
 | 0, _ => rfl
 | k + 1, h => by
   rw [← Nat.add_assoc, slashAt, if_neg (h (j + k + 1) (by omega) (by omega))]
   exact slashAt_skip s j k fun i h1 h2 => h i h1 (by omega)
theorem slash_app (a b : Bs) (hb : 47 ∉ b) (hne : b ≠ []) : slash (a ++ 47 :: b) = a.length := by
 unfold slash
 have hl : 0 < b.length := List.length_pos_iff.2 hne
 have e : (a ++ 47 :: b).length - 1 = a.length + b.length := by simp
 rw [e, slashAt_skip]
 · cases h : a.length with
   | zero => rfl
   | succ n =>
     unfold slashAt
     rw [if_pos]
     rw [← h, List.getElem?_append_right (Nat.le_refl _)]
     simp
 · intro i h1 h2 h3
   rw [List.getElem?_append_right (by omega)] at h3
   have : i - a.length = (i - a.length - 1) + 1 := by omega
   rw [this, List.getElem?_cons_succ] at h3
   exact hb (List.mem_of_getElem? h3)
theorem name_free {a : Bs} (h : nameOk a = true) : 47 ∉ a ∧ a ≠ [] := by
 simp only [nameOk, Bool.and_eq_true, decide_eq_true_eq, List.all_eq_true] at h
 obtain ⟨⟨h1, h2⟩, h3⟩ := h
 refine ⟨fun hm => ?_, fun he => by rw [he] at h1; simp at h1⟩
 have := h3 47 hm
 simp [lower] at this
def ofNames : List Bs → Bs
 | [] => []
 | a :: q => 47 :: (a ++ ofNames q)
theorem join_of : ∀ (a : Bs) (q : List Bs), 47 :: join 47 (a :: q) = ofNames (a :: q)
 | a, [] => by simp [join, ofNames]
 | a, b :: q => by
   have := join_of b q
   rw [join, ofNames, ← this]
theorem ofNames_app : ∀ (w : List Bs) (a : Bs), ofNames (w ++ [a]) = ofNames w ++ 47 :: a
 | [], a => by simp [ofNames]
 | b :: w, a => by
   have := ofNames_app w a
   simp [ofNames, this]
theorem path_names {s : Bs} (h : pathOk s = true) : s = ofNames (names s) ∧ (names s).all nameOk = true ∧ 1 ≤ (names s).length ∧ (names s).length ≤ 3 ∧ s.length ≤ 12 := by
 simp only [pathOk, Bool.and_eq_true, decide_eq_true_eq] at h
 obtain ⟨⟨⟨h1, h2⟩, h3⟩, h4⟩ := h
 refine ⟨?_, h2, h3, h4, h1⟩
 match s, h3 with
 | x :: r, h3 =>
   have hn : names (x :: r) = if x = 47 ∧ r ≠ [] then cut 47 r else [] := rfl
   rw [hn] at h3 ⊢
   split at h3
   · rename_i hx
     rw [if_pos hx, hx.1]
     have := join_cut 47 r
     match hc : cut 47 r with
     | [] => exact absurd hc (cut_ne 47 r)
     | a :: q => rw [hc] at this; rw [← join_of, this]
   · simp at h3
theorem names_of {w : List Bs} (hw : w.all nameOk = true) (hne : w ≠ []) : names (ofNames w) = w := by
 match w, hne with
 | a :: q, _ =>
   rw [← join_of, names]
   have hf : ∀ x ∈ a :: q, 47 ∉ x := fun x hx => (name_free (List.all_eq_true.1 hw x hx)).1
   have hj : join 47 (a :: q) ≠ [] := by
    have ha := (name_free (List.all_eq_true.1 hw a (by simp))).2
    match q with
    | [] => simpa [join] using ha
    | b :: q => simp [join]
   rw [if_pos ⟨rfl, hj⟩, cut_join 47 _ (by simp) hf]
theorem ofNames_len : ∀ {w : List Bs}, w.all nameOk = true → (ofNames w).length ≤ 4 * w.length
 | [], _ => by simp [ofNames]
 | a :: w, h => by
   simp only [List.all_cons, Bool.and_eq_true] at h
   have := ofNames_len h.2
   have h1 := h.1
   simp only [nameOk, Bool.and_eq_true, decide_eq_true_eq] at h1
   simp only [ofNames, List.length_cons, List.length_append]
   omega
theorem pathOk_of {w : List Bs} (hw : w.all nameOk = true) (h1 : 1 ≤ w.length) (h3 : w.length ≤ 3) : pathOk (ofNames w) = true := by
 have hn := names_of hw (by rintro rfl; simp at h1)
 have := ofNames_len hw
 simp only [pathOk, hn, hw, Bool.and_eq_true, decide_eq_true_eq]
 refine ⟨⟨⟨?_, trivial⟩, h1⟩, h3⟩
 omega
theorem path_split {s : Bs} (h : pathOk s = true) : ∃ w a, names s = w ++ [a] ∧ w.all nameOk = true ∧ nameOk a = true ∧ w.length ≤ 2 ∧ s = ofNames w ++ 47 :: a := by
 obtain ⟨h1, h2, h3, h4, _⟩ := path_names h
 have hne : names s ≠ [] := by intro e; rw [e] at h3; simp at h3
 refine ⟨(names s).dropLast, (names s).getLast hne, (List.dropLast_concat_getLast hne).symm, ?_, ?_, ?_, ?_⟩
 · exact List.all_eq_true.2 fun x hx => List.all_eq_true.1 h2 x (List.dropLast_subset _ hx)
 · exact List.all_eq_true.1 h2 _ (List.getLast_mem hne)
 · simp; omega
 · rw [← ofNames_app, List.dropLast_concat_getLast hne]; exact h1
theorem pathUp_split {w : List Bs} {a : Bs} (hw : w.all nameOk = true) (ha : nameOk a = true) (hl : w.length ≤ 2) : pathUp (ofNames w ++ 47 :: a) = if w = [] then [47] else ofNames w := by
 have hok : pathOk (ofNames w ++ 47 :: a) = true := by
  rw [← ofNames_app]
  exact pathOk_of (by simp [hw, ha]) (by simp) (by simp; omega)
 obtain ⟨f1, f2⟩ := name_free ha
 rw [pathUp, if_pos hok, slash_app _ _ f1 f2]
 match w with
 | [] => simp [ofNames]
 | b :: q =>
   rw [if_neg (by simp [ofNames]), if_neg (by simp)]
   simp
theorem pathUp_less {s : Bs} (h : pathOk s = true) : pathUp s = [47] ∨ (pathOk (pathUp s) = true ∧ lt (pathUp s) s = true) := by
 obtain ⟨w, a, h1, hw, ha, hl, rfl⟩ := path_split h
 rw [pathUp_split hw ha hl]
 by_cases hn : w = []
 · rw [if_pos hn]; exact .inl rfl
 · rw [if_neg hn]
   refine .inr ⟨pathOk_of hw ?_ (by omega), lt_app _ _ (by simp)⟩
   exact List.length_pos_iff.2 hn
theorem pathUp_join {s : Bs} (h : pathOk s = true) : pathUp s = 47 :: join 47 ((names s).dropLast) := by
 obtain ⟨w, a, h1, hw, ha, hl, rfl⟩ := path_split h
 rw [pathUp_split hw ha hl, h1]
 simp only [List.dropLast_concat]
 match w with
 | [] => rfl
 | b :: q => rw [if_neg (by simp), join_of]
theorem ld_false {b : UInt8} (h : ((b.toNat : Int) < 97 ∨ (b.toNat : Int) > 122) ∧ ((b.toNat : Int) < 48 ∨ (b.toNat : Int) > 57)) : (lower b || digit b) = false := by
 have h1 : lower b = false := by
  unfold lower
  rcases h.1 with h | h
  · have : ¬ 97 ≤ b.toNat := by omega
    simp [this]
  · have : ¬ b.toNat ≤ 122 := by omega
    simp [this]
 have h2 : digit b = false := by
  unfold digit
  rcases h.2 with h | h
  · have : ¬ 48 ≤ b.toNat := by omega
    simp [this]
  · have : ¬ b.toNat ≤ 57 := by omega
    simp [this]
 rw [h1, h2]; rfl
theorem ld_true {b : UInt8} (h : ((97 : Int) ≤ b.toNat ∧ (b.toNat : Int) ≤ 122) ∨ ((48 : Int) ≤ b.toNat ∧ (b.toNat : Int) ≤ 57)) : (lower b || digit b) = true := by
 rcases h with h | h
 · have : lower b = true := by
     unfold lower
     have : 97 ≤ b.toNat := by omega
     have : b.toNat ≤ 122 := by omega
     simp [*]
   rw [this]; rfl
 · have : digit b = true := by
     unfold digit
     have : 48 ≤ b.toNat := by omega
     have : b.toNat ≤ 57 := by omega
     simp [*]
   rw [this]; simp
theorem slash_le (s : Bs) : slash s ≤ s.length := Nat.le_trans (slashAt_le s _) (Nat.sub_le _ _)
theorem pathOk_pos {s : Bs} (h : pathOk s = true) : 1 ≤ s.length ∧ s.length ≤ 12 := by
 obtain ⟨h1, _, h3, _, h5⟩ := path_names h
 refine ⟨?_, h5⟩
 match s, h3 with
 | x :: r, _ => simp
theorem pathUp_len (s : Bs) : (pathUp s).length ≤ 12 := by
 unfold pathUp
 split
 · rename_i h
   have := pathOk_pos h
   split
   · simp
   · rw [List.length_take]; omega
 · simp
theorem pathOk_eq {s : Bs} {w : List Bs} (h : names s = w) : pathOk s = (decide (s.length ≤ 12) && w.all nameOk && decide (1 ≤ w.length) && decide (w.length ≤ 3)) := by rw [pathOk, h]
end Go.Par
namespace Go.Par
open Go.Ab
def entAt (t : List Ent) (p : Bs) : Option Ent := t.find? fun e => decide (e.path = p)
def isDirO : Option Ent → Bool
 | some e => e.dir
 | none => false
def dirAt (t : List Ent) (p : Bs) : Bool := decide (p = [47]) || isDirO (entAt t p)
def upCode (t : List Ent) (p : Bs) : Int :=
 if pathUp p = [47] then 0 else match entAt t (pathUp p) with
  | none => 2
  | some e => if e.dir then 0 else 3
def entOk (e : Ent) : Bool := pathOk e.path && dataOk e.data && !(e.dir && !decide (e.data = []))
def prevLt (t : List Ent) (e : Ent) : Nat → Bool
 | 0 => true
 | j + 1 => match t[j]? with
   | some e' => lt e'.path e.path
   | none => true
def okC (t : List Ent) (i : Nat) : Bool := match t[i]? with
 | some e => entOk e && prevLt t e i
 | none => true
def okS (t : List Ent) (i : Nat) : Bool := match t[i]? with
 | some e => entOk e && prevLt t e i && dirAt (t.take i) (pathUp e.path)
 | none => true
def okI (t : List Ent) (i : Nat) : Bool := match t[i]? with
 | some e => entOk e && prevLt t e i && decide (upCode t e.path = 0)
 | none => true
def treeOk (t : List Ent) : Bool := decide (t.length ≤ 16) && (List.range t.length).all (okS t)
def treeOkI (t : List Ent) : Bool := decide (t.length ≤ 16) && (List.range t.length).all (okI t)
theorem all_range {n : Nat} {p : Nat → Bool} : (List.range n).all p = true ↔ ∀ i, i < n → p i = true := by
 simp [List.all_eq_true]
theorem sorted_c {t : List Ent} (h : ∀ i, i < t.length → okC t i = true) : sorted (t.map (·.path)) := by
 refine sorted_of fun i a b h1 h2 => ?_
 simp only [List.getElem?_map, Option.map_eq_some_iff] at h1 h2
 obtain ⟨e1, he1, rfl⟩ := h1
 obtain ⟨e2, he2, rfl⟩ := h2
 have := h (i + 1) (List.getElem?_eq_some_iff.1 he2).1
 simp only [okC, he2, prevLt, he1, Bool.and_eq_true] at this
 exact this.2
theorem entAt_some {t : List Ent} {p : Bs} {e : Ent} (h : entAt t p = some e) : e ∈ t ∧ e.path = p := by
 have h1 := List.mem_of_find?_eq_some h
 have h2 := List.find?_some h
 exact ⟨h1, by simpa using h2⟩
theorem entAt_take {t : List Ent} (hs : sorted (t.map (·.path))) {i : Nat} {e : Ent} (hi : t[i]? = some e) {p : Bs} (hl : lt p e.path = true) : entAt (t.take i) p = entAt t p := by
 have h1 : entAt t p = (entAt (t.take i) p).or (entAt (t.drop i) p) := by
  unfold entAt
  rw [← List.find?_append, List.take_append_drop]
 have h2 : entAt (t.drop i) p = none := by
  unfold entAt
  rw [List.find?_eq_none]
  intro e' he' hp
  simp only [decide_eq_true_eq] at hp
  obtain ⟨j, hj⟩ := List.mem_iff_getElem?.1 he'
  rw [List.getElem?_drop] at hj
  have a1 : (t.map (·.path))[i]? = some e.path := by simp [hi]
  have a2 : (t.map (·.path))[i + j]? = some e'.path := by simp [hj]
  rw [hp] at a2
  have := sorted_less hs a2 a1 hl
  omega
 rw [h1, h2]
 simp
theorem okS_c {t : List Ent} {i : Nat} (h : okS t i = true) : okC t i = true := by
 unfold okS at h
 unfold okC
 match he : t[i]?, h with
 | some e, h =>
   simp only [Bool.and_eq_true] at h ⊢
   exact h.1
 | none, _ => rfl
theorem okI_c {t : List Ent} {i : Nat} (h : okI t i = true) : okC t i = true := by
 unfold okI at h
 unfold okC
 match he : t[i]?, h with
 | some e, h =>
   simp only [Bool.and_eq_true] at h ⊢
   exact h.1
 | none, _ => rfl
theorem okI_eq {t : List Ent} (hs : sorted (t.map (·.path))) (i : Nat) : okI t i = okS t i := by
 unfold okI okS
 match he : t[i]? with
 | none => rfl
 | some e =>
   simp only
   cases hok : entOk e with
   | false => simp
   | true =>
     congr 1
     simp only [entOk, Bool.and_eq_true] at hok
     unfold upCode dirAt
     rcases pathUp_less hok.1.1 with h | ⟨h1, h2⟩
     · simp [h]
     · have hne : pathUp e.path ≠ [47] := by
         intro h
         rw [h] at h1
         revert h1
         decide
       rw [entAt_take hs he h2, if_neg hne]
       simp only [hne, decide_false, Bool.false_or]
       match entAt t (pathUp e.path) with
       | none => simp [isDirO]
       | some e' => cases hd : e'.dir <;> simp [isDirO, hd]
theorem treeOkI_eq (t : List Ent) : treeOkI t = treeOk t := by
 unfold treeOkI treeOk
 congr 1
 rw [Bool.eq_iff_iff, all_range, all_range]
 constructor
 · intro h i hi
   have hs := sorted_c fun i hi => okI_c (h i hi)
   rw [← okI_eq hs]
   exact h i hi
 · intro h i hi
   have hs := sorted_c fun i hi => okS_c (h i hi)
   rw [okI_eq hs]
   exact h i hi
def entIx (t : List Ent) (p : Bs) : Int := match t.findIdx? fun e => decide (e.path = p) with
 | some i => i
 | none => -1
theorem entIx_at {t : List Ent} {p : Bs} {i : Nat} {e : Ent} (h : t[i]? = some e) (hp : e.path = p) (hb : ∀ k e, k < i → t[k]? = some e → e.path ≠ p) : entIx t p = i := by
 have : (t.findIdx? fun e => decide (e.path = p)) = some i := by
  rw [List.findIdx?_eq_some_iff_getElem]
  obtain ⟨hlt, rfl⟩ := List.getElem?_eq_some_iff.1 h
  refine ⟨hlt, by simpa using hp, fun j hj => ?_⟩
  have := hb j t[j] hj (List.getElem?_eq_getElem (by omega))
  simpa using this
 rw [entIx, this]
theorem entIx_none {t : List Ent} {p : Bs} (hb : ∀ (k : Nat) e, t[k]? = some e → e.path ≠ p) : entIx t p = -1 := by
 have : (t.findIdx? fun e => decide (e.path = p)) = none := by
  rw [List.findIdx?_eq_none_iff]
  intro e he
  obtain ⟨k, hk⟩ := List.mem_iff_getElem?.1 he
  simpa using hb k e hk
 rw [entIx, this]
theorem entIx_or (t : List Ent) (p : Bs) : (∃ (i : Nat), entIx t p = i ∧ ∃ hi : i < t.length, entAt t p = some t[i]) ∨ (entIx t p = -1 ∧ entAt t p = none) := by
 match h : t.findIdx? fun e => decide (e.path = p) with
 | some i =>
   left
   rw [List.findIdx?_eq_some_iff_getElem] at h
   obtain ⟨hlt, h1, h2⟩ := h
   refine ⟨i, entIx_at (List.getElem?_eq_getElem hlt) (by simpa using h1) (fun k e hk he => ?_), hlt, ?_⟩
   · obtain ⟨hk', rfl⟩ := List.getElem?_eq_some_iff.1 he
     simpa using h2 k hk
   · unfold entAt
     rw [List.find?_eq_some_iff_getElem]
     exact ⟨h1, i, hlt, rfl, fun j hj => by simpa using h2 j hj⟩
 | none =>
   right
   rw [List.findIdx?_eq_none_iff] at h
   refine ⟨entIx_none fun k e he => by simpa using h e (List.mem_of_getElem? he), ?_⟩
   unfold entAt
   rw [List.find?_eq_none]
   intro e he
   simpa using h e he
theorem okS_eq {t : List Ent} {i : Nat} (hi : i < t.length) : okS t i = (entOk t[i] && (if 0 < i then lt (t[i - 1]'(by omega)).path t[i].path else true) && dirAt (t.take i) (pathUp t[i].path)) := by
 have h : t[i]? = some t[i] := List.getElem?_eq_getElem hi
 unfold okS
 rw [h]
 simp only
 congr 2
 match i, hi with
 | 0, _ => rfl
 | k + 1, hi =>
   have h' : t[k]? = some t[k] := List.getElem?_eq_getElem (by omega)
   simp [prevLt, h']
theorem okI_at {t : List Ent} {i : Nat} (hi : i < t.length) : okI t i = (entOk t[i] && (if 0 < i then lt (t[i - 1]'(by omega)).path t[i].path else true) && decide (upCode t t[i].path = 0)) := by
 have h : t[i]? = some t[i] := List.getElem?_eq_getElem hi
 unfold okI
 rw [h]
 simp only
 congr 2
 match i, hi with
 | 0, _ => rfl
 | k + 1, hi =>
   have h' : t[k]? = some t[k] := List.getElem?_eq_getElem (by omega)
   simp [prevLt, h']
theorem treeOk_false {t : List Ent} {i : Nat} (hi : i < t.length) (h : okS t i = false) : treeOk t = false := by
 unfold treeOk
 rw [Bool.and_eq_false_iff]
 right
 rw [List.all_eq_false]
 exact ⟨i, List.mem_range.2 hi, by simp [h]⟩
theorem treeOkI_false {t : List Ent} {i : Nat} (hi : i < t.length) (h : okI t i = false) : treeOk t = false := by
 rw [← treeOkI_eq]
 unfold treeOkI
 rw [Bool.and_eq_false_iff]
 right
 rw [List.all_eq_false]
 exact ⟨i, List.mem_range.2 hi, by simp [h]⟩
theorem treeOk_true {t : List Ent} (hl : t.length ≤ 16) (h : ∀ k, k < t.length → okS t k = true) : treeOk t = true := by
 unfold treeOk
 rw [Bool.and_eq_true, all_range]
 exact ⟨by simpa using hl, h⟩
theorem treeOkI_true {t : List Ent} (hl : t.length ≤ 16) (h : ∀ k, k < t.length → okI t k = true) : treeOk t = true := by
 rw [← treeOkI_eq]
 unfold treeOkI
 rw [Bool.and_eq_true, all_range]
 exact ⟨by simpa using hl, h⟩
theorem treeOk_len {t : List Ent} (h : treeOk t = true) : t.length ≤ 16 := by
 unfold treeOk at h
 rw [Bool.and_eq_true] at h
 simpa using h.1
theorem treeOk_ent {t : List Ent} (h : treeOk t = true) : ∀ e ∈ t, entOk e = true := by
 intro e he
 obtain ⟨i, hi⟩ := List.mem_iff_getElem?.1 he
 unfold treeOk at h
 rw [Bool.and_eq_true, all_range] at h
 have := h.2 i (List.getElem?_eq_some_iff.1 hi).1
 unfold okS at this
 rw [hi] at this
 simp only [Bool.and_eq_true] at this
 exact this.1.1
theorem entOk_len {e : Ent} (h : entOk e = true) : e.path.length ≤ 12 ∧ e.data.length ≤ 6 := by
 simp only [entOk, Bool.and_eq_true] at h
 refine ⟨(pathOk_pos h.1.1).2, ?_⟩
 have := h.1.2
 simp only [dataOk, Bool.and_eq_true, decide_eq_true_eq] at this
 exact this.1
theorem fill_get {α β : Type} {l : List α} {f : α → β} {z : β} {i : Nat} (hi : i < l.length) : ((l.take i).map f ++ List.replicate (l.length - i) z)[i]? = some z := by
 rw [List.getElem?_append_right (by simp; omega)]
 have : i - ((l.take i).map f).length = 0 := by simp; omega
 rw [this, List.getElem?_replicate]
 simp
 omega
theorem fill_set {α β : Type} {l : List α} {f : α → β} {z : β} {i : Nat} (hi : i < l.length) : ((l.take i).map f ++ List.replicate (l.length - i) z).set i (f l[i]) = (l.take (i + 1)).map f ++ List.replicate (l.length - (i + 1)) z := by
 have h1 : ((l.take i).map f).length = i := by simp; omega
 rw [List.set_append_right _ _ (by omega), h1, Nat.sub_self]
 have h2 : l.length - i = (l.length - (i + 1)) + 1 := by omega
 rw [h2, List.replicate_succ, List.set_cons_zero, List.take_add_one, List.getElem?_eq_getElem hi]
 simp only [Option.toList_some, List.map_append, List.map_cons, List.map_nil, List.append_assoc, List.cons_append, List.nil_append]
def eqE (a b : Ent) : Bool := decide (a.path = b.path) && (a.dir == b.dir) && decide (a.data = b.data)
theorem eqE_self (a : Ent) : eqE a a = true := by simp [eqE]
end Go.Par
namespace Go.Par
open Go.Ab
structure Opn where
 kind : Int
 path : Bs
 tgt : Bs
 data : Bs
 deriving DecidableEq
def Opn.c (o : Opn) : List D := [.k .i64 o.kind, .s o.path, .s o.tgt, .s o.data]
def op0 : Opn := ⟨0, [], [], []⟩
def opOk (o : Opn) : Bool :=
 pathOk o.path && if o.kind = 5 then pathOk o.tgt && decide (o.data = []) else if o.kind = 2 then decide (o.tgt = []) && dataOk o.data
  else decide (o.kind = 1 ∨ o.kind = 3 ∨ o.kind = 4) && decide (o.tgt = []) && decide (o.data = [])
theorem dataOk_nil : dataOk [] = true := rfl
theorem opOk_eq (o : Opn) : opOk o = (decide (1 ≤ o.kind) && decide (o.kind ≤ 5) && pathOk o.path && if o.kind = 5 then pathOk o.tgt && decide (o.data = []) else decide (o.tgt = []) && dataOk o.data && (decide (o.kind = 2) || decide (o.data = []))) := by
 unfold opOk
 cases pathOk o.path
 · simp
 · by_cases h5 : o.kind = 5
   · simp [h5]
   · by_cases h2 : o.kind = 2
     · simp [h2]
     · simp only [h5, h2, if_false, decide_false, Bool.false_or, Bool.true_and, Bool.and_true]
       by_cases hd : o.data = []
       · rw [hd, dataOk_nil]
         have : decide (o.kind = 1 ∨ o.kind = 3 ∨ o.kind = 4) = (decide (1 ≤ o.kind) && decide (o.kind ≤ 5)) := by
          rw [Bool.eq_iff_iff]; simp; omega
         rw [this]
         simp [Bool.and_assoc]
       · simp [hd]
theorem opOk_kind {o : Opn} (h : opOk o = true) : 1 ≤ o.kind ∧ o.kind ≤ 5 := by
 simp only [opOk, Bool.and_eq_true] at h
 obtain ⟨_, h⟩ := h
 split at h
 · omega
 · split at h
   · omega
   · simp only [Bool.and_eq_true, decide_eq_true_eq] at h
     omega
def less3 (n : Int) (p t d : Nat) : Int := if n - p < 0 then -1 else if n - p - t < 0 then -1 else if n - p - t - d < 0 then -1 else n - p - t - d
theorem less3_or (n : Int) (p t d : Nat) : less3 n p t d < 0 ∨ (less3 n p t d + p + t + d = n ∧ 0 ≤ less3 n p t d) := by
 unfold less3
 repeat' split
 all_goals first
  | (left; omega)
  | (right; omega)
def eqO (a b : Opn) : Bool := decide (a.kind = b.kind) && decide (a.path = b.path) && decide (a.tgt = b.tgt) && decide (a.data = b.data)
theorem eqO_self (a : Opn) : eqO a a = true := by simp [eqO]
end Go.Par
namespace Go.Par
open Go.Ab
theorem c47 (b : UInt8) : ((b.toNat : Int) = 47) ↔ b = 47 := by
 constructor
 · intro h
   exact UInt8.toNat_inj.1 (Int.ofNat_inj.1 h)
 · intro h
   rw [h]; rfl
def under (s d : Bs) : Bool := decide (d = [47]) || (decide (d.length < s.length) && decide (s.take d.length = d) && decide (s[d.length]? = some 47))
def pathUnder (s d : Bs) : Bool := pathOk s && (decide (d = [47]) || pathOk d) && under s d
theorem under_less {s d : Bs} (h : under s d = true) (hd : d ≠ [47]) : lt d s = true := by
 simp only [under, hd, decide_false, Bool.false_or, Bool.and_eq_true, decide_eq_true_eq] at h
 have e : s = d ++ s.drop d.length := by
  have h1 := h.1.2
  conv => lhs; rw [← List.take_append_drop d.length s, h1]
 rw [e]
 exact lt_app _ _ (by intro h0; have := congrArg List.length h0; simp at this; omega)
theorem path_root : pathOk [47] = false := by decide
theorem path_empty : pathOk [] = false := by decide
def markAt (l : List Mrk) (p : Bs) : Option Mrk := l.find? fun m => decide (m.path = p)
def isDirM (m : Mrk) : Bool := decide (m.kind = 2) || decide (m.kind = 4)
def isDirMO : Option Mrk → Bool
 | some m => isDirM m
 | none => false
def bare (l : List Mrk) (p : Bs) : Bool := l.any fun m => decide (m.kind = 4) && under p m.path
def bareI (l : List Mrk) (p : Bs) : Bool := l.any fun m => decide (m.kind = 4) && pathUnder p m.path
def markOk (m : Mrk) : Bool := decide (1 ≤ m.kind) && decide (m.kind ≤ 4) && pathOk m.path && (if m.kind = 1 then dataOk m.data else decide (m.data = []))
def prevLtM (l : List Mrk) (e : Mrk) : Nat → Bool
 | 0 => true
 | j + 1 => match l[j]? with
   | some e' => lt e'.path e.path
   | none => true
def inM (l : List Mrk) (p : Bs) : Bool := decide (pathUp p = [47]) || isDirMO (markAt l (pathUp p))
def okLC (l : List Mrk) (i : Nat) : Bool := match l[i]? with
 | some m => markOk m && prevLtM l m i
 | none => true
def okLS (l : List Mrk) (i : Nat) : Bool := match l[i]? with
 | some m => markOk m && prevLtM l m i && inM (l.take i) m.path && !(decide (2 < m.kind) && bare (l.take i) m.path)
 | none => true
def okLI (l : List Mrk) (i : Nat) : Bool := match l[i]? with
 | some m => markOk m && prevLtM l m i && inM l m.path && !(decide (2 < m.kind) && bareI l m.path)
 | none => true
def layerOk (l : List Mrk) : Bool := decide (l.length ≤ 32) && (List.range l.length).all (okLS l)
def layerOkI (l : List Mrk) : Bool := decide (l.length ≤ 32) && (List.range l.length).all (okLI l)
theorem sorted_m {l : List Mrk} (h : ∀ i, i < l.length → okLC l i = true) : sorted (l.map (·.path)) := by
 refine sorted_of fun i a b h1 h2 => ?_
 simp only [List.getElem?_map, Option.map_eq_some_iff] at h1 h2
 obtain ⟨e1, he1, rfl⟩ := h1
 obtain ⟨e2, he2, rfl⟩ := h2
 have := h (i + 1) (List.getElem?_eq_some_iff.1 he2).1
 simp only [okLC, he2, prevLtM, he1, Bool.and_eq_true] at this
 exact this.2
theorem markOk_path {m : Mrk} (h : markOk m = true) : pathOk m.path = true := by
 simp only [markOk, Bool.and_eq_true] at h
 exact h.1.2
theorem markOk_bad {m : Mrk} (h : dataOk m.data = false) : markOk m = false := by
 unfold markOk
 rw [Bool.and_eq_false_iff]
 right
 split
 · exact h
 · simp only [decide_eq_false_iff_not]
   intro h0
   rw [h0] at h
   cases h
theorem markAt_some {t : List Mrk} {p : Bs} {e : Mrk} (h : markAt t p = some e) : e ∈ t ∧ e.path = p := by
 have h1 := List.mem_of_find?_eq_some h
 have h2 := List.find?_some h
 exact ⟨h1, by simpa using h2⟩
theorem markAt_take {t : List Mrk} (hs : sorted (t.map (·.path))) {i : Nat} {e : Mrk} (hi : t[i]? = some e) {p : Bs} (hl : lt p e.path = true) : markAt (t.take i) p = markAt t p := by
 have h1 : markAt t p = (markAt (t.take i) p).or (markAt (t.drop i) p) := by
  unfold markAt
  rw [← List.find?_append, List.take_append_drop]
 have h2 : markAt (t.drop i) p = none := by
  unfold markAt
  rw [List.find?_eq_none]
  intro e' he' hp
  simp only [decide_eq_true_eq] at hp
  obtain ⟨j, hj⟩ := List.mem_iff_getElem?.1 he'
  rw [List.getElem?_drop] at hj
  have a1 : (t.map (·.path))[i]? = some e.path := by simp [hi]
  have a2 : (t.map (·.path))[i + j]? = some e'.path := by simp [hj]
  rw [hp] at a2
  have := sorted_less hs a2 a1 hl
  omega
 rw [h1, h2]
 simp
theorem bare_take {t : List Mrk} (hs : sorted (t.map (·.path))) (hok : ∀ m ∈ t, pathOk m.path = true) {i : Nat} {e : Mrk} (hi : t[i]? = some e) : bareI t e.path = bare (t.take i) e.path := by
 rw [Bool.eq_iff_iff]
 simp only [bareI, bare, List.any_eq_true, Bool.and_eq_true, decide_eq_true_eq]
 constructor
 · rintro ⟨m, hm, hk, hu⟩
   simp only [pathUnder, Bool.and_eq_true] at hu
   have hne : m.path ≠ [47] := by
    intro h
    have := hok m hm
    rw [h, path_root] at this
    cases this
   obtain ⟨j, hj⟩ := List.mem_iff_getElem?.1 hm
   have a1 : (t.map (·.path))[i]? = some e.path := by simp [hi]
   have a2 : (t.map (·.path))[j]? = some m.path := by simp [hj]
   have hlt := sorted_less hs a2 a1 (under_less hu.2 hne)
   refine ⟨m, ?_, hk, hu.2⟩
   rw [List.mem_iff_getElem?]
   exact ⟨j, by rw [List.getElem?_take, if_pos hlt, hj]⟩
 · rintro ⟨m, hm, hk, hu⟩
   have hm' := List.mem_of_mem_take hm
   exact ⟨m, hm', hk, by simp [pathUnder, hok e (List.mem_of_getElem? hi), hok m hm', hu]⟩
theorem okLS_c {t : List Mrk} {i : Nat} (h : okLS t i = true) : okLC t i = true := by
 unfold okLS at h
 unfold okLC
 match he : t[i]?, h with
 | some e, h =>
   simp only [Bool.and_eq_true] at h ⊢
   exact h.1.1
 | none, _ => rfl
theorem okLI_c {t : List Mrk} {i : Nat} (h : okLI t i = true) : okLC t i = true := by
 unfold okLI at h
 unfold okLC
 match he : t[i]?, h with
 | some e, h =>
   simp only [Bool.and_eq_true] at h ⊢
   exact h.1.1
 | none, _ => rfl
theorem okLC_all {t : List Mrk} (h : ∀ i, i < t.length → okLC t i = true) : ∀ m ∈ t, markOk m = true := by
 intro m hm
 obtain ⟨i, hi⟩ := List.mem_iff_getElem?.1 hm
 have := h i (List.getElem?_eq_some_iff.1 hi).1
 simp only [okLC, hi, Bool.and_eq_true] at this
 exact this.1
theorem okLI_eq {t : List Mrk} (hc : ∀ i, i < t.length → okLC t i = true) (i : Nat) : okLI t i = okLS t i := by
 have hs := sorted_m hc
 have hok := okLC_all hc
 unfold okLI okLS
 match he : t[i]? with
 | none => rfl
 | some e =>
   simp only
   have hp := markOk_path (hok e (List.mem_of_getElem? he))
   rw [bare_take hs (fun m hm => markOk_path (hok m hm)) he]
   congr 2
   unfold inM
   rcases pathUp_less hp with h | ⟨h1, h2⟩
   · simp [h]
   · rw [markAt_take hs he h2]
theorem layerOkI_eq (t : List Mrk) : layerOkI t = layerOk t := by
 unfold layerOkI layerOk
 congr 1
 rw [Bool.eq_iff_iff, all_range, all_range]
 constructor
 · intro h i hi
   rw [← okLI_eq fun i hi => okLI_c (h i hi)]
   exact h i hi
 · intro h i hi
   rw [okLI_eq fun i hi => okLS_c (h i hi)]
   exact h i hi
theorem okLS_at {t : List Mrk} {i : Nat} (hi : i < t.length) : okLS t i = (markOk t[i] && (if 0 < i then lt (t[i - 1]'(by omega)).path t[i].path else true) && inM (t.take i) t[i].path && !(decide (2 < t[i].kind) && bare (t.take i) t[i].path)) := by
 have h : t[i]? = some t[i] := List.getElem?_eq_getElem hi
 unfold okLS
 rw [h]
 simp only
 congr 3
 match i, hi with
 | 0, _ => rfl
 | k + 1, hi =>
   have h' : t[k]? = some t[k] := List.getElem?_eq_getElem (by omega)
   simp [prevLtM, h']
theorem okLI_at {t : List Mrk} {i : Nat} (hi : i < t.length) : okLI t i = (markOk t[i] && (if 0 < i then lt (t[i - 1]'(by omega)).path t[i].path else true) && inM t t[i].path && !(decide (2 < t[i].kind) && bareI t t[i].path)) := by
 have h : t[i]? = some t[i] := List.getElem?_eq_getElem hi
 unfold okLI
 rw [h]
 simp only
 congr 3
 match i, hi with
 | 0, _ => rfl
 | k + 1, hi =>
   have h' : t[k]? = some t[k] := List.getElem?_eq_getElem (by omega)
   simp [prevLtM, h']
theorem okLI_at' {t : List Mrk} {i : Nat} (hi : i < t.length) : okLI t i = (markOk t[i] && (if 0 < i then lt (t[i - 1]'(by omega)).path t[i].path else true) && inM t t[i].path && !((decide (t[i].kind = 3) || decide (t[i].kind = 4)) && bareI t t[i].path)) := by
 rw [okLI_at hi]
 cases hm : markOk t[i] with
 | false => simp
 | true =>
   have : decide (2 < t[i].kind) = (decide (t[i].kind = 3) || decide (t[i].kind = 4)) := by
    simp only [markOk, Bool.and_eq_true, decide_eq_true_eq] at hm
    rw [Bool.eq_iff_iff]
    simp
    omega
   rw [this]
theorem layerOk_false {t : List Mrk} {i : Nat} (hi : i < t.length) (h : okLS t i = false) : layerOk t = false := by
 unfold layerOk
 rw [Bool.and_eq_false_iff]
 right
 rw [List.all_eq_false]
 exact ⟨i, List.mem_range.2 hi, by simp [h]⟩
theorem layerOkI_false {t : List Mrk} {i : Nat} (hi : i < t.length) (h : okLI t i = false) : layerOk t = false := by
 rw [← layerOkI_eq]
 unfold layerOkI
 rw [Bool.and_eq_false_iff]
 right
 rw [List.all_eq_false]
 exact ⟨i, List.mem_range.2 hi, by simp [h]⟩
theorem layerOk_true {t : List Mrk} (hl : t.length ≤ 32) (h : ∀ k, k < t.length → okLS t k = true) : layerOk t = true := by
 unfold layerOk
 rw [Bool.and_eq_true, all_range]
 exact ⟨by simpa using hl, h⟩
theorem layerOkI_true {t : List Mrk} (hl : t.length ≤ 32) (h : ∀ k, k < t.length → okLI t k = true) : layerOk t = true := by
 rw [← layerOkI_eq]
 unfold layerOkI
 rw [Bool.and_eq_true, all_range]
 exact ⟨by simpa using hl, h⟩
theorem layerOk_len {t : List Mrk} (h : layerOk t = true) : t.length ≤ 32 := by
 unfold layerOk at h
 rw [Bool.and_eq_true] at h
 simpa using h.1
theorem layerOk_mark {t : List Mrk} (h : layerOk t = true) : ∀ e ∈ t, markOk e = true := by
 unfold layerOk at h
 rw [Bool.and_eq_true, all_range] at h
 exact okLC_all fun i hi => okLS_c (h.2 i hi)
theorem layerOk_sorted {t : List Mrk} (h : layerOk t = true) : sorted (t.map (·.path)) := by
 unfold layerOk at h
 rw [Bool.and_eq_true, all_range] at h
 exact sorted_m fun i hi => okLS_c (h.2 i hi)
theorem dataOk_len {d : Bs} (h : dataOk d = true) : d.length ≤ 6 := by
 simp only [dataOk, Bool.and_eq_true, decide_eq_true_eq] at h
 exact h.1
def markIx (t : List Mrk) (p : Bs) : Int := match t.findIdx? fun e => decide (e.path = p) with
 | some i => i
 | none => -1
theorem markIx_at {t : List Mrk} {p : Bs} {i : Nat} {e : Mrk} (h : t[i]? = some e) (hp : e.path = p) (hb : ∀ k e, k < i → t[k]? = some e → e.path ≠ p) : markIx t p = i := by
 have : (t.findIdx? fun e => decide (e.path = p)) = some i := by
  rw [List.findIdx?_eq_some_iff_getElem]
  obtain ⟨hlt, rfl⟩ := List.getElem?_eq_some_iff.1 h
  refine ⟨hlt, by simpa using hp, fun j hj => ?_⟩
  have := hb j t[j] hj (List.getElem?_eq_getElem (by omega))
  simpa using this
 rw [markIx, this]
theorem markIx_none {t : List Mrk} {p : Bs} (hb : ∀ (k : Nat) e, t[k]? = some e → e.path ≠ p) : markIx t p = -1 := by
 have : (t.findIdx? fun e => decide (e.path = p)) = none := by
  rw [List.findIdx?_eq_none_iff]
  intro e he
  obtain ⟨k, hk⟩ := List.mem_iff_getElem?.1 he
  simpa using hb k e hk
 rw [markIx, this]
theorem markIx_or (t : List Mrk) (p : Bs) : (∃ (i : Nat), markIx t p = i ∧ ∃ hi : i < t.length, markAt t p = some t[i]) ∨ (markIx t p = -1 ∧ markAt t p = none) := by
 match h : t.findIdx? fun e => decide (e.path = p) with
 | some i =>
   left
   rw [List.findIdx?_eq_some_iff_getElem] at h
   obtain ⟨hlt, h1, h2⟩ := h
   refine ⟨i, markIx_at (List.getElem?_eq_getElem hlt) (by simpa using h1) (fun k e hk he => ?_), hlt, ?_⟩
   · obtain ⟨hk', rfl⟩ := List.getElem?_eq_some_iff.1 he
     simpa using h2 k hk
   · unfold markAt
     rw [List.find?_eq_some_iff_getElem]
     exact ⟨h1, i, hlt, rfl, fun j hj => by simpa using h2 j hj⟩
 | none =>
   right
   rw [List.findIdx?_eq_none_iff] at h
   refine ⟨markIx_none fun k e he => by simpa using h e (List.mem_of_getElem? he), ?_⟩
   unfold markAt
   rw [List.find?_eq_none]
   intro e he
   simpa using h e he
def kindAt (l : List Mrk) (p : Bs) : Int := match markAt l p with
 | some m => m.kind
 | none => 0
def eqM (a b : Mrk) : Bool := decide (a.path = b.path) && decide (a.kind = b.kind) && decide (a.data = b.data)
theorem eqM_self (a : Mrk) : eqM a a = true := by simp [eqM]
end Go.Par
namespace Go.Par
open Go.Ab
def rootE : Ent := ⟨[47], true, []⟩
def ent0 : Ent := ⟨[], false, []⟩
def entGet (t : List Ent) (p : Bs) : Option Ent := if p = [47] then some rootE else entAt t p
def putE : List Ent → Ent → List Ent
 | [], e => [e]
 | x :: r, e => if lt x.path e.path then x :: putE r e else if x.path = e.path then e :: r else e :: x :: r
def pathMove (s a b : Bs) : Option Bs :=
 if pathOk s && pathOk a && pathOk b then (if s ≠ a ∧ under s a = false then some s else if pathOk (b ++ s.drop a.length) then some (b ++ s.drop a.length) else none) else none
def kids (t : List Ent) (p : Bs) : List Bs := (t.filter fun e => decide (pathUp e.path = p)).map fun e => pathName e.path
def newCode (t : List Ent) (p : Bs) : Int := if upCode t p ≠ 0 then upCode t p else if (entGet t p).isSome then 4 else if 16 ≤ t.length then 8 else 0
def putCode (t : List Ent) (p : Bs) : Int := if newCode t p = 4 ∧ isDirO (entGet t p) = true then 5 else if newCode t p = 4 then 0 else newCode t p
def offCode (t : List Ent) (o : Opn) : Int := match entGet t o.path with
 | none => 2
 | some e => if o.kind = 3 ∧ e.dir = true then 5 else if o.kind = 4 ∧ e.dir = false then 3 else if 0 < (kids t o.path).length then 6 else 0
def moveCode (t : List Ent) (o : Opn) : Int :=
 if (entGet t o.path).isNone then 2 else if upCode t o.tgt ≠ 0 then upCode t o.tgt else if (entGet t o.tgt).isSome then 4 else if under o.tgt o.path then 7
 else if t.all (fun e => (pathMove e.path o.path o.tgt).isSome) then 0 else 8
def opCode (t : List Ent) (o : Opn) : Int :=
 if o.kind = 1 then newCode t o.path else if o.kind = 2 then putCode t o.path else if o.kind = 5 then moveCode t o else offCode t o
def moveE (a b : Bs) (e : Ent) : Ent := ⟨(pathMove e.path a b).getD [], e.dir, e.data⟩
def putAll (t : List Ent) (es : List Ent) : List Ent := es.foldl putE t
def offT (t : List Ent) (p : Bs) : List Ent := t.filter fun e => decide (e.path ≠ p)
def moveT (t : List Ent) (a b : Bs) : List Ent := putAll [] (t.map (moveE a b))
def doT (t : List Ent) (o : Opn) : List Ent :=
 if o.kind = 1 then putE t ⟨o.path, true, []⟩ else if o.kind = 2 then putE t ⟨o.path, false, o.data⟩ else if o.kind = 5 then moveT t o.path o.tgt else offT t o.path
def treeDo (t : List Ent) (o : Opn) : List Ent × Int :=
 if treeOk t = false then ([], 1) else if opOk o = false then (t, 1) else if opCode t o ≠ 0 then (t, opCode t o) else (doT t o, 0)
theorem upCode_get (t : List Ent) (p : Bs) : upCode t p = match entGet t (pathUp p) with
   | none => 2
   | some e => if e.dir then 0 else 3 := by
 unfold upCode entGet
 by_cases h : pathUp p = [47]
 · simp [h, rootE]
 · simp only [h, if_false] <;> (cases entAt t (pathUp p) <;> rfl)
theorem putE_len (t : List Ent) (e : Ent) : t.length ≤ (putE t e).length ∧ (putE t e).length ≤ t.length + 1 := by
 induction t with
 | nil => simp [putE]
 | cons x r ih =>
   unfold putE
   split
   · simp; omega
   · split <;> simp
theorem putAll_len : ∀ (es t : List Ent), (putAll t es).length ≤ t.length + es.length
 | [], t => by simp [putAll]
 | e :: es, t => by
   have h1 := putAll_len es (putE t e)
   have h2 := (putE_len t e).2
   simp only [putAll, List.foldl_cons, List.length_cons] at h1 ⊢
   omega
theorem putAll_snoc (t es : List Ent) (e : Ent) : putAll t (es ++ [e]) = putE (putAll t es) e := by simp [putAll]
theorem kids_len (t : List Ent) (p : Bs) : (kids t p).length ≤ t.length := by
 unfold kids
 rw [List.length_map]
 exact List.length_filter_le _ _
theorem under_len {s d : Bs} (h : under s d = true) (hd : d ≠ [47]) : d.length < s.length ∧ s.take d.length = d := by
 simp only [under, hd, decide_false, Bool.false_or, Bool.and_eq_true, decide_eq_true_eq] at h
 exact h.1
theorem pathOk_ne {s : Bs} (h : pathOk s = true) : s ≠ [47] := by
 rintro rfl
 revert h
 decide
theorem filter_take_succ {α : Type} {l : List α} {i : Nat} {x : α} {p : α → Bool} (h : l[i]? = some x) : (l.take (i + 1)).filter p = (l.take i).filter p ++ if p x then [x] else [] := by
 rw [take_succ h, List.filter_append]
 congr 1
 simp only [List.filter_cons, List.filter_nil]
def bndE (n : Nat) (t : List Ent) : Prop := ∀ e ∈ t, e.path.length ≤ n ∧ e.data.length ≤ n
end Go.Par
namespace Go.Par
open Go.Ab
def putM : List Mrk → Mrk → List Mrk
 | [], e => [e]
 | x :: r, e => if lt x.path e.path then x :: putM r e else if x.path = e.path then e :: r else e :: x :: r
def upsM : Nat → List Mrk → Bs → List Mrk
 | 0, l, _ => l
 | n + 1, l, p => if pathUp p = [47] then l else upsM n (if kindAt l (pathUp p) = 0 then putM l ⟨pathUp p, 2, []⟩ else l) (pathUp p)
theorem putM_len (t : List Mrk) (e : Mrk) : t.length ≤ (putM t e).length ∧ (putM t e).length ≤ t.length + 1 := by
 induction t with
 | nil => simp [putM]
 | cons x r ih =>
   unfold putM
   split
   · simp; omega
   · split <;> simp
theorem putM_mem {t : List Mrk} {e x : Mrk} (h : x ∈ putM t e) : x = e ∨ x ∈ t := by
 induction t with
 | nil => simp [putM] at h; exact .inl h
 | cons y r ih =>
   unfold putM at h
   split at h
   · rcases List.mem_cons.1 h with h | h
     · exact .inr (by simp [h])
     · rcases ih h with h | h
       · exact .inl h
       · exact .inr (by simp [h])
   · split at h
     · rcases List.mem_cons.1 h with h | h
       · exact .inl h
       · exact .inr (by simp [h])
     · rcases List.mem_cons.1 h with h | h
       · exact .inl h
       · exact .inr h
theorem upsM_len : ∀ (n : Nat) (l : List Mrk) (p : Bs), (upsM n l p).length ≤ l.length + n
 | 0, l, _ => Nat.le_refl _
 | n + 1, l, p => by
   unfold upsM
   split
   · omega
   · split
     · have h1 := upsM_len n (putM l ⟨pathUp p, 2, []⟩) (pathUp p)
       have h2 := (putM_len l ⟨pathUp p, 2, []⟩).2
       omega
     · have h1 := upsM_len n l (pathUp p)
       omega
theorem pathUp_short {p : Bs} (h : pathOk p = true) (hr : pathUp p ≠ [47]) : (pathUp p).length < p.length := by
 obtain ⟨w, a, h1, hw, ha, hl, rfl⟩ := path_split h
 rw [pathUp_split hw ha hl] at hr ⊢
 by_cases hn : w = []
 · rw [if_pos hn] at hr; exact absurd rfl hr
 · rw [if_neg hn]; simp
end Go.Par
namespace Go.Par
open Go.Ab
end Go.Par
