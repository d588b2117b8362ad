/- What is done to trees, and its texts: in plain Lean. -/
import Derived.Test.YtgeieehampfkcaaDoorPd
set_option linter.unusedSimpArgs false
set_option linter.unusedVariables false
namespace Go.Par
open Go.Ab

structure Opn where
  kind : Int
  path : Bs
  to : Bs
  data : Bs
  deriving DecidableEq
def Opn.c (o : Opn) : List D := [.k .i64 o.kind, .s o.path, .s o.to, .s o.data]
def op0 : Opn := ⟨0, [], [], []⟩
def opOk (o : Opn) : Bool :=
  pathOk o.path && if o.kind = 5 then pathOk o.to && decide (o.data = []) else if o.kind = 2 then decide (o.to = []) && dataOk o.data
    else decide (o.kind = 1 ∨ o.kind = 3 ∨ o.kind = 4) && decide (o.to = []) && decide (o.data = [])
def opWords : List Bs := [[], [109, 97, 107, 101], [112, 117, 116], [114, 109], [114, 109, 100, 105, 114], [109, 111, 118, 101]]
def opWord (k : Int) : Bs := opWords.getD k.toNat []
def opText (o : Opn) : Bs :=
  if opOk o then opWord o.kind ++ [32] ++ o.path ++ (if o.kind = 5 then [32] ++ o.to else []) ++ (if o.data = [] then [] else [32] ++ o.data) else []
/-- the kind that a word tells, or 0 -/
def opKind (w : Bs) : Int :=
  if w = [109, 97, 107, 101] then 1 else if w = [112, 117, 116] then 2 else if w = [114, 109] then 3 else if w = [114, 109, 100, 105, 114] then 4 else if w = [109, 111, 118, 101] then 5 else 0
def wordAt (w : List Bs) (i : Nat) : Bs := w.getD i []
def opOfKind (k : Int) (p more : Bs) : Opn := if k = 5 then ⟨k, p, more, []⟩ else ⟨k, p, [], more⟩
def opOfWords (w : List Bs) : Option Opn :=
  if 2 ≤ w.length ∧ w.length ≤ 3 ∧ opOk (opOfKind (opKind (wordAt w 0)) (wordAt w 1) (wordAt w 2)) = true then some (opOfKind (opKind (wordAt w 0)) (wordAt w 1) (wordAt w 2)) else none
def opRead (s : Bs) : Option Opn :=
  match opOfWords (cut 32 s) with
  | some o => if opText o = s then some o else none
  | none => none
theorem dataOk_nil : dataOk [] = true := rfl
/-- as the document says it -/
theorem opOk_eq (o : Opn) : opOk o = (decide (1 ≤ o.kind) && decide (o.kind ≤ 5) && pathOk o.path && if o.kind = 5 then pathOk o.to && decide (o.data = []) else decide (o.to = []) && dataOk o.data && (decide (o.kind = 2) || decide (o.data = []))) := by
  unfold opOk
  cases pathOk o.path
  · simp
  · by_cases h5 : o.kind = 5
    · simp [h5]
    · by_cases h2 : o.kind = 2
      · simp [h2]
      · simp only [h5, h2, if_false, decide_false, Bool.false_or, Bool.true_and, Bool.and_true]
        by_cases hd : o.data = []
        · rw [hd, dataOk_nil]
          have : decide (o.kind = 1 ∨ o.kind = 3 ∨ o.kind = 4) = (decide (1 ≤ o.kind) && decide (o.kind ≤ 5)) := by
            rw [Bool.eq_iff_iff]; simp; omega
          rw [this]
          simp [Bool.and_assoc]
        · simp [hd]
theorem opOk_kind {o : Opn} (h : opOk o = true) : 1 ≤ o.kind ∧ o.kind ≤ 5 := by
  simp only [opOk, Bool.and_eq_true] at h
  obtain ⟨_, h⟩ := h
  split at h
  · omega
  · split at h
    · omega
    · simp only [Bool.and_eq_true, decide_eq_true_eq] at h
      omega
theorem five {k : Int} (h1 : 1 ≤ k) (h2 : k ≤ 5) : k = 1 ∨ k = 2 ∨ k = 3 ∨ k = 4 ∨ k = 5 := by omega
theorem opKind_word {k : Int} (h1 : 1 ≤ k) (h2 : k ≤ 5) : opKind (opWord k) = k := by
  rcases five h1 h2 with rfl | rfl | rfl | rfl | rfl <;> decide
theorem opKind_le (w : Bs) : 0 ≤ opKind w ∧ opKind w ≤ 5 := by
  unfold opKind
  repeat' split
  all_goals omega
theorem opWord_kind {w : Bs} (h : 1 ≤ opKind w) : opWord (opKind w) = w := by
  unfold opKind at h ⊢
  repeat' split
  all_goals first
    | (rename_i e; rw [e]; rfl)
    | (exfalso; simp_all)
/-- the kind of a word among the first ones -/
def kindTo (w : Bs) : Nat → Int
  | 0 => 0
  | n + 1 => if opWord (n + 1 : Nat) = w then (n + 1 : Nat) else kindTo w n
theorem kindTo_5 (w : Bs) : kindTo w 5 = opKind w := by
  unfold opKind
  by_cases h1 : w = [109, 97, 107, 101]
  · rw [h1]; decide
  by_cases h2 : w = [112, 117, 116]
  · rw [h2]; decide
  by_cases h3 : w = [114, 109]
  · rw [h3]; decide
  by_cases h4 : w = [114, 109, 100, 105, 114]
  · rw [h4]; decide
  by_cases h5 : w = [109, 111, 118, 101]
  · rw [h5]; decide
  simp only [h1, h2, h3, h4, h5, if_false]
  have e : ∀ k : Nat, opWord (k : Nat) = opWords.getD k [] := fun k => rfl
  simp only [kindTo, e]
  have g1 : opWords.getD (0 + 1) [] = [109, 97, 107, 101] := rfl
  have g2 : opWords.getD (1 + 1) [] = [112, 117, 116] := rfl
  have g3 : opWords.getD (2 + 1) [] = [114, 109] := rfl
  have g4 : opWords.getD (3 + 1) [] = [114, 109, 100, 105, 114] := rfl
  have g5 : opWords.getD (4 + 1) [] = [109, 111, 118, 101] := rfl
  rw [g1, g2, g3, g4, g5, if_neg (Ne.symm h5), if_neg (Ne.symm h4), if_neg (Ne.symm h3), if_neg (Ne.symm h2), if_neg (Ne.symm h1)]
/-- the three words of a line -/
def ent3 (s : Bs) : Bs × Bs × Bs :=
  if 2 ≤ (cut 32 s).length ∧ (cut 32 s).length ≤ 3 then (wordAt (cut 32 s) 0, wordAt (cut 32 s) 1, wordAt (cut 32 s) 2) else ([], [], [])
theorem opText_ne {o : Opn} (h : opText o ≠ []) : opOk o = true := by
  cases hok : opOk o with
  | true => rfl
  | false => exact absurd (by simp [opText, hok]) h
theorem opText_pos {o : Opn} (h : opOk o = true) : opText o ≠ [] := by
  rw [opText, if_pos h]
  simp
theorem opRead_hit {s : Bs} {k : Int} (h1 : 1 ≤ k) (h2 : k ≤ 5) (hw : opWord k = (ent3 s).1) (ht : opText (opOfKind k (ent3 s).2.1 (ent3 s).2.2) = s) (hne : s ≠ []) : opRead s = some (opOfKind k (ent3 s).2.1 (ent3 s).2.2) := by
  have hok : opOk (opOfKind k (ent3 s).2.1 (ent3 s).2.2) = true := opText_ne (by rw [ht]; exact hne)
  unfold ent3 at hw ht hok ⊢
  split at hw
  · rename_i hl
    rw [if_pos hl] at ht hok ⊢
    simp only at hw ht hok ⊢
    have hk := opKind_word h1 h2
    rw [hw] at hk
    have : opOfWords (cut 32 s) = some (opOfKind k (wordAt (cut 32 s) 1) (wordAt (cut 32 s) 2)) := by
      unfold opOfWords
      rw [hk, if_pos ⟨hl.1, hl.2, hok⟩]
    unfold opRead
    rw [this]
    simp only
    rw [if_pos ht]
  · exfalso
    rcases five h1 h2 with rfl | rfl | rfl | rfl | rfl <;> revert hw <;> decide
theorem opOfWords_some {w : List Bs} {o : Opn} (h : opOfWords w = some o) : 2 ≤ w.length ∧ w.length ≤ 3 ∧ opOk o = true ∧ o = opOfKind (opKind (wordAt w 0)) (wordAt w 1) (wordAt w 2) := by
  unfold opOfWords at h
  split at h
  · rename_i hc
    cases h
    exact ⟨hc.1, hc.2.1, hc.2.2, rfl⟩
  · cases h
theorem opOfKind_kind (k : Int) (p q : Bs) : (opOfKind k p q).kind = k := by
  unfold opOfKind
  split <;> rfl
theorem opRead_miss {s : Bs} (h : ∀ k : Int, 1 ≤ k → k ≤ 5 → ¬ (opWord k = (ent3 s).1 ∧ opText (opOfKind k (ent3 s).2.1 (ent3 s).2.2) = s ∧ s ≠ [])) : opRead s = none := by
  unfold opRead
  match ho : opOfWords (cut 32 s) with
  | none => rfl
  | some o =>
    simp only
    split
    · rename_i ht
      obtain ⟨h1, h2, h3, rfl⟩ := opOfWords_some ho
      exfalso
      have hk := opOk_kind h3
      rw [opOfKind_kind] at hk
      refine h _ hk.1 hk.2 ?_
      have e : ent3 s = (wordAt (cut 32 s) 0, wordAt (cut 32 s) 1, wordAt (cut 32 s) 2) := by rw [ent3, if_pos ⟨h1, h2⟩]
      rw [e]
      exact ⟨opWord_kind hk.1, ht, by rw [← ht]; exact opText_pos h3⟩
    · rfl
theorem opOk_len {o : Opn} (h : opOk o = true) : o.path.length ≤ 12 ∧ o.to.length ≤ 12 ∧ o.data.length ≤ 6 := by
  simp only [opOk, Bool.and_eq_true] at h
  obtain ⟨h1, h⟩ := h
  refine ⟨(pathOk_pos h1).2, ?_⟩
  split at h
  · simp only [Bool.and_eq_true, decide_eq_true_eq] at h
    have := (pathOk_pos h.1).2
    rw [h.2]
    simp; omega
  · split at h
    · simp only [Bool.and_eq_true, decide_eq_true_eq, dataOk] at h
      rw [h.1]
      simp; exact h.2.1
    · simp only [Bool.and_eq_true, decide_eq_true_eq] at h
      rw [h.2, h.1.2]
      simp
def less3 (n : Int) (p t d : Nat) : Int := if n - p < 0 then -1 else if n - p - t < 0 then -1 else if n - p - t - d < 0 then -1 else n - p - t - d
theorem less3_or (n : Int) (p t d : Nat) : less3 n p t d < 0 ∨ (less3 n p t d + p + t + d = n ∧ 0 ≤ less3 n p t d) := by
  unfold less3
  repeat' split
  all_goals first
    | (left; omega)
    | (right; omega)
def eqO (a b : Opn) : Bool := decide (a.kind = b.kind) && decide (a.path = b.path) && decide (a.to = b.to) && decide (a.data = b.data)
theorem eqO_self (a : Opn) : eqO a a = true := by simp [eqO]
end Go.Par
