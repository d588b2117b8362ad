/- What the laws write into memory, to see whether it is shared: in plain Lean. -/
import Derived.Test.YtoaiplobfellaaaGreatDoorX3
set_option linter.unusedSimpArgs false
set_option linter.unusedVariables false
namespace Go.Par
open Go.Ab

def digs (n : Nat) (acc : Bs) : Bs := if n = 0 then acc else digs (n / 10) (UInt8.ofNat (48 + n % 10) :: acc)
termination_by n
decreasing_by omega
theorem digs_zero (acc : Bs) : digs 0 acc = acc := by rw [digs]; simp
theorem digs_pos {n : Nat} (h : 0 < n) (acc : Bs) : digs n acc = digs (n / 10) (UInt8.ofNat (48 + n % 10) :: acc) := by rw [digs, if_neg (by omega)]
theorem digs_len : ∀ (n : Nat) (acc : Bs), (digs n acc).length ≤ n + acc.length := by
  intro n
  induction n using Nat.strongRecOn with
  | _ n ih =>
    intro acc
    rw [digs]
    split
    · omega
    · have := ih (n / 10) (by omega) (UInt8.ofNat (48 + n % 10) :: acc)
      rw [List.length_cons] at this
      omega
def markT (k : Int) : Bs := if k ≤ 0 then [109, 48] else 109 :: digs k.toNat []
theorem markT_len {k : Int} (h : k ≤ 100000000) : (markT k).length ≤ 100000002 := by
  unfold markT
  split
  · simp
  · have := digs_len k.toNat []
    simp at this ⊢
    omega
/-- a list of so many, each from its number -/
def mkL {α : Type} (f : Int → α) (s k : Int) : Nat → List α
  | 0 => []
  | n + 1 => mkL f s k n ++ [f (k + s * n)]
theorem mkL_len {α : Type} (f : Int → α) (s k : Int) : ∀ n : Nat, (mkL f s k n).length = n
  | 0 => rfl
  | n + 1 => by simp [mkL, mkL_len f s k n]
theorem mkL_get {α : Type} {f : Int → α} {s k : Int} : ∀ {n i : Nat}, i < n → (mkL f s k n)[i]? = some (f (k + s * i))
  | 0, i, h => absurd h (Nat.not_lt_zero _)
  | n + 1, i, h => by
    rw [mkL]
    by_cases hi : i = n
    · subst hi
      rw [List.getElem?_append_right (by rw [mkL_len]; exact Nat.le_refl _), mkL_len]
      simp
    · rw [List.getElem?_append_left (by rw [mkL_len]; omega)]
      exact mkL_get (by omega)
def fE (k : Int) : Ent := ⟨markT k, decide ((k + 1) % 3 = 0), markT (k + 1 + 1)⟩
def fM (k : Int) : Mrk := ⟨markT k, k + 1, markT (k + 1 + 1)⟩
def fO (k : Int) : Opn := ⟨k, markT (k + 1), markT (k + 1 + 1), markT (k + 1 + 1 + 1)⟩
def fT (k : Int) : Bs := markT k
def fI (k : Int) : Int := k
theorem get_mid {α : Type} {A r : List α} {x : α} {i : Nat} (h : i = A.length) : (A ++ x :: r)[i]? = some x := by
  subst h; simp
theorem set_mid {α : Type} {A r : List α} {x y : α} {i : Nat} (h : i = A.length) : (A ++ x :: r).set i y = A ++ y :: r := by
  subst h; simp
theorem get_set {α : Type} {l : List α} {i : Nat} {y : α} (h : i < l.length) : (l.set i y)[i]? = some y := by simp [h]
end Go.Par
