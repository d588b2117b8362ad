/- What the program's data are, and what its functions of texts compute: in plain Lean. -/
import Derived.Test.YtgeieehampfkcaaDoorBu
namespace Go.Par
open Go.Ab
abbrev Bs := List UInt8
structure Ent where
  path : Bs
  dir : Bool
  data : Bs
  deriving DecidableEq
structure Mrk where
  path : Bs
  kind : Int
  data : Bs
  deriving DecidableEq
def Ent.c (e : Ent) : List D := [.s e.path, .b e.dir, .s e.data]
def Mrk.c (m : Mrk) : List D := [.s m.path, .k .i64 m.kind, .s m.data]

def entText (e : Ent) : Bs :=
  if e.dir then [100, 32] ++ e.path else if e.data = [] then [102, 32] ++ e.path else [102, 32] ++ e.path ++ [32] ++ e.data
def markText (m : Mrk) : Bs :=
  if m.kind = 2 then [100, 32] ++ m.path else if m.kind = 3 then [120, 32] ++ m.path else if m.kind = 4 then [98, 32] ++ m.path else entText ⟨m.path, false, m.data⟩

/-- what is left of a bound -/
def less (n : Int) (k : Nat) : Int := if n - k < 0 then -1 else n - k
def less2 (n : Int) (p d : Nat) : Int := if n - p < 0 then -1 else if n - p - d < 0 then -1 else n - p - d
theorem less2_or (n : Int) (p d : Nat) : less2 n p d < 0 ∨ (less2 n p d + p + d = n ∧ 0 ≤ less2 n p d) := by
  unfold less2
  split
  · left; omega
  · split
    · left; omega
    · right; omega
theorem max_len : maxLen = 9223372036854775807 := rfl
end Go.Par
