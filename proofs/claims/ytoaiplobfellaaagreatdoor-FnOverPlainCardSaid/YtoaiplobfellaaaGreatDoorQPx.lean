/- Layers joined: in plain Lean. -/
import Derived.Test.YtoaiplobfellaaaGreatDoorQPv
set_option linter.unusedSimpArgs false
set_option linter.unusedVariables false
namespace Go.Par
open Go.Ab
def putAllM (t : List Mrk) (es : List Mrk) : List Mrk := es.foldl putM t
def bothK (ka kb : Int) : Int := if ka = 2 ∧ kb ≠ 0 ∧ kb ≠ 2 then 4 else ka
def onK (b : List Mrk) (m : Mrk) : Mrk := ⟨m.path, bothK m.kind (kindAt b m.path), m.data⟩
def keepP (a : List Mrk) (p : Bs) : Bool := (markAt a p).isNone && !hides a p
def joinB (a b : List Mrk) : List Mrk := (b.filter fun m => keepP a m.path) ++ a.map (onK b)
def joinR (a b : List Mrk) : List Mrk := putAllM (putAllM [] (b.filter fun m => keepP a m.path)) (a.map (onK b))
def rawAt (a b : List Mrk) (q : Bs) : Option Mrk := match markAt a q with
  | some m => some (onK b m)
  | none => if hides a q then none else markAt b q
def tidyF (B : Bs → Bool) (m : Mrk) : Option Mrk := if B m.path = true then (if m.kind = 3 then none else if m.kind = 4 then some ⟨m.path, 2, m.data⟩ else some m) else some m
def joinL (a b : List Mrk) : List Mrk := (joinR a b).filterMap (tidyF (bare (joinR a b)))
def joinI (a b : List Mrk) : List Mrk := (joinB a b).filterMap (tidyF (bare (joinB a b)))
def layerJoin (a b : List Mrk) : Option (List Mrk) := if layerOk a = true ∧ layerOk b = true ∧ (joinL a b).length ≤ 32 then some (joinL a b) else none
section
variable {a b : List Mrk} (ha : layerOk a = true) (hb : layerOk b = true)
include ha hb
end
end Go.Par
