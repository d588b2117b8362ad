/- Texts of this claim, set close: lemmas and contracts. -/
import Derived.Test.YtagejnomlkfndaaGreatDoorYY31
set_option linter.unusedSimpArgs false
set_option linter.unusedVariables false
set_option maxHeartbeats 1000000
set_option maxRecDepth 10000
namespace Go.Proofs.YtagejnomlkfndaaGreatDoor
open Go Go.RowKit Go.Ab Go.Par
variable {m:Int}
variable {m:Int}
variable {m:Int}
variable {m:Int}
def wcH (w:Wld) (g0 g1 g2:List Hld):List D:=[.sl (w.over.base.map Ent.c),.sl (w.over.layers.map cv),.sl (w.over.upper.map Mrk.c),.k .i64 w.clock,.k .i64 w.count,.sl (w.leases.map Lse.c),.sl [db g0,db g1,db g2],.sl (bg w.floors),.sl (w.net.map Mes.c),.b w.waits,.k .i64 w.op.kind,.s w.op.path,.s w.op.to,.s w.op.data]
theorem mm {w:Wld} {g0 g1 g2:List Hld} (h:w.holds=[g0,g1,g2]):w.c=wcH w g0 g1 g2:=by rw [Wld.c,h]; rfl
theorem ik (w:Wld) (p:Opn):(bA w p).1.holds=w.holds:=by
 unfold bA;split
 · rfl
 · split
   · rfl
   · split <;> rfl
theorem kv (w:Wld):(dF w).1.holds=w.holds:=by
 unfold dF;split
 · rfl
 · split <;> rfl
structure oh (e:Evn):Prop where
 path:e.path.length≤1073741823
 op:jK 1073741823 e.op
end Go.Proofs.YtagejnomlkfndaaGreatDoor
