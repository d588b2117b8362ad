/- Texts of this claim, set close: lemmas and contracts. -/
import Derived.Test.YtagejnomlkfndaaGreatDoorYY28
import Derived.Test.YtagejnomlkfndaaGreatDoorYY9
set_option linter.unusedSimpArgs false
set_option linter.unusedVariables false
set_option maxHeartbeats 1000000
set_option maxRecDepth 10000
namespace Go.Proofs.YtagejnomlkfndaaGreatDoor
open Go Go.RowKit Go.Ab Go.Par
variable {m:Int}
theorem CZ (t:List Int) (hl:t.length≤1048576):Con (E m) 14 0 [.sl (ck t),.sl (ck t)] [] (.b true) []:=by
 have e1:(ck t).length=t.length:=zAA ..;refine G0 Tryz.func14 ?_;repeat' first|refine Rx ⟨?_⟩|refine Rd (fun h=>⟨?_⟩) fun h=>⟨?_⟩|fail
 refine Cd.loop2 (fun mq tm S nx=>∃ (i:Nat),mq=(t.length - i)∧tm=[(0,.sl (ck t)),(1,.sl (ck t)),(5,.k .i64 i)]∧S=[]∧nx=0∧(i≤t.length)) ?_ ?_
 · refine la [0,1,5] ?_
   conv=>whnf
   refine ⟨rfl,rfl,_,0,rfl,rfl,rfl,rfl,by omega⟩
 · rintro mq tm S nx ⟨i,hn,rfl,rfl,rfl,hi⟩;by_cases hlt:i < t.length
   · have g1:t[i]?=some t[i]:=zAB hlt;generalize t[i]=x at g1;repeat' first|refine Rx ⟨?_⟩|refine Rd (fun h=>⟨?_⟩) fun h=>⟨?_⟩|fail
     refine .here ⟨mq - 1,by omega,?_⟩;refine la [0,1,5] ?_
     conv=>whnf
     refine ⟨rfl,rfl,i+1,(by omega),rfl,rfl,rfl,by omega⟩
   · repeat' first|refine Rx ⟨?_⟩|refine Rd (fun h=>⟨?_⟩) fun h=>⟨?_⟩|fail
     exact Rf
end Go.Proofs.YtagejnomlkfndaaGreatDoor
