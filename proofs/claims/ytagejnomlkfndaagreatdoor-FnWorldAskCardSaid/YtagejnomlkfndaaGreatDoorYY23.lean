/- Texts of this claim, set close: lemmas and contracts. -/
import Derived.Test.YtagejnomlkfndaaGreatDoorYY18
set_option linter.unusedSimpArgs false
set_option linter.unusedVariables false
set_option maxHeartbeats 1000000
set_option maxRecDepth 10000
namespace Go.Proofs.YtagejnomlkfndaaGreatDoor
open Go Go.RowKit Go.Ab Go.Par
variable {m:Int}
theorem CI (t u:List Ent) (ht:t.length≤1048576) (hu:u.length≤1048576):Con (E m) 220 0 [.sl (t.map Ent.c),.sl (u.map Ent.c)] [] (.b (decide (t=u))) []:=by
 have e1:(t.map Ent.c).length=t.length:=zAA ..;have e2:(u.map Ent.c).length=u.length:=zAA ..;by_cases hl:t.length=u.length
 · refine G0 Tryz.func220 ?_;repeat' first|refine Rx ⟨?_⟩|refine Rd (fun h=>⟨?_⟩) fun h=>⟨?_⟩|fail
   refine Cd.loop2 (fun mq tm S nx=>∃ (i:Nat),mq=(t.length - i)∧tm=[(0,.sl (t.map Ent.c)),(1,.sl (u.map Ent.c)),(12,.k .i64 ((t.map Ent.c).length:Int)),(13,.k .i64 i)]∧S=[]∧nx=0∧(i≤t.length)∧(t.take i=u.take i)) ?_ ?_
   · refine la [0,1,12,13] ?_
     conv=>whnf
     refine ⟨rfl,rfl,_,0,rfl,rfl,rfl,rfl,by omega,rfl⟩
   · rintro mq tm S nx ⟨i,hn,rfl,rfl,rfl,hi,ha⟩;by_cases hlt:i < t.length
     · have g1:t[i]?=some t[i]:=zAB hlt;have g2:u[i]?=some (u[i]'(by omega)):=zAB (by omega);generalize t[i]=x at g1;generalize u[i]'(by omega)=y at g2;by_cases hxy:x=y
       · subst hxy;have e3:=D6 x;repeat' first|refine Rx ⟨?_⟩|refine Rd (fun h=>⟨?_⟩) fun h=>⟨?_⟩|fail
         refine .here ⟨mq - 1,by omega,?_⟩;refine la [0,1,12,13] ?_
         conv=>whnf
         refine ⟨rfl,rfl,i+1,(by omega),rfl,rfl,rfl,by omega,ge g1 g2 ha⟩
       · have e3:=D7 hxy;have e4:decide (t=u)=false:=decide_eq_false (pW g1 g2 hxy);rw [e4];repeat' first|refine Rx ⟨?_⟩|refine Rd (fun h=>⟨?_⟩) fun h=>⟨?_⟩|fail
         exact Rf
     · have e4:decide (t=u)=true:=decide_eq_true (ik hl (by omega) ha);rw [e4];repeat' first|refine Rx ⟨?_⟩|refine Rd (fun h=>⟨?_⟩) fun h=>⟨?_⟩|fail
       exact Rf
 · have e4:decide (t=u)=false:=decide_eq_false (fun h=>hl (by rw [h]));rw [e4];refine G0 Tryz.func220 ?_;repeat' first|refine Rx ⟨?_⟩|refine Rd (fun h=>⟨?_⟩) fun h=>⟨?_⟩|fail
   exact Rf
theorem yx (t u:List Ent) (ht:t.length≤1048576) (hu:u.length≤1048576):Con (E m) 160 0 [.sl (t.map Ent.c),.sl (u.map Ent.c)] [] (.b (decide (t=u))) []:=by
 have c1:=CI (m:=m) t u ht hu;refine G0 Tryz.func160 ?_;repeat' first|refine Ra ⟨?_⟩|refine R0 c1 ⟨?_⟩|refine Rd (fun h=>⟨?_⟩) fun h=>⟨?_⟩|refine Rb ⟨?_⟩|fail
 exact Rf
end Go.Proofs.YtagejnomlkfndaaGreatDoor
