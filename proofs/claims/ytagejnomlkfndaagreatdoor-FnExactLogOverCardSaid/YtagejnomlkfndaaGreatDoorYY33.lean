/- Texts of this claim, set close: lemmas and contracts. -/
import Derived.Test.YtagejnomlkfndaaGreatDoorYY5
import Derived.Test.YtagejnomlkfndaaGreatDoorYY9
import Derived.Test.YtagejnomlkfndaaGreatDoorYY11
import Derived.Test.YtagejnomlkfndaaGreatDoorYY27
set_option linter.unusedSimpArgs false
set_option linter.unusedVariables false
set_option maxHeartbeats 1000000
set_option maxRecDepth 10000
namespace Go.Proofs.YtagejnomlkfndaaGreatDoor
open Go Go.RowKit Go.Ab Go.Par
variable {m:Int}
theorem xd {α β:Type} {l:List α} {f:α→β} {z:β} {i:Nat} {x:α} (h:l[i]?=some x):((l.take i).map f++List.replicate (l.length - i) z).set i (f x)=(l.take (i+1)).map f++List.replicate (l.length - (i+1)) z:=by
 obtain ⟨hi,rfl⟩:=List.getElem?_eq_some_iff.1 h;exact jS hi
theorem yJ (ls:List (List Mrk)) (hl:ls.length≤1048576) (hb:∀ l∈ls,l.length≤1048576):Con (E m) 48 0 [.sl (ls.map cm)] [] (.own 0) [(0,.deep 32 166 (anZ (ls.map fun l=>l.map Mrk.c)))]:=by
 have e1:(ls.map cm).length=ls.length:=zAA ..;refine cDE ?_;refine bK zU GE Tryz.func48 rfl rfl rfl (zAC rfl) ?_;repeat' first|refine Ra ⟨?_⟩|(refine ⟨rfl,?_⟩ <;> conv=>whnf)|(refine ⟨(ls.map cm).length,rfl,(by unfold eN; omega),zAC rfl,?_⟩ <;> conv=>whnf)|refine Rd (fun h=>⟨?_⟩) fun h=>⟨?_⟩|refine Rb ⟨?_⟩|fail
 refine Cd.loop2 (fun mq tm S nx=>∃ (i:Nat) (ws:WsT),mq=(ls.length - i)∧tm=[(0,.sl (ls.map cm)),(3,.own 0),(4,.k .i64 i)]∧S=[(0,.deep 32 166 (anZ ws))]∧nx=1∧(i≤ls.length)∧(ws=(ls.take i).map (fun l=>l.map Mrk.c)++List.replicate (ls.length - i) [])) ?_ ?_
 · refine ⟨[],[0,3,4],[0],?_⟩
   conv=>whnf
   refine ⟨rfl,rfl,_,0,List.replicate ls.length [],rfl,rfl,?_,rfl,zAG _,rfl⟩;have e:List.replicate ls.length (aE.an [])=anZ (List.replicate ls.length []):=by simp [anZ]
   rw [e1,e];exact congrArg (fun z=>[(0,Blk.deep _ _ z)]) (co _ _)
 · rintro mq tm S nx ⟨i,ws,hn,rfl,rfl,rfl,hi,hw⟩;have hwl:ws.length=ls.length:=by rw [hw]; simp; omega
   rcases av ls i hi with ⟨rfl,hd⟩|⟨x,r,hx,hd,hr,hlt⟩
   · have hws:ws=ls.map fun l=>l.map Mrk.c:=by rw [hw]; simp
     rw [← hws];repeat' first|refine Rx ⟨?_⟩|refine Rd (fun h=>⟨?_⟩) fun h=>⟨?_⟩|fail
     refine ak.here ⟨[],[0],?_⟩
     conv=>whnf
     exact ⟨rfl,rfl,rfl,congrArg (fun z=>[(0,Blk.deep _ _ z)]) (co _ _)⟩
   · have c1:=cD (ry (m:=m) x (hb x (zAD hx)));repeat' first|refine Ra ⟨?_⟩|refine Rk [] 1 c1 ⟨?_⟩|(refine ⟨i,rfl,(by rw [lQ]; omega),?_⟩ <;> conv=>whnf)|(refine ⟨(by rw [lQ]; omega),?_⟩ <;> conv=>whnf)|refine Rd (fun h=>⟨?_⟩) fun h=>⟨?_⟩|refine Rb ⟨?_⟩|fail
     refine .here ⟨mq - 1,by omega,?_⟩;refine lwc 0 1 i [0,3,4] [2] rfl rfl (by omega) rfl ?_
     conv=>whnf
     refine ⟨rfl,rfl,i+1,ws.set i (x.map Mrk.c),(by omega),rfl,congrArg (fun z=>[(0,Blk.deep _ _ z)]) (co _ _),rfl,by omega,(by rw [hw,xd hx])⟩
end Go.Proofs.YtagejnomlkfndaaGreatDoor
