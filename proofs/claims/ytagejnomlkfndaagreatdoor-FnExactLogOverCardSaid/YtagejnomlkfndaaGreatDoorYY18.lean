/- Texts of this claim, set close: lemmas and contracts. -/
import Derived.Test.YtagejnomlkfndaaGreatDoorYY14
import Derived.Test.YtagejnomlkfndaaGreatDoorYY10
import Derived.Test.YtagejnomlkfndaaGreatDoorYY3
import Derived.Test.YtagejnomlkfndaaGreatDoorYY11
import Derived.Test.YtagejnomlkfndaaGreatDoorYY13
import Derived.Test.YtagejnomlkfndaaGreatDoorYY15
set_option linter.unusedSimpArgs false
set_option linter.unusedVariables false
set_option maxHeartbeats 1000000
set_option maxRecDepth 10000
namespace Go.Proofs.YtagejnomlkfndaaGreatDoor
open Go Go.RowKit Go.Ab Go.Par
variable {m:Int}
abbrev ee (x y:Ent):Bool:=decide (x.path=y.path) && ((x.dir == y.dir) && (decide (x.data=y.data) && true))
theorem D6 (x:Ent):ee x x=true:=by simp [ee]
theorem D7 {x y:Ent} (h:x≠y):ee x y=false:=by
 rw [← zAZ];intro hf;apply h;obtain ⟨p,d,q⟩:=x;obtain ⟨p',d',q'⟩:=y;simp [ee] at hf;simp [hf]
abbrev em (x y:Mrk):Bool:=decide (x.path=y.path) && (decide (x.kind=y.kind) && (decide (x.data=y.data) && true))
theorem IA (x:Mrk):em x x=true:=by simp [em]
theorem IB {x y:Mrk} (h:x≠y):em x y=false:=by
 rw [← zAZ];intro hf;apply h;obtain ⟨p,d,q⟩:=x;obtain ⟨p',d',q'⟩:=y;simp [em] at hf;simp [hf]
theorem pW {α:Type} {t u:List α} {i:Nat} {x y:α} (h1:t[i]?=some x) (h2:u[i]?=some y) (h:x≠y):t≠u:=by
 rintro rfl;rw [h1] at h2;exact h (zAb h2)
theorem ge {α:Type} {t u:List α} {i:Nat} {x:α} (h1:t[i]?=some x) (h2:u[i]?=some x) (h:t.take i=u.take i):t.take (i+1)=u.take (i+1):=by
 rw [zAY,zAY,h1,h2,h]
theorem ik {α:Type} {t u:List α} {i:Nat} (hl:t.length=u.length) (hi:t.length≤i) (h:t.take i=u.take i):t=u:=by
 rw [zAc hi,zAc (by omega)] at h;exact h
theorem AD (t u:List Mrk) (ht:t.length≤1048576) (hu:u.length≤1048576):Con (E m) 221 0 [.sl (t.map Mrk.c),.sl (u.map Mrk.c)] [] (.b (decide (t=u))) []:=by
 have e1:(t.map Mrk.c).length=t.length:=zAA ..;have e2:(u.map Mrk.c).length=u.length:=zAA ..;by_cases hl:t.length=u.length
 · refine G0 Tryz.func221 ?_;repeat' first|refine Rx ⟨?_⟩|refine Rd (fun h=>⟨?_⟩) fun h=>⟨?_⟩|fail
   refine Cd.loop2 (fun mq tm S nx=>∃ (i:Nat),mq=(t.length - i)∧tm=[(0,.sl (t.map Mrk.c)),(1,.sl (u.map Mrk.c)),(12,.k .i64 ((t.map Mrk.c).length:Int)),(13,.k .i64 i)]∧S=[]∧nx=0∧(i≤t.length)∧(t.take i=u.take i)) ?_ ?_
   · refine la [0,1,12,13] ?_
     conv=>whnf
     refine ⟨rfl,rfl,_,0,rfl,rfl,rfl,rfl,by omega,rfl⟩
   · rintro mq tm S nx ⟨i,hn,rfl,rfl,rfl,hi,ha⟩;by_cases hlt:i < t.length
     · have g1:t[i]?=some t[i]:=zAB hlt;have g2:u[i]?=some (u[i]'(by omega)):=zAB (by omega);generalize t[i]=x at g1;generalize u[i]'(by omega)=y at g2;by_cases hxy:x=y
       · subst hxy;have e3:=IA x;repeat' first|refine Rx ⟨?_⟩|refine Rd (fun h=>⟨?_⟩) fun h=>⟨?_⟩|fail
         refine .here ⟨mq - 1,by omega,?_⟩;refine la [0,1,12,13] ?_
         conv=>whnf
         refine ⟨rfl,rfl,i+1,(by omega),rfl,rfl,rfl,by omega,ge g1 g2 ha⟩
       · have e3:=IB hxy;have e4:decide (t=u)=false:=decide_eq_false (pW g1 g2 hxy);rw [e4];repeat' first|refine Rx ⟨?_⟩|refine Rd (fun h=>⟨?_⟩) fun h=>⟨?_⟩|fail
         exact Rf
     · have e4:decide (t=u)=true:=decide_eq_true (ik hl (by omega) ha);rw [e4];repeat' first|refine Rx ⟨?_⟩|refine Rd (fun h=>⟨?_⟩) fun h=>⟨?_⟩|fail
       exact Rf
 · have e4:decide (t=u)=false:=decide_eq_false (fun h=>hl (by rw [h]));rw [e4];refine G0 Tryz.func221 ?_;repeat' first|refine Rx ⟨?_⟩|refine Rd (fun h=>⟨?_⟩) fun h=>⟨?_⟩|fail
   exact Rf
theorem kJ (t u:List Mrk) (ht:t.length≤1048576) (hu:u.length≤1048576):Con (E m) 162 0 [.sl (t.map Mrk.c),.sl (u.map Mrk.c)] [] (.b (decide (t=u))) []:=by
 have c1:=AD (m:=m) t u ht hu;refine G0 Tryz.func162 ?_;repeat' first|refine Ra ⟨?_⟩|refine R0 c1 ⟨?_⟩|refine Rd (fun h=>⟨?_⟩) fun h=>⟨?_⟩|refine Rb ⟨?_⟩|fail
 exact Rf
theorem gg (A:List Bs) (x:Bs):strs A++[[.s x]]=strs (A++[x]):=by simp [strs]
theorem rG {t:List Ent} {j:Nat} {x:Ent} (h:t[j]?=some x):aC (t.take (j+1))=aC (t.take j)++[x.path]:=by
 rw [zAY,h]
 simp
theorem rI {t es:List Ent} {i:Nat} {x:Ent} (h:es[i]?=some x):cF t (es.take (i+1))=ea (cF t (es.take i)) x:=by
 rw [zAY,h];simp [cF,List.foldl_append]
theorem wV (r:List Ent):ef r []=aC r:=by
 cases r <;> simp [ef]
theorem D8 {x:Ent} {r u:List Ent} (h:u=[]∨∃ y s,u=y :: s∧lt x.path y.path=true):ef (x :: r) u=x.path :: ef r u:=by
 rcases h with rfl|⟨y,s,rfl,h⟩
 · rw [wV,wV]; rfl
 · rw [ef,if_pos h]
theorem D9 {y:Ent} {t s:List Ent} (h:t=[]∨∃ x r,t=x :: r∧lt x.path y.path=false∧lt y.path x.path=true):ef t (y :: s)=y.path :: ef t s:=by
 rcases h with rfl|⟨x,r,rfl,h1,h2⟩
 · simp [ef]
 · rw [ef,if_neg (by rw [h1]; simp),if_pos h2]
theorem H2 {x y:Ent} {r s:List Ent} (h1:lt x.path y.path=false) (h2:lt y.path x.path=false):ef (x :: r) (y :: s)=if x=y then ef r s else x.path :: ef r s:=by
 rw [ef,if_neg (by rw [h1]; simp),if_neg (by rw [h2]; simp)]
theorem rJ (t u:List Ent) (ht:∀ e∈t,e.path.length≤1073741824∧e.data.length≤1073741824) (hu:∀ e∈u,e.path.length≤1073741824∧e.data.length≤1073741824):Con (E m) 194 0 [.sl (t.map Ent.c),.sl (u.map Ent.c)] [] (.own 0) [(0,.own 9 (strs (bo t u)))]:=by
 have c1:=gQ (m:=m) t ht;have c2:=gQ (m:=m) u hu;cases h1:aq t with
 | false=>
   rw [h1] at c1;have hx:bo t u=[]:=by rw [bo,h1]; rfl
   rw [hx];refine G0 Tryz.func194 ?_;repeat' first|refine Ra ⟨?_⟩|refine R0 c1 ⟨?_⟩|refine Rd (fun h=>⟨?_⟩) fun h=>⟨?_⟩|refine Rb ⟨?_⟩|fail
   exact Rf
 | true=>
   rw [h1] at c1;cases h2:aq u with
   | false=>
     rw [h2] at c2;have hx:bo t u=[]:=by rw [bo,h1,h2]; rfl
     rw [hx];refine G0 Tryz.func194 ?_;repeat' first|refine Ra ⟨?_⟩|refine R0 c1 ⟨?_⟩|refine R0 c2 ⟨?_⟩|refine Rd (fun h=>⟨?_⟩) fun h=>⟨?_⟩|refine Rb ⟨?_⟩|fail
     exact Rf
   | true=>
     rw [h2] at c2;have l1:=aN h1;have l2:=aN h2;rw [← GW h1 h2];have e1:(t.map Ent.c).length=t.length:=zAA ..;have e2:(u.map Ent.c).length=u.length:=zAA ..;refine G0 Tryz.func194 ?_;repeat' first|refine Ra ⟨?_⟩|refine R0 c1 ⟨?_⟩|refine R0 c2 ⟨?_⟩|refine Rd (fun h=>⟨?_⟩) fun h=>⟨?_⟩|refine Rb ⟨?_⟩|fail
     refine Cd.loop2 (fun mq tm S nx=>∃ (i:Nat) (j:Nat) (A:List Bs),mq=(t.length+u.length - i - j)∧tm=[(0,.sl (t.map Ent.c)),(1,.sl (u.map Ent.c)),(5,.own 0),(6,.k .i64 i),(7,.k .i64 j)]∧S=[(0,.own 9 (strs A))]∧nx=1∧(i≤t.length)∧(j≤u.length)∧(ef t u=A++ef (t.drop i) (u.drop j))∧(A.length≤i+j)) ?_ ?_
     · refine la [0,1,5,6,7] ?_
       conv=>whnf
       refine ⟨rfl,rfl,_,0,0,[],rfl,rfl,rfl,rfl,by omega,by omega,by simp,by simp⟩
     · rintro mq tm S nx ⟨i,j,A,hn,rfl,rfl,rfl,hi,hj,hA,hAl⟩;have e3:(strs A).length=A.length:=zAA ..;rcases av t i hi with ⟨k1,k2⟩|⟨x,r,g1,k1,k2,k3⟩
       · rcases av u j hj with ⟨k4,k5⟩|⟨y,s,g2,k4,k5,k6⟩
         · rw [k2,k5] at hA;have hA':A=ef t u:=by rw [hA]; simp [ef]
           rw [← hA'];repeat' first|refine Rx ⟨?_⟩|refine Rd (fun h=>⟨?_⟩) fun h=>⟨?_⟩|fail
           exact Rf
         · rw [k2,k4,D9 (.inl rfl),← k5,← k2] at hA;repeat' first|refine Rx ⟨?_⟩|refine Rd (fun h=>⟨?_⟩) fun h=>⟨?_⟩|fail
           refine .here ⟨mq - 1,by omega,?_⟩;refine la [0,1,5,6,7] ?_
           conv=>whnf
           refine ⟨rfl,rfl,i,j+1,A++[y.path],(by omega),rfl,?_,rfl,by omega,by omega,(by rw [hA]; simp),(by simp; omega)⟩;rw [← gg];rfl
       · rcases av u j hj with ⟨k4,k5⟩|⟨y,s,g2,k4,k5,k6⟩
         · rw [k1,k5,D8 (.inl rfl),← k2,← k5] at hA;repeat' first|refine Rx ⟨?_⟩|refine Rd (fun h=>⟨?_⟩) fun h=>⟨?_⟩|fail
           refine .here ⟨mq - 1,by omega,?_⟩;refine la [0,1,5,6,7] ?_
           conv=>whnf
           refine ⟨rfl,rfl,i+1,j,A++[x.path],(by omega),rfl,?_,rfl,by omega,by omega,(by rw [hA]; simp),(by simp; omega)⟩;rw [← gg];rfl
         · cases q1:lt x.path y.path with
           | true=>
             rw [k1,k4,D8 (.inr ⟨y,s,rfl,q1⟩),← k2,← k4] at hA;repeat' first|refine Rx ⟨?_⟩|refine Rd (fun h=>⟨?_⟩) fun h=>⟨?_⟩|fail
             refine .here ⟨mq - 1,by omega,?_⟩;refine la [0,1,5,6,7] ?_
             conv=>whnf
             refine ⟨rfl,rfl,i+1,j,A++[x.path],(by omega),rfl,?_,rfl,by omega,by omega,(by rw [hA]; simp),(by simp; omega)⟩;rw [← gg];rfl
           | false=>
             cases q2:lt y.path x.path with
             | true=>
               rw [k1,k4,D9 (.inr ⟨x,r,rfl,q1,q2⟩),← k1,← k5] at hA;repeat' first|refine Rx ⟨?_⟩|refine Rd (fun h=>⟨?_⟩) fun h=>⟨?_⟩|fail
               refine .here ⟨mq - 1,by omega,?_⟩;refine la [0,1,5,6,7] ?_
               conv=>whnf
               refine ⟨rfl,rfl,i,j+1,A++[y.path],(by omega),rfl,?_,rfl,by omega,by omega,(by rw [hA]; simp),(by simp; omega)⟩;rw [← gg];rfl
             | false=>
               rw [k1,k4,H2 q1 q2] at hA;by_cases hxy:x=y
               · have q3:=D6 x;subst hxy;rw [if_pos rfl,← k2,← k5] at hA;repeat' first|refine Rx ⟨?_⟩|refine Rd (fun h=>⟨?_⟩) fun h=>⟨?_⟩|fail
                 refine .here ⟨mq - 2,by omega,?_⟩;refine la [0,1,5,6,7] ?_
                 conv=>whnf
                 refine ⟨rfl,rfl,i+1,j+1,A,(by omega),rfl,rfl,rfl,by omega,by omega,hA,by omega⟩
               · have q3:=D7 hxy;rw [if_neg hxy,← k2,← k5] at hA;repeat' first|refine Rx ⟨?_⟩|refine Rd (fun h=>⟨?_⟩) fun h=>⟨?_⟩|fail
                 refine .here ⟨mq - 2,by omega,?_⟩;refine la [0,1,5,6,7] ?_
                 conv=>whnf
                 refine ⟨rfl,rfl,i+1,j+1,A++[x.path],(by omega),rfl,?_,rfl,by omega,by omega,(by rw [hA]; simp),(by simp; omega)⟩;rw [← gg];rfl
end Go.Proofs.YtagejnomlkfndaaGreatDoor
