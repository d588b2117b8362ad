/- Texts of this claim, set close: lemmas and contracts. -/
import Derived.Test.YtagejnomlkfndaaGreatDoorYY14
import Derived.Test.YtagejnomlkfndaaGreatDoorYY10
import Derived.Test.YtagejnomlkfndaaGreatDoorYY3
import Derived.Test.YtagejnomlkfndaaGreatDoorYY11
import Derived.Test.YtagejnomlkfndaaGreatDoorYY13
import Derived.Test.YtagejnomlkfndaaGreatDoorYY15
set_option linter.unusedSimpArgs false
set_option linter.unusedVariables false
set_option maxHeartbeats 1000000
set_option maxRecDepth 10000
namespace Go.Proofs.YtagejnomlkfndaaGreatDoor
open Go Go.RowKit Go.Ab Go.Par
variable {m:Int}
abbrev ee (x y:Ent):Bool:=decide (x.path=y.path) && ((x.dir == y.dir) && (decide (x.data=y.data) && true))
theorem D1 (x:Ent):ee x x=true:=by simp [ee]
theorem D2 {x y:Ent} (h:x≠y):ee x y=false:=by
 rw [← zAa];intro hf;apply h;obtain ⟨p,d,q⟩:=x;obtain ⟨p',d',q'⟩:=y;simp [ee] at hf;simp [hf]
abbrev em (x y:Mrk):Bool:=decide (x.path=y.path) && (decide (x.kind=y.kind) && (decide (x.data=y.data) && true))
theorem FC (x:Mrk):em x x=true:=by simp [em]
theorem FD {x y:Mrk} (h:x≠y):em x y=false:=by
 rw [← zAa];intro hf;apply h;obtain ⟨p,d,q⟩:=x;obtain ⟨p',d',q'⟩:=y;simp [em] at hf;simp [hf]
theorem D3 {α:Type} {t u:List α} {i:Nat} {x y:α} (h1:t[i]?=some x) (h2:u[i]?=some y) (h:x≠y):t≠u:=by
 rintro rfl;rw [h1] at h2;exact h (zAZ h2)
theorem o6 {α:Type} {t u:List α} {i:Nat} {x:α} (h1:t[i]?=some x) (h2:u[i]?=some x) (h:t.take i=u.take i):t.take (i+1)=u.take (i+1):=by
 rw [zAX,zAX,h1,h2,h]
theorem rX {α:Type} {t u:List α} {i:Nat} (hl:t.length=u.length) (hi:t.length≤i) (h:t.take i=u.take i):t=u:=by
 rw [zAY hi,zAY (by omega)] at h;exact h
theorem xW (t u:List Mrk) (ht:t.length≤1048576) (hu:u.length≤1048576):Con (E m) 221 0 [.sl (t.map Mrk.c),.sl (u.map Mrk.c)] [] (.b (decide (t=u))) []:=by
 have e1:(t.map Mrk.c).length=t.length:=zAA ..;have e2:(u.map Mrk.c).length=u.length:=zAA ..;by_cases hl:t.length=u.length
 · refine G0 Tryz.func221 ?_;repeat' first|refine Rx ⟨?_⟩|refine Rd (fun h=>⟨?_⟩) fun h=>⟨?_⟩|fail
   refine Cd.loop2 (fun mq tm S nx=>∃ (i:Nat),mq=(t.length - i)∧tm=[(0,.sl (t.map Mrk.c)),(1,.sl (u.map Mrk.c)),(12,.k .i64 ((t.map Mrk.c).length:Int)),(13,.k .i64 i)]∧S=[]∧nx=0∧(i≤t.length)∧(t.take i=u.take i)) ?_ ?_
   · refine la [0,1,12,13] ?_
     conv=>whnf
     refine ⟨rfl,rfl,_,0,rfl,rfl,rfl,rfl,by omega,rfl⟩
   · rintro mq tm S nx ⟨i,hn,rfl,rfl,rfl,hi,ha⟩;by_cases hlt:i < t.length
     · have g1:t[i]?=some t[i]:=zAB hlt;have g2:u[i]?=some (u[i]'(by omega)):=zAB (by omega);generalize t[i]=x at g1;generalize u[i]'(by omega)=y at g2;by_cases hxy:x=y
       · subst hxy;have e3:=FC x;repeat' first|refine Rx ⟨?_⟩|refine Rd (fun h=>⟨?_⟩) fun h=>⟨?_⟩|fail
         refine .here ⟨mq - 1,by omega,?_⟩;refine la [0,1,12,13] ?_
         conv=>whnf
         refine ⟨rfl,rfl,i+1,(by omega),rfl,rfl,rfl,by omega,o6 g1 g2 ha⟩
       · have e3:=FD hxy;have e4:decide (t=u)=false:=decide_eq_false (D3 g1 g2 hxy);rw [e4];repeat' first|refine Rx ⟨?_⟩|refine Rd (fun h=>⟨?_⟩) fun h=>⟨?_⟩|fail
         exact Rf
     · have e4:decide (t=u)=true:=decide_eq_true (rX hl (by omega) ha);rw [e4];repeat' first|refine Rx ⟨?_⟩|refine Rd (fun h=>⟨?_⟩) fun h=>⟨?_⟩|fail
       exact Rf
 · have e4:decide (t=u)=false:=decide_eq_false (fun h=>hl (by rw [h]));rw [e4];refine G0 Tryz.func221 ?_;repeat' first|refine Rx ⟨?_⟩|refine Rd (fun h=>⟨?_⟩) fun h=>⟨?_⟩|fail
   exact Rf
theorem jk (t u:List Mrk) (ht:t.length≤1048576) (hu:u.length≤1048576):Con (E m) 162 0 [.sl (t.map Mrk.c),.sl (u.map Mrk.c)] [] (.b (decide (t=u))) []:=by
 have c1:=xW (m:=m) t u ht hu;refine G0 Tryz.func162 ?_;repeat' first|refine Ra ⟨?_⟩|refine R0 c1 ⟨?_⟩|refine Rd (fun h=>⟨?_⟩) fun h=>⟨?_⟩|refine Rb ⟨?_⟩|fail
 exact Rf
theorem eR (A:List Bs) (x:Bs):strs A++[[.s x]]=strs (A++[x]):=by simp [strs]
theorem pO {t:List Ent} {j:Nat} {x:Ent} (h:t[j]?=some x):ay (t.take (j+1))=ay (t.take j)++[x.path]:=by
 rw [zAX,h]
 simp
theorem pP {t es:List Ent} {i:Nat} {x:Ent} (h:es[i]?=some x):b9 t (es.take (i+1))=dD (b9 t (es.take i)) x:=by
 rw [zAX,h];simp [b9,List.foldl_append]
theorem uv (r:List Ent):dj r []=ay r:=by
 cases r <;> simp [dj]
theorem A8 {x:Ent} {r u:List Ent} (h:u=[]∨∃ y s,u=y :: s∧lt x.path y.path=true):dj (x :: r) u=x.path :: dj r u:=by
 rcases h with rfl|⟨y,s,rfl,h⟩
 · rw [uv,uv]; rfl
 · rw [dj,if_pos h]
theorem A9 {y:Ent} {t s:List Ent} (h:t=[]∨∃ x r,t=x :: r∧lt x.path y.path=false∧lt y.path x.path=true):dj t (y :: s)=y.path :: dj t s:=by
 rcases h with rfl|⟨x,r,rfl,h1,h2⟩
 · simp [dj]
 · rw [dj,if_neg (by rw [h1]; simp),if_pos h2]
theorem E0 {x y:Ent} {r s:List Ent} (h1:lt x.path y.path=false) (h2:lt y.path x.path=false):dj (x :: r) (y :: s)=if x=y then dj r s else x.path :: dj r s:=by
 rw [dj,if_neg (by rw [h1]; simp),if_neg (by rw [h2]; simp)]
theorem pQ (t u:List Ent) (ht:∀ e∈t,e.path.length≤1073741824∧e.data.length≤1073741824) (hu:∀ e∈u,e.path.length≤1073741824∧e.data.length≤1073741824):Con (E m) 194 0 [.sl (t.map Ent.c),.sl (u.map Ent.c)] [] (.own 0) [(0,.own 9 (strs (aY t u)))]:=by
 have c1:=fx (m:=m) t ht;have c2:=fx (m:=m) u hu;cases h1:ai t with
 | false=>
   rw [h1] at c1;have hx:aY t u=[]:=by rw [aY,h1]; rfl
   rw [hx];refine G0 Tryz.func194 ?_;repeat' first|refine Ra ⟨?_⟩|refine R0 c1 ⟨?_⟩|refine Rd (fun h=>⟨?_⟩) fun h=>⟨?_⟩|refine Rb ⟨?_⟩|fail
   exact Rf
 | true=>
   rw [h1] at c1;cases h2:ai u with
   | false=>
     rw [h2] at c2;have hx:aY t u=[]:=by rw [aY,h1,h2]; rfl
     rw [hx];refine G0 Tryz.func194 ?_;repeat' first|refine Ra ⟨?_⟩|refine R0 c1 ⟨?_⟩|refine R0 c2 ⟨?_⟩|refine Rd (fun h=>⟨?_⟩) fun h=>⟨?_⟩|refine Rb ⟨?_⟩|fail
     exact Rf
   | true=>
     rw [h2] at c2;have l1:=aI h1;have l2:=aI h2;rw [← DT h1 h2];have e1:(t.map Ent.c).length=t.length:=zAA ..;have e2:(u.map Ent.c).length=u.length:=zAA ..;refine G0 Tryz.func194 ?_;repeat' first|refine Ra ⟨?_⟩|refine R0 c1 ⟨?_⟩|refine R0 c2 ⟨?_⟩|refine Rd (fun h=>⟨?_⟩) fun h=>⟨?_⟩|refine Rb ⟨?_⟩|fail
     refine Cd.loop2 (fun mq tm S nx=>∃ (i:Nat) (j:Nat) (A:List Bs),mq=(t.length+u.length - i - j)∧tm=[(0,.sl (t.map Ent.c)),(1,.sl (u.map Ent.c)),(5,.own 0),(6,.k .i64 i),(7,.k .i64 j)]∧S=[(0,.own 9 (strs A))]∧nx=1∧(i≤t.length)∧(j≤u.length)∧(dj t u=A++dj (t.drop i) (u.drop j))∧(A.length≤i+j)) ?_ ?_
     · refine la [0,1,5,6,7] ?_
       conv=>whnf
       refine ⟨rfl,rfl,_,0,0,[],rfl,rfl,rfl,rfl,by omega,by omega,by simp,by simp⟩
     · rintro mq tm S nx ⟨i,j,A,hn,rfl,rfl,rfl,hi,hj,hA,hAl⟩;have e3:(strs A).length=A.length:=zAA ..;rcases al t i hi with ⟨k1,k2⟩|⟨x,r,g1,k1,k2,k3⟩
       · rcases al u j hj with ⟨k4,k5⟩|⟨y,s,g2,k4,k5,k6⟩
         · rw [k2,k5] at hA;have hA':A=dj t u:=by rw [hA]; simp [dj]
           rw [← hA'];repeat' first|refine Rx ⟨?_⟩|refine Rd (fun h=>⟨?_⟩) fun h=>⟨?_⟩|fail
           exact Rf
         · rw [k2,k4,A9 (.inl rfl),← k5,← k2] at hA;repeat' first|refine Rx ⟨?_⟩|refine Rd (fun h=>⟨?_⟩) fun h=>⟨?_⟩|fail
           refine .here ⟨mq - 1,by omega,?_⟩;refine la [0,1,5,6,7] ?_
           conv=>whnf
           refine ⟨rfl,rfl,i,j+1,A++[y.path],(by omega),rfl,?_,rfl,by omega,by omega,(by rw [hA]; simp),(by simp; omega)⟩;rw [← eR];rfl
       · rcases al u j hj with ⟨k4,k5⟩|⟨y,s,g2,k4,k5,k6⟩
         · rw [k1,k5,A8 (.inl rfl),← k2,← k5] at hA;repeat' first|refine Rx ⟨?_⟩|refine Rd (fun h=>⟨?_⟩) fun h=>⟨?_⟩|fail
           refine .here ⟨mq - 1,by omega,?_⟩;refine la [0,1,5,6,7] ?_
           conv=>whnf
           refine ⟨rfl,rfl,i+1,j,A++[x.path],(by omega),rfl,?_,rfl,by omega,by omega,(by rw [hA]; simp),(by simp; omega)⟩;rw [← eR];rfl
         · cases q1:lt x.path y.path with
           | true=>
             rw [k1,k4,A8 (.inr ⟨y,s,rfl,q1⟩),← k2,← k4] at hA;repeat' first|refine Rx ⟨?_⟩|refine Rd (fun h=>⟨?_⟩) fun h=>⟨?_⟩|fail
             refine .here ⟨mq - 1,by omega,?_⟩;refine la [0,1,5,6,7] ?_
             conv=>whnf
             refine ⟨rfl,rfl,i+1,j,A++[x.path],(by omega),rfl,?_,rfl,by omega,by omega,(by rw [hA]; simp),(by simp; omega)⟩;rw [← eR];rfl
           | false=>
             cases q2:lt y.path x.path with
             | true=>
               rw [k1,k4,A9 (.inr ⟨x,r,rfl,q1,q2⟩),← k1,← k5] at hA;repeat' first|refine Rx ⟨?_⟩|refine Rd (fun h=>⟨?_⟩) fun h=>⟨?_⟩|fail
               refine .here ⟨mq - 1,by omega,?_⟩;refine la [0,1,5,6,7] ?_
               conv=>whnf
               refine ⟨rfl,rfl,i,j+1,A++[y.path],(by omega),rfl,?_,rfl,by omega,by omega,(by rw [hA]; simp),(by simp; omega)⟩;rw [← eR];rfl
             | false=>
               rw [k1,k4,E0 q1 q2] at hA;by_cases hxy:x=y
               · have q3:=D1 x;subst hxy;rw [if_pos rfl,← k2,← k5] at hA;repeat' first|refine Rx ⟨?_⟩|refine Rd (fun h=>⟨?_⟩) fun h=>⟨?_⟩|fail
                 refine .here ⟨mq - 2,by omega,?_⟩;refine la [0,1,5,6,7] ?_
                 conv=>whnf
                 refine ⟨rfl,rfl,i+1,j+1,A,(by omega),rfl,rfl,rfl,by omega,by omega,hA,by omega⟩
               · have q3:=D2 hxy;rw [if_neg hxy,← k2,← k5] at hA;repeat' first|refine Rx ⟨?_⟩|refine Rd (fun h=>⟨?_⟩) fun h=>⟨?_⟩|fail
                 refine .here ⟨mq - 2,by omega,?_⟩;refine la [0,1,5,6,7] ?_
                 conv=>whnf
                 refine ⟨rfl,rfl,i+1,j+1,A++[x.path],(by omega),rfl,?_,rfl,by omega,by omega,(by rw [hA]; simp),(by simp; omega)⟩;rw [← eR];rfl
end Go.Proofs.YtagejnomlkfndaaGreatDoor
