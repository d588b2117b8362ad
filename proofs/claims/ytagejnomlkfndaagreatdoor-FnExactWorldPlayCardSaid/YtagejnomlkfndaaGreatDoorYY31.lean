/- Texts of this claim, set close: lemmas and contracts. -/
import Derived.Test.YtagejnomlkfndaaGreatDoorYY27
import Derived.Test.YtagejnomlkfndaaGreatDoorYY11
set_option linter.unusedSimpArgs false
set_option linter.unusedVariables false
set_option maxHeartbeats 1000000
set_option maxRecDepth 10000
namespace Go.Proofs.YtagejnomlkfndaaGreatDoor
open Go Go.RowKit Go.Ab Go.Par
variable {m:Int}
theorem Hd {t:List Ent} {p:Bs}:gq t (al p)=true↔bC t p=0:=by
 rw [fU,gq,zAe,decide_eq_true_eq];refine or_congr Iff.rfl ?_;cases ao t (al p) with
 | none=>simp [fm]
 | some e=>simp [fm]
theorem uA (l:List Mrk) (p:Bs) (hl:l.length≤1073741824) (hp:p.length≤1073741823) (hb:∀ x∈l,x.path.length≤1073741823):Con (E m) 275 0 [.sl (l.map Mrk.c),.s p] [] (.b (cg l p)) []:=by
 have e1:(l.map Mrk.c).length=l.length:=zAA ..;refine G0 Tryz.func275 ?_;repeat' first|refine Rx ⟨?_⟩|refine Rd (fun h=>⟨?_⟩) fun h=>⟨?_⟩|fail
 refine Cd.loop2 (fun mq tm S nx=>∃ (i:Nat),mq=(l.length - i)∧tm=[(0,.sl (l.map Mrk.c)),(1,.s p),(5,.k .i64 i)]∧S=[]∧nx=0∧(i≤l.length)∧(cg l p=cg (l.drop i) p)) ?_ ?_
 · refine la [0,1,5] ?_
   conv=>whnf
   refine ⟨rfl,rfl,_,0,rfl,rfl,rfl,rfl,by omega,rfl⟩
 · rintro mq tm S nx ⟨i,hn,rfl,rfl,rfl,hi,ha⟩;rcases av l i hi with ⟨rfl,hd⟩|⟨x,r,hx,hd,hr,hlt⟩
   · rw [hd] at ha;rw [ha];repeat' first|refine Rx ⟨?_⟩|refine Rd (fun h=>⟨?_⟩) fun h=>⟨?_⟩|fail
     exact Rf
   · rw [hd] at ha;have c1:=ju (m:=m) p x.path (by omega) (by have:=hb x (zAD hx); omega);by_cases h2:x.kind=2
     · have hs:cg l p=cg (l.drop (i+1)) p:=by rw [ha,hr]; simp [cg,h2]
       by_cases h3:x.path=p
       all_goals
        repeat' first|refine Rx ⟨?_⟩|refine Rd (fun h=>⟨?_⟩) fun h=>⟨?_⟩|fail
        refine .here ⟨mq - 1,by omega,?_⟩;refine la [0,1,5] ?_
        conv=>whnf
        refine ⟨rfl,rfl,i+1,(by omega),rfl,rfl,rfl,by omega,hs⟩
     · by_cases h3:x.path=p
       · have hs:cg l p=true:=by rw [ha]; simp [cg,h2,h3,inP]
         rw [hs];repeat' first|refine Rx ⟨?_⟩|refine Rd (fun h=>⟨?_⟩) fun h=>⟨?_⟩|fail
         exact Rf
       · have h5:¬ p=x.path:=fun h=>h3 h.symm;cases h4:bc p x.path with
         | true=>
           rw [h4] at c1;have hs:cg l p=true:=by rw [ha]; simp [cg,h2,h4,inP]
           rw [hs];repeat' first|refine Ra ⟨?_⟩|refine R0 c1 ⟨?_⟩|refine Rd (fun h=>⟨?_⟩) fun h=>⟨?_⟩|refine Rb ⟨?_⟩|fail
           exact Rf
         | false=>
           rw [h4] at c1;have hs:cg l p=cg (l.drop (i+1)) p:=by rw [ha,hr]; simp [cg,h2,h4,h5,inP]
           repeat' first|refine Ra ⟨?_⟩|refine R0 c1 ⟨?_⟩|refine Rd (fun h=>⟨?_⟩) fun h=>⟨?_⟩|refine Rb ⟨?_⟩|fail
           refine .here ⟨mq - 1,by omega,?_⟩;refine la [0,1,5] ?_
           conv=>whnf
           refine ⟨rfl,rfl,i+1,(by omega),rfl,rfl,rfl,by omega,hs⟩
theorem putAll_len:∀ (es t:List Ent),(cF t es).length≤t.length+es.length
 | [],t=>by simp [cF]
 | e :: es,t=>by
   have h:=putAll_len es (ea t e)
   have:=(fR t e).2
   simp only [cF,List.foldl_cons,List.length_cons] at h ⊢;omega
theorem H8 (l:List Mrk) (t:List Ent) (hl:aR l=true) (ht:aq t=true):Con (E m) 229 0 [.sl (l.map Mrk.c),.sl (t.map Ent.c)] [] (.sl ((onL l t).map Ent.c)) []:=by
 have hll:=dN hl;have htl:=aN ht;have hlb:=gV hl;have hmk:∀ x∈l,cX x=true:=fun x hx=>((fW.1 hl).2.2 x hx).1;have e1:(l.map Mrk.c).length=l.length:=zAA ..;have e2:(t.map Ent.c).length=t.length:=zAA ..;have hon:onL l t=cF (t.filter fun e=>!cg l e.path) (l.filterMap bD):=rfl;have hFl:=zAa (fun e:Ent=>!cg l e.path) t;refine G0 Tryz.func229 ?_;repeat' first|refine Rx ⟨?_⟩|refine Rd (fun h=>⟨?_⟩) fun h=>⟨?_⟩|fail
 refine Cd.loop2 (fun mq tm S nx=>∃ (i:Nat) (A:List Ent),mq=(t.length - i)∧tm=[(0,.sl (l.map Mrk.c)),(1,.sl (t.map Ent.c)),(5,.own 0),(6,.k .i64 i)]∧S=[(0,.own 66 (A.map Ent.c))]∧nx=1∧(i≤t.length)∧(A=(t.take i).filter fun e=>!cg l e.path)∧(A.length≤i)) ?_ ?_
 · refine la [0,1,5,6] ?_
   conv=>whnf
   refine ⟨rfl,rfl,_,0,[],rfl,rfl,rfl,rfl,by omega,(by simp),by simp⟩
 · rintro mq tm S nx ⟨i,A,hn,rfl,rfl,rfl,hi,hA,hAl⟩;have e3:(A.map Ent.c).length=A.length:=zAA ..;rcases av t i hi with ⟨rfl,hd⟩|⟨x,r,hx',hd,hr,hlt⟩
   · rw [zAP] at hA;rw [← hA] at hon hFl;repeat' first|refine Rx ⟨?_⟩|refine Rd (fun h=>⟨?_⟩) fun h=>⟨?_⟩|fail
     refine Cd.loop2 (fun mq tm S nx=>∃ (j:Nat) (B:List Ent),mq=(l.length - j)∧tm=[(0,.sl (l.map Mrk.c)),(5,.sl (B.map Ent.c)),(7,.k .i64 j)]∧S=[]∧nx=0∧(j≤l.length)∧(B=cF A ((l.take j).filterMap bD))∧(B.length≤16+j)) ?_ ?_
     · refine li [5] [0,5,7] ?_
       conv=>whnf
       refine ⟨rfl,rfl,_,0,A,rfl,rfl,rfl,rfl,by omega,(by simp [cF]),by omega⟩
     · rintro mq tm S nx ⟨j,B,hn,rfl,rfl,rfl,hj,hB,hBl⟩;rcases av l j hj with ⟨rfl,hd⟩|⟨y,s,hy',hd,hr,hlt⟩
       · rw [zAP] at hB;rw [hon,← hB];repeat' first|refine Rx ⟨?_⟩|refine Rd (fun h=>⟨?_⟩) fun h=>⟨?_⟩|fail
         exact Rf
       · have g1:=nu (f:=bD) hy';obtain ⟨hk,_,_,hd0⟩:=fu (hmk y (zAD hy'));rcases hk with hk|hk|hk|hk
         · have g2:bD y=some ⟨y.path,false,y.data⟩:=by rw [bD,if_neg (by omega)]; simp [dS,hk]
           rw [g2] at g1;have c1:=iY (m:=m) B ⟨y.path,false,y.data⟩ (by omega);have hp:=(fR B ⟨y.path,false,y.data⟩).2;repeat' first|refine Ra ⟨?_⟩|refine Rk [] 1 c1 ⟨?_⟩|refine Rd (fun h=>⟨?_⟩) fun h=>⟨?_⟩|refine Rb ⟨?_⟩|fail
           refine .here ⟨mq - 1,by omega,?_⟩;refine li [5] [0,5,7] ?_
           conv=>whnf
           refine ⟨rfl,rfl,j+1,ea B ⟨y.path,false,y.data⟩,(by omega),rfl,rfl,rfl,by omega,(by rw [hB,g1]; simp [cF]),by omega⟩
         · have g2:bD y=some ⟨y.path,true,[]⟩:=by rw [bD,if_neg (by omega),hd0 (by omega)]; simp [dS,hk]
           rw [g2] at g1;have c1:=iY (m:=m) B ⟨y.path,true,[]⟩ (by omega);have hp:=(fR B ⟨y.path,true,[]⟩).2;repeat' first|refine Ra ⟨?_⟩|refine Rk [] 1 c1 ⟨?_⟩|refine Rd (fun h=>⟨?_⟩) fun h=>⟨?_⟩|refine Rb ⟨?_⟩|fail
           refine .here ⟨mq - 1,by omega,?_⟩;refine li [5] [0,5,7] ?_
           conv=>whnf
           refine ⟨rfl,rfl,j+1,ea B ⟨y.path,true,[]⟩,(by omega),rfl,rfl,rfl,by omega,(by rw [hB,g1]; simp [cF]),by omega⟩
         · have g2:bD y=none:=by rw [bD,if_pos hk]
           rw [g2,List.append_nil] at g1;repeat' first|refine Rx ⟨?_⟩|refine Rd (fun h=>⟨?_⟩) fun h=>⟨?_⟩|fail
           refine .here ⟨mq - 1,by omega,?_⟩;refine la [0,5,7] ?_
           conv=>whnf
           refine ⟨rfl,rfl,j+1,B,(by omega),rfl,rfl,rfl,by omega,(by rw [hB,g1]),by omega⟩
         · have g2:bD y=some ⟨y.path,true,[]⟩:=by rw [bD,if_neg (by omega),hd0 (by omega)]; simp [dS,hk]
           rw [g2] at g1;have c1:=iY (m:=m) B ⟨y.path,true,[]⟩ (by omega);have hp:=(fR B ⟨y.path,true,[]⟩).2;repeat' first|refine Ra ⟨?_⟩|refine Rk [] 1 c1 ⟨?_⟩|refine Rd (fun h=>⟨?_⟩) fun h=>⟨?_⟩|refine Rb ⟨?_⟩|fail
           refine .here ⟨mq - 1,by omega,?_⟩;refine li [5] [0,5,7] ?_
           conv=>whnf
           refine ⟨rfl,rfl,j+1,ea B ⟨y.path,true,[]⟩,(by omega),rfl,rfl,rfl,by omega,(by rw [hB,g1]; simp [cF]),by omega⟩
   · have g1:=filter_step (f:=fun e:Ent=>!cg l e.path) hx';have hxp:=(gx ht (zAD hx')).2.1;have hxl:=(aQ hxp).2;have c4:=uA (m:=m) l x.path (by omega) (by omega) (fun y hy=>by have:=(hlb y hy).1; omega);cases hh:cg l x.path with
     | true=>
       rw [hh] at c4;simp only [hh,zAR,cond_false,List.append_nil] at g1;repeat' first|refine Ra ⟨?_⟩|refine R0 c4 ⟨?_⟩|refine Rd (fun h=>⟨?_⟩) fun h=>⟨?_⟩|refine Rb ⟨?_⟩|fail
       refine .here ⟨mq - 1,by omega,?_⟩;refine la [0,1,5,6] ?_
       conv=>whnf
       refine ⟨rfl,rfl,i+1,A,(by omega),rfl,rfl,rfl,by omega,(by rw [hA,g1]),by omega⟩
     | false=>
       rw [hh] at c4;simp only [hh,zAQ,cond_true] at g1;repeat' first|refine Ra ⟨?_⟩|refine R0 c4 ⟨?_⟩|refine Rd (fun h=>⟨?_⟩) fun h=>⟨?_⟩|refine Rb ⟨?_⟩|fail
       refine .here ⟨mq - 1,by omega,?_⟩;refine la [0,1,5,6] ?_
       conv=>whnf
       refine ⟨rfl,rfl,i+1,A++[x],(by omega),rfl,?_,rfl,by omega,(by rw [hA,g1]),(by simp; omega)⟩;rw [zAH];rfl
def onD:Option (List Ent)→D
 | some t=>.tup [.sl (t.map Ent.c),.b true]
 | none=>.tup [.sl [],.b false]
theorem qb (l:List Mrk) (t:List Ent) (hl:l.length≤1073741824) (hb:∀ e∈l,e.path.length≤1073741823∧e.data.length≤1073741823) (ht:∀ e∈t,e.path.length≤1073741824∧e.data.length≤1073741824) :
   Con (E m) 179 0 [.sl (l.map Mrk.c),.sl (t.map Ent.c)] [] (onD (bj l t)) []:=by
 have c1:=ic (m:=m) l hl hb;have c2:=mQ (m:=m) t ht;cases h1:aR l with
 | false=>
   rw [h1] at c1;have hx:bj l t=none:=by simp [bj,h1]
   rw [hx];refine G0 Tryz.func179 ?_;repeat' first|refine Ra ⟨?_⟩|refine R0 c1 ⟨?_⟩|refine Rd (fun h=>⟨?_⟩) fun h=>⟨?_⟩|refine Rb ⟨?_⟩|fail
   exact Rz
 | true=>
   rw [h1] at c1;cases h2:aq t with
   | false=>
     rw [h2] at c2;have hx:bj l t=none:=by simp [bj,h2]
     rw [hx];refine G0 Tryz.func179 ?_;repeat' first|refine Ra ⟨?_⟩|refine R0 c1 ⟨?_⟩|refine R0 c2 ⟨?_⟩|refine Rd (fun h=>⟨?_⟩) fun h=>⟨?_⟩|refine Rb ⟨?_⟩|fail
     exact Rz
   | true=>
     rw [h2] at c2;have c3:=H8 (m:=m) l t h1 h2;have hx:bj l t=if (onL l t).length≤16 then some (onL l t) else none:=by simp [bj,h1,h2]
     have hol:(onL l t).length≤48:=by have:=Eg h1 h2; omega
     rw [hx];generalize onL l t=R at c3 hol ⊢;have e1:(R.map Ent.c).length=R.length:=zAA ..;by_cases hn:R.length≤16
     · rw [if_pos hn];refine G0 Tryz.func179 ?_;repeat' first|refine Ra ⟨?_⟩|refine R0 c1 ⟨?_⟩|refine R0 c2 ⟨?_⟩|refine R0 c3 ⟨?_⟩|refine Rd (fun h=>⟨?_⟩) fun h=>⟨?_⟩|refine Rb ⟨?_⟩|fail
       exact Rz
     · rw [if_neg hn];refine G0 Tryz.func179 ?_;repeat' first|refine Ra ⟨?_⟩|refine R0 c1 ⟨?_⟩|refine R0 c2 ⟨?_⟩|refine R0 c3 ⟨?_⟩|refine Rd (fun h=>⟨?_⟩) fun h=>⟨?_⟩|refine Rb ⟨?_⟩|fail
       exact Rz
theorem rU (a b:List Ent) (ha:aq a=true) (hb:aq b=true):Con (E m) 180 0 [.sl (a.map Ent.c),.sl (b.map Ent.c)] [] (.sl (strs (bo a b))) []:=by
 have hal:=aN ha;have hbl:=aN hb;have e1:(a.map Ent.c).length=a.length:=zAA ..;have e2:(b.map Ent.c).length=b.length:=zAA ..;have hx:bo a b=(aC (cF a b)).filter fun p=>decide (aA a p≠aA b p):=by rw [bo,ha,hb]; rfl
 refine G0 Tryz.func180 ?_;repeat' first|refine Rx ⟨?_⟩|refine Rd (fun h=>⟨?_⟩) fun h=>⟨?_⟩|fail
 refine Cd.loop2 (fun mq tm S nx=>∃ (i:Nat) (X:List Ent),mq=(b.length - i)∧tm=[(0,.sl (a.map Ent.c)),(1,.sl (b.map Ent.c)),(5,.sl (X.map Ent.c)),(6,.k .i64 i)]∧S=[]∧nx=0∧(i≤b.length)∧(X=cF a (b.take i))∧(X.length≤16+i)) ?_ ?_
 · refine li [5] [0,1,5,6] ?_
   conv=>whnf
   refine ⟨rfl,rfl,_,0,a,rfl,rfl,rfl,rfl,by omega,by simp [cF],by omega⟩
 · rintro mq tm S nx ⟨i,X,hn,rfl,rfl,rfl,hi,hX,hXl⟩;by_cases hlt:i < b.length
   · have g1:b[i]?=some b[i]:=zAB hlt;generalize b[i]=x at g1;have c1:=iY (m:=m) X x (by omega);have hl:=(fR X x).2;repeat' first|refine Ra ⟨?_⟩|refine Rk [] 1 c1 ⟨?_⟩|refine Rd (fun h=>⟨?_⟩) fun h=>⟨?_⟩|refine Rb ⟨?_⟩|fail
     refine .here ⟨mq - 1,by omega,?_⟩;refine li [5] [0,1,5,6] ?_
     conv=>whnf
     refine ⟨rfl,rfl,i+1,ea X x,(by omega),rfl,rfl,rfl,by omega,(by rw [hX,rI g1]),by omega⟩
   · rw [zAc (by omega)] at hX;rw [← hX] at hx;have e3:(X.map Ent.c).length=X.length:=zAA ..;repeat' first|refine Rx ⟨?_⟩|refine Rd (fun h=>⟨?_⟩) fun h=>⟨?_⟩|fail
     refine Cd.loop2 (fun mq tm S nx=>∃ (k:Nat) (A:List Bs),mq=(X.length - k)∧tm=[(0,.sl (a.map Ent.c)),(1,.sl (b.map Ent.c)),(5,.sl (X.map Ent.c)),(7,.own 0),(8,.k .i64 k)]∧S=[(0,.own 9 (strs A))]∧nx=1∧(k≤X.length)∧(A=(aC (X.take k)).filter (fun p=>decide (aA a p≠aA b p)))∧(A.length≤k)) ?_ ?_
     · refine la [0,1,5,7,8] ?_
       conv=>whnf
       refine ⟨rfl,rfl,_,0,[],rfl,rfl,rfl,rfl,by omega,by simp,by simp⟩
     · rintro mq tm S nx ⟨k,A,hn,rfl,rfl,rfl,hk,hA,hAl⟩;have e4:(strs A).length=A.length:=zAA ..;by_cases hlt2:k < X.length
       · have g3:X[k]?=some X[k]:=zAB hlt2;generalize X[k]=x at g3;have c2:=eW (m:=m) a x.path (by omega);have c3:=eW (m:=m) b x.path (by omega);rw [yw] at c2 c3;have g4:=rG g3;by_cases hq:aA a x.path=aA b x.path
         · have g5:A=(aC (X.take (k+1))).filter (fun p=>decide (aA a p≠aA b p)):=by rw [hA,g4,zAj]; simp [hq]
           rw [← hq] at c3;generalize aA a x.path=O at c2 c3;have f1:=Iy (rfl:O=O);repeat' first|refine Ra ⟨?_⟩|refine R0 c2 ⟨?_⟩|refine R0 c3 ⟨?_⟩|refine Rd (fun h=>⟨?_⟩) fun h=>⟨?_⟩|refine Rb ⟨?_⟩|fail
           refine .here ⟨mq - 1,by omega,?_⟩;refine la [0,1,5,7,8] ?_
           conv=>whnf
           refine ⟨rfl,rfl,k+1,A,(by omega),rfl,rfl,rfl,by omega,g5,by omega⟩
         · have g5:A++[x.path]=(aC (X.take (k+1))).filter (fun p=>decide (aA a p≠aA b p)):=by rw [hA,g4,zAj]; simp [hq]
           have f1:=Iz hq;generalize aA a x.path=O at c2 f1;generalize aA b x.path=O2 at c3 f1;rcases f1 with f1|⟨f1,f2⟩
           · unfold fs at f1;repeat' first|refine Ra ⟨?_⟩|refine R0 c2 ⟨?_⟩|refine R0 c3 ⟨?_⟩|refine Rd (fun h=>⟨?_⟩) fun h=>⟨?_⟩|refine Rb ⟨?_⟩|fail
             refine .here ⟨mq - 1,by omega,?_⟩;refine la [0,1,5,7,8] ?_
             conv=>whnf
             refine ⟨rfl,rfl,k+1,A++[x.path],(by omega),rfl,?_,rfl,by omega,g5,(by simp; omega)⟩;rw [← gg];rfl
           · unfold fs at f1;repeat' first|refine Ra ⟨?_⟩|refine R0 c2 ⟨?_⟩|refine R0 c3 ⟨?_⟩|refine Rd (fun h=>⟨?_⟩) fun h=>⟨?_⟩|refine Rb ⟨?_⟩|fail
             refine .here ⟨mq - 1,by omega,?_⟩;refine la [0,1,5,7,8] ?_
             conv=>whnf
             refine ⟨rfl,rfl,k+1,A++[x.path],(by omega),rfl,?_,rfl,by omega,g5,(by simp; omega)⟩;rw [← gg];rfl
       · rw [zAc (by omega)] at hA;rw [hx,← hA];repeat' first|refine Rx ⟨?_⟩|refine Rd (fun h=>⟨?_⟩) fun h=>⟨?_⟩|fail
         exact Rz
variable {m:Int}
theorem uB (t u:List Mrk) (ht:t.length≤1048576) (hu:u.length≤1048576):Con (E m) 120 0 [.sl (t.map Mrk.c),.sl (u.map Mrk.c)] [] (.b (decide (t=u))) []:=by
 have e1:(t.map Mrk.c).length=t.length:=zAA ..;have e2:(u.map Mrk.c).length=u.length:=zAA ..;by_cases hl:t.length=u.length
 · refine G0 Tryz.func120 ?_;repeat' first|refine Rx ⟨?_⟩|refine Rd (fun h=>⟨?_⟩) fun h=>⟨?_⟩|fail
   refine Cd.loop2 (fun mq tm S nx=>∃ (i:Nat),mq=(t.length - i)∧tm=[(0,.sl (t.map Mrk.c)),(1,.sl (u.map Mrk.c)),(5,.k .i64 i)]∧S=[]∧nx=0∧(i≤t.length)∧(t.take i=u.take i)) ?_ ?_
   · refine la [0,1,5] ?_
     conv=>whnf
     refine ⟨rfl,rfl,_,0,rfl,rfl,rfl,rfl,by omega,rfl⟩
   · rintro mq tm S nx ⟨i,hn,rfl,rfl,rfl,hi,ha⟩;by_cases hlt:i < t.length
     · have g1:t[i]?=some t[i]:=zAB hlt;have g2:u[i]?=some (u[i]'(by omega)):=zAB (by omega);generalize t[i]=x at g1;generalize u[i]'(by omega)=y at g2;by_cases hxy:x=y
       · subst hxy;have e3:=IA x;repeat' first|refine Rx ⟨?_⟩|refine Rd (fun h=>⟨?_⟩) fun h=>⟨?_⟩|fail
         refine .here ⟨mq - 1,by omega,?_⟩;refine la [0,1,5] ?_
         conv=>whnf
         refine ⟨rfl,rfl,i+1,(by omega),rfl,rfl,rfl,by omega,ge g1 g2 ha⟩
       · have e3:=IB hxy;have e4:decide (t=u)=false:=decide_eq_false (pW g1 g2 hxy);rw [e4];repeat' first|refine Rx ⟨?_⟩|refine Rd (fun h=>⟨?_⟩) fun h=>⟨?_⟩|fail
         exact Rf
     · have e4:decide (t=u)=true:=decide_eq_true (ik hl (by omega) ha);rw [e4];repeat' first|refine Rx ⟨?_⟩|refine Rd (fun h=>⟨?_⟩) fun h=>⟨?_⟩|fail
       exact Rf
 · have e4:decide (t=u)=false:=decide_eq_false (fun h=>hl (by rw [h]));rw [e4];refine G0 Tryz.func120 ?_;repeat' first|refine Rx ⟨?_⟩|refine Rd (fun h=>⟨?_⟩) fun h=>⟨?_⟩|fail
   exact Rf
theorem C7 {a b:List Ent} {W:List Bs} {i:Nat} {p:Bs} (h:W[i]?=some p):(W.take (i+1)).foldl (jl a b) []=jl a b ((W.take i).foldl (jl a b) []) p:=by
 rw [zAY,h,List.foldl_append];rfl
theorem xb (a b:List Ent) (ha:aq a=true) (hb:aq b=true):Con (E m) 121 0 [.sl (a.map Ent.c),.sl (b.map Ent.c)] [] (.sl ((eA a b).map Mrk.c)) []:=by
 have c1:=rU (m:=m) a b ha hb;have hbl:=aN hb;have hWl:=fX a b;have hW:=fun p (hp:p∈bo a b)=>jH ha hb hp;have hne:=fun p (hp:p∈bo a b)=>(gI ha hb).1 hp;have hD:eA a b=(bo a b).foldl (jl a b) []:=rfl;rw [hD];generalize bo a b=W at c1 hWl hW hne;have e1:(strs W).length=W.length:=zAA ..;refine G0 Tryz.func121 ?_;repeat' first|refine Ra ⟨?_⟩|refine R0 c1 ⟨?_⟩|refine Rd (fun h=>⟨?_⟩) fun h=>⟨?_⟩|refine Rb ⟨?_⟩|fail
 refine Cd.loop2 (fun mq tm S nx=>∃ (i:Nat) (R:List Mrk),mq=(W.length - i)∧tm=[(1,.sl (b.map Ent.c)),(5,.sl (R.map Mrk.c)),(6,.sl (strs W)),(7,.k .i64 i)]∧S=[]∧nx=0∧(i≤W.length)∧(R=(W.take i).foldl (jl a b) [])∧(R.length≤13 * i)) ?_ ?_
 · refine li [5] [1,5,6,7] ?_
   conv=>whnf
   refine ⟨rfl,rfl,_,0,[],rfl,rfl,rfl,rfl,by omega,(by simp),by simp⟩
 · rintro mq tm S nx ⟨i,R,hn,rfl,rfl,rfl,hi,hR,hRl⟩;rcases av W i hi with ⟨rfl,hd⟩|⟨p,r,hp',hd,hr,hlt⟩
   · rw [zAP] at hR;rw [← hR];repeat' first|refine Rx ⟨?_⟩|refine Rd (fun h=>⟨?_⟩) fun h=>⟨?_⟩|fail
     exact Rf
   · have g1:=C7 (a:=a) (b:=b) hp';rw [← hR] at g1;have hpk:=hW p (zAD hp');have hpn:=hne p (zAD hp');have hpl:=(aQ hpk).2;have hpr:p≠[47]:=bw hpk;have c2:=eW (m:=m) b p (by omega);rw [df hpr] at c2;have c3:=nn (m:=m) p (by omega);have c4:=Ak (m:=m) b (al p) (by omega);have cP:=fun (x:Mrk)=>lf (m:=m) R x (by omega);have cU:=fun (x:Mrk)=>Ar (m:=m) 12 (dk R x) p hpl hpk (by have:=(iW R x).2; omega);have hL:=fun (x:Mrk)=>zAq (pN 12 (dk R x) p) (Nat.add_le_add_right (iW R x).2 12);cases he:ao b p with
     | some e=>
       rw [he] at c2;cases hd:e.dir with
       | true=>
         have hq:=Ea hb he hd;have kx:db a b p=some ⟨p,2,[]⟩:=by rw [db,if_neg hpn,he]; simp [hd]
         simp only [jl,kx] at g1;subst hq;have c5:=cP ⟨p,2,[]⟩;have c6:=cU ⟨p,2,[]⟩;have hl:=hL ⟨p,2,[]⟩;repeat' first|refine Ra ⟨?_⟩|refine R0 c2 ⟨?_⟩|refine Rk [] 1 c5 ⟨?_⟩|refine R0 c6 ⟨?_⟩|refine Rd (fun h=>⟨?_⟩) fun h=>⟨?_⟩|refine Rb ⟨?_⟩|fail
         refine .here ⟨mq - 1,by omega,?_⟩;refine li [5] [1,5,6,7] ?_
         conv=>whnf
         refine ⟨rfl,rfl,i+1,jg 12 (dk R ⟨p,2,[]⟩) p,(by omega),rfl,rfl,rfl,by omega,g1.symm,by omega⟩
       | false=>
         have kx:db a b p=some ⟨p,1,e.data⟩:=by rw [db,if_neg hpn,he]; simp [hd]
         simp only [jl,kx] at g1;have c5:=cP ⟨p,1,e.data⟩;have c6:=cU ⟨p,1,e.data⟩;have hl:=hL ⟨p,1,e.data⟩;repeat' first|refine Ra ⟨?_⟩|refine R0 c2 ⟨?_⟩|refine Rk [] 1 c5 ⟨?_⟩|refine R0 c6 ⟨?_⟩|refine Rd (fun h=>⟨?_⟩) fun h=>⟨?_⟩|refine Rb ⟨?_⟩|fail
         refine .here ⟨mq - 1,by omega,?_⟩;refine li [5] [1,5,6,7] ?_
         conv=>whnf
         refine ⟨rfl,rfl,i+1,jg 12 (dk R ⟨p,1,e.data⟩) p,(by omega),rfl,rfl,rfl,by omega,g1.symm,by omega⟩
     | none=>
       rw [he] at c2;cases hu:gq b (al p) with
       | true=>
         have hz:=Hd.1 hu;have kx:db a b p=some ⟨p,3,[]⟩:=by rw [db,if_neg hpn,he]; simp [hz]
         simp only [jl,kx] at g1;rw [hu] at c4;have c5:=cP ⟨p,3,[]⟩;have c6:=cU ⟨p,3,[]⟩;have hl:=hL ⟨p,3,[]⟩;repeat' first|refine Ra ⟨?_⟩|refine R0 c2 ⟨?_⟩|refine R0 c3 ⟨?_⟩|refine R0 c4 ⟨?_⟩|refine Rk [] 1 c5 ⟨?_⟩|refine R0 c6 ⟨?_⟩|refine Rd (fun h=>⟨?_⟩) fun h=>⟨?_⟩|refine Rb ⟨?_⟩|fail
         refine .here ⟨mq - 1,by omega,?_⟩;refine li [5] [1,5,6,7] ?_
         conv=>whnf
         refine ⟨rfl,rfl,i+1,jg 12 (dk R ⟨p,3,[]⟩) p,(by omega),rfl,rfl,rfl,by omega,g1.symm,by omega⟩
       | false=>
         have hz:¬ bC b p=0:=fun h=>by rw [Hd.2 h] at hu; cases hu
         have kx:db a b p=none:=by rw [db,if_neg hpn,he]; simp [hz]
         simp only [jl,kx] at g1;rw [hu] at c4;repeat' first|refine Ra ⟨?_⟩|refine R0 c2 ⟨?_⟩|refine R0 c3 ⟨?_⟩|refine R0 c4 ⟨?_⟩|refine Rd (fun h=>⟨?_⟩) fun h=>⟨?_⟩|refine Rb ⟨?_⟩|fail
         refine .here ⟨mq - 1,by omega,?_⟩;refine la [1,5,6,7] ?_
         conv=>whnf
         refine ⟨rfl,rfl,i+1,R,(by omega),rfl,rfl,rfl,by omega,g1.symm,by omega⟩
theorem oV (o:Ovr) (hb:gM o):Con (E m) 118 0 [.agg o.c] [] (onD (eC o)) []:=by
 have hbl:=hb.bl;have hll:=hb.ll;have e1:(o.layers.map cm).length=o.layers.length:=zAA ..;have c1:=mQ (m:=m) o.base hb.b4;cases h1:aq o.base with
 | false=>
   rw [h1] at c1;have hx:eC o=none:=by simp [eC,h1]
   rw [hx];refine G0 Tryz.func118 ?_;repeat' first|refine Ra ⟨?_⟩|refine R0 c1 ⟨?_⟩|refine Rd (fun h=>⟨?_⟩) fun h=>⟨?_⟩|refine Rb ⟨?_⟩|fail
   exact Rz
 | true=>
   rw [h1] at c1;by_cases h2:o.layers.length≤4
   · have hx:eC o=dU o.base o.layers:=by rw [eC,if_pos ⟨h1,h2⟩]
     refine G0 Tryz.func118 ?_;repeat' first|refine Ra ⟨?_⟩|refine R0 c1 ⟨?_⟩|refine Rd (fun h=>⟨?_⟩) fun h=>⟨?_⟩|refine Rb ⟨?_⟩|fail
     refine Cd.loop2 (fun mq tm S nx=>∃ (i:Nat) (now:List Ent),mq=(o.layers.length - i)∧tm=[(1,.bp 0 0),(4,.sl (now.map Ent.c)),(5,.k .i64 i)]∧S=[(0,.box 34 o.c)]∧nx=1∧(i≤o.layers.length)∧(dU o.base o.layers=dU now (o.layers.drop i))∧(aq now=true)) ?_ ?_
     · refine li [4] [1,4,5] ?_
       conv=>whnf
       refine ⟨rfl,rfl,_,0,o.base,rfl,rfl,rfl,rfl,by omega,rfl,h1⟩
     · rintro mq tm S nx ⟨i,now,hn,rfl,rfl,rfl,hi,hS,hok⟩;have hnl:=aN hok;have e2:(now.map Ent.c).length=now.length:=zAA ..;rcases av o.layers i hi with ⟨rfl,hd⟩|⟨l,r,hl',hd,hr,hlt⟩
       · rw [hd] at hS;rw [hx,hS];simp only [dU];repeat' first|refine Rx ⟨?_⟩|refine Rd (fun h=>⟨?_⟩) fun h=>⟨?_⟩|fail
         exact Rz
       · rw [hd,oU] at hS;have hbb:=hb.lay l (zAD hl');have c3:=qb (m:=m) l now (by omega) hbb.1 (bE0 hok);cases hv:bj l now with
         | none=>
           rw [hv] at c3 hS;simp only at hS;rw [hx,hS];repeat' first|refine Ra ⟨?_⟩|refine R0 c3 ⟨?_⟩|refine Rd (fun h=>⟨?_⟩) fun h=>⟨?_⟩|refine Rb ⟨?_⟩|fail
           exact Rz
         | some v=>
           rw [hv] at c3 hS;simp only at hS;have k1:=dP hv;repeat' first|refine Ra ⟨?_⟩|refine R0 c3 ⟨?_⟩|refine Rd (fun h=>⟨?_⟩) fun h=>⟨?_⟩|refine Rb ⟨?_⟩|fail
           refine .here ⟨mq - 1,by omega,?_⟩;refine li [4] [1,4,5] ?_
           conv=>whnf
           refine ⟨rfl,rfl,i+1,v,(by omega),rfl,rfl,rfl,by omega,(by rw [hS,hr]),k1.2.2.1⟩
   · have hx:eC o=none:=by simp [eC,h2]
     rw [hx];refine G0 Tryz.func118 ?_;repeat' first|refine Ra ⟨?_⟩|refine R0 c1 ⟨?_⟩|refine Rd (fun h=>⟨?_⟩) fun h=>⟨?_⟩|refine Rb ⟨?_⟩|fail
     exact Rz
theorem fD (o:Ovr) (hb:gM o):Con (E m) 119 0 [.agg o.c] [] (onD (gi o)) []:=by
 have c1:=oV (m:=m) o hb;have hul:=hb.ul;unfold gi;cases h:eC o with
 | none=>
   rw [h] at c1;refine G0 Tryz.func119 ?_;repeat' first|refine Ra ⟨?_⟩|refine R0 c1 ⟨?_⟩|refine Rd (fun h=>⟨?_⟩) fun h=>⟨?_⟩|refine Rb ⟨?_⟩|fail
   exact Rz
 | some t=>
   rw [h] at c1;have c2:=qb (m:=m) o.upper t (by omega) hb.upper (bE0 (gz h).2.2.2);simp only;cases hv:bj o.upper t;all_goals
    rw [hv] at c2;refine G0 Tryz.func119 ?_;repeat' first|refine Ra ⟨?_⟩|refine R0 c1 ⟨?_⟩|refine R0 c2 ⟨?_⟩|refine Rd (fun h=>⟨?_⟩) fun h=>⟨?_⟩|refine Rb ⟨?_⟩|fail
    exact Rz
theorem gY (o:Ovr) (hb:gM o):Con (E m) 44 0 [.agg o.c] [] (.b (fF o)) []:=by
 have c1:=oV (m:=m) o hb;have c2:=fD (m:=m) o hb;have hul:=hb.ul;unfold gi at c2;unfold fF bv;cases h:eC o with
 | none=>
   rw [h] at c1 c2;refine G0 Tryz.func44 ?_;repeat' first|refine Ra ⟨?_⟩|refine R0 c1 ⟨?_⟩|refine R0 c2 ⟨?_⟩|refine Rd (fun h=>⟨?_⟩) fun h=>⟨?_⟩|refine Rb ⟨?_⟩|fail
   exact Rf
 | some t=>
   rw [h] at c1 c2;simp only at c2 ⊢;have k0:=(gz h).2.2.2;cases hv:bj o.upper t with
   | none=>
     rw [hv] at c2;refine G0 Tryz.func44 ?_;repeat' first|refine Ra ⟨?_⟩|refine R0 c1 ⟨?_⟩|refine R0 c2 ⟨?_⟩|refine Rd (fun h=>⟨?_⟩) fun h=>⟨?_⟩|refine Rb ⟨?_⟩|fail
     exact Rf
   | some v=>
     rw [hv] at c2;have k1:=(dP hv).2.2.1;have c3:=xb (m:=m) t v k0 k1;have kd:=dN (nq k0 k1);have c4:=uB (m:=m) o.upper (eA t v) hul (by omega);simp only;by_cases hu:o.upper=eA t v
     · rw [if_pos hu];rw [decide_eq_true hu] at c4;refine G0 Tryz.func44 ?_;repeat' first|refine Ra ⟨?_⟩|refine R0 c1 ⟨?_⟩|refine R0 c2 ⟨?_⟩|refine R0 c3 ⟨?_⟩|refine R0 c4 ⟨?_⟩|refine Rd (fun h=>⟨?_⟩) fun h=>⟨?_⟩|refine Rb ⟨?_⟩|fail
       exact Rf
     · rw [if_neg hu];rw [decide_eq_false hu] at c4;refine G0 Tryz.func44 ?_;repeat' first|refine Ra ⟨?_⟩|refine R0 c1 ⟨?_⟩|refine R0 c2 ⟨?_⟩|refine R0 c3 ⟨?_⟩|refine R0 c4 ⟨?_⟩|refine Rd (fun h=>⟨?_⟩) fun h=>⟨?_⟩|refine Rb ⟨?_⟩|fail
       exact Rf
theorem jI (o:Ovr) (hb:gM o):Con (E m) 45 0 [.agg o.c] [] (.agg o.c) []:=by
 have hbl:=hb.bl;have hll:=hb.ll;have hul:=hb.ul;have e1:(o.layers.map cm).length=o.layers.length:=zAA ..;have e5:(o.base.map Ent.c).length=o.base.length:=zAA ..;have e6:(o.upper.map Mrk.c).length=o.upper.length:=zAA ..;refine G0 Tryz.func45 ?_;repeat' first|refine Rx ⟨?_⟩|refine Rd (fun h=>⟨?_⟩) fun h=>⟨?_⟩|fail
 refine Cd.loop2 (fun mq tm S nx=>∃ (i:Nat) (A:List (List Mrk)),mq=(o.layers.length - i)∧tm=[(1,.bp 0 0),(2,.bp 1 0),(3,.bp 2 0),(4,.k .i64 i)]∧S=[(0,.box 34 o.c),(1,.box 34 [.nil,.nil,.nil]),(2,.box 34 [.own 3,.own 4,.own 5]),(3,.own 66 (o.base.map Ent.c)),(4,.own 32 (A.map cm)),(5,.own 166 (o.upper.map Mrk.c))]∧nx=6∧(i≤o.layers.length)∧(A=o.layers.take i)∧(A.length≤i)) ?_ ?_
 · refine ⟨[.thawB 6 1 32],[1,2,3,4],[0,1,6,3,7,5],?_⟩
   conv=>whnf
   refine ⟨rfl,rfl,_,0,[],rfl,rfl,rfl,rfl,by omega,by simp,by simp⟩
 · rintro mq tm S nx ⟨i,A,hn,rfl,rfl,rfl,hi,hA,hAl⟩;have e2:(A.map cm).length=A.length:=zAA ..;rcases av o.layers i hi with ⟨rfl,hd⟩|⟨l,r,hl',hd,hr,hlt⟩
   · rw [zAP] at hA;subst hA;repeat' first|refine Rx ⟨?_⟩|refine Rd (fun h=>⟨?_⟩) fun h=>⟨?_⟩|fail
     exact Rz
   · have g1:o.layers.take (i+1)=o.layers.take i++[l]:=by rw [zAY,hl']; rfl
     have hbb:=(hb.lay l (zAD hl')).2;have e3:(l.map Mrk.c).length=l.length:=zAA ..;have g2:(o.layers.map cm)[i]?=some [.sl (l.map Mrk.c)]:=by rw [zAO,hl']; rfl
     repeat' first|refine Rx ⟨?_⟩|refine Rd (fun h=>⟨?_⟩) fun h=>⟨?_⟩|fail
     refine .here ⟨mq - 1,by omega,?_⟩;refine la [1,2,3,4] ?_
     conv=>whnf
     refine ⟨rfl,rfl,i+1,A++[l],(by omega),rfl,?_,rfl,by omega,(by rw [hA,g1]),(by simp; omega)⟩;rw [zAH];rfl
end Go.Proofs.YtagejnomlkfndaaGreatDoor
