/- Texts of this claim, set close: lemmas and contracts. -/
import Derived.Test.YtagejnomlkfndaaGreatDoorYY9
import Derived.Test.YtagejnomlkfndaaGreatDoorYY6
set_option linter.unusedSimpArgs false
set_option linter.unusedVariables false
set_option maxHeartbeats 1000000
set_option maxRecDepth 10000
namespace Go.Proofs.YtagejnomlkfndaaGreatDoor
open Go Go.RowKit Go.Ab Go.Par
variable {m:Int}
theorem ju (s d:Bs) (hs:s.length≤1073741824) (hd:d.length≤1073741824):Con (E m) 278 0 [.s s,.s d] [] (.b (bc s d)) []:=by
 cases hx:s[d.length]? with
 | none=>
   have hn:=List.getElem?_eq_none_iff.1 hx;refine G0 Tryz.func278 ?_;repeat' first|refine Rx ⟨?_⟩|refine Rd (fun h=>⟨?_⟩) fun h=>⟨?_⟩|fail
   all_goals
    refine Rg ⟨?_⟩
    first|rfl|(simp_all [bc]; done)|(simp [bc] <;> (repeat' split) <;> omega)|(simp only [bc]; repeat' split) <;> first|omega|(simp_all; done)|(simp_all; omega)|(rw [zAK]; simp [*,bc] <;> omega)
 | some c=>
   have hn:=(List.getElem?_eq_some_iff.1 hx).1;refine G0 Tryz.func278 ?_;repeat' first|refine Rx ⟨?_⟩|refine Rd (fun h=>⟨?_⟩) fun h=>⟨?_⟩|fail
   all_goals
    refine Rg ⟨?_⟩
    first|rfl|(simp_all [bc,c47]; done)|(simp [bc,c47] <;> (repeat' split) <;> omega)|(simp only [bc,c47]; repeat' split) <;> first|omega|(simp_all; done)|(simp_all; omega)|(rw [zAK]; simp [*,bc,c47] <;> omega)
theorem Ap (l:List Mrk) (p:Bs) (hl:l.length≤1073741824):Con (E m) 276 0 [.sl (l.map Mrk.c),.s p] [] (.k .i64 (lU l p)) []:=by
 refine G0 Tryz.func276 ?_;repeat' first|refine Rx ⟨?_⟩|refine Rd (fun h=>⟨?_⟩) fun h=>⟨?_⟩|fail
 refine Cd.loop2 (fun mq tm S nx=>∃ (i:Nat),mq=(l.length - i)∧tm=[(0,.sl (l.map Mrk.c)),(1,.s p),(5,.k .i64 i)]∧S=[]∧nx=0∧(i≤l.length)∧(∀ k,k < i→∀ e,l[k]?=some e→e.path≠p)) ?_ ?_
 · refine la [0,1,5] ?_
   conv=>whnf
   refine ⟨rfl,rfl,_,0,rfl,rfl,rfl,rfl,zAG _,fun k h=>absurd h (Nat.not_lt_zero _)⟩
 · rintro mq tm S nx ⟨i,hn,rfl,rfl,rfl,hi,ha⟩;rcases av l i hi with ⟨rfl,hd⟩|⟨x,r,hx,hd,hr,hlt⟩
   · repeat' first|refine Rx ⟨?_⟩|refine Rd (fun h=>⟨?_⟩) fun h=>⟨?_⟩|fail
     have he:lU l p=-1:=rs fun k e h=>ha k (List.getElem?_eq_some_iff.1 h).1 e h;rw [he];exact Rf
   · repeat' first|refine Rx ⟨?_⟩|refine Rd (fun h=>⟨?_⟩) fun h=>⟨?_⟩|fail
     · have he:lU l p=i:=wC hx ‹_› fun k e h1 h2=>ha k h1 e h2;rw [he];exact Rf
     · refine .here ⟨mq - 1,by omega,?_⟩;refine la [0,1,5] ?_
       conv=>whnf
       refine ⟨rfl,rfl,i+1,(by omega),rfl,rfl,rfl,by omega,Cc ha (fun e h=>by rw [hx] at h; cases h; assumption)⟩
theorem ko (l:List Mrk) (p:Bs) (hl:l.length≤1073741824):Con (E m) 233 0 [.sl (l.map Mrk.c),.s p] [] (.k .i64 (cZ l p)) []:=by
 have h1:=Ap (m:=m) l p hl;rcases ET l p with ⟨i,hx,hi,he⟩|⟨hx,he⟩
 · rw [hx] at h1;have hk:cZ l p=l[i].kind:=by simp [cZ,he]
   rw [hk];refine G0 Tryz.func233 ?_;repeat' first|refine Ra ⟨?_⟩|refine R0 h1 ⟨?_⟩|refine Rd (fun h=>⟨?_⟩) fun h=>⟨?_⟩|refine Rb ⟨?_⟩|fail
   exact Rf
 · rw [hx] at h1;have hk:cZ l p=0:=by simp [cZ,he]
   rw [hk];refine G0 Tryz.func233 ?_;repeat' first|refine Ra ⟨?_⟩|refine R0 h1 ⟨?_⟩|refine Rd (fun h=>⟨?_⟩) fun h=>⟨?_⟩|refine Rb ⟨?_⟩|fail
   exact Rf
theorem rt (l:List Mrk) (p:Bs) (hl:l.length≤1073741824) (hp:p.length≤1073741823) (hb:∀ x∈l,x.path.length≤1073741823):Con (E m) 274 0 [.sl (l.map Mrk.c),.s p] [] (.b (bare l p)) []:=by
 refine G0 Tryz.func274 ?_;repeat' first|refine Rx ⟨?_⟩|refine Rd (fun h=>⟨?_⟩) fun h=>⟨?_⟩|fail
 refine Cd.loop2 (fun mq tm S nx=>∃ (i:Nat),mq=(l.length - i)∧tm=[(0,.sl (l.map Mrk.c)),(1,.s p),(5,.k .i64 i)]∧S=[]∧nx=0∧(i≤l.length)∧(bare l p=bare (l.drop i) p)) ?_ ?_
 · refine la [0,1,5] ?_
   conv=>whnf
   refine ⟨rfl,rfl,_,0,rfl,rfl,rfl,rfl,zAG _,rfl⟩
 · rintro mq tm S nx ⟨i,hn,rfl,rfl,rfl,hi,ha⟩;rcases av l i hi with ⟨rfl,hd⟩|⟨x,r,hx,hd,hr,hlt⟩
   · rw [hd] at ha;rw [ha];repeat' first|refine Rx ⟨?_⟩|refine Rd (fun h=>⟨?_⟩) fun h=>⟨?_⟩|fail
     exact Rf
   · rw [hd] at ha;have hbx:=hb x (zAD hx);have c1:=ju (m:=m) p x.path (by omega) (by omega);repeat' first|refine Ra ⟨?_⟩|refine R0 c1 ⟨?_⟩|refine Rd (fun h=>⟨?_⟩) fun h=>⟨?_⟩|refine Rb ⟨?_⟩|fail
     all_goals first
      | (refine jQ.here ⟨mq - 1,by omega,?_⟩
         refine la [0,1,5] ?_
         conv=>whnf
         refine ⟨rfl,rfl,i+1,(by omega),rfl,rfl,rfl,by omega,(by rw [ha,hr]; simp [bare, *])⟩)
      | (refine ak.here (fa ?_)
         conv=>whnf
         (try rw [ha])
         first|exact ⟨rfl,rfl,rfl,rfl⟩|refine ⟨rfl,rfl,congrArg some (congrArg D.s ?_),rfl⟩|refine ⟨rfl,rfl,congrArg some (congrArg D.b ?_),rfl⟩|refine ⟨rfl,rfl,congrArg some (congrArg (D.k _) ?_),rfl⟩|refine ⟨rfl,rfl,congrArg some ?_,rfl⟩
         all_goals first|rfl|(simp_all [bare]; done)|(simp [bare] <;> (repeat' split) <;> omega))
theorem E3 (l:List Mrk) (p:Bs) (hl:l.length≤1073741824) (hp:p.length≤1073741823):Con (E m) 273 0 [.sl (l.map Mrk.c),.s p] [] (.b (inM l p)) []:=by
 have c1:=nn (m:=m) p (by omega);have c2:=ko (m:=m) l (al p) hl;have hx:inM l p=(decide (al p=[47]) || (decide (cZ l (al p)=2) || decide (cZ l (al p)=4))):=by
  unfold inM cZ;cases am l (al p) <;> simp [lT,dS]
 rw [hx];refine G0 Tryz.func273 ?_;repeat' first|refine Ra ⟨?_⟩|refine R0 c1 ⟨?_⟩|refine R0 c2 ⟨?_⟩|refine Rd (fun h=>⟨?_⟩) fun h=>⟨?_⟩|refine Rb ⟨?_⟩|fail
 all_goals
  exact Rf
variable {m:Int}
def Ix:Option Bs→D
 | some o=>.tup [.s o,.b true]
 | none=>.tup [.s [],.b false]
theorem nV (s a b:Bs) (hs:s.length≤1073741823) (ha:a.length≤1073741823) (hb:b.length≤1073741823):Con (E m) 279 0 [.s s,.s a,.s b] [] (Ix (aX s a b)) []:=by
 have c1:=cY (m:=m) s (by omega);have c2:=cY (m:=m) a (by omega);have c3:=cY (m:=m) b (by omega);have c4:=ju (m:=m) s a (by omega) (by omega);cases h1:ah s with
 | false=>
   have hx:aX s a b=none:=by simp [aX,h1]
   rw [hx];rw [h1] at c1;refine G0 Tryz.func279 ?_;repeat' first|refine Ra ⟨?_⟩|refine R0 c1 ⟨?_⟩|refine Rd (fun h=>⟨?_⟩) fun h=>⟨?_⟩|refine Rb ⟨?_⟩|fail
   exact Rf
 | true=>
   cases h2:ah a with
   | false=>
     have hx:aX s a b=none:=by simp [aX,h2]
     rw [hx];rw [h1] at c1;rw [h2] at c2;refine G0 Tryz.func279 ?_;repeat' first|refine Ra ⟨?_⟩|refine R0 c1 ⟨?_⟩|refine R0 c2 ⟨?_⟩|refine Rd (fun h=>⟨?_⟩) fun h=>⟨?_⟩|refine Rb ⟨?_⟩|fail
     exact Rf
   | true=>
     cases h3:ah b with
     | false=>
       have hx:aX s a b=none:=by simp [aX,h3]
       rw [hx];rw [h1] at c1;rw [h2] at c2;rw [h3] at c3;refine G0 Tryz.func279 ?_;repeat' first|refine Ra ⟨?_⟩|refine R0 c1 ⟨?_⟩|refine R0 c2 ⟨?_⟩|refine R0 c3 ⟨?_⟩|refine Rd (fun h=>⟨?_⟩) fun h=>⟨?_⟩|refine Rb ⟨?_⟩|fail
       exact Rf
     | true=>
       rw [h1] at c1;rw [h2] at c2;rw [h3] at c3;have hrt:=bw h2;by_cases hc:s≠a∧bc s a=false
       · have hx:aX s a b=some s:=by simp [aX,h1,h2,h3,hc.1,hc.2]
         obtain ⟨hc1,hc2⟩:=hc;rw [hx];rw [hc2] at c4;refine G0 Tryz.func279 ?_;repeat' first|refine Ra ⟨?_⟩|refine R0 c1 ⟨?_⟩|refine R0 c2 ⟨?_⟩|refine R0 c3 ⟨?_⟩|refine R0 c4 ⟨?_⟩|refine Rd (fun h=>⟨?_⟩) fun h=>⟨?_⟩|refine Rb ⟨?_⟩|fail
         exact Rf
       · have hlen:a.length≤s.length:=by
           by_cases he:s=a
           · rw [he]; exact zAL _
           · have hu:bc s a=true:=by
               cases hu:bc s a with
               | true=>rfl
               | false=>exact absurd ⟨he,hu⟩ hc
             have:=qL hu hrt
             omega
         have c5:=cY (m:=m) (b++(s.take s.length).drop a.length) (by
          have:=(aQ h1).2
          have:=(aQ h3).2
          simp; omega)
         have hx:aX s a b=if ah (b++(s.take s.length).drop a.length) then some (b++(s.take s.length).drop a.length) else none:=by
          unfold aX;rw [h1,h2,h3,zAP];simp only [zBN,if_true];rw [if_neg hc]
         rw [hx];by_cases he:s=a
         all_goals
          cases h5:ah (b++(s.take s.length).drop a.length);all_goals
           rw [h5] at c5;have hu:s=a∨bc s a=true:=by
            by_cases he:s=a
            · exact .inl he
            · right;cases hu:bc s a with
              | true=>rfl
              | false=>exact absurd ⟨he,hu⟩ hc
           try rw [hu.resolve_left he] at c4
           simp only [if_true,if_false,zAF];refine G0 Tryz.func279 ?_;repeat' first|refine Ra ⟨?_⟩|refine R0 c1 ⟨?_⟩|refine R0 c2 ⟨?_⟩|refine R0 c3 ⟨?_⟩|refine R0 c4 ⟨?_⟩|refine R0 c5 ⟨?_⟩|refine Rd (fun h=>⟨?_⟩) fun h=>⟨?_⟩|refine Rb ⟨?_⟩|fail
           exact Rf
theorem vj (s:Bs) (hs:s.length≤1073741823):Con (E m) 297 0 [.s s] [] (.s (Par.pathName s)) []:=by
 have h1:=cY (m:=m) s (by omega);have hl:=zZ s;cases hok:ah s with
 | false=>
   have hx:Par.pathName s=[]:=by simp [Par.pathName,hok]
   rw [hx];rw [hok] at h1;refine G0 Tryz.func297 ?_;repeat' first|refine Ra ⟨?_⟩|refine R0 h1 ⟨?_⟩|refine Rd (fun h=>⟨?_⟩) fun h=>⟨?_⟩|refine Rb ⟨?_⟩|fail
   exact Rf
 | true=>
   rw [hok] at h1;have hp:=aQ hok;have hsl:jk s+1≤s.length:=by
    have:=oz s (s.length - 1)
    unfold jk;omega
   have hx:Par.pathName s=(s.take s.length).drop (jk s+1):=by rw [Par.pathName,if_pos hok,zAP]
   rw [hx];refine G0 Tryz.func297 ?_;repeat' first|refine Ra ⟨?_⟩|refine R0 h1 ⟨?_⟩|refine R0 (tR s hp.1 (by omega)) ⟨?_⟩|(refine ⟨jk s+1,rfl,?_⟩ <;> conv=>whnf)|refine Rd (fun h=>⟨?_⟩) fun h=>⟨?_⟩|refine Rb ⟨?_⟩|fail
   exact Rf
theorem eW (t:List Ent) (p:Bs) (ht:t.length≤1073741824):Con (E m) 181 0 [.sl (t.map Ent.c),.s p] [] (nD (aA t p)) []:=by
 by_cases hr:p=[47]
 · subst hr;have hx:aA t [47]=some Af:=by simp [aA]
   rw [hx];refine G0 Tryz.func181 ?_;repeat' first|refine Rx ⟨?_⟩|refine Rd (fun h=>⟨?_⟩) fun h=>⟨?_⟩|fail
   exact Rf
 · have hx:aA t p=ao t p:=by simp [aA,hr]
   rw [hx];have c1:=wG (m:=m) t p ht;rcases pK t p with ⟨i,hi,hlt,he⟩|⟨hi,he⟩
   · rw [hi] at c1;rw [he];refine G0 Tryz.func181 ?_;repeat' first|refine Ra ⟨?_⟩|refine R0 c1 ⟨?_⟩|refine Rd (fun h=>⟨?_⟩) fun h=>⟨?_⟩|refine Rb ⟨?_⟩|fail
     exact Rf
   · rw [hi] at c1;rw [he];refine G0 Tryz.func181 ?_;repeat' first|refine Ra ⟨?_⟩|refine R0 c1 ⟨?_⟩|refine Rd (fun h=>⟨?_⟩) fun h=>⟨?_⟩|refine Rb ⟨?_⟩|fail
     exact Rf
theorem E4 (t:List Ent) (p:Bs) {i:Nat} {x:Ent} (h:t[i]?=some x):nB (t.take (i+1)) p=nB (t.take i) p++if al x.path=p then [Par.pathName x.path] else []:=by
 unfold nB;rw [lc h,zAH];congr 1
 by_cases hp:al x.path=p <;> simp [hp]
theorem E5 (t:List Ent) (p:Bs) (ht:t.length≤1073741824) (hb:gG 1073741823 t):Con (E m) 280 0 [.sl (t.map Ent.c),.s p] [] (.own 0) [(0,.own 9 ((nB t p).map fun l=>[.s l]))]:=by
 refine G0 Tryz.func280 ?_;repeat' first|refine Rx ⟨?_⟩|refine Rd (fun h=>⟨?_⟩) fun h=>⟨?_⟩|fail
 refine Cd.loop2 (fun mq tm S nx=>∃ (i:Nat) (xs:List (List D)),mq=(t.length - i)∧tm=[(0,.sl (t.map Ent.c)),(1,.s p),(5,.own 0),(6,.k .i64 i)]∧S=[(0,.own 9 xs)]∧nx=1∧(i≤t.length)∧(xs=(nB (t.take i) p).map fun l=>[.s l])) ?_ ?_
 · refine la [0,1,5,6] ?_
   conv=>whnf
   refine ⟨rfl,rfl,_,0,[],rfl,rfl,rfl,rfl,zAG _,rfl⟩
 · rintro mq tm S nx ⟨i,xs,hn,rfl,rfl,rfl,hi,hx⟩;have hxl:xs.length≤i:=by rw [hx,zAA]; have:=GJ (t.take i) p; rw [zAd] at this; omega
   rcases av t i hi with ⟨rfl,hd⟩|⟨x,r,hx',hd,hr,hlt⟩
   · rw [zAP] at hx;rw [← hx];repeat' first|refine Rx ⟨?_⟩|refine Rd (fun h=>⟨?_⟩) fun h=>⟨?_⟩|fail
     exact Rf
   · have hbx:=hb x (zAD hx');have c1:=nn (m:=m) x.path (by omega);have c2:=vj (m:=m) x.path (by omega);have hs:=E4 t p hx';by_cases hp:al x.path=p
     · rw [if_pos hp] at hs;repeat' first|refine Ra ⟨?_⟩|refine R0 c1 ⟨?_⟩|refine R0 c2 ⟨?_⟩|refine Rd (fun h=>⟨?_⟩) fun h=>⟨?_⟩|refine Rb ⟨?_⟩|fail
       refine .here ⟨mq - 1,by omega,?_⟩;refine la [0,1,5,6] ?_
       conv=>whnf
       refine ⟨rfl,rfl,i+1,_,(by omega),rfl,rfl,rfl,by omega,(by rw [hs,hx,zAH]; rfl)⟩
     · rw [if_neg hp,List.append_nil] at hs;repeat' first|refine Ra ⟨?_⟩|refine R0 c1 ⟨?_⟩|refine R0 c2 ⟨?_⟩|refine Rd (fun h=>⟨?_⟩) fun h=>⟨?_⟩|refine Rb ⟨?_⟩|fail
       refine .here ⟨mq - 1,by omega,?_⟩;refine la [0,1,5,6] ?_
       conv=>whnf
       refine ⟨rfl,rfl,i+1,_,(by omega),rfl,rfl,rfl,by omega,(by rw [hs,hx])⟩
theorem ru (t:List Ent) (p:Bs) (ht:t.length≤1073741824) (hp:p.length≤1073741824):Con (E m) 277 0 [.sl (t.map Ent.c),.s p] [] (.k .i64 (bC t p)) []:=by
 have c1:=nn (m:=m) p hp;have c2:=eW (m:=m) t (al p) ht;rw [Cn];cases he:aA t (al p) with
 | none=>
   rw [he] at c2;refine G0 Tryz.func277 ?_;repeat' first|refine Ra ⟨?_⟩|refine R0 c1 ⟨?_⟩|refine R0 c2 ⟨?_⟩|refine Rd (fun h=>⟨?_⟩) fun h=>⟨?_⟩|refine Rb ⟨?_⟩|fail
   exact Rf
 | some e=>
   rw [he] at c2;cases hd:e.dir;all_goals
    simp only [Ent.c,nD,hd] at c2;simp only [hd,if_true,if_false,zAF];refine G0 Tryz.func277 ?_;repeat' first|refine Ra ⟨?_⟩|refine R0 c1 ⟨?_⟩|refine R0 c2 ⟨?_⟩|refine Rd (fun h=>⟨?_⟩) fun h=>⟨?_⟩|refine Rb ⟨?_⟩|fail
    exact Rf
theorem Aq (t:List Ent) (p:Bs) (ht:t.length≤1073741824) (hp:p.length≤1073741824):Con (E m) 234 0 [.sl (t.map Ent.c),.s p] [] (.k .i64 (eF t p)) []:=by
 have c1:=ru (m:=m) t p ht hp;have c2:=eW (m:=m) t p ht;cases he:aA t p;all_goals
  rw [he] at c2;refine G0 Tryz.func234 ?_;repeat' first|refine Ra ⟨?_⟩|refine R0 c1 ⟨?_⟩|refine R0 c2 ⟨?_⟩|refine Rd (fun h=>⟨?_⟩) fun h=>⟨?_⟩|refine Rb ⟨?_⟩|fail
  all_goals
   refine Rg ⟨?_⟩
   first|rfl|(simp_all [eF,he]; done)|(simp [eF,he] <;> (repeat' split) <;> omega)|(simp only [eF,he]; repeat' split) <;> first|omega|(simp_all; done)|(simp_all; omega)|(rw [zAK]; simp [*,eF,he] <;> omega)
theorem yh (t:List Ent) (p:Bs) (ht:t.length≤1073741824) (hp:p.length≤1073741824):Con (E m) 235 0 [.sl (t.map Ent.c),.s p] [] (.k .i64 (eP t p)) []:=by
 have c1:=Aq (m:=m) t p ht hp;have c2:=eW (m:=m) t p ht;cases he:aA t p with
 | none=>
   rw [he] at c2;refine G0 Tryz.func235 ?_;repeat' first|refine Ra ⟨?_⟩|refine R0 c1 ⟨?_⟩|refine R0 c2 ⟨?_⟩|refine Rd (fun h=>⟨?_⟩) fun h=>⟨?_⟩|refine Rb ⟨?_⟩|fail
   all_goals
    refine Rg ⟨?_⟩
    first|rfl|(simp_all [eP,fm]; done)|(simp [eP,fm] <;> (repeat' split) <;> omega)|(simp only [eP,fm]; repeat' split) <;> first|omega|(simp_all; done)|(simp_all; omega)|(rw [zAK]; simp [*,eP,fm] <;> omega)
 | some e=>
   rw [he] at c2;cases hd:e.dir;all_goals
    simp only [Ent.c,nD,hd] at c2;refine G0 Tryz.func235 ?_;repeat' first|refine Ra ⟨?_⟩|refine R0 c1 ⟨?_⟩|refine R0 c2 ⟨?_⟩|refine Rd (fun h=>⟨?_⟩) fun h=>⟨?_⟩|refine Rb ⟨?_⟩|fail
    all_goals
     refine Rg ⟨?_⟩
     first|rfl|(simp_all [eP,fm]; done)|(simp [eP,fm] <;> (repeat' split) <;> omega)|(simp only [eP,fm]; repeat' split) <;> first|omega|(simp_all; done)|(simp_all; omega)|(rw [zAK]; simp [*,eP,fm] <;> omega)
theorem yk (t:List Ent) (o:Opn) (ht:t.length≤1073741824) (hb:gG 1073741823 t):Con (E m) 237 0 [.sl (t.map Ent.c),.agg o.c] [] (.k .i64 (gb t o)) []:=by
 have c1:=eW (m:=m) t o.path ht;have c2:=E5 (m:=m) t o.path ht hb;unfold gb;cases he:aA t o.path with
 | none=>
   rw [he] at c1;refine G0 Tryz.func237 ?_;repeat' first|refine Ra ⟨?_⟩|refine R0 c1 ⟨?_⟩|refine Rd (fun h=>⟨?_⟩) fun h=>⟨?_⟩|refine Rb ⟨?_⟩|fail
   exact Rf
 | some e=>
   rw [he] at c1;cases hd:e.dir;all_goals
    simp only [Ent.c,nD,hd] at c1;refine G0 Tryz.func237 ?_;repeat' first|refine Ra ⟨?_⟩|refine R0 c1 ⟨?_⟩|refine Rk [] 1 c2 ⟨?_⟩|refine Rd (fun h=>⟨?_⟩) fun h=>⟨?_⟩|refine Rb ⟨?_⟩|fail
    all_goals
     exact Rf
theorem vk (t:List Ent) (o:Opn) (ht:t.length≤1073741824) (hb:gG 1073741823 t) (h1:o.path.length≤1073741823) (h2:o.tgt.length≤1073741823):Con (E m) 236 0 [.sl (t.map Ent.c),.agg o.c] [] (.k .i64 (dI t o)) []:=by
 have c1:=eW (m:=m) t o.path ht;have c2:=ru (m:=m) t o.tgt ht (by omega);have c3:=eW (m:=m) t o.tgt ht;have c4:=ju (m:=m) o.tgt o.path (by omega) (by omega);cases he:aA t o.path with
 | none=>
   rw [he] at c1;have hx:dI t o=2:=by simp [dI,he]
   rw [hx];cases hf:aA t o.tgt;all_goals
    rw [hf] at c3;refine G0 Tryz.func236 ?_;repeat' first|refine Ra ⟨?_⟩|refine R0 c1 ⟨?_⟩|refine R0 c2 ⟨?_⟩|refine R0 c3 ⟨?_⟩|refine Rd (fun h=>⟨?_⟩) fun h=>⟨?_⟩|refine Rb ⟨?_⟩|fail
    exact Rf
 | some e=>
   rw [he] at c1;by_cases hu:bC t o.tgt=0
   · rw [hu] at c2;cases hf:aA t o.tgt with
     | some f=>
       rw [hf] at c3;have hx:dI t o=4:=by simp [dI,he,hu,hf]
       rw [hx];refine G0 Tryz.func236 ?_;repeat' first|refine Ra ⟨?_⟩|refine R0 c1 ⟨?_⟩|refine R0 c2 ⟨?_⟩|refine R0 c3 ⟨?_⟩|refine Rd (fun h=>⟨?_⟩) fun h=>⟨?_⟩|refine Rb ⟨?_⟩|fail
       exact Rf
     | none=>
       rw [hf] at c3;cases hv:bc o.tgt o.path with
       | true=>
         rw [hv] at c4;have hx:dI t o=7:=by simp [dI,he,hu,hf,hv]
         rw [hx];refine G0 Tryz.func236 ?_;repeat' first|refine Ra ⟨?_⟩|refine R0 c1 ⟨?_⟩|refine R0 c2 ⟨?_⟩|refine R0 c3 ⟨?_⟩|refine R0 c4 ⟨?_⟩|refine Rd (fun h=>⟨?_⟩) fun h=>⟨?_⟩|refine Rb ⟨?_⟩|fail
         exact Rf
       | false=>
         rw [hv] at c4;have hx:dI t o=if t.all (fun e=>(aX e.path o.path o.tgt).isSome) then 0 else 8:=by simp [dI,he,hu,hf,hv]
         rw [hx];refine G0 Tryz.func236 ?_;repeat' first|refine Ra ⟨?_⟩|refine R0 c1 ⟨?_⟩|refine R0 c2 ⟨?_⟩|refine R0 c3 ⟨?_⟩|refine R0 c4 ⟨?_⟩|refine Rd (fun h=>⟨?_⟩) fun h=>⟨?_⟩|refine Rb ⟨?_⟩|fail
         refine Cd.loop2 (fun mq tm S nx=>∃ (i:Nat),mq=(t.length - i)∧tm=[(0,.sl (t.map Ent.c)),(3,.bp 0 0),(10,.k .i64 i)]∧S=[(0,.box 53 o.c)]∧nx=1∧(i≤t.length)∧((t.take i).all (fun e=>(aX e.path o.path o.tgt).isSome)=true)) ?_ ?_
         · refine la [0,3,10] ?_
           conv=>whnf
           refine ⟨rfl,rfl,_,0,rfl,rfl,rfl,rfl,zAG _,rfl⟩
         · rintro mq tm S nx ⟨i,hn,rfl,rfl,rfl,hi,ha⟩;rcases av t i hi with ⟨rfl,hd⟩|⟨x,r,hx',hd,hr,hlt⟩
           · rw [zAP] at ha;rw [ha];repeat' first|refine Rx ⟨?_⟩|refine Rd (fun h=>⟨?_⟩) fun h=>⟨?_⟩|fail
             exact Rf
           · have hbx:=hb x (zAD hx');have c5:=nV (m:=m) x.path o.path o.tgt (by omega) (by omega) (by omega);cases hm:aX x.path o.path o.tgt with
             | none=>
               rw [hm] at c5;have hf:t.all (fun e=>(aX e.path o.path o.tgt).isSome)=false:=dM hx' (by simp [hm]);rw [hf];repeat' first|refine Ra ⟨?_⟩|refine R0 c5 ⟨?_⟩|refine Rd (fun h=>⟨?_⟩) fun h=>⟨?_⟩|refine Rb ⟨?_⟩|fail
               exact Rf
             | some y=>
               rw [hm] at c5;repeat' first|refine Ra ⟨?_⟩|refine R0 c5 ⟨?_⟩|refine Rd (fun h=>⟨?_⟩) fun h=>⟨?_⟩|refine Rb ⟨?_⟩|fail
               refine .here ⟨mq - 1,by omega,?_⟩;refine la [0,3,10] ?_
               conv=>whnf
               refine ⟨rfl,rfl,i+1,(by omega),rfl,rfl,rfl,by omega,(bN ha hx' (by simp [hm]))⟩
   · have hx:dI t o=bC t o.tgt:=by simp [dI,he,hu]
     rw [hx];cases hf:aA t o.tgt;all_goals
      rw [hf] at c3;refine G0 Tryz.func236 ?_;repeat' first|refine Ra ⟨?_⟩|refine R0 c1 ⟨?_⟩|refine R0 c2 ⟨?_⟩|refine R0 c3 ⟨?_⟩|refine Rd (fun h=>⟨?_⟩) fun h=>⟨?_⟩|refine Rb ⟨?_⟩|fail
      exact Rf
theorem E6 (t:List Ent) (o:Opn) (ht:t.length≤1073741824) (hb:gG 1073741823 t) (h1:o.path.length≤1073741823) (h2:o.tgt.length≤1073741823):Con (E m) 187 0 [.sl (t.map Ent.c),.agg o.c] [] (.k .i64 (dh t o)) []:=by
 have c1:=Aq (m:=m) t o.path ht (by omega);have c2:=yh (m:=m) t o.path ht (by omega);have c3:=vk (m:=m) t o ht hb h1 h2;have c4:=yk (m:=m) t o ht hb;refine G0 Tryz.func187 ?_;repeat' first|refine Ra ⟨?_⟩|refine R0 c1 ⟨?_⟩|refine R0 c2 ⟨?_⟩|refine R0 c3 ⟨?_⟩|refine R0 c4 ⟨?_⟩|refine Rd (fun h=>⟨?_⟩) fun h=>⟨?_⟩|refine Rb ⟨?_⟩|fail
 all_goals
  refine Rg ⟨?_⟩
  first|rfl|(simp_all [dh]; done)|(simp [dh] <;> (repeat' split) <;> omega)|(simp only [dh]; repeat' split) <;> first|omega|(simp_all; done)|(simp_all; omega)|(rw [zAK]; simp [*,dh] <;> omega)
variable {m:Int}
noncomputable abbrev rd (l:Bs) (p:Int):Blk:=.box 175 [.sl (bh l),.k .i64 p]
noncomputable def gv (m:Int) (l:Bs) (p n:Int):Int:=
 open Classical in if h : ∃ r : Int, 0 ≤ r ∧ (r < n ∨ r = 0) ∧ Con (E m) 70 1 [.bp 0 0, .k .i64 n] [(0, rd l p)] (.k .i64 r) [(0, rd l (p + 1))] then h.choose else 0
theorem jU (l:Bs) (p n:Int):0≤gv m l p n∧(gv m l p n < n∨gv m l p n=0):=by
 unfold gv;split
 · rename_i h; exact ⟨h.choose_spec.1,h.choose_spec.2.1⟩
 · exact ⟨by omega,.inr rfl⟩
noncomputable def ofV (m:Int) (l:Bs) (p:Int) (ls:List Bs):Bs:=ls.getD (gv m l p ls.length).toNat []
variable {m:Int}
theorem iY (t:List Ent) (e:Ent) (ht:t.length≤1073741824):Con (E m) 230 0 [.sl (t.map Ent.c),.agg e.c] [] (.own 0) [(0,.own 66 ((ea t e).map Ent.c))]:=by
 refine G0 Tryz.func230 ?_;repeat' first|refine Rx ⟨?_⟩|refine Rd (fun h=>⟨?_⟩) fun h=>⟨?_⟩|fail
 refine Cd.loop2 (fun mq tm S nx=>∃ (k:Nat) (xs:List (List D)),mq=(t.length - k)∧tm=[(0,.sl (t.map Ent.c)),(3,.bp 0 0),(5,.own 1),(6,.k .i64 k)]∧S=[(0,.box 66 e.c),(1,.own 66 xs)]∧nx=2∧(k≤t.length)∧(xs=(t.take k).map Ent.c)∧(ea t e=t.take k++ea (t.drop k) e)) ?_ ?_
 · refine la [0,3,5,6] ?_
   conv=>whnf
   refine ⟨rfl,rfl,_,0,[],rfl,rfl,rfl,rfl,zAG _,rfl,rfl⟩
 · rintro mq tm S nx ⟨k,xs,hn,rfl,rfl,rfl,hk,hx,ha⟩;have hxl:xs.length=k:=by rw [hx]; simp; omega
   rcases av t k hk with ⟨rfl,hd⟩|⟨x,r,hx',hd,hr,hlt⟩
   · have hf:(ea t e).map Ent.c=(xs++[e.c])++(((t.map Ent.c).take (t.map Ent.c).length).drop t.length):=by
       rw [ha,hx,hd,zAP]; simp [ea,List.drop_of_length_le]
     rw [hf];repeat' first|refine Rx ⟨?_⟩|refine Rd (fun h=>⟨?_⟩) fun h=>⟨?_⟩|fail
     exact Rf
   · rw [hd] at ha;cases hl:lt x.path e.path with
     | true=>
       have hn:ea t e=t.take (k+1)++ea r e:=by rw [ha,ea,if_pos hl,dv hx']; simp
       rw [← hr] at hn;repeat' first|refine Rx ⟨?_⟩|refine Rd (fun h=>⟨?_⟩) fun h=>⟨?_⟩|fail
       refine .here ⟨mq - 1,by omega,?_⟩;refine la [0,3,5,6] ?_
       conv=>whnf
       refine ⟨rfl,rfl,k+1,_,(by omega),rfl,rfl,rfl,by omega,(by rw [hx]; exact nO hx'),hn⟩
     | false=>
       by_cases hp:x.path=e.path
       · have hf:(ea t e).map Ent.c=(xs++[e.c])++(((t.map Ent.c).take (t.map Ent.c).length).drop (k+1)):=by
           rw [ha,hx,ea,hl,if_neg (by simp),if_pos hp,zAP,← zBX,hr]; simp
         rw [hf];repeat' first|refine Ra ⟨?_⟩|(refine ⟨k+1,rfl,?_⟩ <;> conv=>whnf)|refine Rd (fun h=>⟨?_⟩) fun h=>⟨?_⟩|refine Rb ⟨?_⟩|fail
         exact Rf
       · have hf:(ea t e).map Ent.c=(xs++[e.c])++(((t.map Ent.c).take (t.map Ent.c).length).drop k):=by
           rw [ha,hx,ea,hl,if_neg (by simp),if_neg hp,zAP,← zBX,hd]; simp
         rw [hf];repeat' first|refine Rx ⟨?_⟩|refine Rd (fun h=>⟨?_⟩) fun h=>⟨?_⟩|fail
         exact Rf
theorem GR (t:List Ent) (p:Bs) {i:Nat} {x:Ent} (h:t[i]?=some x):js (t.take (i+1)) p=js (t.take i) p++if x.path≠p then [x] else []:=by
 unfold js;rw [lc h];congr 1
 by_cases hp:x.path=p <;> simp [hp]
theorem GS (t:List Ent) (p:Bs):(js t p).length≤t.length:=zAa _ _
theorem GT (t:List Ent) (p:Bs) (ht:t.length≤1073741824):Con (E m) 239 0 [.sl (t.map Ent.c),.s p] [] (.own 0) [(0,.own 66 ((js t p).map Ent.c))]:=by
 refine G0 Tryz.func239 ?_;repeat' first|refine Rx ⟨?_⟩|refine Rd (fun h=>⟨?_⟩) fun h=>⟨?_⟩|fail
 refine Cd.loop2 (fun mq tm S nx=>∃ (i:Nat) (xs:List (List D)),mq=(t.length - i)∧tm=[(0,.sl (t.map Ent.c)),(1,.s p),(5,.own 0),(6,.k .i64 i)]∧S=[(0,.own 66 xs)]∧nx=1∧(i≤t.length)∧(xs=(js (t.take i) p).map Ent.c)) ?_ ?_
 · refine la [0,1,5,6] ?_
   conv=>whnf
   refine ⟨rfl,rfl,_,0,[],rfl,rfl,rfl,rfl,zAG _,rfl⟩
 · rintro mq tm S nx ⟨i,xs,hn,rfl,rfl,rfl,hi,hx⟩;have hxl:xs.length≤i:=by rw [hx,zAA]; have:=GS (t.take i) p; rw [zAd] at this; omega
   rcases av t i hi with ⟨rfl,hd⟩|⟨x,r,hx',hd,hr,hlt⟩
   · rw [zAP] at hx;rw [← hx];repeat' first|refine Rx ⟨?_⟩|refine Rd (fun h=>⟨?_⟩) fun h=>⟨?_⟩|fail
     exact Rf
   · have hs:=GR t p hx';by_cases hp:x.path=p
     · rw [if_neg (not_not_intro hp),List.append_nil] at hs;repeat' first|refine Rx ⟨?_⟩|refine Rd (fun h=>⟨?_⟩) fun h=>⟨?_⟩|fail
       refine .here ⟨mq - 1,by omega,?_⟩;refine la [0,1,5,6] ?_
       conv=>whnf
       refine ⟨rfl,rfl,i+1,_,(by omega),rfl,rfl,rfl,by omega,(by rw [hs,hx])⟩
     · rw [if_pos hp] at hs;repeat' first|refine Rx ⟨?_⟩|refine Rd (fun h=>⟨?_⟩) fun h=>⟨?_⟩|fail
       refine .here ⟨mq - 1,by omega,?_⟩;refine la [0,1,5,6] ?_
       conv=>whnf
       refine ⟨rfl,rfl,i+1,_,(by omega),rfl,rfl,rfl,by omega,(by rw [hs,hx,zAH]; rfl)⟩
theorem E7 (t:List Ent) (a b:Bs) (ht:t.length≤1073741824) (hb:gG 1073741823 t) (h1:a.length≤1073741823) (h2:b.length≤1073741823):Con (E m) 238 0 [.sl (t.map Ent.c),.s a,.s b] [] (.own 0) [(0,.own 66 ((ml t a b).map Ent.c))]:=by
 refine G0 Tryz.func238 ?_;repeat' first|refine Rx ⟨?_⟩|refine Rd (fun h=>⟨?_⟩) fun h=>⟨?_⟩|fail
 refine Cd.loop2 (fun mq tm S nx=>∃ (i:Nat) (xs:List (List D)),mq=(t.length - i)∧tm=[(0,.sl (t.map Ent.c)),(1,.s a),(2,.s b),(7,.own 0),(8,.k .i64 i)]∧S=[(0,.own 66 xs)]∧nx=1∧(i≤t.length)∧(xs=(ml (t.take i) a b).map Ent.c)) ?_ ?_
 · refine la [0,1,2,7,8] ?_
   conv=>whnf
   refine ⟨rfl,rfl,_,0,[],rfl,rfl,rfl,rfl,zAG _,rfl⟩
 · rintro mq tm S nx ⟨i,xs,hn,rfl,rfl,rfl,hi,hx⟩;have hml:(ml (t.take i) a b).length≤i:=by
    have:=putAll_len ((t.take i).map (gt a b)) []
    simp only [zAA,zAd,List.length_nil] at this;unfold ml;omega
   rcases av t i hi with ⟨rfl,hd⟩|⟨x,r,hx',hd,hr,hlt⟩
   · rw [zAP] at hx;rw [← hx];repeat' first|refine Rx ⟨?_⟩|refine Rd (fun h=>⟨?_⟩) fun h=>⟨?_⟩|fail
     exact Rf
   · have hbx:=hb x (zAD hx');have c1:=nV (m:=m) x.path a b (by omega) h1 h2;have hs:ml (t.take (i+1)) a b=ea (ml (t.take i) a b) (gt a b x):=by
      unfold ml;rw [dv hx',zAH,List.map_cons,List.map_nil,Ah]
     subst hx;cases hm:aX x.path a b;all_goals
      rw [hm] at c1;have hme:gt a b x=⟨(aX x.path a b).getD [],x.dir,x.data⟩:=rfl;rw [hm] at hme;have c2:=iY (m:=m) (ml (t.take i) a b) (gt a b x) (by omega);rw [← hs,hme] at c2;repeat' first|refine Ra ⟨?_⟩|refine R0 c1 ⟨?_⟩|refine Rk [] 1 c2 ⟨?_⟩|refine Rd (fun h=>⟨?_⟩) fun h=>⟨?_⟩|refine Rb ⟨?_⟩|fail
      refine .here ⟨mq - 1,by omega,?_⟩;refine la [0,1,2,7,8] ?_
      conv=>whnf
      refine ⟨rfl,rfl,i+1,_,(by omega),rfl,rfl,rfl,by omega,rfl⟩
theorem HY (t:List Ent) (o:Opn) (ht:t.length≤1073741824) (hb:gG 1073741823 t) (h1:o.path.length≤1073741823) (h2:o.tgt.length≤1073741823):Con (E m) 188 0 [.sl (t.map Ent.c),.agg o.c] [] (.own 0) [(0,.own 66 ((doT t o).map Ent.c))]:=by
 have c1:=iY (m:=m) t ⟨o.path,true,[]⟩ ht;have c2:=iY (m:=m) t ⟨o.path,false,o.data⟩ ht;have c3:=E7 (m:=m) t o.path o.tgt ht hb h1 h2;have c4:=GT (m:=m) t o.path ht;unfold doT;by_cases k1:o.kind=1
 · simp only [k1,if_true];refine G0 Tryz.func188 ?_;repeat' first|refine Ra ⟨?_⟩|refine Rk [] 1 c1 ⟨?_⟩|refine Rd (fun h=>⟨?_⟩) fun h=>⟨?_⟩|refine Rb ⟨?_⟩|fail
   exact Rf
 · by_cases k2:o.kind=2
   · simp only [k1,k2,if_true,if_false];refine G0 Tryz.func188 ?_;repeat' first|refine Ra ⟨?_⟩|refine Rk [] 1 c2 ⟨?_⟩|refine Rd (fun h=>⟨?_⟩) fun h=>⟨?_⟩|refine Rb ⟨?_⟩|fail
     exact Rf
   · by_cases k5:o.kind=5
     · simp only [k1,k2,k5,if_true,if_false];refine G0 Tryz.func188 ?_;repeat' first|refine Ra ⟨?_⟩|refine Rk [] 1 c3 ⟨?_⟩|refine Rd (fun h=>⟨?_⟩) fun h=>⟨?_⟩|refine Rb ⟨?_⟩|fail
       exact Rf
     · simp only [k1,k2,k5,if_false];refine G0 Tryz.func188 ?_;repeat' first|refine Ra ⟨?_⟩|refine Rk [] 1 c4 ⟨?_⟩|refine Rd (fun h=>⟨?_⟩) fun h=>⟨?_⟩|refine Rb ⟨?_⟩|fail
       exact Rf
theorem fT (t:List Ent) (o:Opn) (ht:t.length≤1073741824) (hb:gG 1073741823 t) (h1:o.path.length≤1073741823) (h2:o.tgt.length≤1073741823) (h3:o.data.length≤1073741823):Con (E m) 122 0 [.sl (t.map Ent.c),.agg o.c] [] (.tup [.own 0,.k .i64 (aJ t o).2]) [(0,.own 66 ((aJ t o).1.map Ent.c))]:=by
 have c1:=mQ (m:=m) t fun e he=>by have:=hb e he; omega
 have c2:=E0 (m:=m) o (by omega) (by omega) (by omega);have c3:=E6 (m:=m) t o ht hb h1 h2;have c4:=HY (m:=m) t o ht hb h1 h2;cases k1:aq t with
 | false=>
   have hx:aJ t o=([],1):=by simp [aJ,k1]
   rw [hx];rw [k1] at c1;refine G0 Tryz.func122 ?_;repeat' first|refine Ra ⟨?_⟩|refine R0 c1 ⟨?_⟩|refine Rd (fun h=>⟨?_⟩) fun h=>⟨?_⟩|refine Rb ⟨?_⟩|fail
   exact Rf
 | true=>
   rw [k1] at c1;cases k2:iu o with
   | false=>
     have hx:aJ t o=(t,1):=by simp [aJ,k1,k2]
     rw [hx];rw [k2] at c2;refine G0 Tryz.func122 ?_;repeat' first|refine Ra ⟨?_⟩|refine R0 c1 ⟨?_⟩|refine R0 c2 ⟨?_⟩|refine Rd (fun h=>⟨?_⟩) fun h=>⟨?_⟩|refine Rb ⟨?_⟩|fail
     exact Rf
   | true=>
     rw [k2] at c2;by_cases k3:dh t o=0
     · have hx:aJ t o=(doT t o,0):=by simp [aJ,k1,k2,k3]
       rw [hx];rw [k3] at c3;refine G0 Tryz.func122 ?_;repeat' first|refine Ra ⟨?_⟩|refine R0 c1 ⟨?_⟩|refine R0 c2 ⟨?_⟩|refine R0 c3 ⟨?_⟩|refine Rk [] 1 c4 ⟨?_⟩|refine Rd (fun h=>⟨?_⟩) fun h=>⟨?_⟩|refine Rb ⟨?_⟩|fail
       exact Rf
     · have hx:aJ t o=(t,dh t o):=by simp [aJ,k1,k2,k3]
       rw [hx];refine G0 Tryz.func122 ?_;repeat' first|refine Ra ⟨?_⟩|refine R0 c1 ⟨?_⟩|refine R0 c2 ⟨?_⟩|refine R0 c3 ⟨?_⟩|refine Rd (fun h=>⟨?_⟩) fun h=>⟨?_⟩|refine Rb ⟨?_⟩|fail
       exact Rf
variable {m:Int}
theorem sB (l:Bs) (p n:Int):gv m l p n=(((gv m l p n).toNat:Nat):Int):=(Int.toNat_of_nonneg (jU l p n).1).symm
variable {m:Int}
end Go.Proofs.YtagejnomlkfndaaGreatDoor
