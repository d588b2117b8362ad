/- Texts of this claim, set close: lemmas and contracts. -/
import Derived.Test.YtagejnomlkfndaaGreatDoorYY9
import Derived.Test.YtagejnomlkfndaaGreatDoorYY6
set_option linter.unusedSimpArgs false
set_option linter.unusedVariables false
set_option maxHeartbeats 1000000
set_option maxRecDepth 10000
namespace Go.Proofs.YtagejnomlkfndaaGreatDoor
open Go Go.RowKit Go.Ab Go.Par
variable {m:Int}
theorem hY (s d:Bs) (hs:s.length≤1073741824) (hd:d.length≤1073741824):Con (E m) 278 0 [.s s,.s d] [] (.b (under s d)) []:=by
 cases hx:s[d.length]? with
 | none=>
   have hn:=List.getElem?_eq_none_iff.1 hx;refine G0 Tryz.func278 ?_;repeat' first|refine Rx ⟨?_⟩|refine Rd (fun h=>⟨?_⟩) fun h=>⟨?_⟩|fail
   all_goals
    refine Rg ⟨?_⟩
    first|rfl|(simp_all [under]; done)|(simp [under] <;> (repeat' split) <;> omega)|(simp only [under]; repeat' split) <;> first|omega|(simp_all; done)|(simp_all; omega)|(rw [zAK]; simp [*,under] <;> omega)
 | some c=>
   have hn:=(List.getElem?_eq_some_iff.1 hx).1;refine G0 Tryz.func278 ?_;repeat' first|refine Rx ⟨?_⟩|refine Rd (fun h=>⟨?_⟩) fun h=>⟨?_⟩|fail
   all_goals
    refine Rg ⟨?_⟩
    first|rfl|(simp_all [under,c47]; done)|(simp [under,c47] <;> (repeat' split) <;> omega)|(simp only [under,c47]; repeat' split) <;> first|omega|(simp_all; done)|(simp_all; omega)|(rw [zAK]; simp [*,under,c47] <;> omega)
theorem xL (l:List Mrk) (p:Bs) (hl:l.length≤1073741824):Con (E m) 276 0 [.sl (l.map Mrk.c),.s p] [] (.k .i64 (j8 l p)) []:=by
 refine G0 Tryz.func276 ?_;repeat' first|refine Rx ⟨?_⟩|refine Rd (fun h=>⟨?_⟩) fun h=>⟨?_⟩|fail
 refine Cd.loop2 (fun mq tm S nx=>∃ (i:Nat),mq=(l.length - i)∧tm=[(0,.sl (l.map Mrk.c)),(1,.s p),(5,.k .i64 i)]∧S=[]∧nx=0∧(i≤l.length)∧(∀ k,k < i→∀ e,l[k]?=some e→e.path≠p)) ?_ ?_
 · refine la [0,1,5] ?_
   conv=>whnf
   refine ⟨rfl,rfl,_,0,rfl,rfl,rfl,rfl,zAG _,fun k h=>absurd h (Nat.not_lt_zero _)⟩
 · rintro mq tm S nx ⟨i,hn,rfl,rfl,rfl,hi,ha⟩;rcases al l i hi with ⟨rfl,hd⟩|⟨x,r,hx,hd,hr,hlt⟩
   · repeat' first|refine Rx ⟨?_⟩|refine Rd (fun h=>⟨?_⟩) fun h=>⟨?_⟩|fail
     have he:j8 l p=-1:=pz fun k e h=>ha k (List.getElem?_eq_some_iff.1 h).1 e h;rw [he];exact Rf
   · repeat' first|refine Rx ⟨?_⟩|refine Rd (fun h=>⟨?_⟩) fun h=>⟨?_⟩|fail
     · have he:j8 l p=i:=uc hx ‹_› fun k e h1 h2=>ha k h1 e h2;rw [he];exact Rf
     · refine .here ⟨mq - 1,by omega,?_⟩;refine la [0,1,5] ?_
       conv=>whnf
       refine ⟨rfl,rfl,i+1,(by omega),rfl,rfl,rfl,by omega,zh ha (fun e h=>by rw [hx] at h; cases h; assumption)⟩
theorem pA (l:List Mrk) (p:Bs) (hl:l.length≤1073741824):Con (E m) 233 0 [.sl (l.map Mrk.c),.s p] [] (.k .i64 (gg l p)) []:=by
 have h1:=xL (m:=m) l p hl;rcases B3 l p with ⟨i,hx,hi,he⟩|⟨hx,he⟩
 · rw [hx] at h1;have hk:gg l p=l[i].kind:=by simp [gg,he]
   rw [hk];refine G0 Tryz.func233 ?_;repeat' first|refine Ra ⟨?_⟩|refine R0 h1 ⟨?_⟩|refine Rd (fun h=>⟨?_⟩) fun h=>⟨?_⟩|refine Rb ⟨?_⟩|fail
   exact Rf
 · rw [hx] at h1;have hk:gg l p=0:=by simp [gg,he]
   rw [hk];refine G0 Tryz.func233 ?_;repeat' first|refine Ra ⟨?_⟩|refine R0 h1 ⟨?_⟩|refine Rd (fun h=>⟨?_⟩) fun h=>⟨?_⟩|refine Rb ⟨?_⟩|fail
   exact Rf
theorem xM (l:List Mrk) (p:Bs) (hl:l.length≤1073741824) (hp:p.length≤1073741823) (hb:∀ x∈l,x.path.length≤1073741823):Con (E m) 274 0 [.sl (l.map Mrk.c),.s p] [] (.b (bare l p)) []:=by
 refine G0 Tryz.func274 ?_;repeat' first|refine Rx ⟨?_⟩|refine Rd (fun h=>⟨?_⟩) fun h=>⟨?_⟩|fail
 refine Cd.loop2 (fun mq tm S nx=>∃ (i:Nat),mq=(l.length - i)∧tm=[(0,.sl (l.map Mrk.c)),(1,.s p),(5,.k .i64 i)]∧S=[]∧nx=0∧(i≤l.length)∧(bare l p=bare (l.drop i) p)) ?_ ?_
 · refine la [0,1,5] ?_
   conv=>whnf
   refine ⟨rfl,rfl,_,0,rfl,rfl,rfl,rfl,zAG _,rfl⟩
 · rintro mq tm S nx ⟨i,hn,rfl,rfl,rfl,hi,ha⟩;rcases al l i hi with ⟨rfl,hd⟩|⟨x,r,hx,hd,hr,hlt⟩
   · rw [hd] at ha;rw [ha];repeat' first|refine Rx ⟨?_⟩|refine Rd (fun h=>⟨?_⟩) fun h=>⟨?_⟩|fail
     exact Rf
   · rw [hd] at ha;have hbx:=hb x (zAD hx);have c1:=hY (m:=m) p x.path (by omega) (by omega);repeat' first|refine Ra ⟨?_⟩|refine R0 c1 ⟨?_⟩|refine Rd (fun h=>⟨?_⟩) fun h=>⟨?_⟩|refine Rb ⟨?_⟩|fail
     all_goals first
      | (refine iG.here ⟨mq - 1,by omega,?_⟩
         refine la [0,1,5] ?_
         conv=>whnf
         refine ⟨rfl,rfl,i+1,(by omega),rfl,rfl,rfl,by omega,(by rw [ha,hr]; simp [bare, *])⟩)
      | (refine af.here (fa ?_)
         conv=>whnf
         (try rw [ha])
         first|exact ⟨rfl,rfl,rfl,rfl⟩|refine ⟨rfl,rfl,congrArg some (congrArg D.s ?_),rfl⟩|refine ⟨rfl,rfl,congrArg some (congrArg D.b ?_),rfl⟩|refine ⟨rfl,rfl,congrArg some (congrArg (D.k _) ?_),rfl⟩|refine ⟨rfl,rfl,congrArg some ?_,rfl⟩
         all_goals first|rfl|(simp_all [bare]; done)|(simp [bare] <;> (repeat' split) <;> omega))
theorem Cc (l:List Mrk) (p:Bs) (hl:l.length≤1073741824) (hp:p.length≤1073741823):Con (E m) 273 0 [.sl (l.map Mrk.c),.s p] [] (.b (inM l p)) []:=by
 have c1:=lL (m:=m) p (by omega);have c2:=pA (m:=m) l (ag p) hl;have hx:inM l p=(decide (ag p=[47]) || (decide (gg l (ag p)=2) || decide (gg l (ag p)=4))):=by
  unfold inM gg;cases aA l (ag p) <;> simp [j7,dS]
 rw [hx];refine G0 Tryz.func273 ?_;repeat' first|refine Ra ⟨?_⟩|refine R0 c1 ⟨?_⟩|refine R0 c2 ⟨?_⟩|refine Rd (fun h=>⟨?_⟩) fun h=>⟨?_⟩|refine Rb ⟨?_⟩|fail
 all_goals
  exact Rf
variable {m:Int}
def Fy:Option Bs→D
 | some o=>.tup [.s o,.b true]
 | none=>.tup [.s [],.b false]
theorem ma (s a b:Bs) (hs:s.length≤1073741823) (ha:a.length≤1073741823) (hb:b.length≤1073741823):Con (E m) 279 0 [.s s,.s a,.s b] [] (Fy (aO s a b)) []:=by
 have c1:=cj (m:=m) s (by omega);have c2:=cj (m:=m) a (by omega);have c3:=cj (m:=m) b (by omega);have c4:=hY (m:=m) s a (by omega) (by omega);cases h1:ae s with
 | false=>
   have hx:aO s a b=none:=by simp [aO,h1]
   rw [hx];rw [h1] at c1;refine G0 Tryz.func279 ?_;repeat' first|refine Ra ⟨?_⟩|refine R0 c1 ⟨?_⟩|refine Rd (fun h=>⟨?_⟩) fun h=>⟨?_⟩|refine Rb ⟨?_⟩|fail
   exact Rf
 | true=>
   cases h2:ae a with
   | false=>
     have hx:aO s a b=none:=by simp [aO,h2]
     rw [hx];rw [h1] at c1;rw [h2] at c2;refine G0 Tryz.func279 ?_;repeat' first|refine Ra ⟨?_⟩|refine R0 c1 ⟨?_⟩|refine R0 c2 ⟨?_⟩|refine Rd (fun h=>⟨?_⟩) fun h=>⟨?_⟩|refine Rb ⟨?_⟩|fail
     exact Rf
   | true=>
     cases h3:ae b with
     | false=>
       have hx:aO s a b=none:=by simp [aO,h3]
       rw [hx];rw [h1] at c1;rw [h2] at c2;rw [h3] at c3;refine G0 Tryz.func279 ?_;repeat' first|refine Ra ⟨?_⟩|refine R0 c1 ⟨?_⟩|refine R0 c2 ⟨?_⟩|refine R0 c3 ⟨?_⟩|refine Rd (fun h=>⟨?_⟩) fun h=>⟨?_⟩|refine Rb ⟨?_⟩|fail
       exact Rf
     | true=>
       rw [h1] at c1;rw [h2] at c2;rw [h3] at c3;have hrt:=aW h2;by_cases hc:s≠a∧under s a=false
       · have hx:aO s a b=some s:=by simp [aO,h1,h2,h3,hc.1,hc.2]
         obtain ⟨hc1,hc2⟩:=hc;rw [hx];rw [hc2] at c4;refine G0 Tryz.func279 ?_;repeat' first|refine Ra ⟨?_⟩|refine R0 c1 ⟨?_⟩|refine R0 c2 ⟨?_⟩|refine R0 c3 ⟨?_⟩|refine R0 c4 ⟨?_⟩|refine Rd (fun h=>⟨?_⟩) fun h=>⟨?_⟩|refine Rb ⟨?_⟩|fail
         exact Rf
       · have hlen:a.length≤s.length:=by
           by_cases he:s=a
           · rw [he]; exact zAJ _
           · have hu:under s a=true:=by
               cases hu:under s a with
               | true=>rfl
               | false=>exact absurd ⟨he,hu⟩ hc
             have:=oP hu hrt
             omega
         have c5:=cj (m:=m) (b++(s.take s.length).drop a.length) (by
          have:=(aM h1).2
          have:=(aM h3).2
          simp; omega)
         have hx:aO s a b=if ae (b++(s.take s.length).drop a.length) then some (b++(s.take s.length).drop a.length) else none:=by
          unfold aO;rw [h1,h2,h3,zAP];simp only [zBO,if_true];rw [if_neg hc]
         rw [hx];by_cases he:s=a
         all_goals
          cases h5:ae (b++(s.take s.length).drop a.length);all_goals
           rw [h5] at c5;have hu:s=a∨under s a=true:=by
            by_cases he:s=a
            · exact .inl he
            · right;cases hu:under s a with
              | true=>rfl
              | false=>exact absurd ⟨he,hu⟩ hc
           try rw [hu.resolve_left he] at c4
           simp only [if_true,if_false,zAF];refine G0 Tryz.func279 ?_;repeat' first|refine Ra ⟨?_⟩|refine R0 c1 ⟨?_⟩|refine R0 c2 ⟨?_⟩|refine R0 c3 ⟨?_⟩|refine R0 c4 ⟨?_⟩|refine R0 c5 ⟨?_⟩|refine Rd (fun h=>⟨?_⟩) fun h=>⟨?_⟩|refine Rb ⟨?_⟩|fail
           exact Rf
theorem sT (s:Bs) (hs:s.length≤1073741823):Con (E m) 297 0 [.s s] [] (.s (Par.pathName s)) []:=by
 have h1:=cj (m:=m) s (by omega);have hl:=xt s;cases hok:ae s with
 | false=>
   have hx:Par.pathName s=[]:=by simp [Par.pathName,hok]
   rw [hx];rw [hok] at h1;refine G0 Tryz.func297 ?_;repeat' first|refine Ra ⟨?_⟩|refine R0 h1 ⟨?_⟩|refine Rd (fun h=>⟨?_⟩) fun h=>⟨?_⟩|refine Rb ⟨?_⟩|fail
   exact Rf
 | true=>
   rw [hok] at h1;have hp:=aM hok;have hsl:gW s+1≤s.length:=by
    have:=mI s (s.length - 1)
    unfold gW;omega
   have hx:Par.pathName s=(s.take s.length).drop (gW s+1):=by rw [Par.pathName,if_pos hok,zAP]
   rw [hx];refine G0 Tryz.func297 ?_;repeat' first|refine Ra ⟨?_⟩|refine R0 h1 ⟨?_⟩|refine R0 (rH s hp.1 (by omega)) ⟨?_⟩|(refine ⟨gW s+1,rfl,?_⟩ <;> conv=>whnf)|refine Rd (fun h=>⟨?_⟩) fun h=>⟨?_⟩|refine Rb ⟨?_⟩|fail
   exact Rf
theorem dT (t:List Ent) (p:Bs) (ht:t.length≤1073741824):Con (E m) 181 0 [.sl (t.map Ent.c),.s p] [] (lU (az t p)) []:=by
 by_cases hr:p=[47]
 · subst hr;have hx:az t [47]=some AX:=by simp [az]
   rw [hx];refine G0 Tryz.func181 ?_;repeat' first|refine Rx ⟨?_⟩|refine Rd (fun h=>⟨?_⟩) fun h=>⟨?_⟩|fail
   exact Rf
 · have hx:az t p=ah t p:=by simp [az,hr]
   rw [hx];have c1:=uf (m:=m) t p ht;rcases nL t p with ⟨i,hi,hlt,he⟩|⟨hi,he⟩
   · rw [hi] at c1;rw [he];refine G0 Tryz.func181 ?_;repeat' first|refine Ra ⟨?_⟩|refine R0 c1 ⟨?_⟩|refine Rd (fun h=>⟨?_⟩) fun h=>⟨?_⟩|refine Rb ⟨?_⟩|fail
     exact Rf
   · rw [hi] at c1;rw [he];refine G0 Tryz.func181 ?_;repeat' first|refine Ra ⟨?_⟩|refine R0 c1 ⟨?_⟩|refine Rd (fun h=>⟨?_⟩) fun h=>⟨?_⟩|refine Rb ⟨?_⟩|fail
     exact Rf
theorem Ce (t:List Ent) (p:Bs) {i:Nat} {x:Ent} (h:t[i]?=some x):lT (t.take (i+1)) p=lT (t.take i) p++if ag x.path=p then [Par.pathName x.path] else []:=by
 unfold lT;rw [jG h,zAM];congr 1
 by_cases hp:ag x.path=p <;> simp [hp]
theorem Cf (t:List Ent) (p:Bs) (ht:t.length≤1073741824) (hb:xD 1073741823 t):Con (E m) 280 0 [.sl (t.map Ent.c),.s p] [] (.own 0) [(0,.own 9 ((lT t p).map fun l=>[.s l]))]:=by
 refine G0 Tryz.func280 ?_;repeat' first|refine Rx ⟨?_⟩|refine Rd (fun h=>⟨?_⟩) fun h=>⟨?_⟩|fail
 refine Cd.loop2 (fun mq tm S nx=>∃ (i:Nat) (xs:List (List D)),mq=(t.length - i)∧tm=[(0,.sl (t.map Ent.c)),(1,.s p),(5,.own 0),(6,.k .i64 i)]∧S=[(0,.own 9 xs)]∧nx=1∧(i≤t.length)∧(xs=(lT (t.take i) p).map fun l=>[.s l])) ?_ ?_
 · refine la [0,1,5,6] ?_
   conv=>whnf
   refine ⟨rfl,rfl,_,0,[],rfl,rfl,rfl,rfl,zAG _,rfl⟩
 · rintro mq tm S nx ⟨i,xs,hn,rfl,rfl,rfl,hi,hx⟩;have hxl:xs.length≤i:=by rw [hx,zAA]; have:=DK (t.take i) p; rw [zAd] at this; omega
   rcases al t i hi with ⟨rfl,hd⟩|⟨x,r,hx',hd,hr,hlt⟩
   · rw [zAP] at hx;rw [← hx];repeat' first|refine Rx ⟨?_⟩|refine Rd (fun h=>⟨?_⟩) fun h=>⟨?_⟩|fail
     exact Rf
   · have hbx:=hb x (zAD hx');have c1:=lL (m:=m) x.path (by omega);have c2:=sT (m:=m) x.path (by omega);have hs:=Ce t p hx';by_cases hp:ag x.path=p
     · rw [if_pos hp] at hs;repeat' first|refine Ra ⟨?_⟩|refine R0 c1 ⟨?_⟩|refine R0 c2 ⟨?_⟩|refine Rd (fun h=>⟨?_⟩) fun h=>⟨?_⟩|refine Rb ⟨?_⟩|fail
       refine .here ⟨mq - 1,by omega,?_⟩;refine la [0,1,5,6] ?_
       conv=>whnf
       refine ⟨rfl,rfl,i+1,_,(by omega),rfl,rfl,rfl,by omega,(by rw [hs,hx,zAM]; rfl)⟩
     · rw [if_neg hp,List.append_nil] at hs;repeat' first|refine Ra ⟨?_⟩|refine R0 c1 ⟨?_⟩|refine R0 c2 ⟨?_⟩|refine Rd (fun h=>⟨?_⟩) fun h=>⟨?_⟩|refine Rb ⟨?_⟩|fail
       refine .here ⟨mq - 1,by omega,?_⟩;refine la [0,1,5,6] ?_
       conv=>whnf
       refine ⟨rfl,rfl,i+1,_,(by omega),rfl,rfl,rfl,by omega,(by rw [hs,hx])⟩
theorem pB (t:List Ent) (p:Bs) (ht:t.length≤1073741824) (hp:p.length≤1073741824):Con (E m) 277 0 [.sl (t.map Ent.c),.s p] [] (.k .i64 (bc t p)) []:=by
 have c1:=lL (m:=m) p hp;have c2:=dT (m:=m) t (ag p) ht;rw [zt];cases he:az t (ag p) with
 | none=>
   rw [he] at c2;refine G0 Tryz.func277 ?_;repeat' first|refine Ra ⟨?_⟩|refine R0 c1 ⟨?_⟩|refine R0 c2 ⟨?_⟩|refine Rd (fun h=>⟨?_⟩) fun h=>⟨?_⟩|refine Rb ⟨?_⟩|fail
   exact Rf
 | some e=>
   rw [he] at c2;cases hd:e.dir;all_goals
    simp only [Ent.c,lU,hd] at c2;simp only [hd,if_true,if_false,zAF];refine G0 Tryz.func277 ?_;repeat' first|refine Ra ⟨?_⟩|refine R0 c1 ⟨?_⟩|refine R0 c2 ⟨?_⟩|refine Rd (fun h=>⟨?_⟩) fun h=>⟨?_⟩|refine Rb ⟨?_⟩|fail
    exact Rf
theorem xN (t:List Ent) (p:Bs) (ht:t.length≤1073741824) (hp:p.length≤1073741824):Con (E m) 234 0 [.sl (t.map Ent.c),.s p] [] (.k .i64 (dw t p)) []:=by
 have c1:=pB (m:=m) t p ht hp;have c2:=dT (m:=m) t p ht;cases he:az t p;all_goals
  rw [he] at c2;refine G0 Tryz.func234 ?_;repeat' first|refine Ra ⟨?_⟩|refine R0 c1 ⟨?_⟩|refine R0 c2 ⟨?_⟩|refine Rd (fun h=>⟨?_⟩) fun h=>⟨?_⟩|refine Rb ⟨?_⟩|fail
  all_goals
   refine Rg ⟨?_⟩
   first|rfl|(simp_all [dw,he]; done)|(simp [dw,he] <;> (repeat' split) <;> omega)|(simp only [dw,he]; repeat' split) <;> first|omega|(simp_all; done)|(simp_all; omega)|(rw [zAK]; simp [*,dw,he] <;> omega)
theorem vA (t:List Ent) (p:Bs) (ht:t.length≤1073741824) (hp:p.length≤1073741824):Con (E m) 235 0 [.sl (t.map Ent.c),.s p] [] (.k .i64 (dN t p)) []:=by
 have c1:=xN (m:=m) t p ht hp;have c2:=dT (m:=m) t p ht;cases he:az t p with
 | none=>
   rw [he] at c2;refine G0 Tryz.func235 ?_;repeat' first|refine Ra ⟨?_⟩|refine R0 c1 ⟨?_⟩|refine R0 c2 ⟨?_⟩|refine Rd (fun h=>⟨?_⟩) fun h=>⟨?_⟩|refine Rb ⟨?_⟩|fail
   all_goals
    refine Rg ⟨?_⟩
    first|rfl|(simp_all [dN,ec]; done)|(simp [dN,ec] <;> (repeat' split) <;> omega)|(simp only [dN,ec]; repeat' split) <;> first|omega|(simp_all; done)|(simp_all; omega)|(rw [zAK]; simp [*,dN,ec] <;> omega)
 | some e=>
   rw [he] at c2;cases hd:e.dir;all_goals
    simp only [Ent.c,lU,hd] at c2;refine G0 Tryz.func235 ?_;repeat' first|refine Ra ⟨?_⟩|refine R0 c1 ⟨?_⟩|refine R0 c2 ⟨?_⟩|refine Rd (fun h=>⟨?_⟩) fun h=>⟨?_⟩|refine Rb ⟨?_⟩|fail
    all_goals
     refine Rg ⟨?_⟩
     first|rfl|(simp_all [dN,ec]; done)|(simp [dN,ec] <;> (repeat' split) <;> omega)|(simp only [dN,ec]; repeat' split) <;> first|omega|(simp_all; done)|(simp_all; omega)|(rw [zAK]; simp [*,dN,ec] <;> omega)
theorem vB (t:List Ent) (o:Opn) (ht:t.length≤1073741824) (hb:xD 1073741823 t):Con (E m) 237 0 [.sl (t.map Ent.c),.agg o.c] [] (.k .i64 (eP t o)) []:=by
 have c1:=dT (m:=m) t o.path ht;have c2:=Cf (m:=m) t o.path ht hb;unfold eP;cases he:az t o.path with
 | none=>
   rw [he] at c1;refine G0 Tryz.func237 ?_;repeat' first|refine Ra ⟨?_⟩|refine R0 c1 ⟨?_⟩|refine Rd (fun h=>⟨?_⟩) fun h=>⟨?_⟩|refine Rb ⟨?_⟩|fail
   exact Rf
 | some e=>
   rw [he] at c1;cases hd:e.dir;all_goals
    simp only [Ent.c,lU,hd] at c1;refine G0 Tryz.func237 ?_;repeat' first|refine Ra ⟨?_⟩|refine R0 c1 ⟨?_⟩|refine Rk [] 1 c2 ⟨?_⟩|refine Rd (fun h=>⟨?_⟩) fun h=>⟨?_⟩|refine Rb ⟨?_⟩|fail
    all_goals
     exact Rf
theorem sU (t:List Ent) (o:Opn) (ht:t.length≤1073741824) (hb:xD 1073741823 t) (h1:o.path.length≤1073741823) (h2:o.to.length≤1073741823):Con (E m) 236 0 [.sl (t.map Ent.c),.agg o.c] [] (.k .i64 (cO t o)) []:=by
 have c1:=dT (m:=m) t o.path ht;have c2:=pB (m:=m) t o.to ht (by omega);have c3:=dT (m:=m) t o.to ht;have c4:=hY (m:=m) o.to o.path (by omega) (by omega);cases he:az t o.path with
 | none=>
   rw [he] at c1;have hx:cO t o=2:=by simp [cO,he]
   rw [hx];cases hf:az t o.to;all_goals
    rw [hf] at c3;refine G0 Tryz.func236 ?_;repeat' first|refine Ra ⟨?_⟩|refine R0 c1 ⟨?_⟩|refine R0 c2 ⟨?_⟩|refine R0 c3 ⟨?_⟩|refine Rd (fun h=>⟨?_⟩) fun h=>⟨?_⟩|refine Rb ⟨?_⟩|fail
    exact Rf
 | some e=>
   rw [he] at c1;by_cases hu:bc t o.to=0
   · rw [hu] at c2;cases hf:az t o.to with
     | some f=>
       rw [hf] at c3;have hx:cO t o=4:=by simp [cO,he,hu,hf]
       rw [hx];refine G0 Tryz.func236 ?_;repeat' first|refine Ra ⟨?_⟩|refine R0 c1 ⟨?_⟩|refine R0 c2 ⟨?_⟩|refine R0 c3 ⟨?_⟩|refine Rd (fun h=>⟨?_⟩) fun h=>⟨?_⟩|refine Rb ⟨?_⟩|fail
       exact Rf
     | none=>
       rw [hf] at c3;cases hv:under o.to o.path with
       | true=>
         rw [hv] at c4;have hx:cO t o=7:=by simp [cO,he,hu,hf,hv]
         rw [hx];refine G0 Tryz.func236 ?_;repeat' first|refine Ra ⟨?_⟩|refine R0 c1 ⟨?_⟩|refine R0 c2 ⟨?_⟩|refine R0 c3 ⟨?_⟩|refine R0 c4 ⟨?_⟩|refine Rd (fun h=>⟨?_⟩) fun h=>⟨?_⟩|refine Rb ⟨?_⟩|fail
         exact Rf
       | false=>
         rw [hv] at c4;have hx:cO t o=if t.all (fun e=>(aO e.path o.path o.to).isSome) then 0 else 8:=by simp [cO,he,hu,hf,hv]
         rw [hx];refine G0 Tryz.func236 ?_;repeat' first|refine Ra ⟨?_⟩|refine R0 c1 ⟨?_⟩|refine R0 c2 ⟨?_⟩|refine R0 c3 ⟨?_⟩|refine R0 c4 ⟨?_⟩|refine Rd (fun h=>⟨?_⟩) fun h=>⟨?_⟩|refine Rb ⟨?_⟩|fail
         refine Cd.loop2 (fun mq tm S nx=>∃ (i:Nat),mq=(t.length - i)∧tm=[(0,.sl (t.map Ent.c)),(3,.bp 0 0),(10,.k .i64 i)]∧S=[(0,.box 53 o.c)]∧nx=1∧(i≤t.length)∧((t.take i).all (fun e=>(aO e.path o.path o.to).isSome)=true)) ?_ ?_
         · refine la [0,3,10] ?_
           conv=>whnf
           refine ⟨rfl,rfl,_,0,rfl,rfl,rfl,rfl,zAG _,rfl⟩
         · rintro mq tm S nx ⟨i,hn,rfl,rfl,rfl,hi,ha⟩;rcases al t i hi with ⟨rfl,hd⟩|⟨x,r,hx',hd,hr,hlt⟩
           · rw [zAP] at ha;rw [ha];repeat' first|refine Rx ⟨?_⟩|refine Rd (fun h=>⟨?_⟩) fun h=>⟨?_⟩|fail
             exact Rf
           · have hbx:=hb x (zAD hx');have c5:=ma (m:=m) x.path o.path o.to (by omega) (by omega) (by omega);cases hm:aO x.path o.path o.to with
             | none=>
               rw [hm] at c5;have hf:t.all (fun e=>(aO e.path o.path o.to).isSome)=false:=cS hx' (by simp [hm]);rw [hf];repeat' first|refine Ra ⟨?_⟩|refine R0 c5 ⟨?_⟩|refine Rd (fun h=>⟨?_⟩) fun h=>⟨?_⟩|refine Rb ⟨?_⟩|fail
               exact Rf
             | some y=>
               rw [hm] at c5;repeat' first|refine Ra ⟨?_⟩|refine R0 c5 ⟨?_⟩|refine Rd (fun h=>⟨?_⟩) fun h=>⟨?_⟩|refine Rb ⟨?_⟩|fail
               refine .here ⟨mq - 1,by omega,?_⟩;refine la [0,3,10] ?_
               conv=>whnf
               refine ⟨rfl,rfl,i+1,(by omega),rfl,rfl,rfl,by omega,(bu ha hx' (by simp [hm]))⟩
   · have hx:cO t o=bc t o.to:=by simp [cO,he,hu]
     rw [hx];cases hf:az t o.to;all_goals
      rw [hf] at c3;refine G0 Tryz.func236 ?_;repeat' first|refine Ra ⟨?_⟩|refine R0 c1 ⟨?_⟩|refine R0 c2 ⟨?_⟩|refine R0 c3 ⟨?_⟩|refine Rd (fun h=>⟨?_⟩) fun h=>⟨?_⟩|refine Rb ⟨?_⟩|fail
      exact Rf
theorem Cg (t:List Ent) (o:Opn) (ht:t.length≤1073741824) (hb:xD 1073741823 t) (h1:o.path.length≤1073741823) (h2:o.to.length≤1073741823):Con (E m) 187 0 [.sl (t.map Ent.c),.agg o.c] [] (.k .i64 (cr t o)) []:=by
 have c1:=xN (m:=m) t o.path ht (by omega);have c2:=vA (m:=m) t o.path ht (by omega);have c3:=sU (m:=m) t o ht hb h1 h2;have c4:=vB (m:=m) t o ht hb;refine G0 Tryz.func187 ?_;repeat' first|refine Ra ⟨?_⟩|refine R0 c1 ⟨?_⟩|refine R0 c2 ⟨?_⟩|refine R0 c3 ⟨?_⟩|refine R0 c4 ⟨?_⟩|refine Rd (fun h=>⟨?_⟩) fun h=>⟨?_⟩|refine Rb ⟨?_⟩|fail
 all_goals
  refine Rg ⟨?_⟩
  first|rfl|(simp_all [cr]; done)|(simp [cr] <;> (repeat' split) <;> omega)|(simp only [cr]; repeat' split) <;> first|omega|(simp_all; done)|(simp_all; omega)|(rw [zAK]; simp [*,cr] <;> omega)
variable {m:Int}
noncomputable abbrev rd (l:Bs) (p:Int):Blk:=.box 175 [.sl (cA l),.k .i64 p]
noncomputable def Fz (m:Int) (l:Bs) (p n:Int):Int:=
 open Classical in if h : ∃ r : Int, 0 ≤ r ∧ (r < n ∨ r = 0) ∧ Con (E m) 70 1 [.bp 0 0, .k .i64 n] [(0, rd l p)] (.k .i64 r) [(0, rd l (p + 1))] then h.choose else 0
theorem pickV_bd (l:Bs) (p n:Int):0≤Fz m l p n∧(Fz m l p n < n∨Fz m l p n=0):=by
 unfold Fz;split
 · rename_i h; exact ⟨h.choose_spec.1,h.choose_spec.2.1⟩
 · exact ⟨by omega,.inr rfl⟩
noncomputable def ofV (m:Int) (l:Bs) (p:Int) (ls:List Bs):Bs:=ls.getD (Fz m l p ls.length).toNat []
variable {m:Int}
theorem gK (t:List Ent) (e:Ent) (ht:t.length≤1073741824):Con (E m) 230 0 [.sl (t.map Ent.c),.agg e.c] [] (.own 0) [(0,.own 66 ((dD t e).map Ent.c))]:=by
 refine G0 Tryz.func230 ?_;repeat' first|refine Rx ⟨?_⟩|refine Rd (fun h=>⟨?_⟩) fun h=>⟨?_⟩|fail
 refine Cd.loop2 (fun mq tm S nx=>∃ (k:Nat) (xs:List (List D)),mq=(t.length - k)∧tm=[(0,.sl (t.map Ent.c)),(3,.bp 0 0),(5,.own 1),(6,.k .i64 k)]∧S=[(0,.box 66 e.c),(1,.own 66 xs)]∧nx=2∧(k≤t.length)∧(xs=(t.take k).map Ent.c)∧(dD t e=t.take k++dD (t.drop k) e)) ?_ ?_
 · refine la [0,3,5,6] ?_
   conv=>whnf
   refine ⟨rfl,rfl,_,0,[],rfl,rfl,rfl,rfl,zAG _,rfl,rfl⟩
 · rintro mq tm S nx ⟨k,xs,hn,rfl,rfl,rfl,hk,hx,ha⟩;have hxl:xs.length=k:=by rw [hx]; simp; omega
   rcases al t k hk with ⟨rfl,hd⟩|⟨x,r,hx',hd,hr,hlt⟩
   · have hf:(dD t e).map Ent.c=(xs++[e.c])++(((t.map Ent.c).take (t.map Ent.c).length).drop t.length):=by
       rw [ha,hx,hd,zAP]; simp [dD,List.drop_of_length_le]
     rw [hf];repeat' first|refine Rx ⟨?_⟩|refine Rd (fun h=>⟨?_⟩) fun h=>⟨?_⟩|fail
     exact Rf
   · rw [hd] at ha;cases hl:lt x.path e.path with
     | true=>
       have hn:dD t e=t.take (k+1)++dD r e:=by rw [ha,dD,if_pos hl,co hx']; simp
       rw [← hr] at hn;repeat' first|refine Rx ⟨?_⟩|refine Rd (fun h=>⟨?_⟩) fun h=>⟨?_⟩|fail
       refine .here ⟨mq - 1,by omega,?_⟩;refine la [0,3,5,6] ?_
       conv=>whnf
       refine ⟨rfl,rfl,k+1,_,(by omega),rfl,rfl,rfl,by omega,(by rw [hx]; exact l4 hx'),hn⟩
     | false=>
       by_cases hp:x.path=e.path
       · have hf:(dD t e).map Ent.c=(xs++[e.c])++(((t.map Ent.c).take (t.map Ent.c).length).drop (k+1)):=by
           rw [ha,hx,dD,hl,if_neg (by simp),if_pos hp,zAP,← zBe,hr]; simp
         rw [hf];repeat' first|refine Ra ⟨?_⟩|(refine ⟨k+1,rfl,?_⟩ <;> conv=>whnf)|refine Rd (fun h=>⟨?_⟩) fun h=>⟨?_⟩|refine Rb ⟨?_⟩|fail
         exact Rf
       · have hf:(dD t e).map Ent.c=(xs++[e.c])++(((t.map Ent.c).take (t.map Ent.c).length).drop k):=by
           rw [ha,hx,dD,hl,if_neg (by simp),if_neg hp,zAP,← zBe,hd]; simp
         rw [hf];repeat' first|refine Rx ⟨?_⟩|refine Rd (fun h=>⟨?_⟩) fun h=>⟨?_⟩|fail
         exact Rf
theorem DP (t:List Ent) (p:Bs) {i:Nat} {x:Ent} (h:t[i]?=some x):iI (t.take (i+1)) p=iI (t.take i) p++if x.path≠p then [x] else []:=by
 unfold iI;rw [jG h];congr 1
 by_cases hp:x.path=p <;> simp [hp]
theorem DQ (t:List Ent) (p:Bs):(iI t p).length≤t.length:=zAf _ _
theorem DR (t:List Ent) (p:Bs) (ht:t.length≤1073741824):Con (E m) 239 0 [.sl (t.map Ent.c),.s p] [] (.own 0) [(0,.own 66 ((iI t p).map Ent.c))]:=by
 refine G0 Tryz.func239 ?_;repeat' first|refine Rx ⟨?_⟩|refine Rd (fun h=>⟨?_⟩) fun h=>⟨?_⟩|fail
 refine Cd.loop2 (fun mq tm S nx=>∃ (i:Nat) (xs:List (List D)),mq=(t.length - i)∧tm=[(0,.sl (t.map Ent.c)),(1,.s p),(5,.own 0),(6,.k .i64 i)]∧S=[(0,.own 66 xs)]∧nx=1∧(i≤t.length)∧(xs=(iI (t.take i) p).map Ent.c)) ?_ ?_
 · refine la [0,1,5,6] ?_
   conv=>whnf
   refine ⟨rfl,rfl,_,0,[],rfl,rfl,rfl,rfl,zAG _,rfl⟩
 · rintro mq tm S nx ⟨i,xs,hn,rfl,rfl,rfl,hi,hx⟩;have hxl:xs.length≤i:=by rw [hx,zAA]; have:=DQ (t.take i) p; rw [zAd] at this; omega
   rcases al t i hi with ⟨rfl,hd⟩|⟨x,r,hx',hd,hr,hlt⟩
   · rw [zAP] at hx;rw [← hx];repeat' first|refine Rx ⟨?_⟩|refine Rd (fun h=>⟨?_⟩) fun h=>⟨?_⟩|fail
     exact Rf
   · have hs:=DP t p hx';by_cases hp:x.path=p
     · rw [if_neg (not_not_intro hp),List.append_nil] at hs;repeat' first|refine Rx ⟨?_⟩|refine Rd (fun h=>⟨?_⟩) fun h=>⟨?_⟩|fail
       refine .here ⟨mq - 1,by omega,?_⟩;refine la [0,1,5,6] ?_
       conv=>whnf
       refine ⟨rfl,rfl,i+1,_,(by omega),rfl,rfl,rfl,by omega,(by rw [hs,hx])⟩
     · rw [if_pos hp] at hs;repeat' first|refine Rx ⟨?_⟩|refine Rd (fun h=>⟨?_⟩) fun h=>⟨?_⟩|fail
       refine .here ⟨mq - 1,by omega,?_⟩;refine la [0,1,5,6] ?_
       conv=>whnf
       refine ⟨rfl,rfl,i+1,_,(by omega),rfl,rfl,rfl,by omega,(by rw [hs,hx,zAM]; rfl)⟩
theorem Ch (t:List Ent) (a b:Bs) (ht:t.length≤1073741824) (hb:xD 1073741823 t) (h1:a.length≤1073741823) (h2:b.length≤1073741823):Con (E m) 238 0 [.sl (t.map Ent.c),.s a,.s b] [] (.own 0) [(0,.own 66 ((kX t a b).map Ent.c))]:=by
 refine G0 Tryz.func238 ?_;repeat' first|refine Rx ⟨?_⟩|refine Rd (fun h=>⟨?_⟩) fun h=>⟨?_⟩|fail
 refine Cd.loop2 (fun mq tm S nx=>∃ (i:Nat) (xs:List (List D)),mq=(t.length - i)∧tm=[(0,.sl (t.map Ent.c)),(1,.s a),(2,.s b),(7,.own 0),(8,.k .i64 i)]∧S=[(0,.own 66 xs)]∧nx=1∧(i≤t.length)∧(xs=(kX (t.take i) a b).map Ent.c)) ?_ ?_
 · refine la [0,1,2,7,8] ?_
   conv=>whnf
   refine ⟨rfl,rfl,_,0,[],rfl,rfl,rfl,rfl,zAG _,rfl⟩
 · rintro mq tm S nx ⟨i,xs,hn,rfl,rfl,rfl,hi,hx⟩;have hml:(kX (t.take i) a b).length≤i:=by
    have:=putAll_len ((t.take i).map (f8 a b)) []
    simp only [zAA,zAd,List.length_nil] at this;unfold kX;omega
   rcases al t i hi with ⟨rfl,hd⟩|⟨x,r,hx',hd,hr,hlt⟩
   · rw [zAP] at hx;rw [← hx];repeat' first|refine Rx ⟨?_⟩|refine Rd (fun h=>⟨?_⟩) fun h=>⟨?_⟩|fail
     exact Rf
   · have hbx:=hb x (zAD hx');have c1:=ma (m:=m) x.path a b (by omega) h1 h2;have hs:kX (t.take (i+1)) a b=dD (kX (t.take i) a b) (f8 a b x):=by
      unfold kX;rw [co hx',zAM,List.map_cons,List.map_nil,xC]
     subst hx;cases hm:aO x.path a b;all_goals
      rw [hm] at c1;have hme:f8 a b x=⟨(aO x.path a b).getD [],x.dir,x.data⟩:=rfl;rw [hm] at hme;have c2:=gK (m:=m) (kX (t.take i) a b) (f8 a b x) (by omega);rw [← hs,hme] at c2;repeat' first|refine Ra ⟨?_⟩|refine R0 c1 ⟨?_⟩|refine Rk [] 1 c2 ⟨?_⟩|refine Rd (fun h=>⟨?_⟩) fun h=>⟨?_⟩|refine Rb ⟨?_⟩|fail
      refine .here ⟨mq - 1,by omega,?_⟩;refine la [0,1,2,7,8] ?_
      conv=>whnf
      refine ⟨rfl,rfl,i+1,_,(by omega),rfl,rfl,rfl,by omega,rfl⟩
theorem EW (t:List Ent) (o:Opn) (ht:t.length≤1073741824) (hb:xD 1073741823 t) (h1:o.path.length≤1073741823) (h2:o.to.length≤1073741823):Con (E m) 188 0 [.sl (t.map Ent.c),.agg o.c] [] (.own 0) [(0,.own 66 ((doT t o).map Ent.c))]:=by
 have c1:=gK (m:=m) t ⟨o.path,true,[]⟩ ht;have c2:=gK (m:=m) t ⟨o.path,false,o.data⟩ ht;have c3:=Ch (m:=m) t o.path o.to ht hb h1 h2;have c4:=DR (m:=m) t o.path ht;unfold doT;by_cases k1:o.kind=1
 · simp only [k1,if_true];refine G0 Tryz.func188 ?_;repeat' first|refine Ra ⟨?_⟩|refine Rk [] 1 c1 ⟨?_⟩|refine Rd (fun h=>⟨?_⟩) fun h=>⟨?_⟩|refine Rb ⟨?_⟩|fail
   exact Rf
 · by_cases k2:o.kind=2
   · simp only [k1,k2,if_true,if_false];refine G0 Tryz.func188 ?_;repeat' first|refine Ra ⟨?_⟩|refine Rk [] 1 c2 ⟨?_⟩|refine Rd (fun h=>⟨?_⟩) fun h=>⟨?_⟩|refine Rb ⟨?_⟩|fail
     exact Rf
   · by_cases k5:o.kind=5
     · simp only [k1,k2,k5,if_true,if_false];refine G0 Tryz.func188 ?_;repeat' first|refine Ra ⟨?_⟩|refine Rk [] 1 c3 ⟨?_⟩|refine Rd (fun h=>⟨?_⟩) fun h=>⟨?_⟩|refine Rb ⟨?_⟩|fail
       exact Rf
     · simp only [k1,k2,k5,if_false];refine G0 Tryz.func188 ?_;repeat' first|refine Ra ⟨?_⟩|refine Rk [] 1 c4 ⟨?_⟩|refine Rd (fun h=>⟨?_⟩) fun h=>⟨?_⟩|refine Rb ⟨?_⟩|fail
       exact Rf
theorem gL (t:List Ent) (o:Opn) (ht:t.length≤1073741824) (hb:xD 1073741823 t) (h1:o.path.length≤1073741823) (h2:o.to.length≤1073741823) (h3:o.data.length≤1073741823):Con (E m) 122 0 [.sl (t.map Ent.c),.agg o.c] [] (.tup [.own 0,.k .i64 (aC t o).2]) [(0,.own 66 ((aC t o).1.map Ent.c))]:=by
 have c1:=kY (m:=m) t fun e he=>by have:=hb e he; omega
 have c2:=B9 (m:=m) o (by omega) (by omega) (by omega);have c3:=Cg (m:=m) t o ht hb h1 h2;have c4:=EW (m:=m) t o ht hb h1 h2;cases k1:ai t with
 | false=>
   have hx:aC t o=([],1):=by simp [aC,k1]
   rw [hx];rw [k1] at c1;refine G0 Tryz.func122 ?_;repeat' first|refine Ra ⟨?_⟩|refine R0 c1 ⟨?_⟩|refine Rd (fun h=>⟨?_⟩) fun h=>⟨?_⟩|refine Rb ⟨?_⟩|fail
   exact Rf
 | true=>
   rw [k1] at c1;cases k2:f7 o with
   | false=>
     have hx:aC t o=(t,1):=by simp [aC,k1,k2]
     rw [hx];rw [k2] at c2;refine G0 Tryz.func122 ?_;repeat' first|refine Ra ⟨?_⟩|refine R0 c1 ⟨?_⟩|refine R0 c2 ⟨?_⟩|refine Rd (fun h=>⟨?_⟩) fun h=>⟨?_⟩|refine Rb ⟨?_⟩|fail
     exact Rf
   | true=>
     rw [k2] at c2;by_cases k3:cr t o=0
     · have hx:aC t o=(doT t o,0):=by simp [aC,k1,k2,k3]
       rw [hx];rw [k3] at c3;refine G0 Tryz.func122 ?_;repeat' first|refine Ra ⟨?_⟩|refine R0 c1 ⟨?_⟩|refine R0 c2 ⟨?_⟩|refine R0 c3 ⟨?_⟩|refine Rk [] 1 c4 ⟨?_⟩|refine Rd (fun h=>⟨?_⟩) fun h=>⟨?_⟩|refine Rb ⟨?_⟩|fail
       exact Rf
     · have hx:aC t o=(t,cr t o):=by simp [aC,k1,k2,k3]
       rw [hx];refine G0 Tryz.func122 ?_;repeat' first|refine Ra ⟨?_⟩|refine R0 c1 ⟨?_⟩|refine R0 c2 ⟨?_⟩|refine R0 c3 ⟨?_⟩|refine Rd (fun h=>⟨?_⟩) fun h=>⟨?_⟩|refine Rb ⟨?_⟩|fail
       exact Rf
variable {m:Int}
theorem pick_nn (l:Bs) (p n:Int):Fz m l p n=(((Fz m l p n).toNat:Nat):Int):=(Int.toNat_of_nonneg (pickV_bd l p n).1).symm
variable {m:Int}
end Go.Proofs.YtagejnomlkfndaaGreatDoor
