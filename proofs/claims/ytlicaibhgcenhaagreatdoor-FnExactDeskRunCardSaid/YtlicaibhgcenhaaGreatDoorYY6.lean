/- Texts of this claim, set close: lemmas and contracts. -/
import Derived.Test.YtlicaibhgcenhaaGreatDoorYY5
import Derived.Test.YtlicaibhgcenhaaGreatDoorYY4
import Derived.Test.YtlicaibhgcenhaaGreatDoorYY3
set_option linter.unusedSimpArgs false
set_option linter.unusedVariables false
set_option maxHeartbeats 1000000
set_option maxRecDepth 10000
namespace Go.Proofs.YtlicaibhgcenhaaGreatDoor
open Go Go.RowKit Go.Ab Go.Par
variable {m:Int}
def ge (s p:Bs):Bool:=decide (p.length≤s.length) && decide (s.take p.length=p)
theorem jn (s p:Bs) (hs:s.length≤1073741824) (hp:p.length≤1073741824):Con (E m) 300 0 [.s s,.s p] [] (.b (ge s p)) []:=by
 refine G0 Tryz.func300 ?_;repeat' first|refine Rx ⟨?_⟩|refine Rd (fun h=>⟨?_⟩) fun h=>⟨?_⟩|fail
 all_goals
  refine Rg ⟨?_⟩
  first|rfl|(simp_all [ge]; done)|(simp [ge] <;> (repeat' split) <;> omega)|(simp only [ge]; repeat' split) <;> first|omega|(simp_all; done)|(simp_all; omega)|(rw [zAI]; simp [*,ge] <;> omega)
theorem t8 (s p:Bs) (hs:s.length≤1073741824) (hp:p.length≤1073741824):Con (E m) 285 0 [.s s,.s p] [] (.b (ge s p)) []:=by
 refine G0 Tryz.func285 ?_;repeat' first|refine Ra ⟨?_⟩|refine R0 (jn s p hs hp) ⟨?_⟩|refine Rd (fun h=>⟨?_⟩) fun h=>⟨?_⟩|refine Rb ⟨?_⟩|fail
 all_goals
  refine Rg ⟨?_⟩
  first|rfl|(simp_all [ge]; done)|(simp [ge] <;> (repeat' split) <;> omega)|(simp only [ge]; repeat' split) <;> first|omega|(simp_all; done)|(simp_all; omega)|(rw [zAI]; simp [*,ge] <;> omega)
def GX:Option Mrk→D
 | some e=>.tup [.agg e.c,.b true]
 | none=>.tup [.agg [.s [],.k .i64 0,.s []],.b false]
theorem hY (l:List Mrk) (p:Bs) (hl:l.length≤1073741824):Con (E m) 280 0 [.sl (l.map Mrk.c),.s p] [] (GX (ag l p)) []:=by
 refine G0 Tryz.func280 ?_;repeat' first|refine Rx ⟨?_⟩|refine Rd (fun h=>⟨?_⟩) fun h=>⟨?_⟩|fail
 refine Cd.loop2 (fun mq tm S nx=>∃ (i:Nat),mq=(l.length - i)∧tm=[(1,.s p),(4,.bp 0 0),(8,.sl (l.map Mrk.c)),(9,.k .i64 (l.map Mrk.c).length),(10,.k .i64 i)]∧S=[(0,.box 197 [.s [],.k .i64 0,.s []])]∧nx=1∧(i≤l.length)∧(ag l p=ag (l.drop i) p)) ?_ ?_
 · refine la [1,4,8,9,10] ?_
   conv=>whnf
   refine ⟨rfl,rfl,_,0,rfl,rfl,rfl,rfl,zAG _,rfl⟩
 · rintro mq tm S nx ⟨i,hn,rfl,rfl,rfl,hi,ha⟩;rcases au l i hi with ⟨rfl,hd⟩|⟨x,r,hx,hd,hr,hlt⟩
   · rw [hd] at ha;rw [ha];repeat' first|refine Rx ⟨?_⟩|refine Rd (fun h=>⟨?_⟩) fun h=>⟨?_⟩|fail
     exact Rf
   · rw [hd] at ha;repeat' first|refine Rx ⟨?_⟩|refine Rd (fun h=>⟨?_⟩) fun h=>⟨?_⟩|fail
     · have he:ag l p=some x:=by rw [ha]; simp [ag, *]
       rw [he];exact Rf
     · refine .here ⟨mq - 1,by omega,?_⟩;refine la [1,4,8,9,10] ?_
       conv=>whnf
       refine ⟨rfl,rfl,i+1,(by omega),rfl,rfl,rfl,by omega,(by rw [ha,hr]; simp [ag, *])⟩
theorem C3 (s d:Bs) (hd:d≠[47]):under s d=ge s (d++[47]):=by
 unfold under ge;rw [zAI];simp only [hd,decide_false,zAs,zAC,decide_eq_true_eq,zAL,List.length_cons,List.length_nil];constructor
 · rintro ⟨⟨h1,h2⟩,h3⟩;exact ⟨by omega,by rw [dP h3,h2]⟩
 · rintro ⟨h1,h2⟩;have hlt:d.length < s.length:=by omega
   have h3:s[d.length]?=some s[d.length]:=zAB hlt;rw [zBI,dP h3] at h2;have h4:=List.append_inj h2 (by simp; omega);exact ⟨⟨hlt,h4.1⟩,by rw [h3]; simpa using h4.2⟩
theorem iY (s d:Bs) (hs:s.length≤1073741823) (hd:d.length≤1073741823):Con (E m) 244 0 [.s s,.s d] [] (.b (bC s d)) []:=by
 have c1:=bP (m:=m) s (by omega);have c2:=bP (m:=m) d (by omega);have c3:=t8 (m:=m) s (d++[47]) (by omega) (by simp; omega);by_cases hr:d=[47]
 · subst hr;refine G0 Tryz.func244 ?_;repeat' first|refine Ra ⟨?_⟩|refine R0 c1 ⟨?_⟩|refine Rd (fun h=>⟨?_⟩) fun h=>⟨?_⟩|refine Rb ⟨?_⟩|fail
   all_goals
    refine Rg ⟨?_⟩
    first|rfl|(simp_all [bC,under]; done)|(simp [bC,under] <;> (repeat' split) <;> omega)|(simp only [bC,under]; repeat' split) <;> first|omega|(simp_all; done)|(simp_all; omega)|(rw [zAI]; simp [*,bC,under] <;> omega)
 · rw [← C3 s d hr] at c3;refine G0 Tryz.func244 ?_;repeat' first|refine Ra ⟨?_⟩|refine R0 c1 ⟨?_⟩|refine R0 c2 ⟨?_⟩|refine R0 c3 ⟨?_⟩|refine Rd (fun h=>⟨?_⟩) fun h=>⟨?_⟩|refine Rb ⟨?_⟩|fail
   all_goals
    refine Rg ⟨?_⟩
    first|rfl|(simp_all [bC]; done)|(simp [bC] <;> (repeat' split) <;> omega)|(simp only [bC]; repeat' split) <;> first|omega|(simp_all; done)|(simp_all; omega)|(rw [zAI]; simp [*,bC] <;> omega)
theorem sL (x:Mrk):Con (E m) 282 0 [.agg x.c] [] (.b (cN x)) []:=by
 refine G0 Tryz.func282 ?_;repeat' first|refine Rx ⟨?_⟩|refine Rd (fun h=>⟨?_⟩) fun h=>⟨?_⟩|fail
 all_goals
  refine Rg ⟨?_⟩
  first|rfl|(simp_all [cN]; done)|(simp [cN] <;> (repeat' split) <;> omega)|(simp only [cN]; repeat' split) <;> first|omega|(simp_all; done)|(simp_all; omega)|(rw [zAI]; simp [*,cN] <;> omega)
theorem yK (x:Mrk) (h1:x.path.length≤1073741823) (h2:x.data.length≤1073741823):Con (E m) 306 0 [.agg x.c] [] (.b (ci x)) []:=by
 have c1:=bP (m:=m) x.path (by omega);have c2:=pK (m:=m) x.data (by omega);refine G0 Tryz.func306 ?_;repeat' first|refine Ra ⟨?_⟩|refine R0 c1 ⟨?_⟩|refine R0 c2 ⟨?_⟩|refine Rd (fun h=>⟨?_⟩) fun h=>⟨?_⟩|refine Rb ⟨?_⟩|fail
 all_goals
  refine Rg ⟨?_⟩
  first|rfl|(simp_all [ci]; done)|(simp [ci] <;> (repeat' split) <;> omega)|(simp only [ci]; repeat' split) <;> first|omega|(simp_all; done)|(simp_all; omega)|(rw [zAI]; simp [*,ci] <;> omega)
theorem vu (l:List Mrk) (p:Bs) (hl:l.length≤1073741824) (hp:p.length≤1073741823) (hb:∀ x∈l,x.path.length≤1073741823):Con (E m) 270 0 [.sl (l.map Mrk.c),.s p] [] (.b (jX l p)) []:=by
 refine G0 Tryz.func270 ?_;repeat' first|refine Rx ⟨?_⟩|refine Rd (fun h=>⟨?_⟩) fun h=>⟨?_⟩|fail
 refine Cd.loop2 (fun mq tm S nx=>∃ (i:Nat),mq=(l.length - i)∧tm=[(1,.s p),(7,.sl (l.map Mrk.c)),(8,.k .i64 (l.map Mrk.c).length),(9,.k .i64 i)]∧S=[]∧nx=0∧(i≤l.length)∧(jX l p=jX (l.drop i) p)) ?_ ?_
 · refine la [1,7,8,9] ?_
   conv=>whnf
   refine ⟨rfl,rfl,_,0,rfl,rfl,rfl,rfl,zAG _,rfl⟩
 · rintro mq tm S nx ⟨i,hn,rfl,rfl,rfl,hi,ha⟩;rcases au l i hi with ⟨rfl,hd⟩|⟨x,r,hx,hd,hr,hlt⟩
   · rw [hd] at ha;rw [ha];repeat' first|refine Rx ⟨?_⟩|refine Rd (fun h=>⟨?_⟩) fun h=>⟨?_⟩|fail
     exact Rf
   · rw [hd] at ha;have hbx:=hb x (zAD hx);have c1:=iY (m:=m) p x.path hp hbx;repeat' first|refine Ra ⟨?_⟩|refine R0 c1 ⟨?_⟩|refine Rd (fun h=>⟨?_⟩) fun h=>⟨?_⟩|refine Rb ⟨?_⟩|fail
     all_goals first
      | (refine iS.here ⟨mq - 1,by omega,?_⟩
         refine la [1,7,8,9] ?_
         conv=>whnf
         refine ⟨rfl,rfl,i+1,(by omega),rfl,rfl,rfl,by omega,(by rw [ha,hr]; simp [jX, *])⟩)
      | (refine ai.here (fa ?_)
         conv=>whnf
         (try rw [ha])
         first|exact ⟨rfl,rfl,rfl,rfl⟩|refine ⟨rfl,rfl,congrArg some (congrArg D.s ?_),rfl⟩|refine ⟨rfl,rfl,congrArg some (congrArg D.b ?_),rfl⟩|refine ⟨rfl,rfl,congrArg some (congrArg (D.k _) ?_),rfl⟩|refine ⟨rfl,rfl,congrArg some ?_,rfl⟩
         all_goals first|rfl|(simp_all [jX]; done)|(simp [jX] <;> (repeat' split) <;> omega))
set_option maxHeartbeats 1000000 in
theorem kN (l:List Mrk) (hb:∀ e∈l,e.path.length≤1073741823∧e.data.length≤1073741823):Con (E m) 268 0 [.sl (l.map Mrk.c)] [] (.b (ax l)) []:=by
 refine G0 Tryz.func268 ?_;repeat' first|refine Rx ⟨?_⟩|refine Rd (fun h=>⟨?_⟩) fun h=>⟨?_⟩|fail
 · have hf:ax l=false:=by
     have:¬ l.length≤32:=by omega
     simp [ax,this]
   rw [hf];exact Rf
 refine Cd.loop2 (fun mq tm S nx=>∃ (i:Nat),mq=(l.length - i)∧tm=[(0,.sl (l.map Mrk.c)),(11,.sl (l.map Mrk.c)),(12,.k .i64 (l.map Mrk.c).length),(13,.k .i64 i)]∧S=[]∧nx=0∧(i≤l.length)∧(∀ k,k < i→nr l k=true)) ?_ ?_
 · refine la [0,11,12,13] ?_
   conv=>whnf
   refine ⟨rfl,rfl,_,0,rfl,rfl,rfl,rfl,zAG _,fun k h=>absurd h (Nat.not_lt_zero _)⟩
 · rintro mq tm S nx ⟨i,hn,rfl,rfl,rfl,hi,ha⟩;by_cases hlt:i < l.length
   · have hq:=hb l[i] (zAb hlt);have h1:=yK (m:=m) l[i] hq.1 hq.2;have h2:=oD (m:=m) l[i].path (by omega);have h3:=hY (m:=m) l (ae l[i].path) (by omega);have h4:=vu (m:=m) l l[i].path (by omega) hq.1 (fun x hx=>(hb x hx).1);have hin:inM l l[i].path=(decide (ae l[i].path=[47]) || kJ (ag l (ae l[i].path))):=rfl;cases hm:ag l (ae l[i].path);all_goals
      rw [hm] at h3 hin;repeat' first|refine Ra ⟨?_⟩|refine R0 h1 ⟨?_⟩|refine R0 h2 ⟨?_⟩|refine R0 h3 ⟨?_⟩|refine R0 h4 ⟨?_⟩|refine R0 (sL _) ⟨?_⟩|(refine ⟨i - 1,_,by omega,eY (by omega),rfl,?_⟩ <;> conv=>whnf)|refine Rd (fun h=>⟨?_⟩) fun h=>⟨?_⟩|refine Rb ⟨?_⟩|fail
      all_goals first
       | (have hf:nr l i=false:=by
            clear h1 h2 h3 h4 hb ha hn;rw [yD hlt,hin];try have hi0:0 < i:=by omega
            try have hi0:i=0:=by omega
            simp_all [lt,kJ]
          have hg:=sD hlt hf;rw [hg];refine ai.here (fa ?_)
          conv=>whnf
          exact ⟨rfl,rfl,rfl,rfl⟩)
       | (have hf:nr l i=true:=by
            clear h1 h2 h3 h4 hb ha hn;rw [yD hlt,hin];try have hi0:0 < i:=by omega
            try have hi0:i=0:=by omega
            simp_all [lt,kJ]
          refine .here ⟨mq - 1,by omega,?_⟩;refine la [0,11,12,13] ?_
          conv=>whnf
          refine ⟨rfl,rfl,i+1,(by omega),rfl,rfl,rfl,by omega,As ha hf⟩)
   · repeat' first|refine Rx ⟨?_⟩|refine Rd (fun h=>⟨?_⟩) fun h=>⟨?_⟩|fail
     have hf:ax l=true:=mU (by omega) fun k hk=>ha k (by omega);rw [hf];exact Rf
variable {m:Int}
theorem iD (s d:Bs) (hs:s.length≤1073741824) (hd:d.length≤1073741824):Con (E m) 297 0 [.s s,.s d] [] (.b (under s d)) []:=by
 cases hx:s[d.length]? with
 | none=>
   have hn:=List.getElem?_eq_none_iff.1 hx;refine G0 Tryz.func297 ?_;repeat' first|refine Rx ⟨?_⟩|refine Rd (fun h=>⟨?_⟩) fun h=>⟨?_⟩|fail
   all_goals
    refine Rg ⟨?_⟩
    first|rfl|(simp_all [under]; done)|(simp [under] <;> (repeat' split) <;> omega)|(simp only [under]; repeat' split) <;> first|omega|(simp_all; done)|(simp_all; omega)|(rw [zAI]; simp [*,under] <;> omega)
 | some c=>
   have hn:=(List.getElem?_eq_some_iff.1 hx).1;refine G0 Tryz.func297 ?_;repeat' first|refine Rx ⟨?_⟩|refine Rd (fun h=>⟨?_⟩) fun h=>⟨?_⟩|fail
   all_goals
    refine Rg ⟨?_⟩
    first|rfl|(simp_all [under,c47]; done)|(simp [under,c47] <;> (repeat' split) <;> omega)|(simp only [under,c47]; repeat' split) <;> first|omega|(simp_all; done)|(simp_all; omega)|(rw [zAI]; simp [*,under,c47] <;> omega)
theorem yL (l:List Mrk) (p:Bs) (hl:l.length≤1073741824):Con (E m) 322 0 [.sl (l.map Mrk.c),.s p] [] (.k .i64 (kK l p)) []:=by
 refine G0 Tryz.func322 ?_;repeat' first|refine Rx ⟨?_⟩|refine Rd (fun h=>⟨?_⟩) fun h=>⟨?_⟩|fail
 refine Cd.loop2 (fun mq tm S nx=>∃ (i:Nat),mq=(l.length - i)∧tm=[(0,.sl (l.map Mrk.c)),(1,.s p),(5,.k .i64 i)]∧S=[]∧nx=0∧(i≤l.length)∧(∀ k,k < i→∀ e,l[k]?=some e→e.path≠p)) ?_ ?_
 · refine la [0,1,5] ?_
   conv=>whnf
   refine ⟨rfl,rfl,_,0,rfl,rfl,rfl,rfl,zAG _,fun k h=>absurd h (Nat.not_lt_zero _)⟩
 · rintro mq tm S nx ⟨i,hn,rfl,rfl,rfl,hi,ha⟩;rcases au l i hi with ⟨rfl,hd⟩|⟨x,r,hx,hd,hr,hlt⟩
   · repeat' first|refine Rx ⟨?_⟩|refine Rd (fun h=>⟨?_⟩) fun h=>⟨?_⟩|fail
     have he:kK l p=-1:=qy fun k e h=>ha k (List.getElem?_eq_some_iff.1 h).1 e h;rw [he];exact Rf
   · repeat' first|refine Rx ⟨?_⟩|refine Rd (fun h=>⟨?_⟩) fun h=>⟨?_⟩|fail
     · have he:kK l p=i:=vo hx ‹_› fun k e h1 h2=>ha k h1 e h2;rw [he];exact Rf
     · refine .here ⟨mq - 1,by omega,?_⟩;refine la [0,1,5] ?_
       conv=>whnf
       refine ⟨rfl,rfl,i+1,(by omega),rfl,rfl,rfl,by omega,As ha (fun e h=>by rw [hx] at h; cases h; assumption)⟩
theorem jo (l:List Mrk) (p:Bs) (hl:l.length≤1073741824):Con (E m) 296 0 [.sl (l.map Mrk.c),.s p] [] (.k .i64 (bZ l p)) []:=by
 have h1:=yL (m:=m) l p hl;rcases C0 l p with ⟨i,hx,hi,he⟩|⟨hx,he⟩
 · rw [hx] at h1;have hk:bZ l p=l[i].kind:=by simp [bZ,he]
   rw [hk];refine G0 Tryz.func296 ?_;repeat' first|refine Ra ⟨?_⟩|refine R0 h1 ⟨?_⟩|refine Rd (fun h=>⟨?_⟩) fun h=>⟨?_⟩|refine Rb ⟨?_⟩|fail
   exact Rf
 · rw [hx] at h1;have hk:bZ l p=0:=by simp [bZ,he]
   rw [hk];refine G0 Tryz.func296 ?_;repeat' first|refine Ra ⟨?_⟩|refine R0 h1 ⟨?_⟩|refine Rd (fun h=>⟨?_⟩) fun h=>⟨?_⟩|refine Rb ⟨?_⟩|fail
   exact Rf
theorem qA (l:List Mrk) (p:Bs) (hl:l.length≤1073741824) (hp:p.length≤1073741823) (hb:∀ x∈l,x.path.length≤1073741823):Con (E m) 253 0 [.sl (l.map Mrk.c),.s p] [] (.b (bare l p)) []:=by
 refine G0 Tryz.func253 ?_;repeat' first|refine Rx ⟨?_⟩|refine Rd (fun h=>⟨?_⟩) fun h=>⟨?_⟩|fail
 refine Cd.loop2 (fun mq tm S nx=>∃ (i:Nat),mq=(l.length - i)∧tm=[(0,.sl (l.map Mrk.c)),(1,.s p),(5,.k .i64 i)]∧S=[]∧nx=0∧(i≤l.length)∧(bare l p=bare (l.drop i) p)) ?_ ?_
 · refine la [0,1,5] ?_
   conv=>whnf
   refine ⟨rfl,rfl,_,0,rfl,rfl,rfl,rfl,zAG _,rfl⟩
 · rintro mq tm S nx ⟨i,hn,rfl,rfl,rfl,hi,ha⟩;rcases au l i hi with ⟨rfl,hd⟩|⟨x,r,hx,hd,hr,hlt⟩
   · rw [hd] at ha;rw [ha];repeat' first|refine Rx ⟨?_⟩|refine Rd (fun h=>⟨?_⟩) fun h=>⟨?_⟩|fail
     exact Rf
   · rw [hd] at ha;have hbx:=hb x (zAD hx);have c1:=iD (m:=m) p x.path (by omega) (by omega);repeat' first|refine Ra ⟨?_⟩|refine R0 c1 ⟨?_⟩|refine Rd (fun h=>⟨?_⟩) fun h=>⟨?_⟩|refine Rb ⟨?_⟩|fail
     all_goals first
      | (refine iS.here ⟨mq - 1,by omega,?_⟩
         refine la [0,1,5] ?_
         conv=>whnf
         refine ⟨rfl,rfl,i+1,(by omega),rfl,rfl,rfl,by omega,(by rw [ha,hr]; simp [bare, *])⟩)
      | (refine ai.here (fa ?_)
         conv=>whnf
         (try rw [ha])
         first|exact ⟨rfl,rfl,rfl,rfl⟩|refine ⟨rfl,rfl,congrArg some (congrArg D.s ?_),rfl⟩|refine ⟨rfl,rfl,congrArg some (congrArg D.b ?_),rfl⟩|refine ⟨rfl,rfl,congrArg some (congrArg (D.k _) ?_),rfl⟩|refine ⟨rfl,rfl,congrArg some ?_,rfl⟩
         all_goals first|rfl|(simp_all [bare]; done)|(simp [bare] <;> (repeat' split) <;> omega))
theorem C4 (l:List Mrk) (p:Bs) (hl:l.length≤1073741824) (hp:p.length≤1073741823):Con (E m) 252 0 [.sl (l.map Mrk.c),.s p] [] (.b (inM l p)) []:=by
 have c1:=mA (m:=m) p (by omega);have c2:=jo (m:=m) l (ae p) hl;have hx:inM l p=(decide (ae p=[47]) || (decide (bZ l (ae p)=2) || decide (bZ l (ae p)=4))):=by
  unfold inM bZ;cases ag l (ae p) <;> simp [kJ,cN]
 rw [hx];refine G0 Tryz.func252 ?_;repeat' first|refine Ra ⟨?_⟩|refine R0 c1 ⟨?_⟩|refine R0 c2 ⟨?_⟩|refine Rd (fun h=>⟨?_⟩) fun h=>⟨?_⟩|refine Rb ⟨?_⟩|fail
 all_goals
  exact Rf
variable {m:Int}
def Gv:Option Bs→D
 | some o=>.tup [.s o,.b true]
 | none=>.tup [.s [],.b false]
theorem mV (s a b:Bs) (hs:s.length≤1073741823) (ha:a.length≤1073741823) (hb:b.length≤1073741823):Con (E m) 310 0 [.s s,.s a,.s b] [] (Gv (aK s a b)) []:=by
 have c1:=cc (m:=m) s (by omega);have c2:=cc (m:=m) a (by omega);have c3:=cc (m:=m) b (by omega);have c4:=iD (m:=m) s a (by omega) (by omega);cases h1:ac s with
 | false=>
   have hx:aK s a b=none:=by simp [aK,h1]
   rw [hx];rw [h1] at c1;refine G0 Tryz.func310 ?_;repeat' first|refine Ra ⟨?_⟩|refine R0 c1 ⟨?_⟩|refine Rd (fun h=>⟨?_⟩) fun h=>⟨?_⟩|refine Rb ⟨?_⟩|fail
   exact Rf
 | true=>
   cases h2:ac a with
   | false=>
     have hx:aK s a b=none:=by simp [aK,h2]
     rw [hx];rw [h1] at c1;rw [h2] at c2;refine G0 Tryz.func310 ?_;repeat' first|refine Ra ⟨?_⟩|refine R0 c1 ⟨?_⟩|refine R0 c2 ⟨?_⟩|refine Rd (fun h=>⟨?_⟩) fun h=>⟨?_⟩|refine Rb ⟨?_⟩|fail
     exact Rf
   | true=>
     cases h3:ac b with
     | false=>
       have hx:aK s a b=none:=by simp [aK,h3]
       rw [hx];rw [h1] at c1;rw [h2] at c2;rw [h3] at c3;refine G0 Tryz.func310 ?_;repeat' first|refine Ra ⟨?_⟩|refine R0 c1 ⟨?_⟩|refine R0 c2 ⟨?_⟩|refine R0 c3 ⟨?_⟩|refine Rd (fun h=>⟨?_⟩) fun h=>⟨?_⟩|refine Rb ⟨?_⟩|fail
       exact Rf
     | true=>
       rw [h1] at c1;rw [h2] at c2;rw [h3] at c3;have hrt:=aW h2;by_cases hc:s≠a∧under s a=false
       · have hx:aK s a b=some s:=by simp [aK,h1,h2,h3,hc.1,hc.2]
         obtain ⟨hc1,hc2⟩:=hc;rw [hx];rw [hc2] at c4;refine G0 Tryz.func310 ?_;repeat' first|refine Ra ⟨?_⟩|refine R0 c1 ⟨?_⟩|refine R0 c2 ⟨?_⟩|refine R0 c3 ⟨?_⟩|refine R0 c4 ⟨?_⟩|refine Rd (fun h=>⟨?_⟩) fun h=>⟨?_⟩|refine Rb ⟨?_⟩|fail
         exact Rf
       · have hlen:a.length≤s.length:=by
           by_cases he:s=a
           · rw [he]; exact zAM _
           · have hu:under s a=true:=by
               cases hu:under s a with
               | true=>rfl
               | false=>exact absurd ⟨he,hu⟩ hc
             have:=pI hu hrt
             omega
         have c5:=cc (m:=m) (b++(s.take s.length).drop a.length) (by
          have:=(aC h1).2
          have:=(aC h3).2
          simp; omega)
         have hx:aK s a b=if ac (b++(s.take s.length).drop a.length) then some (b++(s.take s.length).drop a.length) else none:=by
          unfold aK;rw [h1,h2,h3,zAN];simp only [zBT,if_true];rw [if_neg hc]
         rw [hx];by_cases he:s=a
         all_goals
          cases h5:ac (b++(s.take s.length).drop a.length);all_goals
           rw [h5] at c5;have hu:s=a∨under s a=true:=by
            by_cases he:s=a
            · exact .inl he
            · right;cases hu:under s a with
              | true=>rfl
              | false=>exact absurd ⟨he,hu⟩ hc
           try rw [hu.resolve_left he] at c4
           simp only [if_true,if_false,zAE];refine G0 Tryz.func310 ?_;repeat' first|refine Ra ⟨?_⟩|refine R0 c1 ⟨?_⟩|refine R0 c2 ⟨?_⟩|refine R0 c3 ⟨?_⟩|refine R0 c4 ⟨?_⟩|refine R0 c5 ⟨?_⟩|refine Rd (fun h=>⟨?_⟩) fun h=>⟨?_⟩|refine Rb ⟨?_⟩|fail
           exact Rf
theorem uc (s:Bs) (hs:s.length≤1073741823):Con (E m) 199 0 [.s s] [] (.s (Par.pathName s)) []:=by
 have h1:=cc (m:=m) s (by omega);have hl:=yv s;cases hok:ac s with
 | false=>
   have hx:Par.pathName s=[]:=by simp [Par.pathName,hok]
   rw [hx];rw [hok] at h1;refine G0 Tryz.func199 ?_;repeat' first|refine Ra ⟨?_⟩|refine R0 h1 ⟨?_⟩|refine Rd (fun h=>⟨?_⟩) fun h=>⟨?_⟩|refine Rb ⟨?_⟩|fail
   exact Rf
 | true=>
   rw [hok] at h1;have hp:=aC hok;have hsl:iu s+1≤s.length:=by
    have:=nk s (s.length - 1)
    unfold iu;omega
   have hx:Par.pathName s=(s.take s.length).drop (iu s+1):=by rw [Par.pathName,if_pos hok,zAN]
   rw [hx];refine G0 Tryz.func199 ?_;repeat' first|refine Ra ⟨?_⟩|refine R0 h1 ⟨?_⟩|refine R0 (sI s hp.1 (by omega)) ⟨?_⟩|(refine ⟨iu s+1,rfl,?_⟩ <;> conv=>whnf)|refine Rd (fun h=>⟨?_⟩) fun h=>⟨?_⟩|refine Rb ⟨?_⟩|fail
   exact Rf
theorem dH (t:List Ent) (p:Bs) (ht:t.length≤1073741824):Con (E m) 132 0 [.sl (t.map Ent.c),.s p] [] (nv (am t p)) []:=by
 by_cases hr:p=[47]
 · subst hr;have hx:am t [47]=some qz:=by simp [am]
   rw [hx];refine G0 Tryz.func132 ?_;repeat' first|refine Rx ⟨?_⟩|refine Rd (fun h=>⟨?_⟩) fun h=>⟨?_⟩|fail
   exact Rf
 · have hx:am t p=ah t p:=by simp [am,hr]
   rw [hx];have c1:=vp (m:=m) t p ht;rcases oz t p with ⟨i,hi,hlt,he⟩|⟨hi,he⟩
   · rw [hi] at c1;rw [he];refine G0 Tryz.func132 ?_;repeat' first|refine Ra ⟨?_⟩|refine R0 c1 ⟨?_⟩|refine Rd (fun h=>⟨?_⟩) fun h=>⟨?_⟩|refine Rb ⟨?_⟩|fail
     exact Rf
   · rw [hi] at c1;rw [he];refine G0 Tryz.func132 ?_;repeat' first|refine Ra ⟨?_⟩|refine R0 c1 ⟨?_⟩|refine Rd (fun h=>⟨?_⟩) fun h=>⟨?_⟩|refine Rb ⟨?_⟩|fail
     exact Rf
theorem vv (t:List Ent) (p:Bs) {i:Nat} {x:Ent} (h:t[i]?=some x):jY (t.take (i+1)) p=jY (t.take i) p++if ae x.path=p then [Par.pathName x.path] else []:=by
 unfold jY;rw [jZ h,zAK];congr 1
 by_cases hp:ae x.path=p <;> simp [hp]
theorem vx (t:List Ent) (p:Bs) (ht:t.length≤1073741824) (hb:re 1073741823 t):Con (E m) 133 0 [.sl (t.map Ent.c),.s p] [] (.own 0) [(0,.own 9 ((jY t p).map fun l=>[.s l]))]:=by
 refine G0 Tryz.func133 ?_;repeat' first|refine Rx ⟨?_⟩|refine Rd (fun h=>⟨?_⟩) fun h=>⟨?_⟩|fail
 refine Cd.loop2 (fun mq tm S nx=>∃ (i:Nat) (xs:List (List D)),mq=(t.length - i)∧tm=[(0,.sl (t.map Ent.c)),(1,.s p),(5,.own 0),(6,.k .i64 i)]∧S=[(0,.own 9 xs)]∧nx=1∧(i≤t.length)∧(xs=(jY (t.take i) p).map fun l=>[.s l])) ?_ ?_
 · refine la [0,1,5,6] ?_
   conv=>whnf
   refine ⟨rfl,rfl,_,0,[],rfl,rfl,rfl,rfl,zAG _,rfl⟩
 · rintro mq tm S nx ⟨i,xs,hn,rfl,rfl,rfl,hi,hx⟩;have hxl:xs.length≤i:=by rw [hx,zAA]; have:=oC (t.take i) p; rw [zAW] at this; omega
   rcases au t i hi with ⟨rfl,hd⟩|⟨x,r,hx',hd,hr,hlt⟩
   · rw [zAN] at hx;rw [← hx];repeat' first|refine Rx ⟨?_⟩|refine Rd (fun h=>⟨?_⟩) fun h=>⟨?_⟩|fail
     exact Rf
   · have hbx:=hb x (zAD hx');have c1:=mA (m:=m) x.path (by omega);have c2:=uc (m:=m) x.path (by omega);have hs:=vv t p hx';by_cases hp:ae x.path=p
     · rw [if_pos hp] at hs;repeat' first|refine Ra ⟨?_⟩|refine R0 c1 ⟨?_⟩|refine R0 c2 ⟨?_⟩|refine Rd (fun h=>⟨?_⟩) fun h=>⟨?_⟩|refine Rb ⟨?_⟩|fail
       refine .here ⟨mq - 1,by omega,?_⟩;refine la [0,1,5,6] ?_
       conv=>whnf
       refine ⟨rfl,rfl,i+1,_,(by omega),rfl,rfl,rfl,by omega,(by rw [hs,hx,zAK]; rfl)⟩
     · rw [if_neg hp,List.append_nil] at hs;repeat' first|refine Ra ⟨?_⟩|refine R0 c1 ⟨?_⟩|refine R0 c2 ⟨?_⟩|refine Rd (fun h=>⟨?_⟩) fun h=>⟨?_⟩|refine Rb ⟨?_⟩|fail
       refine .here ⟨mq - 1,by omega,?_⟩;refine la [0,1,5,6] ?_
       conv=>whnf
       refine ⟨rfl,rfl,i+1,_,(by omega),rfl,rfl,rfl,by omega,(by rw [hs,hx])⟩
theorem qB (t:List Ent) (p:Bs) (ht:t.length≤1073741824) (hp:p.length≤1073741824):Con (E m) 309 0 [.sl (t.map Ent.c),.s p] [] (.k .i64 (aY t p)) []:=by
 have c1:=mA (m:=m) p hp;have c2:=dH (m:=m) t (ae p) ht;rw [sF];cases he:am t (ae p) with
 | none=>
   rw [he] at c2;refine G0 Tryz.func309 ?_;repeat' first|refine Ra ⟨?_⟩|refine R0 c1 ⟨?_⟩|refine R0 c2 ⟨?_⟩|refine Rd (fun h=>⟨?_⟩) fun h=>⟨?_⟩|refine Rb ⟨?_⟩|fail
   exact Rf
 | some e=>
   rw [he] at c2;cases hd:e.dir;all_goals
    simp only [Ent.c,nv,hd] at c2;simp only [hd,if_true,if_false,zAE];refine G0 Tryz.func309 ?_;repeat' first|refine Ra ⟨?_⟩|refine R0 c1 ⟨?_⟩|refine R0 c2 ⟨?_⟩|refine Rd (fun h=>⟨?_⟩) fun h=>⟨?_⟩|refine Rb ⟨?_⟩|fail
    exact Rf
theorem yM (t:List Ent) (p:Bs) (ht:t.length≤1073741824) (hp:p.length≤1073741824):Con (E m) 274 0 [.sl (t.map Ent.c),.s p] [] (.k .i64 (cL t p)) []:=by
 have c1:=qB (m:=m) t p ht hp;have c2:=dH (m:=m) t p ht;cases he:am t p;all_goals
  rw [he] at c2;refine G0 Tryz.func274 ?_;repeat' first|refine Ra ⟨?_⟩|refine R0 c1 ⟨?_⟩|refine R0 c2 ⟨?_⟩|refine Rd (fun h=>⟨?_⟩) fun h=>⟨?_⟩|refine Rb ⟨?_⟩|fail
  all_goals
   refine Rg ⟨?_⟩
   first|rfl|(simp_all [cL,he]; done)|(simp [cL,he] <;> (repeat' split) <;> omega)|(simp only [cL,he]; repeat' split) <;> first|omega|(simp_all; done)|(simp_all; omega)|(rw [zAI]; simp [*,cL,he] <;> omega)
theorem w4 (t:List Ent) (p:Bs) (ht:t.length≤1073741824) (hp:p.length≤1073741824):Con (E m) 275 0 [.sl (t.map Ent.c),.s p] [] (.k .i64 (dG t p)) []:=by
 have c1:=yM (m:=m) t p ht hp;have c2:=dH (m:=m) t p ht;cases he:am t p with
 | none=>
   rw [he] at c2;refine G0 Tryz.func275 ?_;repeat' first|refine Ra ⟨?_⟩|refine R0 c1 ⟨?_⟩|refine R0 c2 ⟨?_⟩|refine Rd (fun h=>⟨?_⟩) fun h=>⟨?_⟩|refine Rb ⟨?_⟩|fail
   all_goals
    refine Rg ⟨?_⟩
    first|rfl|(simp_all [dG,ef]; done)|(simp [dG,ef] <;> (repeat' split) <;> omega)|(simp only [dG,ef]; repeat' split) <;> first|omega|(simp_all; done)|(simp_all; omega)|(rw [zAI]; simp [*,dG,ef] <;> omega)
 | some e=>
   rw [he] at c2;cases hd:e.dir;all_goals
    simp only [Ent.c,nv,hd] at c2;refine G0 Tryz.func275 ?_;repeat' first|refine Ra ⟨?_⟩|refine R0 c1 ⟨?_⟩|refine R0 c2 ⟨?_⟩|refine Rd (fun h=>⟨?_⟩) fun h=>⟨?_⟩|refine Rb ⟨?_⟩|fail
    all_goals
     refine Rg ⟨?_⟩
     first|rfl|(simp_all [dG,ef]; done)|(simp [dG,ef] <;> (repeat' split) <;> omega)|(simp only [dG,ef]; repeat' split) <;> first|omega|(simp_all; done)|(simp_all; omega)|(rw [zAI]; simp [*,dG,ef] <;> omega)
theorem w5 (t:List Ent) (o:Opn) (ht:t.length≤1073741824) (hb:re 1073741823 t):Con (E m) 277 0 [.sl (t.map Ent.c),.agg o.c] [] (.k .i64 (eI t o)) []:=by
 have c1:=dH (m:=m) t o.path ht;have c2:=vx (m:=m) t o.path ht hb;unfold eI;cases he:am t o.path with
 | none=>
   rw [he] at c1;refine G0 Tryz.func277 ?_;repeat' first|refine Ra ⟨?_⟩|refine R0 c1 ⟨?_⟩|refine Rd (fun h=>⟨?_⟩) fun h=>⟨?_⟩|refine Rb ⟨?_⟩|fail
   exact Rf
 | some e=>
   rw [he] at c1;cases hd:e.dir;all_goals
    simp only [Ent.c,nv,hd] at c1;refine G0 Tryz.func277 ?_;repeat' first|refine Ra ⟨?_⟩|refine R0 c1 ⟨?_⟩|refine Rk [] 1 c2 ⟨?_⟩|refine Rd (fun h=>⟨?_⟩) fun h=>⟨?_⟩|refine Rb ⟨?_⟩|fail
    all_goals
     exact Rf
theorem ud (t:List Ent) (o:Opn) (ht:t.length≤1073741824) (hb:re 1073741823 t) (h1:o.path.length≤1073741823) (h2:o.tgt.length≤1073741823):Con (E m) 276 0 [.sl (t.map Ent.c),.agg o.c] [] (.k .i64 (cz t o)) []:=by
 have c1:=dH (m:=m) t o.path ht;have c2:=qB (m:=m) t o.tgt ht (by omega);have c3:=dH (m:=m) t o.tgt ht;have c4:=iD (m:=m) o.tgt o.path (by omega) (by omega);cases he:am t o.path with
 | none=>
   rw [he] at c1;have hx:cz t o=2:=by simp [cz,he]
   rw [hx];cases hf:am t o.tgt;all_goals
    rw [hf] at c3;refine G0 Tryz.func276 ?_;repeat' first|refine Ra ⟨?_⟩|refine R0 c1 ⟨?_⟩|refine R0 c2 ⟨?_⟩|refine R0 c3 ⟨?_⟩|refine Rd (fun h=>⟨?_⟩) fun h=>⟨?_⟩|refine Rb ⟨?_⟩|fail
    exact Rf
 | some e=>
   rw [he] at c1;by_cases hu:aY t o.tgt=0
   · rw [hu] at c2;cases hf:am t o.tgt with
     | some f=>
       rw [hf] at c3;have hx:cz t o=4:=by simp [cz,he,hu,hf]
       rw [hx];refine G0 Tryz.func276 ?_;repeat' first|refine Ra ⟨?_⟩|refine R0 c1 ⟨?_⟩|refine R0 c2 ⟨?_⟩|refine R0 c3 ⟨?_⟩|refine Rd (fun h=>⟨?_⟩) fun h=>⟨?_⟩|refine Rb ⟨?_⟩|fail
       exact Rf
     | none=>
       rw [hf] at c3;cases hv:under o.tgt o.path with
       | true=>
         rw [hv] at c4;have hx:cz t o=7:=by simp [cz,he,hu,hf,hv]
         rw [hx];refine G0 Tryz.func276 ?_;repeat' first|refine Ra ⟨?_⟩|refine R0 c1 ⟨?_⟩|refine R0 c2 ⟨?_⟩|refine R0 c3 ⟨?_⟩|refine R0 c4 ⟨?_⟩|refine Rd (fun h=>⟨?_⟩) fun h=>⟨?_⟩|refine Rb ⟨?_⟩|fail
         exact Rf
       | false=>
         rw [hv] at c4;have hx:cz t o=if t.all (fun e=>(aK e.path o.path o.tgt).isSome) then 0 else 8:=by simp [cz,he,hu,hf,hv]
         rw [hx];refine G0 Tryz.func276 ?_;repeat' first|refine Ra ⟨?_⟩|refine R0 c1 ⟨?_⟩|refine R0 c2 ⟨?_⟩|refine R0 c3 ⟨?_⟩|refine R0 c4 ⟨?_⟩|refine Rd (fun h=>⟨?_⟩) fun h=>⟨?_⟩|refine Rb ⟨?_⟩|fail
         refine Cd.loop2 (fun mq tm S nx=>∃ (i:Nat),mq=(t.length - i)∧tm=[(0,.sl (t.map Ent.c)),(3,.bp 0 0),(10,.k .i64 i)]∧S=[(0,.box 52 o.c)]∧nx=1∧(i≤t.length)∧((t.take i).all (fun e=>(aK e.path o.path o.tgt).isSome)=true)) ?_ ?_
         · refine la [0,3,10] ?_
           conv=>whnf
           refine ⟨rfl,rfl,_,0,rfl,rfl,rfl,rfl,zAG _,rfl⟩
         · rintro mq tm S nx ⟨i,hn,rfl,rfl,rfl,hi,ha⟩;rcases au t i hi with ⟨rfl,hd⟩|⟨x,r,hx',hd,hr,hlt⟩
           · rw [zAN] at ha;rw [ha];repeat' first|refine Rx ⟨?_⟩|refine Rd (fun h=>⟨?_⟩) fun h=>⟨?_⟩|fail
             exact Rf
           · have hbx:=hb x (zAD hx');have c5:=mV (m:=m) x.path o.path o.tgt (by omega) (by omega) (by omega);cases hm:aK x.path o.path o.tgt with
             | none=>
               rw [hm] at c5;have hf:t.all (fun e=>(aK e.path o.path o.tgt).isSome)=false:=cr hx' (by simp [hm]);rw [hf];repeat' first|refine Ra ⟨?_⟩|refine R0 c5 ⟨?_⟩|refine Rd (fun h=>⟨?_⟩) fun h=>⟨?_⟩|refine Rb ⟨?_⟩|fail
               exact Rf
             | some y=>
               rw [hm] at c5;repeat' first|refine Ra ⟨?_⟩|refine R0 c5 ⟨?_⟩|refine Rd (fun h=>⟨?_⟩) fun h=>⟨?_⟩|refine Rb ⟨?_⟩|fail
               refine .here ⟨mq - 1,by omega,?_⟩;refine la [0,3,10] ?_
               conv=>whnf
               refine ⟨rfl,rfl,i+1,(by omega),rfl,rfl,rfl,by omega,(bA ha hx' (by simp [hm]))⟩
   · have hx:cz t o=aY t o.tgt:=by simp [cz,he,hu]
     rw [hx];cases hf:am t o.tgt;all_goals
      rw [hf] at c3;refine G0 Tryz.func276 ?_;repeat' first|refine Ra ⟨?_⟩|refine R0 c1 ⟨?_⟩|refine R0 c2 ⟨?_⟩|refine R0 c3 ⟨?_⟩|refine Rd (fun h=>⟨?_⟩) fun h=>⟨?_⟩|refine Rb ⟨?_⟩|fail
      exact Rf
theorem C5 (t:List Ent) (o:Opn) (ht:t.length≤1073741824) (hb:re 1073741823 t) (h1:o.path.length≤1073741823) (h2:o.tgt.length≤1073741823):Con (E m) 225 0 [.sl (t.map Ent.c),.agg o.c] [] (.k .i64 (cj t o)) []:=by
 have c1:=yM (m:=m) t o.path ht (by omega);have c2:=w4 (m:=m) t o.path ht (by omega);have c3:=ud (m:=m) t o ht hb h1 h2;have c4:=w5 (m:=m) t o ht hb;refine G0 Tryz.func225 ?_;repeat' first|refine Ra ⟨?_⟩|refine R0 c1 ⟨?_⟩|refine R0 c2 ⟨?_⟩|refine R0 c3 ⟨?_⟩|refine R0 c4 ⟨?_⟩|refine Rd (fun h=>⟨?_⟩) fun h=>⟨?_⟩|refine Rb ⟨?_⟩|fail
 all_goals
  refine Rg ⟨?_⟩
  first|rfl|(simp_all [cj]; done)|(simp [cj] <;> (repeat' split) <;> omega)|(simp only [cj]; repeat' split) <;> first|omega|(simp_all; done)|(simp_all; omega)|(rw [zAI]; simp [*,cj] <;> omega)
variable {m:Int}
theorem hZ (t:List Ent) (e:Ent) (ht:t.length≤1073741824):Con (E m) 228 0 [.sl (t.map Ent.c),.agg e.c] [] (.own 0) [(0,.own 150 ((dF t e).map Ent.c))]:=by
 refine G0 Tryz.func228 ?_;repeat' first|refine Rx ⟨?_⟩|refine Rd (fun h=>⟨?_⟩) fun h=>⟨?_⟩|fail
 refine Cd.loop2 (fun mq tm S nx=>∃ (k:Nat) (xs:List (List D)),mq=(t.length - k)∧tm=[(0,.sl (t.map Ent.c)),(3,.bp 0 0),(5,.own 1),(6,.k .i64 k)]∧S=[(0,.box 150 e.c),(1,.own 150 xs)]∧nx=2∧(k≤t.length)∧(xs=(t.take k).map Ent.c)∧(dF t e=t.take k++dF (t.drop k) e)) ?_ ?_
 · refine la [0,3,5,6] ?_
   conv=>whnf
   refine ⟨rfl,rfl,_,0,[],rfl,rfl,rfl,rfl,zAG _,rfl,rfl⟩
 · rintro mq tm S nx ⟨k,xs,hn,rfl,rfl,rfl,hk,hx,ha⟩;have hxl:xs.length=k:=by rw [hx]; simp; omega
   rcases au t k hk with ⟨rfl,hd⟩|⟨x,r,hx',hd,hr,hlt⟩
   · have hf:(dF t e).map Ent.c=(xs++[e.c])++(((t.map Ent.c).take (t.map Ent.c).length).drop t.length):=by
       rw [ha,hx,hd,zAN]; simp [dF,zBW]
     rw [hf];repeat' first|refine Rx ⟨?_⟩|refine Rd (fun h=>⟨?_⟩) fun h=>⟨?_⟩|fail
     exact Rf
   · rw [hd] at ha;cases hl:lt x.path e.path with
     | true=>
       have hn:dF t e=t.take (k+1)++dF r e:=by rw [ha,dF,if_pos hl,dP hx']; simp
       rw [← hr] at hn;repeat' first|refine Rx ⟨?_⟩|refine Rd (fun h=>⟨?_⟩) fun h=>⟨?_⟩|fail
       refine .here ⟨mq - 1,by omega,?_⟩;refine la [0,3,5,6] ?_
       conv=>whnf
       refine ⟨rfl,rfl,k+1,_,(by omega),rfl,rfl,rfl,by omega,(by rw [hx]; exact ft hx'),hn⟩
     | false=>
       by_cases hp:x.path=e.path
       · have hf:(dF t e).map Ent.c=(xs++[e.c])++(((t.map Ent.c).take (t.map Ent.c).length).drop (k+1)):=by
           rw [ha,hx,dF,hl,if_neg (by simp),if_pos hp,zAN,← zBf,hr]; simp
         rw [hf];repeat' first|refine Ra ⟨?_⟩|(refine ⟨k+1,rfl,?_⟩ <;> conv=>whnf)|refine Rd (fun h=>⟨?_⟩) fun h=>⟨?_⟩|refine Rb ⟨?_⟩|fail
         exact Rf
       · have hf:(dF t e).map Ent.c=(xs++[e.c])++(((t.map Ent.c).take (t.map Ent.c).length).drop k):=by
           rw [ha,hx,dF,hl,if_neg (by simp),if_neg hp,zAN,← zBf,hd]; simp
         rw [hf];repeat' first|refine Rx ⟨?_⟩|refine Rd (fun h=>⟨?_⟩) fun h=>⟨?_⟩|fail
         exact Rf
theorem EL (t:List Ent) (p:Bs) {i:Nat} {x:Ent} (h:t[i]?=some x):iW (t.take (i+1)) p=iW (t.take i) p++if x.path≠p then [x] else []:=by
 unfold iW;rw [jZ h];congr 1
 by_cases hp:x.path=p <;> simp [hp]
theorem EM (t:List Ent) (p:Bs):(iW t p).length≤t.length:=zAV _ _
theorem EN (t:List Ent) (p:Bs) (ht:t.length≤1073741824):Con (E m) 279 0 [.sl (t.map Ent.c),.s p] [] (.own 0) [(0,.own 150 ((iW t p).map Ent.c))]:=by
 refine G0 Tryz.func279 ?_;repeat' first|refine Rx ⟨?_⟩|refine Rd (fun h=>⟨?_⟩) fun h=>⟨?_⟩|fail
 refine Cd.loop2 (fun mq tm S nx=>∃ (i:Nat) (xs:List (List D)),mq=(t.length - i)∧tm=[(0,.sl (t.map Ent.c)),(1,.s p),(5,.own 0),(6,.k .i64 i)]∧S=[(0,.own 150 xs)]∧nx=1∧(i≤t.length)∧(xs=(iW (t.take i) p).map Ent.c)) ?_ ?_
 · refine la [0,1,5,6] ?_
   conv=>whnf
   refine ⟨rfl,rfl,_,0,[],rfl,rfl,rfl,rfl,zAG _,rfl⟩
 · rintro mq tm S nx ⟨i,xs,hn,rfl,rfl,rfl,hi,hx⟩;have hxl:xs.length≤i:=by rw [hx,zAA]; have:=EM (t.take i) p; rw [zAW] at this; omega
   rcases au t i hi with ⟨rfl,hd⟩|⟨x,r,hx',hd,hr,hlt⟩
   · rw [zAN] at hx;rw [← hx];repeat' first|refine Rx ⟨?_⟩|refine Rd (fun h=>⟨?_⟩) fun h=>⟨?_⟩|fail
     exact Rf
   · have hs:=EL t p hx';by_cases hp:x.path=p
     · rw [if_neg (not_not_intro hp),List.append_nil] at hs;repeat' first|refine Rx ⟨?_⟩|refine Rd (fun h=>⟨?_⟩) fun h=>⟨?_⟩|fail
       refine .here ⟨mq - 1,by omega,?_⟩;refine la [0,1,5,6] ?_
       conv=>whnf
       refine ⟨rfl,rfl,i+1,_,(by omega),rfl,rfl,rfl,by omega,(by rw [hs,hx])⟩
     · rw [if_pos hp] at hs;repeat' first|refine Rx ⟨?_⟩|refine Rd (fun h=>⟨?_⟩) fun h=>⟨?_⟩|fail
       refine .here ⟨mq - 1,by omega,?_⟩;refine la [0,1,5,6] ?_
       conv=>whnf
       refine ⟨rfl,rfl,i+1,_,(by omega),rfl,rfl,rfl,by omega,(by rw [hs,hx,zAK]; rfl)⟩
theorem C6 (t:List Ent) (a b:Bs) (ht:t.length≤1073741824) (hb:re 1073741823 t) (h1:a.length≤1073741823) (h2:b.length≤1073741823):Con (E m) 278 0 [.sl (t.map Ent.c),.s a,.s b] [] (.own 0) [(0,.own 150 ((lU t a b).map Ent.c))]:=by
 refine G0 Tryz.func278 ?_;repeat' first|refine Rx ⟨?_⟩|refine Rd (fun h=>⟨?_⟩) fun h=>⟨?_⟩|fail
 refine Cd.loop2 (fun mq tm S nx=>∃ (i:Nat) (xs:List (List D)),mq=(t.length - i)∧tm=[(0,.sl (t.map Ent.c)),(1,.s a),(2,.s b),(7,.own 0),(8,.k .i64 i)]∧S=[(0,.own 150 xs)]∧nx=1∧(i≤t.length)∧(xs=(lU (t.take i) a b).map Ent.c)) ?_ ?_
 · refine la [0,1,2,7,8] ?_
   conv=>whnf
   refine ⟨rfl,rfl,_,0,[],rfl,rfl,rfl,rfl,zAG _,rfl⟩
 · rintro mq tm S nx ⟨i,xs,hn,rfl,rfl,rfl,hi,hx⟩;have hml:(lU (t.take i) a b).length≤i:=by
    have:=putAll_len ((t.take i).map (gD a b)) []
    simp only [zAA,zAW,List.length_nil] at this;unfold lU;omega
   rcases au t i hi with ⟨rfl,hd⟩|⟨x,r,hx',hd,hr,hlt⟩
   · rw [zAN] at hx;rw [← hx];repeat' first|refine Rx ⟨?_⟩|refine Rd (fun h=>⟨?_⟩) fun h=>⟨?_⟩|fail
     exact Rf
   · have hbx:=hb x (zAD hx');have c1:=mV (m:=m) x.path a b (by omega) h1 h2;have hs:lU (t.take (i+1)) a b=dF (lU (t.take i) a b) (gD a b x):=by
      unfold lU;rw [dP hx',zAK,List.map_cons,List.map_nil,yF]
     subst hx;cases hm:aK x.path a b;all_goals
      rw [hm] at c1;have hme:gD a b x=⟨(aK x.path a b).getD [],x.dir,x.data⟩:=rfl;rw [hm] at hme;have c2:=hZ (m:=m) (lU (t.take i) a b) (gD a b x) (by omega);rw [← hs,hme] at c2;repeat' first|refine Ra ⟨?_⟩|refine R0 c1 ⟨?_⟩|refine Rk [] 1 c2 ⟨?_⟩|refine Rd (fun h=>⟨?_⟩) fun h=>⟨?_⟩|refine Rb ⟨?_⟩|fail
      refine .here ⟨mq - 1,by omega,?_⟩;refine la [0,1,2,7,8] ?_
      conv=>whnf
      refine ⟨rfl,rfl,i+1,_,(by omega),rfl,rfl,rfl,by omega,rfl⟩
theorem FR (t:List Ent) (o:Opn) (ht:t.length≤1073741824) (hb:re 1073741823 t) (h1:o.path.length≤1073741823) (h2:o.tgt.length≤1073741823):Con (E m) 226 0 [.sl (t.map Ent.c),.agg o.c] [] (.own 0) [(0,.own 150 ((doT t o).map Ent.c))]:=by
 have c1:=hZ (m:=m) t ⟨o.path,true,[]⟩ ht;have c2:=hZ (m:=m) t ⟨o.path,false,o.data⟩ ht;have c3:=C6 (m:=m) t o.path o.tgt ht hb h1 h2;have c4:=EN (m:=m) t o.path ht;unfold doT;by_cases k1:o.kind=1
 · simp only [k1,if_true];refine G0 Tryz.func226 ?_;repeat' first|refine Ra ⟨?_⟩|refine Rk [] 1 c1 ⟨?_⟩|refine Rd (fun h=>⟨?_⟩) fun h=>⟨?_⟩|refine Rb ⟨?_⟩|fail
   exact Rf
 · by_cases k2:o.kind=2
   · simp only [k1,k2,if_true,if_false];refine G0 Tryz.func226 ?_;repeat' first|refine Ra ⟨?_⟩|refine Rk [] 1 c2 ⟨?_⟩|refine Rd (fun h=>⟨?_⟩) fun h=>⟨?_⟩|refine Rb ⟨?_⟩|fail
     exact Rf
   · by_cases k5:o.kind=5
     · simp only [k1,k2,k5,if_true,if_false];refine G0 Tryz.func226 ?_;repeat' first|refine Ra ⟨?_⟩|refine Rk [] 1 c3 ⟨?_⟩|refine Rd (fun h=>⟨?_⟩) fun h=>⟨?_⟩|refine Rb ⟨?_⟩|fail
       exact Rf
     · simp only [k1,k2,k5,if_false];refine G0 Tryz.func226 ?_;repeat' first|refine Ra ⟨?_⟩|refine Rk [] 1 c4 ⟨?_⟩|refine Rd (fun h=>⟨?_⟩) fun h=>⟨?_⟩|refine Rb ⟨?_⟩|fail
       exact Rf
theorem ia (t:List Ent) (o:Opn) (ht:t.length≤1073741824) (hb:re 1073741823 t) (h1:o.path.length≤1073741823) (h2:o.tgt.length≤1073741823) (h3:o.data.length≤1073741823):Con (E m) 163 0 [.sl (t.map Ent.c),.agg o.c] [] (.tup [.own 0,.k .i64 (ao t o).2]) [(0,.own 150 ((ao t o).1.map Ent.c))]:=by
 have c1:=jm (m:=m) t fun e he=>by have:=hb e he; omega
 have c2:=mB (m:=m) o (by omega) (by omega) (by omega);have c3:=C5 (m:=m) t o ht hb h1 h2;have c4:=FR (m:=m) t o ht hb h1 h2;cases k1:af t with
 | false=>
   have hx:ao t o=([],1):=by simp [ao,k1]
   rw [hx];rw [k1] at c1;refine G0 Tryz.func163 ?_;repeat' first|refine Ra ⟨?_⟩|refine R0 c1 ⟨?_⟩|refine Rd (fun h=>⟨?_⟩) fun h=>⟨?_⟩|refine Rb ⟨?_⟩|fail
   exact Rf
 | true=>
   rw [k1] at c1;cases k2:dn o with
   | false=>
     have hx:ao t o=(t,1):=by simp [ao,k1,k2]
     rw [hx];rw [k2] at c2;refine G0 Tryz.func163 ?_;repeat' first|refine Ra ⟨?_⟩|refine R0 c1 ⟨?_⟩|refine R0 c2 ⟨?_⟩|refine Rd (fun h=>⟨?_⟩) fun h=>⟨?_⟩|refine Rb ⟨?_⟩|fail
     exact Rf
   | true=>
     rw [k2] at c2;by_cases k3:cj t o=0
     · have hx:ao t o=(doT t o,0):=by simp [ao,k1,k2,k3]
       rw [hx];rw [k3] at c3;refine G0 Tryz.func163 ?_;repeat' first|refine Ra ⟨?_⟩|refine R0 c1 ⟨?_⟩|refine R0 c2 ⟨?_⟩|refine R0 c3 ⟨?_⟩|refine Rk [] 1 c4 ⟨?_⟩|refine Rd (fun h=>⟨?_⟩) fun h=>⟨?_⟩|refine Rb ⟨?_⟩|fail
       exact Rf
     · have hx:ao t o=(t,cj t o):=by simp [ao,k1,k2,k3]
       rw [hx];refine G0 Tryz.func163 ?_;repeat' first|refine Ra ⟨?_⟩|refine R0 c1 ⟨?_⟩|refine R0 c2 ⟨?_⟩|refine R0 c3 ⟨?_⟩|refine Rd (fun h=>⟨?_⟩) fun h=>⟨?_⟩|refine Rb ⟨?_⟩|fail
       exact Rf
end Go.Proofs.YtlicaibhgcenhaaGreatDoor
namespace Go.Par
open Go.Ab
theorem aD {a:Bs} {w:List Bs} (h:al (a :: w)):al w:=(List.pairwise_cons.1 h).2
theorem aM {a:Bs} {w:List Bs} (h:al (a :: w)):∀ b∈w,lt a b=true:=(List.pairwise_cons.1 h).1
theorem dJ {a:Bs} {w:List Bs} (h:al (a :: w)):a ∉ w:=fun hm=>mS (aM h a hm) rfl
theorem bG:∀ {w:List Bs},al w→w.Nodup
 | [],_=>.nil
 | a :: w,h=>List.nodup_cons.2 ⟨dJ h,bG (aD h)⟩
theorem sM:∀ {w v:List Bs},al w→al v→(∀ p,p∈w↔p∈v)→w=v
 | [],[],_,_,_=>rfl
 | [],b :: v,_,_,h=>absurd ((h b).2 (by simp)) (by simp)
 | a :: w,[],_,_,h=>absurd ((h a).1 (by simp)) (by simp)
 | a :: w,b :: v,hw,hv,h=>by
   have hab:a=b:=by
    have h1:=(h a).1 (by simp);have h2:=(h b).2 (by simp);rcases List.mem_cons.1 h1 with h1|h1
    · exact h1
    · rcases List.mem_cons.1 h2 with h2|h2
      · exact h2.symm
      · have g1:=aM hv a h1;have g2:=aM hw b h2;rw [lO _ _ g2] at g1;cases g1
   subst hab;congr 1
   refine sM (aD hw) (aD hv) fun p=>?_
   have:=h p
   simp only [List.mem_cons] at this;by_cases hp:p=a
   · subst hp;exact ⟨fun h=>absurd h (dJ hw),fun h=>absurd h (dJ hv)⟩
   · simpa [hp] using this
theorem ue {w:List Bs} (h:al w) (p:Bs→Bool):al (w.filter p):=List.Pairwise.filter p h
abbrev aq (t:List Ent):List Bs:=t.map (·.path)
theorem aF (e:Ent) (t:List Ent) (p:Bs):ah (e :: t) p=if e.path=p then some e else ah t p:=by
 unfold ah;rw [List.find?_cons];by_cases h:e.path=p <;> simp [h]
theorem bU {t:List Ent} {p:Bs}:ah t p=none↔p ∉ aq t:=by
 unfold ah aq;rw [List.find?_eq_none];constructor
 · intro h hm;obtain ⟨e,he,rfl⟩:=List.mem_map.1 hm;exact absurd (h e he) (by simp)
 · intro h e he hp;exact h (List.mem_map.2 ⟨e,he,by simpa using hp⟩)
theorem vy {t:List Ent} {p:Bs} (h:p∈aq t):∃ e,ah t p=some e:=by
 cases he:ah t p with
 | some e=>exact ⟨e,rfl⟩
 | none=>exact absurd h (bU.1 he)
theorem iZ:∀ {t:List Ent} {e:Ent},al (aq t)→e∈t→ah t e.path=some e
 | x :: t,e,hs,he=>by
   rw [aF];rcases List.mem_cons.1 he with rfl|he
   · rw [if_pos rfl]
   · have:x.path≠e.path:=mS (aM hs _ (List.mem_map.2 ⟨e,he,rfl⟩))
     rw [if_neg this];exact iZ (aD hs) he
theorem w6:∀ {t u:List Ent},al (aq t)→al (aq u)→(∀ p,ah t p=ah u p)→t=u
 | [],[],_,_,_=>rfl
 | [],y :: s,_,_,h=>by have:=h y.path; rw [aF,if_pos rfl] at this; cases this
 | x :: r,[],_,_,h=>by have:=h x.path; rw [aF,if_pos rfl] at this; cases this
 | x :: r,y :: s,ht,hu,h=>by
   have hxy:x.path=y.path:=by
    have h1:=h x.path;have h2:=h y.path;rw [aF,if_pos rfl] at h1;rw [aF y,if_pos rfl] at h2;by_cases hp:x.path=y.path
    · exact hp
    · rw [aF,if_neg (Ne.symm hp)] at h1;rw [aF,if_neg hp] at h2;have g1:=cg h1.symm;have g2:=cg h2;have k1:=aM hu x.path (List.mem_map.2 ⟨x,g1.1,rfl⟩);have k2:=aM ht y.path (List.mem_map.2 ⟨y,g2.1,rfl⟩);rw [lO _ _ k1] at k2;cases k2
   have hxe:x=y:=by
    have h1:=h x.path;rw [aF,if_pos rfl,aF,if_pos hxy.symm] at h1;exact zAY h1
   subst hxe;congr 1
   refine w6 (aD ht) (aD hu) fun p=>?_;by_cases hp:x.path=p
   · subst hp;rw [bU.2 (dJ ht),bU.2 (dJ hu)]
   · have:=h p
     rwa [aF,if_neg hp,aF,if_neg hp] at this
theorem eR {t:List Ent} {p:Bs}:aY t p=0↔ae p=[47]∨∃ e,ah t (ae p)=some e∧e.dir=true:=by
 unfold aY;by_cases h:ae p=[47]
 · simp [h]
 · simp only [h,if_false,false_or];cases he:ah t (ae p) with
   | none=>simp
   | some e=>cases hd:e.dir <;> simp [hd]
theorem yN {t:List Ent} (h:al (aq t)) {i:Nat} {e:Ent} (hi:t[i]?=some e):lP t e i=true:=by
 unfold lP
 match i,hi with
 | 0,_=>rfl
 | j+1,hi=>
   simp only;cases hj:t[j]? with
   | none=>rfl
   | some e'=>
     simp only;exact pG (i:=j) (j:=j+1) h (by simp [hj]) (by simp [hi]) (by omega)
theorem nw {t:List Ent}:af t=true↔t.length≤16∧al (aq t)∧∀ e∈t,ew e=true∧aY t e.path=0:=by
 constructor
 · intro h;refine ⟨az h,?_,?_⟩
   · rw [← kI] at h;unfold my at h;rw [zAC,bN] at h;exact sB fun i hi=>Gu (h.2 i hi)
   · rw [← kI] at h;unfold my at h;rw [zAC,bN] at h;intro e he;obtain ⟨i,hi⟩:=List.mem_iff_getElem?.1 he
     have:=h.2 i (List.getElem?_eq_some_iff.1 hi).1
     simp only [okI,hi,zAC,decide_eq_true_eq] at this;exact ⟨this.1.1,this.2⟩
 · rintro ⟨h1,h2,h3⟩;refine oB h1 fun i hi=>?_;have he:t[i]?=some t[i]:=zAB hi;have h4:=h3 t[i] (zAb hi);simp only [okI,he,zAC,decide_eq_true_eq];exact ⟨⟨h4.1,yN h2 he⟩,h4.2⟩
theorem bh {t:List Ent} (h:af t=true):al (aq t):=(nw.1 h).2.1
theorem qC {t:List Ent} (h:af t=true):ah t [47]=none:=by
 rw [bU];intro hm;obtain ⟨e,he,hp⟩:=List.mem_map.1 hm
 have:=dm h e he
 simp only [ew,zAC] at this;exact aW this.1.1 hp
theorem cu {t:List Ent} {p:Bs} (hp:p≠[47]):am t p=ah t p:=if_neg hp
theorem qD (t:List Ent):am t [47]=some qz:=if_pos rfl
theorem w7 {t:List Ent} (hs:al (aq t)) (e:Ent) (p:Bs):ah (dF t e) p=if e.path=p then some e else ah t p:=by
 induction t with
 | nil=>rw [dF,aF]
 | cons x r ih=>
   have ih:=ih (aD hs);unfold dF;split
   · rename_i hl;rw [aF,ih,aF];by_cases h1:x.path=p
     · have:e.path≠p:=by rw [← h1]; exact fun h=>mS hl h.symm
       rw [if_pos h1,if_neg this,if_pos h1]
     · rw [if_neg h1,if_neg h1]
   · split
     · rename_i hp;rw [aF,aF];by_cases h1:e.path=p
       · rw [if_pos h1,if_pos h1]
       · rw [if_neg h1,if_neg h1,if_neg (by rw [hp]; exact h1)]
     · rw [aF]
theorem sN {t:List Ent} {e:Ent} {p:Bs}:p∈aq (dF t e)↔p=e.path∨p∈aq t:=by
 induction t with
 | nil=>simp [dF,aq]
 | cons x r ih=>
   unfold dF;split
   · simp only [aq,List.map_cons,List.mem_cons] at ih ⊢;rw [ih];constructor
     · rintro (h|h|h) <;> simp [h]
     · rintro (h|h|h) <;> simp [h]
   · split
     · rename_i hp;simp only [aq,List.map_cons,List.mem_cons,hp];constructor
       · rintro (h|h) <;> simp [h]
       · rintro (h|h|h) <;> simp [h]
     · simp [aq]
theorem jp {t:List Ent} (hs:al (aq t)) (e:Ent):al (aq (dF t e)):=by
 induction t with
 | nil=>simp [dF,aq,al]
 | cons x r ih=>
   have ih:=ih (aD hs);unfold dF;split
   · rename_i hl;refine List.pairwise_cons.2 ⟨fun b hb=>?_,ih⟩;rcases sN.1 hb with rfl|hb
     · exact hl
     · exact aM hs b hb
   · rename_i hl;split
     · rename_i hp;refine List.pairwise_cons.2 ⟨fun b hb=>?_,aD hs⟩;show lt e.path b=true
       rw [← hp];exact aM hs b hb
     · rename_i hp;have hlt:lt e.path x.path=true:=by
        rcases fu e.path x.path with h|h|h
        · exact h
        · exact absurd h.symm hp
        · exact absurd h hl
       refine List.pairwise_cons.2 ⟨fun b hb=>?_,hs⟩;rcases List.mem_cons.1 hb with rfl|hb
       · exact hlt
       · exact lt_trans _ _ _ hlt (aM hs b hb)
theorem gV:∀ {es t:List Ent},al (aq t)→al (aq (cb t es))
 | [],t,h=>h
 | e :: es,t,h=>gV (es:=es) (jp h e)
theorem oE:∀ {es t:List Ent} {p:Bs},p∈aq (cb t es)↔p∈aq es∨p∈aq t
 | [],t,p=>by simp [cb,aq]
 | e :: es,t,p=>by
   have:=oE (es:=es) (t:=dF t e) (p:=p)
   rw [sN] at this;show p∈aq (cb (dF t e) es)↔_
   rw [this];simp only [aq,List.map_cons,List.mem_cons];constructor
   · rintro (h|h|h) <;> simp [h]
   · rintro ((h|h)|h) <;> simp [h]
def aS (a b:List Ent):List Bs:=if af a && af b then (aq (cb a b)).filter fun p=>decide (am a p≠am b p) else []
theorem fI {a b:List Ent} (ha:af a=true) (hb:af b=true) {p:Bs}:p∈aS a b↔ah a p≠ah b p:=by
 rw [aS,ha,hb];simp only [zBT,if_true,List.mem_filter,decide_eq_true_eq,oE];constructor
 · rintro ⟨h1,h2⟩;have hp:p≠[47]:=by
    rintro rfl;exact h2 (by rw [qD,qD])
   rwa [cu hp,cu hp] at h2
 · intro h;have hp:p≠[47]:=by
    rintro rfl;exact h (by rw [qC ha,qC hb])
   refine ⟨?_,by rwa [cu hp,cu hp]⟩;by_cases h1:p∈aq b
   · exact .inl h1
   · by_cases h2:p∈aq a
     · exact .inr h2
     · rw [← bU] at h1 h2;exact absurd (h2.trans h1.symm) h
theorem mW {a b:List Ent}:al (aS a b):=by
 unfold aS;split
 · rename_i h;rw [zAC] at h;exact ue (gV (bh h.1)) _
 · exact .nil
def df:List Ent→List Ent→List Bs
 | [],b=>aq b
 | x :: r,[]=>aq (x :: r)
 | x :: r,y :: s=>if lt x.path y.path then x.path :: df r (y :: s) else if lt y.path x.path then y.path :: df (x :: r) s else if x=y then df r s else x.path :: df r s
termination_by a b=>a.length+b.length
theorem j5:∀ (a b:List Ent),al (aq a)→al (aq b)→∀ p,p∈df a b↔ah a p≠ah b p
 | [],b,_,_,p=>by
   rw [df];constructor
   · intro h;obtain ⟨e,he⟩:=vy h;rw [he]; simp [ah]
   · intro h;by_cases hm:p∈aq b
     · exact hm
     · rw [bU.2 hm] at h; exact absurd rfl h
 | x :: r,[],_,_,p=>by
   rw [df];constructor
   · intro h;obtain ⟨e,he⟩:=vy h;rw [he]; simp [ah]
   · intro h;by_cases hm:p∈aq (x :: r)
     · exact hm
     · rw [bU.2 hm] at h; exact absurd rfl h
 | x :: r,y :: s,ha,hb,p=>by
   rw [df];split
   · rename_i hl;have ih:=j5 r (y :: s) (aD ha) hb p;rw [List.mem_cons,ih,aF x r];by_cases hp:p=x.path
     · subst hp;have hn:ah (y :: s) x.path=none:=by
        rw [bU];intro hm;rcases List.mem_cons.1 hm with hm|hm
        · exact mS hl hm
        · exact mS (lt_trans _ _ _ hl (aM hb _ hm)) rfl
       simp [hn]
     · simp [hp,Ne.symm hp]
   · split
     · rename_i hl' hl;have ih:=j5 (x :: r) s ha (aD hb) p;rw [List.mem_cons,ih,aF y s];by_cases hp:p=y.path
       · subst hp;have hn:ah (x :: r) y.path=none:=by
          rw [bU];intro hm;rcases List.mem_cons.1 hm with hm|hm
          · exact mS hl hm
          · exact mS (lt_trans _ _ _ hl (aM ha _ hm)) rfl
         simp [hn]
       · simp [hp,Ne.symm hp]
     · rename_i h1 h2;have hxy:x.path=y.path:=by
        rcases fu x.path y.path with h|h|h
        · exact absurd h h1
        · exact h
        · exact absurd h h2
       have ih:=j5 r s (aD ha) (aD hb) p;have e1:ah r x.path=none:=bU.2 (dJ ha);have e2:ah s y.path=none:=bU.2 (dJ hb);rw [aF,aF];split
       · rename_i he;subst he;rw [ih];by_cases hp:x.path=p
         · subst hp;simp [e1,e2]
         · simp [hp]
       · rename_i he;rw [List.mem_cons,ih];by_cases hp:p=x.path
         · subst hp;simp [hxy,he]
         · simp [hp,Ne.symm hp,← hxy]
termination_by a b=>a.length+b.length
theorem gg:∀ (a b:List Ent),al (aq a)→al (aq b)→al (df a b)
 | [],b,_,hb=>by rw [df]; exact hb
 | x :: r,[],ha,_=>by rw [df]; exact ha
 | x :: r,y :: s,ha,hb=>by
   have key:∀ {a b:List Ent} {q:Bs},al (aq a)→al (aq b)→(∀ p∈aq a,lt q p=true)→(∀ p∈aq b,lt q p=true)→al (df a b)→al (q :: df a b):=by
    intro a b q h1 h2 h3 h4 h5;refine List.pairwise_cons.2 ⟨fun p hp=>?_,h5⟩
    have:=(j5 a b h1 h2 p).1 hp
    by_cases hm:p∈aq a
    · exact h3 p hm
    · by_cases hm2:p∈aq b
      · exact h4 p hm2
      · rw [bU.2 hm,bU.2 hm2] at this;exact absurd rfl this
   rw [df];split
   · rename_i hl;refine key (aD ha) hb (aM ha) (fun p hp=>?_) (gg r (y :: s) (aD ha) hb);rcases List.mem_cons.1 hp with rfl|hp
     · exact hl
     · exact lt_trans _ _ _ hl (aM hb _ hp)
   · split
     · rename_i hl' hl;refine key ha (aD hb) (fun p hp=>?_) (aM hb) (gg (x :: r) s ha (aD hb));rcases List.mem_cons.1 hp with rfl|hp
       · exact hl
       · exact lt_trans _ _ _ hl (aM ha _ hp)
     · rename_i h1 h2;have hxy:x.path=y.path:=by
        rcases fu x.path y.path with h|h|h
        · exact absurd h h1
        · exact h
        · exact absurd h h2
       split
       · exact gg r s (aD ha) (aD hb)
       · exact key (aD ha) (aD hb) (aM ha) (fun p hp=>by rw [hxy]; exact aM hb p hp) (gg r s (aD ha) (aD hb))
termination_by a b=>a.length+b.length
theorem EO {a b:List Ent} (ha:af a=true) (hb:af b=true):df a b=aS a b:=
 sM (gg a b (bh ha) (bh hb)) mW fun p=>by rw [j5 a b (bh ha) (bh hb),fI ha hb]
theorem vz:∀ {w v:List Bs},w.Nodup→(∀ p∈w,p∈v)→w.length≤v.length
 | [],v,_,_=>zAG _
 | a :: w,v,hn,h=>by
   obtain ⟨h1,h2⟩:=List.nodup_cons.1 hn;have ha:=h a (by simp);have ih:=vz (w:=w) (v:=v.erase a) h2 fun p hp=>by
    have hne:p≠a:=by rintro rfl; exact h1 hp
    exact (List.mem_erase_of_ne hne).2 (h p (by simp [hp]))
   have hl:=List.length_erase_of_mem ha;have hpos:0 < v.length:=List.length_pos_of_mem ha;simp only [List.length_cons];omega
theorem fx {s d:Bs} (hd:d≠[47]):under s d=true↔∃ r,s=d++47 :: r:=by
 simp only [under,hd,decide_false,zAs,zAC,decide_eq_true_eq];constructor
 · rintro ⟨⟨h1,h2⟩,h3⟩;refine ⟨s.drop (d.length+1),?_⟩;have h4:=List.drop_eq_getElem_cons h1;rw [zAB h1] at h3;rw [zAY h3] at h4
   conv=>lhs; rw [← zAv d.length s,h2,h4]
 · rintro ⟨r,rfl⟩
   simp
theorem rD {s:Bs} (h:ac s=true):∃ u n,s=u++47 :: n∧47 ∉ n∧((u=[]∧ae s=[47])∨(ac u=true∧ae s=u)):=by
 obtain ⟨w,a,h1,hw,ha,hl,rfl⟩:=iU h;refine ⟨_,_,rfl,(jU ha).1,?_⟩;rw [iB hw ha hl];by_cases hn:w=[]
 · subst hn; exact .inl ⟨rfl,rfl⟩
 · rw [if_neg hn];exact .inr ⟨mu hw (List.length_pos_iff.2 hn) (by omega),rfl⟩
theorem B4 {u n a r:Bs} (hn:47 ∉ n) (h:u++47 :: n=a++47 :: r):a=u∨∃ c,u=a++47 :: c:=by
 rcases List.append_eq_append_iff.1 h with ⟨c,h1,h2⟩|⟨c,h1,h2⟩
 · match c,h1,h2 with
   | [],h1,h2=>left; simpa using h1
   | x :: c,h1,h2=>
     exfalso;simp only [zAm,List.cons.injEq] at h2;apply hn;rw [h2.2]
     simp
 · match c,h1,h2 with
   | [],h1,h2=>left; simpa using h1.symm
   | x :: c,h1,h2=>
     right;simp only [zAm,List.cons.injEq] at h2;exact ⟨c,by rw [h1,← h2.1]⟩
theorem sO {a:Bs} (ha:ac a=true):under [47] a=false:=by
 rw [← zAa,fx (aW ha)];rintro ⟨r,h⟩;cases a with
 | nil=>rw [nq] at ha; cases ha
 | cons x a=>simp at h
theorem ib {s a:Bs} (hs:ac s=true) (ha:ac a=true) (h:under s a=true):ac (ae s)=true∧(ae s=a∨under (ae s) a=true):=by
 obtain ⟨u,n,h1,hn,hu⟩:=rD hs;obtain ⟨r,h2⟩:=(fx (aW ha)).1 h;rcases B4 hn (h1.symm.trans h2) with h3|⟨c,h3⟩
 · rcases hu with ⟨hu,_⟩|⟨hu,hp⟩
   · rw [h3,hu,nq] at ha; cases ha
   · exact ⟨by rw [hp]; exact hu,.inl (by rw [hp,h3])⟩
 · rcases hu with ⟨hu,_⟩|⟨hu,hp⟩
   · rw [hu] at h3; simp at h3
   · exact ⟨by rw [hp]; exact hu,.inr (by rw [hp]; exact (fx (aW ha)).2 ⟨c,h3⟩)⟩
theorem j6 {s a:Bs} (hs:ac s=true) (ha:ac a=true) (h:ae s=a∨under (ae s) a=true):under s a=true:=by
 obtain ⟨u,n,h1,hn,hu⟩:=rD hs;rcases hu with ⟨hu,hp⟩|⟨hu,hp⟩
 · exfalso;rw [hp] at h;rcases h with h|h
   · rw [← h,jW] at ha; cases ha
   · rw [sO ha] at h; cases h
 · rw [hp] at h;rw [fx (aW ha)];rcases h with h|h
   · exact ⟨n,by rw [h1,h]⟩
   · obtain ⟨r,h2⟩:=(fx (aW ha)).1 h;exact ⟨r++47 :: n,by rw [h1,h2]; simp⟩
theorem Hn {x n:Bs} (h:ac (x++47 :: n)=true) (hn:47 ∉ n) (hx:x≠[]):ae (x++47 :: n)=x:=by
 obtain ⟨u,k,h1,hk,hu⟩:=rD h;have hux:u=x:=by
  rcases B4 hn h1 with h2|⟨c,h2⟩
  · exact h2
  · exfalso;rw [h2] at h1;simp only [zAi,zAm,List.append_cancel_left_eq,List.cons.injEq] at h1;apply hk;rw [← h1.2]
    simp
 rcases hu with ⟨h2,_⟩|⟨_,h2⟩
 · exact absurd (hux.symm.trans h2) hx
 · rw [h2,hux]
theorem j7 {s a:Bs} (ha:ac a=true) (h:under s a=true):a.length < s.length:=(pI h (aW ha)).1
theorem jq {s a b:Bs} (ha:ac a=true) (hb:ac b=true) (h1:under s a=true) (h2:a=b∨under a b=true):under s b=true:=by
 obtain ⟨r,rfl⟩:=(fx (aW ha)).1 h1;rcases h2 with rfl|h2
 · exact h1
 · obtain ⟨q,rfl⟩:=(fx (aW hb)).1 h2;exact (fx (aW hb)).2 ⟨q++47 :: r,by simp⟩
def inP (s a:Bs):Bool:=decide (s=a) || under s a
theorem bY {s a:Bs}:inP s a=true↔s=a∨under s a=true:=by simp [inP]
theorem pL {s a:Bs} (ha:ac a=true):inP s a=true↔∃ x,s=a++x∧(x=[]∨∃ r,x=47 :: r):=by
 rw [bY,fx (aW ha)];constructor
 · rintro (rfl|⟨r,rfl⟩)
   · exact ⟨[],by simp,.inl rfl⟩
   · exact ⟨_,rfl,.inr ⟨r,rfl⟩⟩
 · rintro ⟨x,rfl,rfl|⟨r,rfl⟩⟩
   · left; simp
   · exact .inr ⟨r,rfl⟩
def mvP (a b s:Bs):Bs:=if inP s a then b++s.drop a.length else s
theorem AD {a b s:Bs} (h:inP s a=true):mvP a b s=b++s.drop a.length:=by rw [mvP,if_pos h]
theorem rE {a b s:Bs} (h:inP s a=false):mvP a b s=s:=by rw [mvP,h]; rfl
theorem gh {a b x:Bs} (ha:ac a=true) (hx:x=[]∨∃ r,x=47 :: r):inP (a++x) a=true∧mvP a b (a++x)=b++x:=by
 have h:inP (a++x) a=true:=(pL ha).2 ⟨x,rfl,hx⟩;exact ⟨h,by rw [AD h]; simp⟩
theorem qE {s a b:Bs} (hs:ac s=true) (ha:ac a=true) (hb:ac b=true):aK s a b=if ac (mvP a b s)=true then some (mvP a b s) else none:=by
 unfold aK;rw [hs,ha,hb];simp only [zBT,if_true];cases h:inP s a with
 | true=>
   have h2:=h;rw [bY] at h2;rw [AD h,if_neg];rintro ⟨h3,h4⟩;rcases h2 with h2|h2
   · exact h3 h2
   · rw [h2] at h4; cases h4
 | false=>
   have h2:¬ inP s a=true:=by rw [h]; simp
   rw [bY] at h2;rw [rE h,if_pos hs,if_pos ⟨fun e=>h2 (.inl e),by rw [← zAa]; exact fun e=>h2 (.inr e)⟩]
theorem GY {s a:Bs} (hs:ac s=true) (ha:ac a=true) (hne:s≠a):inP (ae s) a=inP s a:=by
 rw [zAI,bY,bY];constructor
 · intro h; exact .inr (j6 hs ha h)
 · rintro (h|h)
   · exact absurd h hne
   · exact (ib hs ha h).2
theorem GZ {s a b:Bs} (hs:ac s=true) (ha:ac a=true) (hb:ac b=true) (h:under s a=true) (ho:ac (mvP a b s)=true):ae (mvP a b s)=mvP a b (ae s):=by
 obtain ⟨hu,h2⟩:=ib hs ha h;obtain ⟨u,n,h1,hn,h3⟩:=rD hs;have hus:ae s=u:=by
  rcases h3 with ⟨_,h3⟩|⟨_,h3⟩
  · rw [h3,jW] at hu; cases hu
  · exact h3
 rw [hus] at h2 ⊢;obtain ⟨x,hx1,hx2⟩:=(pL ha).1 (bY.2 h2);have e1:mvP a b u=b++x:=by rw [hx1]; exact (gh ha hx2).2
 have e2:mvP a b s=(b++x)++47 :: n:=by
  rw [AD (bY.2 (.inr h)),h1,hx1]
  simp
 rw [e2] at ho ⊢;rw [e1];refine Hn ho hn ?_;intro e;have hb2:b=[]:=(List.append_eq_nil_iff.1 e).1;rw [hb2,nq] at hb;cases hb
theorem fy {t:List Ent} (h:af t=true) {e:Ent} (he:e∈t):ew e=true∧ac e.path=true∧(ae e.path=[47]∨∃ d,ah t (ae e.path)=some d∧d.dir=true):=by
 obtain ⟨_,_,h3⟩:=nw.1 h;obtain ⟨h4,h5⟩:=h3 e he;refine ⟨h4,?_,eR.1 h5⟩;simp only [ew,zAC] at h4;exact h4.1.1
theorem en {t:List Ent} (h:af t=true) {p:Bs} {e:Ent} (he:ah t p=some e):ew e=true∧e.path=p∧ac p=true∧(ae p=[47]∨∃ d,ah t (ae p)=some d∧d.dir=true):=by
 obtain ⟨h1,rfl⟩:=cg he;obtain ⟨h2,h3,h4⟩:=fy h h1;exact ⟨h2,rfl,h3,h4⟩
theorem lV {t:List Ent} (h:af t=true) {a:Bs} (ha:ac a=true):∀ (n:Nat) {p:Bs} {e:Ent},p.length≤n→ah t p=some e→under p a=true→∃ d,ah t a=some d∧d.dir=true
 | 0,p,e,hn,he,hu=>by
   have:=j7 ha hu
   omega
 | n+1,p,e,hn,he,hu=>by
   obtain ⟨h2,h3,h4,h5⟩:=en h he;obtain ⟨g1,g2⟩:=ib h4 ha hu;have hne:ae p≠[47]:=aW g1;obtain ⟨d,hd1,hd2⟩:=h5.resolve_left hne;rcases g2 with g2|g2
   · exact ⟨d,by rw [← g2]; exact hd1,hd2⟩
   · have:=ei h4 hne
     exact lV h ha n (by omega) hd1 g2
theorem EP {t:List Ent} (h:af t=true) {a:Bs} (ha:ac a=true):∀ (n:Nat) {p:Bs} {e:Ent},p.length≤n→ah t p=some e→under p a=true→∃ k∈t,ae k.path=a
 | 0,p,e,hn,he,hu=>by
   have:=j7 ha hu
   omega
 | n+1,p,e,hn,he,hu=>by
   obtain ⟨h2,h3,h4,h5⟩:=en h he;obtain ⟨g1,g2⟩:=ib h4 ha hu;have hne:ae p≠[47]:=aW g1;rcases g2 with g2|g2
   · exact ⟨e,(cg he).1,by rw [h3]; exact g2⟩
   · obtain ⟨d,hd1,hd2⟩:=h5.resolve_left hne
     have:=ei h4 hne
     exact EP h ha n (by omega) hd1 g2
theorem mC {t:List Ent} {p:Bs}:jY t p=[]↔∀ e∈t,ae e.path≠p:=by
 unfold jY;rw [List.map_eq_nil_iff,List.filter_eq_nil_iff]
 simp
theorem oF {t:List Ent} (h:af t=true) {p:Bs} (hp:ac p=true) (hn:∀ d,ah t p=some d→d.dir=false) {q:Bs} (hq:under q p=true):ah t q=none:=by
 cases he:ah t q with
 | none=>rfl
 | some e=>
   exfalso;obtain ⟨d,h1,h2⟩:=lV h hp q.length (zAM _) he hq;rw [hn d h1] at h2;cases h2
theorem rF (t:List Ent) (p q:Bs):ah (iW t p) q=if p=q then none else ah t q:=by
 induction t with
 | nil=>simp [iW,ah]
 | cons e t ih=>
   unfold iW at ih ⊢;rw [List.filter_cons];by_cases hp:e.path=p
   · rw [if_neg (by simpa using hp),ih,aF];by_cases hq:p=q
     · rw [if_pos hq,if_pos hq]
     · rw [if_neg hq,if_neg hq,if_neg (by rw [hp]; exact hq)]
   · rw [if_pos (by simpa using hp),aF,ih,aF];by_cases hq:p=q
     · rw [if_pos hq,if_pos hq,if_neg (by rw [← hq]; exact hp)]
     · rw [if_neg hq,if_neg hq]
theorem qF {t:List Ent} (h:al (aq t)) (p:Bs):al (aq (iW t p)):=by
 unfold iW;unfold al aq at h ⊢;rw [zBE] at h ⊢;exact h.filter _
theorem pM:∀ {L X:List Ent},al (aq X)→(aq L).Nodup→∀ q,ah (cb X L) q=(ah L q).or (ah X q)
 | [],X,_,_,q=>by simp [cb,ah]
 | e :: r,X,hs,hn,q=>by
   have hn2:=List.nodup_cons.1 hn;have ih:=pM (L:=r) (jp hs e) hn2.2 q
   have:cb X (e :: r)=cb (dF X e) r:=rfl
   rw [this,ih,w7 hs,aF];by_cases he:e.path=q
   · rw [if_pos he,if_pos he]
     have:ah r q=none:=bU.2 (by rw [← he]; exact hn2.1)
     rw [this];rfl
   · rw [if_neg he,if_neg he]
theorem pN {f:Ent→Ent} {q s:Bs}:∀ {t:List Ent},(∀ e∈t,(f e).path=q↔e.path=s)→ah (t.map f) q=(ah t s).map f
 | [],_=>rfl
 | e :: t,h=>by
   have ih:=pN (t:=t) fun x hx=>h x (by simp [hx]);rw [List.map_cons,aF,aF,ih];by_cases he:e.path=s
   · rw [if_pos he,if_pos ((h e (by simp)).2 he)]; rfl
   · rw [if_neg he,if_neg fun hq=>he ((h e (by simp)).1 hq)]
theorem sP {f:Ent→Ent} {q:Bs} {t:List Ent} (h:∀ e∈t,(f e).path≠q):ah (t.map f) q=none:=by
 refine bU.2 fun hm=>?_;obtain ⟨x,hx,hq⟩:=List.mem_map.1 hm;obtain ⟨e,he,rfl⟩:=List.mem_map.1 hx;exact h e he hq
theorem vA {t:List Ent} (hl:t.length≤16) (hs:al (aq t)) (h:∀ p e,ah t p=some e→ew e=true∧(ae p=[47]∨∃ d,ah t (ae p)=some d∧d.dir=true)):af t=true:=by
 refine nw.2 ⟨hl,hs,fun e he=>?_⟩;have h1:=h e.path e (iZ hs he);exact ⟨h1.1,eR.2 h1.2⟩
theorem qG:∀ {t:List Ent} {e:Ent},e.path∈aq t→al (aq t)→(dF t e).length=t.length
 | [],_,h,_=>by simp at h
 | x :: r,e,h,hs=>by
   unfold dF;by_cases h1:lt x.path e.path=true
   · rw [if_pos h1];have hm:e.path∈aq r:=by
      rcases List.mem_cons.1 h with h|h
      · rw [h,fW] at h1; cases h1
      · exact h
     simp [qG hm (aD hs)]
   · rw [if_neg h1];by_cases h2:x.path=e.path
     · rw [if_pos h2]; simp
     · exfalso;rcases List.mem_cons.1 h with h|h
       · exact h2 h.symm
       · exact h1 (aM hs e.path h)
end Go.Par
