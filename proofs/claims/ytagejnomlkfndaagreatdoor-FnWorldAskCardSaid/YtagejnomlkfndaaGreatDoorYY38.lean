/- Texts of this claim, set close: lemmas and contracts. -/
import Derived.Test.YtagejnomlkfndaaGreatDoorYY35
import Derived.Test.YtagejnomlkfndaaGreatDoorYY34
set_option linter.unusedSimpArgs false
set_option linter.unusedVariables false
set_option maxHeartbeats 1000000
set_option maxRecDepth 10000
namespace Go.Proofs.YtagejnomlkfndaaGreatDoor
open Go Go.RowKit Go.Ab Go.Par
variable {m:Int}
theorem qe (n:Int):Con (E m) 69 0 [.k .i64 n] [] (.b (dJ n)) []:=by
 by_cases h1:0≤n
 · by_cases h2:n≤2
   · refine G0 Tryz.func69 ?_;repeat' first|refine Rx ⟨?_⟩|refine Rd (fun h=>⟨?_⟩) fun h=>⟨?_⟩|fail
     refine Rg ⟨?_⟩
     first|rfl|(simp_all [dJ]; done)|(simp [dJ] <;> (repeat' split) <;> omega)|(simp only [dJ]; repeat' split) <;> first|omega|(simp_all; done)|(simp_all; omega)|(rw [zAK]; simp [*,dJ] <;> omega)
   · refine G0 Tryz.func69 ?_;repeat' first|refine Rx ⟨?_⟩|refine Rd (fun h=>⟨?_⟩) fun h=>⟨?_⟩|fail
     refine Rg ⟨?_⟩
     first|rfl|(simp_all [dJ]; done)|(simp [dJ] <;> (repeat' split) <;> omega)|(simp only [dJ]; repeat' split) <;> first|omega|(simp_all; done)|(simp_all; omega)|(rw [zAK]; simp [*,dJ] <;> omega)
 · refine G0 Tryz.func69 ?_;repeat' first|refine Rx ⟨?_⟩|refine Rd (fun h=>⟨?_⟩) fun h=>⟨?_⟩|fail
   refine Rg ⟨?_⟩
   first|rfl|(simp_all [dJ]; done)|(simp [dJ] <;> (repeat' split) <;> omega)|(simp only [dJ]; repeat' split) <;> first|omega|(simp_all; done)|(simp_all; omega)|(rw [zAK]; simp [*,dJ] <;> omega)
theorem vH (o:Ovr) (hb:gM o):Con (E m) 89 0 [.agg o.c] [] (vwD (bv o)) []:=by
 have c1:=gY (m:=m) o hb;have c2:=fD (m:=m) o hb;cases h:bv o with
 | none=>
   have:fF o=false:=by rw [fF,h]; rfl
   rw [this] at c1;refine G0 Tryz.func89 ?_;repeat' first|refine Ra ⟨?_⟩|refine R0 c1 ⟨?_⟩|refine Rd (fun h=>⟨?_⟩) fun h=>⟨?_⟩|refine Rb ⟨?_⟩|fail
   exact Rz
 | some x=>
   have h1:fF o=true:=by rw [fF,h]; rfl
   rw [h1] at c1;have h2:gi o=some x.2:=by
    obtain ⟨t,v⟩:=x;obtain ⟨g1,g2,g3⟩:=dz.1 h;rw [gi,g1];exact g2
   rw [h2] at c2;refine G0 Tryz.func89 ?_;repeat' first|refine Ra ⟨?_⟩|refine R0 c1 ⟨?_⟩|refine R0 c2 ⟨?_⟩|refine Rd (fun h=>⟨?_⟩) fun h=>⟨?_⟩|refine Rb ⟨?_⟩|fail
   exact Rz
theorem Dk (w:Wld) (hb:dO w):Con (E m) 90 0 [.agg w.c] [] (.b (ji w)) []:=by
 have hhl:=hb.hl;have hfl:=hb.fl;have hnl:=hb.nl;have e1:(w.holds.map cy).length=w.holds.length:=zAA ..;have e2:(ck w.floors).length=w.floors.length:=zAA ..;have e3:(w.net.map Mes.c).length=w.net.length:=zAA ..;by_cases hn:De w∧w.net.length≤12
 · obtain ⟨⟨h1,h2,h3,h4,h5,h6⟩,h7⟩:=hn;have hx:ji w=w.floors.all fun f=>decide (0≤f) && decide (f≤w.count):=by simp [ji,h1,h2,h3,h4,h5,h6,h7]
   rw [hx];refine G0 Tryz.func90 ?_;repeat' first|refine Rx ⟨?_⟩|refine Rd (fun h=>⟨?_⟩) fun h=>⟨?_⟩|fail
   refine Cd.loop2 (fun mq tm S nx=>∃ (i:Nat),mq=(w.floors.length - i)∧tm=[(1,.bp 0 0),(3,.k .i64 i)]∧S=[(0,.box 55 w.c)]∧nx=1∧(i≤w.floors.length)∧((w.floors.all fun f=>decide (0≤f) && decide (f≤w.count))=((w.floors.drop i).all fun f=>decide (0≤f) && decide (f≤w.count)))) ?_ ?_
   · refine la [1,3] ?_
     conv=>whnf
     refine ⟨rfl,rfl,_,0,rfl,rfl,rfl,rfl,zAG _,rfl⟩
   · rintro mq tm S nx ⟨i,hn,rfl,rfl,rfl,hi,ha⟩;rcases av w.floors i hi with ⟨rfl,hd⟩|⟨f,r,hx',hd,hr,hlt⟩
     · rw [hd] at ha;rw [ha];repeat' first|refine Rx ⟨?_⟩|refine Rd (fun h=>⟨?_⟩) fun h=>⟨?_⟩|fail
       exact Rf
     · rw [hd,List.all_cons] at ha;by_cases g1:0≤f
       · by_cases g2:f≤w.count
         · rw [decide_eq_true g1,decide_eq_true g2] at ha;repeat' first|refine Rx ⟨?_⟩|refine Rd (fun h=>⟨?_⟩) fun h=>⟨?_⟩|fail
           refine .here ⟨mq - 1,by omega,?_⟩;refine la [1,3] ?_
           conv=>whnf
           refine ⟨rfl,rfl,i+1,(by omega),rfl,rfl,rfl,by omega,(by rw [ha,hr]; simp)⟩
         · rw [decide_eq_false g2] at ha;simp only [zBH,zAg] at ha;rw [ha];repeat' first|refine Rx ⟨?_⟩|refine Rd (fun h=>⟨?_⟩) fun h=>⟨?_⟩|fail
           exact Rf
       · rw [decide_eq_false g1] at ha;simp only [zAg] at ha;rw [ha];repeat' first|refine Rx ⟨?_⟩|refine Rd (fun h=>⟨?_⟩) fun h=>⟨?_⟩|fail
         exact Rf
 · have hx:ji w=false:=by
     rw [← zAZ];intro h;simp only [ji,zAE,decide_eq_true_eq] at h;obtain ⟨⟨⟨⟨⟨⟨⟨a1,a2⟩,a3⟩,a4⟩,a5⟩,a6⟩,a7⟩,a8⟩:=h;exact hn ⟨⟨a1,a2,a3,a4,a5,a6⟩,a7⟩
   rw [hx];unfold De at hn;refine G0 Tryz.func90 ?_;repeat' first|refine Rx ⟨?_⟩|refine Rd (fun h=>⟨?_⟩) fun h=>⟨?_⟩|fail
   all_goals first|exact Rf|(exfalso; omega)
def lsD:Option Lse→D
 | some l=>.tup [.agg l.c,.b true]
 | none=>.tup [.agg [.k .i64 0,.s [],.k .i64 0,.k .i64 0],.b false]
theorem Dl (w:Wld) (who:Int) (p:Bs) (hll:w.leases.length≤1048576):Con (E m) 222 0 [.agg w.c,.k .i64 who,.s p] [] (lsD (eG w.leases who p)) []:=by
 have e1:(w.leases.map Lse.c).length=w.leases.length:=zAA ..;refine G0 Tryz.func222 ?_;repeat' first|refine Rx ⟨?_⟩|refine Rd (fun h=>⟨?_⟩) fun h=>⟨?_⟩|fail
 refine Cd.loop2 (fun mq tm S nx=>∃ (i:Nat),mq=(w.leases.length - i)∧tm=[(1,.k .i64 who),(2,.s p),(3,.bp 0 0),(6,.bp 1 0),(8,.k .i64 i)]∧S=[(0,.box 55 w.c),(1,.box 132 [.k .i64 0,.s [],.k .i64 0,.k .i64 0])]∧nx=2∧(i≤w.leases.length)∧(eG w.leases who p=eG (w.leases.drop i) who p)) ?_ ?_
 · refine la [1,2,3,6,8] ?_
   conv=>whnf
   refine ⟨rfl,rfl,_,0,rfl,rfl,rfl,rfl,zAG _,rfl⟩
 · rintro mq tm S nx ⟨i,hn,rfl,rfl,rfl,hi,ha⟩;rcases av w.leases i hi with ⟨rfl,hd⟩|⟨x,r,hx',hd,hr,hlt⟩
   · rw [hd] at ha;rw [ha];repeat' first|refine Rx ⟨?_⟩|refine Rd (fun h=>⟨?_⟩) fun h=>⟨?_⟩|fail
     exact Rf
   · have hc:eG (x :: r) who p=(if aW who p x=true then some x else eG r who p):=by
       rw [eG,List.find?_cons];cases aW who p x <;> rfl
     rw [hd,hc] at ha;by_cases g1:x.who=who
     · by_cases g2:x.path=p
       · have q:aW who p x=true:=by simp [aW,g1,g2]
         rw [if_pos q] at ha;rw [ha];repeat' first|refine Rx ⟨?_⟩|refine Rd (fun h=>⟨?_⟩) fun h=>⟨?_⟩|fail
         exact Rf
       · have q:aW who p x=false:=by simp [aW,g2]
         rw [if_neg (by rw [q]; simp)] at ha;repeat' first|refine Rx ⟨?_⟩|refine Rd (fun h=>⟨?_⟩) fun h=>⟨?_⟩|fail
         refine .here ⟨mq - 1,by omega,?_⟩;refine la [1,2,3,6,8] ?_
         conv=>whnf
         refine ⟨rfl,rfl,i+1,(by omega),rfl,rfl,rfl,by omega,(by rw [ha,hr])⟩
     · have q:aW who p x=false:=by simp [aW,g1]
       rw [if_neg (by rw [q]; simp)] at ha;repeat' first|refine Rx ⟨?_⟩|refine Rd (fun h=>⟨?_⟩) fun h=>⟨?_⟩|fail
       refine .here ⟨mq - 1,by omega,?_⟩;refine la [1,2,3,6,8] ?_
       conv=>whnf
       refine ⟨rfl,rfl,i+1,(by omega),rfl,rfl,rfl,by omega,(by rw [ha,hr])⟩
theorem A7 (w:Wld) (hb:dO w) (hc:0≤w.clock∧w.clock≤10000):Con (E m) 91 0 [.agg w.c] [] (.b (vv w.count w.clock w.leases)) []:=by
 have hll:=hb.ll;have e1:(w.leases.map Lse.c).length=w.leases.length:=zAA ..;unfold vv;refine G0 Tryz.func91 ?_;repeat' first|refine Rx ⟨?_⟩|refine Rd (fun h=>⟨?_⟩) fun h=>⟨?_⟩|fail
 refine Cd.loop2 (fun mq tm S nx=>∃ (i:Nat),mq=(w.leases.length - i)∧tm=[(1,.bp 0 0),(3,.k .i64 i)]∧S=[(0,.box 55 w.c)]∧nx=1∧(i≤w.leases.length)∧((List.range w.leases.length).all (mX w.count w.clock w.leases)=((List.range w.leases.length).drop i).all (mX w.count w.clock w.leases))) ?_ ?_
 · refine la [1,3] ?_
   conv=>whnf
   refine ⟨rfl,rfl,_,0,rfl,rfl,rfl,rfl,zAG _,rfl⟩
 · rintro mq tm S nx ⟨i,hn,rfl,rfl,rfl,hi,ha⟩;by_cases hlt:i < w.leases.length
   · have hx':w.leases[i]?=some w.leases[i]:=zAB hlt;generalize w.leases[i]=x at hx';rw [iH hlt,List.all_cons] at ha;have hbx:=hb.ls x (zAD hx');have c1:=qe (m:=m) x.who;have c2:=cY (m:=m) x.path (by unfold C8 at hbx; omega);have hat:mX w.count w.clock w.leases i=(dJ x.who && ah x.path && decide (1≤x.num) && decide (x.num≤w.count) && decide (x.til≤w.clock+5) && (w.leases.take i).all fun k=>!aW x.who x.path k):=by rw [mX,hx']
     by_cases hg:dJ x.who=true∧ah x.path=true∧1≤x.num∧x.num≤w.count∧x.til≤w.clock+5
     · obtain ⟨b1,b2,b3,b4,b5⟩:=hg;rw [b1] at c1;rw [b2] at c2;have hat:mX w.count w.clock w.leases i=(w.leases.take i).all fun k=>!aW x.who x.path k:=by rw [hat,b1,b2,decide_eq_true b3,decide_eq_true b4,decide_eq_true b5]; simp
       repeat' first|refine Ra ⟨?_⟩|refine R0 c1 ⟨?_⟩|refine R0 c2 ⟨?_⟩|refine Rd (fun h=>⟨?_⟩) fun h=>⟨?_⟩|refine Rb ⟨?_⟩|fail
       obtain ⟨mo,hmo⟩:∃ mo,mo=mq:=⟨_,rfl⟩;subst hmo;have hno:=hn;refine Cd.loop2 (fun mq tm S nx=>∃ (k:Nat),mq=(i - k)∧tm=[(1,.bp 0 0),(3,.k .i64 i),(4,.bp 1 0),(5,.k .i64 k)]∧S=[(0,.box 55 w.c),(1,.box 132 x.c)]∧nx=2∧(k≤i)∧((w.leases.take k).all (fun y=>!aW x.who x.path y)=true)) ?_ ?_
       · refine la [1,3,4,5] ?_
         conv=>whnf
         refine ⟨rfl,rfl,_,0,rfl,rfl,rfl,rfl,zAG _,rfl⟩
       · rintro mq tm S nx ⟨k,hn,rfl,rfl,rfl,hk,hp⟩;by_cases hki:k < i
         · have hy:w.leases[k]?=some (w.leases[k]'(by omega)):=zAB (by omega);generalize w.leases[k]'(by omega)=y at hy;by_cases q1:y.who=x.who
           · by_cases q2:y.path=x.path
             · have hf:((w.leases.take i).all fun k=>!aW x.who x.path k)=false:=dM (i:=k) (x:=y) (by rw [zAn,if_pos hki]; exact hy) (by simp [aW,q1,q2]);rw [hat,hf,zAg] at ha;rw [ha];repeat' first|refine Rx ⟨?_⟩|refine Rd (fun h=>⟨?_⟩) fun h=>⟨?_⟩|fail
               exact Rf
             · repeat' first|refine Rx ⟨?_⟩|refine Rd (fun h=>⟨?_⟩) fun h=>⟨?_⟩|fail
               refine .here ⟨mq - 1,by omega,?_⟩;refine la [1,3,4,5] ?_
               conv=>whnf
               refine ⟨rfl,rfl,k+1,(by omega),rfl,rfl,rfl,by omega,bN hp hy (by simp [aW,q2])⟩
           · repeat' first|refine Rx ⟨?_⟩|refine Rd (fun h=>⟨?_⟩) fun h=>⟨?_⟩|fail
             refine .here ⟨mq - 1,by omega,?_⟩;refine la [1,3,4,5] ?_
             conv=>whnf
             refine ⟨rfl,rfl,k+1,(by omega),rfl,rfl,rfl,by omega,bN hp hy (by simp [aW,q1])⟩
         · have:k=i:=by omega
           subst this;rw [hat,hp,zAx] at ha;repeat' first|refine Rx ⟨?_⟩|refine Rd (fun h=>⟨?_⟩) fun h=>⟨?_⟩|fail
           refine .here ⟨mo - 1,by omega,?_⟩;refine la [1,3] ?_
           conv=>whnf
           refine ⟨rfl,rfl,k+1,(by omega),rfl,rfl,rfl,by omega,ha⟩
     · have hf:mX w.count w.clock w.leases i=false:=by
         rw [hat,← zAZ];intro h;simp only [zAE,decide_eq_true_eq] at h;exact hg ⟨h.1.1.1.1.1,h.1.1.1.1.2,h.1.1.1.2,h.1.1.2,h.1.2⟩
       rw [hf,zAg] at ha;rw [ha];repeat' first|refine Ra ⟨?_⟩|refine R0 c1 ⟨?_⟩|refine R0 c2 ⟨?_⟩|refine Rd (fun h=>⟨?_⟩) fun h=>⟨?_⟩|refine Rb ⟨?_⟩|fail
       all_goals first|exact Rf|(exfalso; simp_all <;> omega)
   · have:i=w.leases.length:=by omega
     subst this;rw [e8] at ha;rw [ha];repeat' first|refine Rx ⟨?_⟩|refine Rd (fun h=>⟨?_⟩) fun h=>⟨?_⟩|fail
     exact Rf
theorem Ek (v:List Ent) (w:Wld) (hb:dO w) (hv:v.length≤1073741824) (who:Int) (h:Hld):Con (E m) 163 0 [.agg w.c,.sl (v.map Ent.c),.k .i64 who,.agg h.c] [] (.b (soV v w.clock w.leases who h)) []:=by
 have c1:=eW (m:=m) v h.path hv;have c2:=Dl (m:=m) w who h.path hb.ll;by_cases hc:w.clock < h.til
 · rw [Da hc];obtain ⟨g,has,g1,g2,g3⟩:∃ (g:Ent) (has:Bool),nD (aA v h.path)=.tup [.agg g.c,.b has]∧(aA v h.path).isSome=has∧(aA v h.path).getD b9=g:=by
    cases hg:aA v h.path with
    | none=>exact ⟨b9,false,rfl,rfl,rfl⟩
    | some g=>exact ⟨g,true,rfl,rfl,rfl⟩
   rw [g1] at c1;have hsn:iq v h=(decide (has=h.has) && decide (g=h.ent)):=by rw [iq,g2,g3]
   obtain ⟨l,ok,k1,k2⟩:∃ (l:Lse) (ok:Bool),lsD (eG w.leases who h.path)=.tup [.agg l.c,.b ok]∧mW w.clock w.leases who h=(ok && (decide (w.clock < l.til) && decide (h.num≤l.num) && decide (h.til≤l.til))):=by
    unfold mW;cases hg:eG w.leases who h.path with
    | none=>exact ⟨⟨0,[],0,0⟩,false,rfl,rfl⟩
    | some l=>exact ⟨l,true,rfl,by simp⟩
   rw [k1] at c2;rw [hsn,k2];have e3:ee g h.ent=decide (g=h.ent):=by
    by_cases q:g=h.ent
    · rw [decide_eq_true q,q]; exact D6 _
    · rw [decide_eq_false q]; exact D7 q
   have e4:(has == h.has)=decide (has=h.has):=by
    by_cases q:has=h.has
    · rw [decide_eq_true q,q]; simp
    · rw [decide_eq_false q]; simpa using q
   by_cases q1:has=h.has
   · rw [decide_eq_true q1] at e4 ⊢;by_cases q2:g=h.ent
     · rw [decide_eq_true q2] at e3 ⊢;cases ok with
       | true=>
         refine G0 Tryz.func163 ?_;repeat' first|refine Ra ⟨?_⟩|refine R0 c1 ⟨?_⟩|refine R0 c2 ⟨?_⟩|refine Rd (fun h=>⟨?_⟩) fun h=>⟨?_⟩|refine Rb ⟨?_⟩|fail
         all_goals exact Rf
       | false=>
         refine G0 Tryz.func163 ?_;repeat' first|refine Ra ⟨?_⟩|refine R0 c1 ⟨?_⟩|refine R0 c2 ⟨?_⟩|refine Rd (fun h=>⟨?_⟩) fun h=>⟨?_⟩|refine Rb ⟨?_⟩|fail
         all_goals exact Rf
     · rw [decide_eq_false q2] at e3 ⊢;refine G0 Tryz.func163 ?_;repeat' first|refine Ra ⟨?_⟩|refine R0 c1 ⟨?_⟩|refine R0 c2 ⟨?_⟩|refine Rd (fun h=>⟨?_⟩) fun h=>⟨?_⟩|refine Rb ⟨?_⟩|fail
       all_goals exact Rf
   · rw [decide_eq_false q1] at e4 ⊢;refine G0 Tryz.func163 ?_;repeat' first|refine Ra ⟨?_⟩|refine R0 c1 ⟨?_⟩|refine R0 c2 ⟨?_⟩|refine Rd (fun h=>⟨?_⟩) fun h=>⟨?_⟩|refine Rb ⟨?_⟩|fail
     all_goals exact Rf
 · rw [yO hc];refine G0 Tryz.func163 ?_;repeat' first|refine Rx ⟨?_⟩|refine Rd (fun h=>⟨?_⟩) fun h=>⟨?_⟩|fail
   exact Rf
variable {m:Int}
def n8 (v:List Ent) (w:Wld) (who:Int) (hs:List Hld) (j:Nat):Bool:=vx w.count hs j && match hs[j]? with
 | some h=>soV v w.clock w.leases who h
 | none=>true
theorem vI {α:Type} (l:List α) (f:α→Bool):l.all f=(List.range l.length).all fun j=>match l[j]? with
   | some x=>f x
   | none=>true:=by
 rw [zAK,cq,zAs];constructor
 · intro h j hj;rw [zAB hj];exact h _ (zAX hj)
 · intro h x hx;obtain ⟨j,hj,rfl⟩:=List.mem_iff_getElem.1 hx
   have:=h j hj
   rw [zAB hj] at this;exact this
theorem Hl {v:List Ent} {w:Wld} {k:Nat} {hs:List Hld} (h:w.holds[k]?=some hs):mn v w k=(List.range hs.length).all (n8 v w k hs):=by
 have h1:=ky h;rw [mn,h1,oR,vI hs];rw [zAK,zAE,cq,cq,cq];constructor
 · rintro ⟨a,b⟩ j hj;rw [n8,zAE];refine ⟨a j hj,?_⟩
   have:=b j hj
   cases hq:hs[j]? with
   | none=>rfl
   | some x=>rw [hq] at this; exact this
 · intro a;refine ⟨fun j hj=>?_,fun j hj=>?_⟩
   · have:=a j hj; rw [n8,zAE] at this; exact this.1
   · have:=a j hj
     rw [n8,zAE] at this
     have:=this.2
     cases hq:hs[j]? with
     | none=>rfl
     | some x=>rw [hq] at this; exact this
theorem FD (v:List Ent) (w:Wld) (hb:dO w) (hv:v.length≤1073741824) (who:Nat) (hs:List Hld) (g3:w.holds[who]?=some hs):Con (E m) 93 0 [.agg w.c,.sl (v.map Ent.c),.k .i64 (who:Int)] [] (.b (mn v w who)) []:=by
 obtain ⟨hbx,hln⟩:=hb.hs hs (zAD g3);have e3:(hs.map Hld.c).length=hs.length:=zAA ..;have e4:(w.holds.map cy).length=w.holds.length:=zAA ..;have hwl:=(List.getElem?_eq_some_iff.1 g3).1;have g5:(w.holds.map cy)[who]?=some (cy hs):=mg g3;rw [Hl g3];refine G0 Tryz.func93 ?_;repeat' first|refine Rx ⟨?_⟩|refine Rd (fun h=>⟨?_⟩) fun h=>⟨?_⟩|fail
 refine Cd.loop2 (fun mq tm S nx=>∃ (i:Nat),mq=(hs.length - i)∧tm=[(1,.sl (v.map Ent.c)),(2,.k .i64 (who:Int)),(3,.bp 0 0),(7,.sl (hs.map Hld.c)),(8,.k .i64 i)]∧S=[(0,.box 55 w.c)]∧nx=1∧(i≤hs.length)∧((List.range hs.length).all (n8 v w who hs)=((List.range hs.length).drop i).all (n8 v w who hs))) ?_ ?_
 · refine la [1,2,3,7,8] ?_
   conv=>whnf
   refine ⟨rfl,rfl,_,0,rfl,rfl,rfl,rfl,zAG _,rfl⟩
 · rintro mq tm S nx ⟨i,hn,rfl,rfl,rfl,hi,ha⟩;by_cases hlt:i < hs.length
   · have hx':hs[i]?=some hs[i]:=zAB hlt;generalize hs[i]=x at hx';rw [iH hlt,List.all_cons] at ha;have hbh:=hbx x (zAD hx');have c1:=cY (m:=m) x.path (by have:=hbh.1; omega);have c2:=Ek (m:=m) v w hb hv who x;have hat:n8 v w who hs i=(ah x.path && decide (0≤x.num) && decide (x.num≤w.count) && ((hs.take i).all fun k=>!decide (k.path=x.path)) && soV v w.clock w.leases who x):=by rw [n8,vx,hx']
     by_cases hg:ah x.path=true∧0≤x.num∧x.num≤w.count∧soV v w.clock w.leases who x=true
     · obtain ⟨b1,b2,b3,b4⟩:=hg;rw [b1] at c1;rw [b4] at c2;have hat:n8 v w who hs i=(hs.take i).all fun k=>!decide (k.path=x.path):=by rw [hat,b1,b4,decide_eq_true b2,decide_eq_true b3]; simp
       repeat' first|refine Ra ⟨?_⟩|refine R0 c1 ⟨?_⟩|refine R0 c2 ⟨?_⟩|refine Rd (fun h=>⟨?_⟩) fun h=>⟨?_⟩|refine Rb ⟨?_⟩|fail
       obtain ⟨mo,hmo⟩:∃ mo,mo=mq:=⟨_,rfl⟩;subst hmo;have hno:=hn;refine Cd.loop2 (fun mq tm S nx=>∃ (k:Nat),mq=(i - k)∧tm=[(1,.sl (v.map Ent.c)),(2,.k .i64 (who:Int)),(3,.bp 0 0),(7,.sl (hs.map Hld.c)),(8,.k .i64 i),(9,.bp 1 0),(10,.k .i64 k)]∧S=[(0,.box 55 w.c),(1,.box 68 x.c)]∧nx=2∧(k≤i)∧((hs.take k).all (fun y=>!decide (y.path=x.path))=true)) ?_ ?_
       · refine la [1,2,3,7,8,9,10] ?_
         conv=>whnf
         refine ⟨rfl,rfl,_,0,rfl,rfl,rfl,rfl,zAG _,rfl⟩
       · rintro mq tm S nx ⟨k,hn,rfl,rfl,rfl,hk,hp⟩;by_cases hki:k < i
         · have hy:hs[k]?=some (hs[k]'(by omega)):=zAB (by omega);generalize hs[k]'(by omega)=y at hy;by_cases q2:y.path=x.path
           · have hf:((hs.take i).all fun k=>!decide (k.path=x.path))=false:=dM (i:=k) (x:=y) (by rw [zAn,if_pos hki]; exact hy) (by simp [q2]);rw [hat,hf,zAg] at ha;rw [ha];repeat' first|refine Rx ⟨?_⟩|refine Rd (fun h=>⟨?_⟩) fun h=>⟨?_⟩|fail
             exact Rf
           · repeat' first|refine Rx ⟨?_⟩|refine Rd (fun h=>⟨?_⟩) fun h=>⟨?_⟩|fail
             refine .here ⟨mq - 1,by omega,?_⟩;refine la [1,2,3,7,8,9,10] ?_
             conv=>whnf
             refine ⟨rfl,rfl,k+1,(by omega),rfl,rfl,rfl,by omega,bN hp hy (by simp [q2])⟩
         · have:k=i:=by omega
           subst this;rw [hat,hp,zAx] at ha;repeat' first|refine Rx ⟨?_⟩|refine Rd (fun h=>⟨?_⟩) fun h=>⟨?_⟩|fail
           refine .here ⟨mo - 1,by omega,?_⟩;refine la [1,2,3,7,8] ?_
           conv=>whnf
           refine ⟨rfl,rfl,k+1,(by omega),rfl,rfl,rfl,by omega,ha⟩
     · have hf:n8 v w who hs i=false:=by
         rw [hat,← zAZ];intro h;simp only [zAE,decide_eq_true_eq] at h;exact hg ⟨h.1.1.1.1,h.1.1.1.2,h.1.1.2,h.2⟩
       rw [hf,zAg] at ha;rw [ha];repeat' first|refine Ra ⟨?_⟩|refine R0 c1 ⟨?_⟩|refine R0 c2 ⟨?_⟩|refine Rd (fun h=>⟨?_⟩) fun h=>⟨?_⟩|refine Rb ⟨?_⟩|fail
       all_goals first|exact Rf|(exfalso; simp_all <;> omega)
   · have:i=hs.length:=by omega
     subst this;rw [e8] at ha;rw [ha];repeat' first|refine Rx ⟨?_⟩|refine Rd (fun h=>⟨?_⟩) fun h=>⟨?_⟩|fail
     exact Rf
theorem Dm (w:Wld) (hb:dO w) (x:Mes) (k:Nat) (hs:List Hld) (f:Int) (hk:x.who=(k:Int)) (g3:w.holds[k]?=some hs) (g1:w.floors[k]?=some f):Con (E m) 164 0 [.agg w.c,.agg x.c] [] (.b (decide (x.hold.num≤f) && hs.all fun h=>!(decide (h.path=x.hold.path) && decide (h.num≤x.hold.num)))) []:=by
 obtain ⟨hbx,hln⟩:=hb.hs hs (zAD g3);have e3:(hs.map Hld.c).length=hs.length:=zAA ..;have g5:(w.holds.map cy)[k]?=some (cy hs):=mg g3;obtain ⟨kind,who,h⟩:=x;simp only at hk;subst hk;refine G0 Tryz.func164 ?_;repeat' first|refine Rx ⟨?_⟩|refine Rd (fun h=>⟨?_⟩) fun h=>⟨?_⟩|fail
 refine Cd.loop2 (fun mq tm S nx=>∃ (i:Nat),mq=(hs.length - i)∧tm=[(2,.bp 0 0),(3,.bp 1 0),(5,.sl (hs.map Hld.c)),(6,.k .i64 i)]∧S=[(0,.box 55 w.c),(1,.box 70 (Mes.c ⟨kind,k,h⟩))]∧nx=2∧(i≤hs.length)∧((hs.all fun y=>!(decide (y.path=h.path) && decide (y.num≤h.num)))=((hs.drop i).all fun y=>!(decide (y.path=h.path) && decide (y.num≤h.num))))) ?_ ?_
 · refine la [2,3,5,6] ?_
   conv=>whnf
   refine ⟨rfl,rfl,_,0,rfl,rfl,rfl,rfl,zAG _,rfl⟩
 · rintro mq tm S nx ⟨i,hn,rfl,rfl,rfl,hi,ha⟩;rcases av hs i hi with ⟨rfl,hd⟩|⟨y,r,hy,hd,hr,hlt⟩
   · rw [hd] at ha;rw [ha];repeat' first|refine Rx ⟨?_⟩|refine Rd (fun h=>⟨?_⟩) fun h=>⟨?_⟩|fail
     all_goals exact Rf
   · rw [hd,List.all_cons] at ha;by_cases q1:y.path=h.path
     · by_cases q2:y.num≤h.num
       · rw [decide_eq_true q1,decide_eq_true q2] at ha;simp only [zBN,zAR,zAg] at ha;rw [ha,zBH];repeat' first|refine Rx ⟨?_⟩|refine Rd (fun h=>⟨?_⟩) fun h=>⟨?_⟩|fail
         exact Rf
       · rw [decide_eq_false q2] at ha;repeat' first|refine Rx ⟨?_⟩|refine Rd (fun h=>⟨?_⟩) fun h=>⟨?_⟩|fail
         refine .here ⟨mq - 1,by omega,?_⟩;refine la [2,3,5,6] ?_
         conv=>whnf
         refine ⟨rfl,rfl,i+1,(by omega),rfl,rfl,rfl,by omega,(by rw [ha,hr]; simp)⟩
     · rw [decide_eq_false q1] at ha;repeat' first|refine Rx ⟨?_⟩|refine Rd (fun h=>⟨?_⟩) fun h=>⟨?_⟩|fail
       refine .here ⟨mq - 1,by omega,?_⟩;refine la [2,3,5,6] ?_
       conv=>whnf
       refine ⟨rfl,rfl,i+1,(by omega),rfl,rfl,rfl,by omega,(by rw [ha,hr]; simp)⟩
theorem Hm (v:List Ent) (w:Wld) (hb:dO w) (hv:v.length≤1073741824) (hhl:w.holds.length=3) (hfl:w.floors.length=3) (x:Mes) (hx:nE x.hold):Con (E m) 94 0 [.agg w.c,.sl (v.map Ent.c),.agg x.c] [] (.b (fg w.count x && jw v w x && mp w x)) []:=by
 have c1:=qe (m:=m) x.who;have c2:=cY (m:=m) x.hold.path (by have:=hx.1; omega);by_cases hg:dJ x.who=true∧ah x.hold.path=true∧0≤x.hold.num∧x.hold.num≤w.count∧1≤x.kind∧x.kind≤4
 · obtain ⟨b1,b2,b3,b4,b5,b6⟩:=hg;obtain ⟨k,hk,hk3⟩:=yN b1;have g1:w.floors[k]?=some (w.floors[k]'(by omega)):=zAB (by omega);generalize w.floors[k]'(by omega)=f at g1;have g3:w.holds[k]?=some (w.holds[k]'(by omega)):=zAB (by omega);generalize w.holds[k]'(by omega)=hs at g3;have g2:=qa3 g1;have g4:=ky g3;have c3:=Ek (m:=m) v w hb hv x.who x.hold;have c4:=Dm (m:=m) w hb x k hs f hk g3 g1;rw [b1] at c1;rw [b2] at c2;have e1:fg w.count x=(decide (x.kind=2) || decide (x.hold=aZ x.hold.path x.hold.num)):=by
    rw [fg,b1,b2,decide_eq_true b3,decide_eq_true b4,decide_eq_true b5,decide_eq_true b6]; simp
   have e2:jw v w x=(!decide (x.kind=2) || decide (x.hold.num≤f) || soV v w.clock w.leases x.who x.hold):=by rw [jw,hk,g2]
   have e3:mp w x=(!decide (x.kind=4) || (decide (x.hold.num≤f) && hs.all fun h=>!(decide (h.path=x.hold.path) && decide (h.num≤x.hold.num)))):=by rw [mp,hk,g2,g4]
   rw [e1,e2,e3];clear e1 e2 e3;obtain ⟨kind,who,h⟩:=x;simp only at hk b3 b4 b5 b6 c1 c2 c3 c4 ⊢;subst hk;by_cases h2:kind=2
   · subst h2;simp only [decide_true,Bool.true_or,zAR,zAt,zAx,(by decide:decide ((2:Int)=4)=false),zAQ,zBO];by_cases q:h.num≤f
     · rw [decide_eq_true q,Bool.true_or];refine G0 Tryz.func94 ?_;repeat' first|refine Ra ⟨?_⟩|refine R0 c1 ⟨?_⟩|refine R0 c2 ⟨?_⟩|refine R0 c3 ⟨?_⟩|refine Rd (fun h=>⟨?_⟩) fun h=>⟨?_⟩|refine Rb ⟨?_⟩|fail
       all_goals exact Rf
     · rw [decide_eq_false q,zAt];refine G0 Tryz.func94 ?_;repeat' first|refine Ra ⟨?_⟩|refine R0 c1 ⟨?_⟩|refine R0 c2 ⟨?_⟩|refine R0 c3 ⟨?_⟩|refine Rd (fun h=>⟨?_⟩) fun h=>⟨?_⟩|refine Rb ⟨?_⟩|fail
       all_goals exact Rf
   · rw [decide_eq_false h2,zAt,zAQ,Bool.true_or,Bool.true_or,zBO];have e9:eh h (aZ h.path h.num)=decide (h=aZ h.path h.num):=by
      by_cases q:h=aZ h.path h.num
      · rw [decide_eq_true q];rw [← q];exact Hc _
      · rw [decide_eq_false q]; exact ID q
     by_cases q:h=aZ h.path h.num
     · rw [decide_eq_true q] at e9 ⊢;rw [zAx];by_cases h4:kind=4
       · subst h4;simp only [decide_true,zAR,zAt];refine G0 Tryz.func94 ?_;repeat' first|refine Ra ⟨?_⟩|refine R0 c1 ⟨?_⟩|refine R0 c2 ⟨?_⟩|refine R0 c3 ⟨?_⟩|refine R0 c4 ⟨?_⟩|refine Rd (fun h=>⟨?_⟩) fun h=>⟨?_⟩|refine Rb ⟨?_⟩|fail
         all_goals exact Rf
       · rw [decide_eq_false h4];refine G0 Tryz.func94 ?_;repeat' first|refine Ra ⟨?_⟩|refine R0 c1 ⟨?_⟩|refine R0 c2 ⟨?_⟩|refine R0 c3 ⟨?_⟩|refine R0 c4 ⟨?_⟩|refine Rd (fun h=>⟨?_⟩) fun h=>⟨?_⟩|refine Rb ⟨?_⟩|fail
         all_goals exact Rf
     · rw [decide_eq_false q] at e9 ⊢;rw [zAg];refine G0 Tryz.func94 ?_;repeat' first|refine Ra ⟨?_⟩|refine R0 c1 ⟨?_⟩|refine R0 c2 ⟨?_⟩|refine R0 c3 ⟨?_⟩|refine R0 c4 ⟨?_⟩|refine Rd (fun h=>⟨?_⟩) fun h=>⟨?_⟩|refine Rb ⟨?_⟩|fail
       all_goals exact Rf
 · have hf:fg w.count x=false:=by
     rw [← zAZ];intro h;simp only [fg,zAE,decide_eq_true_eq] at h;obtain ⟨⟨⟨⟨⟨⟨a1,a2⟩,a3⟩,a4⟩,a5⟩,a6⟩,a7⟩:=h;exact hg ⟨a3,a4,a5,a6,a1,a2⟩
   rw [hf,zAg,zAg];by_cases b1:dJ x.who=true
   · rw [b1] at c1;by_cases b2:ah x.hold.path=true
     · rw [b2] at c2;have hg:¬ (0≤x.hold.num∧x.hold.num≤w.count∧1≤x.kind∧x.kind≤4):=fun h=>hg ⟨b1,b2,h⟩;by_cases b3:0≤x.hold.num
       · by_cases b4:x.hold.num≤w.count
         · by_cases b5:1≤x.kind
           · have b6:¬ x.kind≤4:=fun h=>hg ⟨b3,b4,b5,h⟩;refine G0 Tryz.func94 ?_;repeat' first|refine Ra ⟨?_⟩|refine R0 c1 ⟨?_⟩|refine R0 c2 ⟨?_⟩|refine Rd (fun h=>⟨?_⟩) fun h=>⟨?_⟩|refine Rb ⟨?_⟩|fail
             all_goals exact Rf
           · refine G0 Tryz.func94 ?_;repeat' first|refine Ra ⟨?_⟩|refine R0 c1 ⟨?_⟩|refine R0 c2 ⟨?_⟩|refine Rd (fun h=>⟨?_⟩) fun h=>⟨?_⟩|refine Rb ⟨?_⟩|fail
             all_goals exact Rf
         · refine G0 Tryz.func94 ?_;repeat' first|refine Ra ⟨?_⟩|refine R0 c1 ⟨?_⟩|refine R0 c2 ⟨?_⟩|refine Rd (fun h=>⟨?_⟩) fun h=>⟨?_⟩|refine Rb ⟨?_⟩|fail
           all_goals exact Rf
       · refine G0 Tryz.func94 ?_;repeat' first|refine Ra ⟨?_⟩|refine R0 c1 ⟨?_⟩|refine R0 c2 ⟨?_⟩|refine Rd (fun h=>⟨?_⟩) fun h=>⟨?_⟩|refine Rb ⟨?_⟩|fail
         all_goals exact Rf
     · have b2:ah x.hold.path=false:=by simpa using b2
       rw [b2] at c2;refine G0 Tryz.func94 ?_;repeat' first|refine Ra ⟨?_⟩|refine R0 c1 ⟨?_⟩|refine R0 c2 ⟨?_⟩|refine Rd (fun h=>⟨?_⟩) fun h=>⟨?_⟩|refine Rb ⟨?_⟩|fail
       all_goals exact Rf
   · have b1:dJ x.who=false:=by simpa using b1
     rw [b1] at c1;refine G0 Tryz.func94 ?_;repeat' first|refine Ra ⟨?_⟩|refine R0 c1 ⟨?_⟩|refine R0 c2 ⟨?_⟩|refine Rd (fun h=>⟨?_⟩) fun h=>⟨?_⟩|refine Rb ⟨?_⟩|fail
     all_goals exact Rf
end Go.Proofs.YtagejnomlkfndaaGreatDoor
