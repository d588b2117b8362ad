/- Texts of this claim, set close: lemmas and contracts. -/
import Derived.Test.YtlicaibhgcenhaaGreatDoorYY12
import Derived.Test.YtlicaibhgcenhaaGreatDoorYY11
set_option linter.unusedSimpArgs false
set_option linter.unusedVariables false
set_option maxHeartbeats 1000000
set_option maxRecDepth 10000
namespace Go.Proofs.YtlicaibhgcenhaaGreatDoor
open Go Go.RowKit Go.Ab Go.Par
variable {m:Int}
def m6 (v:List Ent) (w:Wld) (who:Int) (hs:List Hld) (j:Nat):Bool:=uv w.count hs j && match hs[j]? with
 | some h=>soV v w.clock w.leases who h
 | none=>true
theorem ux {α:Type} (l:List α) (f:α→Bool):l.all f=(List.range l.length).all fun j=>match l[j]? with
   | some x=>f x
   | none=>true:=by
 rw [zAI,bN,zAr];constructor
 · intro h j hj;rw [zAB hj];exact h _ (zAb hj)
 · intro h x hx;obtain ⟨j,hj,rfl⟩:=List.mem_iff_getElem.1 hx
   have:=h j hj
   rw [zAB hj] at this;exact this
theorem Fa {v:List Ent} {w:Wld} {k:Nat} {hs:List Hld} (h:w.holds[k]?=some hs):lq v w k=(List.range hs.length).all (m6 v w k hs):=by
 have h1:=fY h;rw [lq,h1,nG,ux hs];rw [zAI,zAC,bN,bN,bN];constructor
 · rintro ⟨a,b⟩ j hj;rw [m6,zAC];refine ⟨a j hj,?_⟩
   have:=b j hj
   cases hq:hs[j]? with
   | none=>rfl
   | some x=>rw [hq] at this; exact this
 · intro a;refine ⟨fun j hj=>?_,fun j hj=>?_⟩
   · have:=a j hj; rw [m6,zAC] at this; exact this.1
   · have:=a j hj
     rw [m6,zAC] at this
     have:=this.2
     cases hq:hs[j]? with
     | none=>rfl
     | some x=>rw [hq] at this; exact this
theorem Dr (v:List Ent) (w:Wld) (hb:du w) (hv:v.length≤1073741824) (who:Nat) (hs:List Hld) (g3:w.holds[who]?=some hs):Con (E m) 91 0 [.agg w.c,.sl (v.map Ent.c),.k .i64 (who:Int)] [] (.b (lq v w who)) []:=by
 obtain ⟨hbx,hln⟩:=hb.hs hs (zAD g3);have e3:(hs.map Hld.c).length=hs.length:=zAA ..;have e4:(w.holds.map gy).length=w.holds.length:=zAA ..;have hwl:=(List.getElem?_eq_some_iff.1 g3).1;have g5:(w.holds.map gy)[who]?=some (gy hs):=mg g3;rw [Fa g3];refine G0 Tryz.func91 ?_;repeat' first|refine Rx ⟨?_⟩|refine Rd (fun h=>⟨?_⟩) fun h=>⟨?_⟩|fail
 refine Cd.loop2 (fun mq tm S nx=>∃ (i:Nat),mq=(hs.length - i)∧tm=[(1,.sl (v.map Ent.c)),(2,.k .i64 (who:Int)),(3,.bp 0 0),(7,.sl (hs.map Hld.c)),(8,.k .i64 i)]∧S=[(0,.box 54 w.c)]∧nx=1∧(i≤hs.length)∧((List.range hs.length).all (m6 v w who hs)=((List.range hs.length).drop i).all (m6 v w who hs))) ?_ ?_
 · refine la [1,2,3,7,8] ?_
   conv=>whnf
   refine ⟨rfl,rfl,_,0,rfl,rfl,rfl,rfl,zAG _,rfl⟩
 · rintro mq tm S nx ⟨i,hn,rfl,rfl,rfl,hi,ha⟩;by_cases hlt:i < hs.length
   · have hx':hs[i]?=some hs[i]:=zAB hlt;generalize hs[i]=x at hx';rw [gP hlt,List.all_cons] at ha;have hbh:=hbx x (zAD hx');have c1:=cc (m:=m) x.path (by have:=hbh.1; omega);have c2:=Cj (m:=m) v w hb hv who x;have hat:m6 v w who hs i=(ac x.path && decide (0≤x.num) && decide (x.num≤w.count) && ((hs.take i).all fun k=>!decide (k.path=x.path)) && soV v w.clock w.leases who x):=by rw [m6,uv,hx']
     by_cases hg:ac x.path=true∧0≤x.num∧x.num≤w.count∧soV v w.clock w.leases who x=true
     · obtain ⟨b1,b2,b3,b4⟩:=hg;rw [b1] at c1;rw [b4] at c2;have hat:m6 v w who hs i=(hs.take i).all fun k=>!decide (k.path=x.path):=by rw [hat,b1,b4,decide_eq_true b2,decide_eq_true b3]; simp
       repeat' first|refine Ra ⟨?_⟩|refine R0 c1 ⟨?_⟩|refine R0 c2 ⟨?_⟩|refine Rd (fun h=>⟨?_⟩) fun h=>⟨?_⟩|refine Rb ⟨?_⟩|fail
       obtain ⟨mo,hmo⟩:∃ mo,mo=mq:=⟨_,rfl⟩;subst hmo;have hno:=hn;refine Cd.loop2 (fun mq tm S nx=>∃ (k:Nat),mq=(i - k)∧tm=[(1,.sl (v.map Ent.c)),(2,.k .i64 (who:Int)),(3,.bp 0 0),(7,.sl (hs.map Hld.c)),(8,.k .i64 i),(9,.bp 1 0),(10,.k .i64 k)]∧S=[(0,.box 54 w.c),(1,.box 152 x.c)]∧nx=2∧(k≤i)∧((hs.take k).all (fun y=>!decide (y.path=x.path))=true)) ?_ ?_
       · refine la [1,2,3,7,8,9,10] ?_
         conv=>whnf
         refine ⟨rfl,rfl,_,0,rfl,rfl,rfl,rfl,zAG _,rfl⟩
       · rintro mq tm S nx ⟨k,hn,rfl,rfl,rfl,hk,hp⟩;by_cases hki:k < i
         · have hy:hs[k]?=some (hs[k]'(by omega)):=zAB (by omega);generalize hs[k]'(by omega)=y at hy;by_cases q2:y.path=x.path
           · have hf:((hs.take i).all fun k=>!decide (k.path=x.path))=false:=cr (i:=k) (x:=y) (by rw [zAk,if_pos hki]; exact hy) (by simp [q2]);rw [hat,hf,zAh] at ha;rw [ha];repeat' first|refine Rx ⟨?_⟩|refine Rd (fun h=>⟨?_⟩) fun h=>⟨?_⟩|fail
             exact Rf
           · repeat' first|refine Rx ⟨?_⟩|refine Rd (fun h=>⟨?_⟩) fun h=>⟨?_⟩|fail
             refine .here ⟨mq - 1,by omega,?_⟩;refine la [1,2,3,7,8,9,10] ?_
             conv=>whnf
             refine ⟨rfl,rfl,k+1,(by omega),rfl,rfl,rfl,by omega,bA hp hy (by simp [q2])⟩
         · have:k=i:=by omega
           subst this;rw [hat,hp,zBA] at ha;repeat' first|refine Rx ⟨?_⟩|refine Rd (fun h=>⟨?_⟩) fun h=>⟨?_⟩|fail
           refine .here ⟨mo - 1,by omega,?_⟩;refine la [1,2,3,7,8] ?_
           conv=>whnf
           refine ⟨rfl,rfl,k+1,(by omega),rfl,rfl,rfl,by omega,ha⟩
     · have hf:m6 v w who hs i=false:=by
         rw [hat,← zAa];intro h;simp only [zAC,decide_eq_true_eq] at h;exact hg ⟨h.1.1.1.1,h.1.1.1.2,h.1.1.2,h.2⟩
       rw [hf,zAh] at ha;rw [ha];repeat' first|refine Ra ⟨?_⟩|refine R0 c1 ⟨?_⟩|refine R0 c2 ⟨?_⟩|refine Rd (fun h=>⟨?_⟩) fun h=>⟨?_⟩|refine Rb ⟨?_⟩|fail
       all_goals first|exact Rf|(exfalso; simp_all <;> omega)
   · have:i=hs.length:=by omega
     subst this;rw [dV] at ha;rw [ha];repeat' first|refine Rx ⟨?_⟩|refine Rd (fun h=>⟨?_⟩) fun h=>⟨?_⟩|fail
     exact Rf
theorem Bh (w:Wld) (hb:du w) (x:Mes) (k:Nat) (hs:List Hld) (f:Int) (hk:x.who=(k:Int)) (g3:w.holds[k]?=some hs) (g1:w.floors[k]?=some f):Con (E m) 165 0 [.agg w.c,.agg x.c] [] (.b (decide (x.hold.num≤f) && hs.all fun h=>!(decide (h.path=x.hold.path) && decide (h.num≤x.hold.num)))) []:=by
 obtain ⟨hbx,hln⟩:=hb.hs hs (zAD g3);have e3:(hs.map Hld.c).length=hs.length:=zAA ..;have g5:(w.holds.map gy)[k]?=some (gy hs):=mg g3;obtain ⟨kind,who,h⟩:=x;simp only at hk;subst hk;refine G0 Tryz.func165 ?_;repeat' first|refine Rx ⟨?_⟩|refine Rd (fun h=>⟨?_⟩) fun h=>⟨?_⟩|fail
 refine Cd.loop2 (fun mq tm S nx=>∃ (i:Nat),mq=(hs.length - i)∧tm=[(2,.bp 0 0),(3,.bp 1 0),(5,.sl (hs.map Hld.c)),(6,.k .i64 i)]∧S=[(0,.box 54 w.c),(1,.box 154 (Mes.c ⟨kind,k,h⟩))]∧nx=2∧(i≤hs.length)∧((hs.all fun y=>!(decide (y.path=h.path) && decide (y.num≤h.num)))=((hs.drop i).all fun y=>!(decide (y.path=h.path) && decide (y.num≤h.num))))) ?_ ?_
 · refine la [2,3,5,6] ?_
   conv=>whnf
   refine ⟨rfl,rfl,_,0,rfl,rfl,rfl,rfl,zAG _,rfl⟩
 · rintro mq tm S nx ⟨i,hn,rfl,rfl,rfl,hi,ha⟩;rcases au hs i hi with ⟨rfl,hd⟩|⟨y,r,hy,hd,hr,hlt⟩
   · rw [hd] at ha;rw [ha];repeat' first|refine Rx ⟨?_⟩|refine Rd (fun h=>⟨?_⟩) fun h=>⟨?_⟩|fail
     all_goals exact Rf
   · rw [hd,List.all_cons] at ha;by_cases q1:y.path=h.path
     · by_cases q2:y.num≤h.num
       · rw [decide_eq_true q1,decide_eq_true q2] at ha;simp only [zBT,zAS,zAh] at ha;rw [ha,zBb];repeat' first|refine Rx ⟨?_⟩|refine Rd (fun h=>⟨?_⟩) fun h=>⟨?_⟩|fail
         exact Rf
       · rw [decide_eq_false q2] at ha;repeat' first|refine Rx ⟨?_⟩|refine Rd (fun h=>⟨?_⟩) fun h=>⟨?_⟩|fail
         refine .here ⟨mq - 1,by omega,?_⟩;refine la [2,3,5,6] ?_
         conv=>whnf
         refine ⟨rfl,rfl,i+1,(by omega),rfl,rfl,rfl,by omega,(by rw [ha,hr]; simp)⟩
     · rw [decide_eq_false q1] at ha;repeat' first|refine Rx ⟨?_⟩|refine Rd (fun h=>⟨?_⟩) fun h=>⟨?_⟩|fail
       refine .here ⟨mq - 1,by omega,?_⟩;refine la [2,3,5,6] ?_
       conv=>whnf
       refine ⟨rfl,rfl,i+1,(by omega),rfl,rfl,rfl,by omega,(by rw [ha,hr]; simp)⟩
theorem Fb (v:List Ent) (w:Wld) (hb:du w) (hv:v.length≤1073741824) (hhl:w.holds.length=3) (hfl:w.floors.length=3) (x:Mes) (hx:rf x.hold):Con (E m) 92 0 [.agg w.c,.sl (v.map Ent.c),.agg x.c] [] (.b (d7 w.count x && iE v w x && ly w x)) []:=by
 have c1:=o6 (m:=m) x.who;have c2:=cc (m:=m) x.hold.path (by have:=hx.1; omega);by_cases hg:dA x.who=true∧ac x.hold.path=true∧0≤x.hold.num∧x.hold.num≤w.count∧1≤x.kind∧x.kind≤4
 · obtain ⟨b1,b2,b3,b4,b5,b6⟩:=hg;obtain ⟨k,hk,hk3⟩:=oZ b1;have g1:w.floors[k]?=some (w.floors[k]'(by omega)):=zAB (by omega);generalize w.floors[k]'(by omega)=f at g1;have g3:w.holds[k]?=some (w.holds[k]'(by omega)):=zAB (by omega);generalize w.holds[k]'(by omega)=hs at g3;have g2:=l9 g1;have g4:=fY g3;have c3:=Cj (m:=m) v w hb hv x.who x.hold;have c4:=Bh (m:=m) w hb x k hs f hk g3 g1;rw [b1] at c1;rw [b2] at c2;have e1:d7 w.count x=(decide (x.kind=2) || decide (x.hold=bE x.hold.path x.hold.num)):=by
    rw [d7,b1,b2,decide_eq_true b3,decide_eq_true b4,decide_eq_true b5,decide_eq_true b6]; simp
   have e2:iE v w x=(!decide (x.kind=2) || decide (x.hold.num≤f) || soV v w.clock w.leases x.who x.hold):=by rw [iE,hk,g2]
   have e3:ly w x=(!decide (x.kind=4) || (decide (x.hold.num≤f) && hs.all fun h=>!(decide (h.path=x.hold.path) && decide (h.num≤x.hold.num)))):=by rw [ly,hk,g2,g4]
   rw [e1,e2,e3];clear e1 e2 e3;obtain ⟨kind,who,h⟩:=x;simp only at hk b3 b4 b5 b6 c1 c2 c3 c4 ⊢;subst hk;by_cases h2:kind=2
   · subst h2;simp only [decide_true,Bool.true_or,zAS,zAs,zBA,(by decide:decide ((2:Int)=4)=false),zAR,Bool.and_true];by_cases q:h.num≤f
     · rw [decide_eq_true q,Bool.true_or];refine G0 Tryz.func92 ?_;repeat' first|refine Ra ⟨?_⟩|refine R0 c1 ⟨?_⟩|refine R0 c2 ⟨?_⟩|refine R0 c3 ⟨?_⟩|refine Rd (fun h=>⟨?_⟩) fun h=>⟨?_⟩|refine Rb ⟨?_⟩|fail
       all_goals exact Rf
     · rw [decide_eq_false q,zAs];refine G0 Tryz.func92 ?_;repeat' first|refine Ra ⟨?_⟩|refine R0 c1 ⟨?_⟩|refine R0 c2 ⟨?_⟩|refine R0 c3 ⟨?_⟩|refine Rd (fun h=>⟨?_⟩) fun h=>⟨?_⟩|refine Rb ⟨?_⟩|fail
       all_goals exact Rf
   · rw [decide_eq_false h2,zAs,zAR,Bool.true_or,Bool.true_or,Bool.and_true];have e9:eh h (bE h.path h.num)=decide (h=bE h.path h.num):=by
      by_cases q:h=bE h.path h.num
      · rw [decide_eq_true q];rw [← q];exact GC _
      · rw [decide_eq_false q]; exact Hp q
     by_cases q:h=bE h.path h.num
     · rw [decide_eq_true q] at e9 ⊢;rw [zBA];by_cases h4:kind=4
       · subst h4;simp only [decide_true,zAS,zAs];refine G0 Tryz.func92 ?_;repeat' first|refine Ra ⟨?_⟩|refine R0 c1 ⟨?_⟩|refine R0 c2 ⟨?_⟩|refine R0 c3 ⟨?_⟩|refine R0 c4 ⟨?_⟩|refine Rd (fun h=>⟨?_⟩) fun h=>⟨?_⟩|refine Rb ⟨?_⟩|fail
         all_goals exact Rf
       · rw [decide_eq_false h4];refine G0 Tryz.func92 ?_;repeat' first|refine Ra ⟨?_⟩|refine R0 c1 ⟨?_⟩|refine R0 c2 ⟨?_⟩|refine R0 c3 ⟨?_⟩|refine R0 c4 ⟨?_⟩|refine Rd (fun h=>⟨?_⟩) fun h=>⟨?_⟩|refine Rb ⟨?_⟩|fail
         all_goals exact Rf
     · rw [decide_eq_false q] at e9 ⊢;rw [zAh];refine G0 Tryz.func92 ?_;repeat' first|refine Ra ⟨?_⟩|refine R0 c1 ⟨?_⟩|refine R0 c2 ⟨?_⟩|refine R0 c3 ⟨?_⟩|refine R0 c4 ⟨?_⟩|refine Rd (fun h=>⟨?_⟩) fun h=>⟨?_⟩|refine Rb ⟨?_⟩|fail
       all_goals exact Rf
 · have hf:d7 w.count x=false:=by
     rw [← zAa];intro h;simp only [d7,zAC,decide_eq_true_eq] at h;obtain ⟨⟨⟨⟨⟨⟨a1,a2⟩,a3⟩,a4⟩,a5⟩,a6⟩,a7⟩:=h;exact hg ⟨a3,a4,a5,a6,a1,a2⟩
   rw [hf,zAh,zAh];by_cases b1:dA x.who=true
   · rw [b1] at c1;by_cases b2:ac x.hold.path=true
     · rw [b2] at c2;have hg:¬ (0≤x.hold.num∧x.hold.num≤w.count∧1≤x.kind∧x.kind≤4):=fun h=>hg ⟨b1,b2,h⟩;by_cases b3:0≤x.hold.num
       · by_cases b4:x.hold.num≤w.count
         · by_cases b5:1≤x.kind
           · have b6:¬ x.kind≤4:=fun h=>hg ⟨b3,b4,b5,h⟩;refine G0 Tryz.func92 ?_;repeat' first|refine Ra ⟨?_⟩|refine R0 c1 ⟨?_⟩|refine R0 c2 ⟨?_⟩|refine Rd (fun h=>⟨?_⟩) fun h=>⟨?_⟩|refine Rb ⟨?_⟩|fail
             all_goals exact Rf
           · refine G0 Tryz.func92 ?_;repeat' first|refine Ra ⟨?_⟩|refine R0 c1 ⟨?_⟩|refine R0 c2 ⟨?_⟩|refine Rd (fun h=>⟨?_⟩) fun h=>⟨?_⟩|refine Rb ⟨?_⟩|fail
             all_goals exact Rf
         · refine G0 Tryz.func92 ?_;repeat' first|refine Ra ⟨?_⟩|refine R0 c1 ⟨?_⟩|refine R0 c2 ⟨?_⟩|refine Rd (fun h=>⟨?_⟩) fun h=>⟨?_⟩|refine Rb ⟨?_⟩|fail
           all_goals exact Rf
       · refine G0 Tryz.func92 ?_;repeat' first|refine Ra ⟨?_⟩|refine R0 c1 ⟨?_⟩|refine R0 c2 ⟨?_⟩|refine Rd (fun h=>⟨?_⟩) fun h=>⟨?_⟩|refine Rb ⟨?_⟩|fail
         all_goals exact Rf
     · have b2:ac x.hold.path=false:=by simpa using b2
       rw [b2] at c2;refine G0 Tryz.func92 ?_;repeat' first|refine Ra ⟨?_⟩|refine R0 c1 ⟨?_⟩|refine R0 c2 ⟨?_⟩|refine Rd (fun h=>⟨?_⟩) fun h=>⟨?_⟩|refine Rb ⟨?_⟩|fail
       all_goals exact Rf
   · have b1:dA x.who=false:=by simpa using b1
     rw [b1] at c1;refine G0 Tryz.func92 ?_;repeat' first|refine Ra ⟨?_⟩|refine R0 c1 ⟨?_⟩|refine R0 c2 ⟨?_⟩|refine Rd (fun h=>⟨?_⟩) fun h=>⟨?_⟩|refine Rb ⟨?_⟩|fail
     all_goals exact Rf
variable {m:Int}
theorem o7 {t:List Ent} (h:af t=true):re 1073741823 t:=fun e he=>by have:=eE (dm h e he); omega
theorem Bi (v:List Ent) (w:Wld) (hb:du w) (hv:af v=true):Con (E m) 90 0 [.agg w.c,.sl (v.map Ent.c)] [] (.b (jH v w)) []:=by
 have hop:=hb.op;have hvl:=az hv;have c1:=ia (m:=m) v w.op (by omega) (o7 hv) hop.1 hop.2.1 hop.2.2;unfold jH;by_cases hw:w.waits=true
 · rw [if_pos hw];refine G0 Tryz.func90 ?_;repeat' first|refine Ra ⟨?_⟩|refine Rk [] 1 c1 ⟨?_⟩|refine Rd (fun h=>⟨?_⟩) fun h=>⟨?_⟩|refine Rb ⟨?_⟩|fail
   all_goals exact Rf
 · rw [if_neg hw,E5];have hw:w.waits=false:=by simpa using hw
   refine G0 Tryz.func90 ?_;repeat' first|refine Ra ⟨?_⟩|refine Rk [] 1 c1 ⟨?_⟩|refine Rd (fun h=>⟨?_⟩) fun h=>⟨?_⟩|refine Rb ⟨?_⟩|fail
   all_goals exact Rf
theorem xw (w:Wld) (hb:du w):Con (E m) 41 0 [.agg w.c] [] (.b (aL w)) []:=by
 have hnl:=hb.nl;have e3:(w.net.map Mes.c).length=w.net.length:=zAA ..;have c1:=uw (m:=m) w.over hb.over;cases h:aQ w.over with
 | none=>
   have hx:aL w=false:=by rw [aL,h]
   rw [hx];rw [h] at c1;refine G0 Tryz.func41 ?_;repeat' first|refine Ra ⟨?_⟩|refine R0 c1 ⟨?_⟩|refine Rd (fun h=>⟨?_⟩) fun h=>⟨?_⟩|refine Rb ⟨?_⟩|fail
   exact Rf
 | some tv=>
   obtain ⟨t,v⟩:=tv;have hv:=(bu h).2.2.2;have hvl:=az hv;have hx:aL w=db v w:=by rw [aL,h]
   rw [hx];rw [h] at c1;have c2:=Bf (m:=m) w hb;cases g1:ip w with
   | false=>
     have hf:db v w=false:=by simp [db,g1]
     rw [hf];rw [g1] at c2;refine G0 Tryz.func41 ?_;repeat' first|refine Ra ⟨?_⟩|refine R0 c1 ⟨?_⟩|refine R0 c2 ⟨?_⟩|refine Rd (fun h=>⟨?_⟩) fun h=>⟨?_⟩|refine Rb ⟨?_⟩|fail
     exact Rf
   | true=>
     rw [g1] at c2;have hn:=g1;simp only [ip,zAC,decide_eq_true_eq] at hn;obtain ⟨⟨⟨⟨⟨⟨⟨a1,a2⟩,a3⟩,a4⟩,a5⟩,a6⟩,a7⟩,a8⟩:=hn;have c3:=za (m:=m) w hb ⟨a1,a2⟩;cases g2:uu w.count w.clock w.leases with
     | false=>
       have hf:db v w=false:=by simp [db,g2]
       rw [hf];rw [g2] at c3;refine G0 Tryz.func41 ?_;repeat' first|refine Ra ⟨?_⟩|refine R0 c1 ⟨?_⟩|refine R0 c2 ⟨?_⟩|refine R0 c3 ⟨?_⟩|refine Rd (fun h=>⟨?_⟩) fun h=>⟨?_⟩|refine Rb ⟨?_⟩|fail
       exact Rf
     | true=>
       rw [g2] at c3;have c4:=Bi (m:=m) v w hb hv;cases g3:jH v w with
       | false=>
         have hf:db v w=false:=by simp [db,g3]
         rw [hf];rw [g3] at c4;refine G0 Tryz.func41 ?_;repeat' first|refine Ra ⟨?_⟩|refine R0 c1 ⟨?_⟩|refine R0 c2 ⟨?_⟩|refine R0 c3 ⟨?_⟩|refine R0 c4 ⟨?_⟩|refine Rd (fun h=>⟨?_⟩) fun h=>⟨?_⟩|refine Rb ⟨?_⟩|fail
         exact Rf
       | true=>
         rw [g3] at c4;have hx2:db v w=((List.range 3).all (lq v w) && w.net.all fun m=>d7 w.count m && iE v w m && ly w m):=by simp [db,g1,g2,g3]
         rw [hx2];refine G0 Tryz.func41 ?_;repeat' first|refine Ra ⟨?_⟩|refine R0 c1 ⟨?_⟩|refine R0 c2 ⟨?_⟩|refine R0 c3 ⟨?_⟩|refine R0 c4 ⟨?_⟩|refine Rd (fun h=>⟨?_⟩) fun h=>⟨?_⟩|refine Rb ⟨?_⟩|fail
         refine Cd.loop2 (fun mq tm S nx=>∃ (i:Nat),mq=(3 - i)∧tm=[(1,.bp 0 0),(3,.sl (v.map Ent.c)),(5,.k .i64 i)]∧S=[(0,.box 54 w.c)]∧nx=1∧(i≤3)∧((List.range 3).all (lq v w)=((List.range 3).drop i).all (lq v w))) ?_ ?_
         · refine la [1,3,5] ?_
           conv=>whnf
           refine ⟨rfl,rfl,_,0,rfl,rfl,rfl,rfl,zAG _,rfl⟩
         · rintro mq tm S nx ⟨i,hn,rfl,rfl,rfl,hi,ha⟩;by_cases hlt:i < 3
           · rw [gP hlt,List.all_cons] at ha;have q1:w.holds[i]?=some (w.holds[i]'(by omega)):=zAB (by omega);have c5:=Dr (m:=m) v w hb (by omega) i _ q1;cases g4:lq v w i with
             | true=>
               rw [g4] at c5 ha;repeat' first|refine Ra ⟨?_⟩|refine R0 c5 ⟨?_⟩|refine Rd (fun h=>⟨?_⟩) fun h=>⟨?_⟩|refine Rb ⟨?_⟩|fail
               refine .here ⟨mq - 1,by omega,?_⟩;refine la [1,3,5] ?_
               conv=>whnf
               refine ⟨rfl,rfl,i+1,(by omega),rfl,rfl,rfl,by omega,(by rw [ha]; simp)⟩
             | false=>
               rw [g4] at c5 ha;rw [ha,zAh,zAh];repeat' first|refine Ra ⟨?_⟩|refine R0 c5 ⟨?_⟩|refine Rd (fun h=>⟨?_⟩) fun h=>⟨?_⟩|refine Rb ⟨?_⟩|fail
               exact Rf
           · have:i=3:=by omega
             subst this;rw [dV] at ha;rw [ha];repeat' first|refine Rx ⟨?_⟩|refine Rd (fun h=>⟨?_⟩) fun h=>⟨?_⟩|fail
             refine Cd.loop2 (fun mq tm S nx=>∃ (i:Nat),mq=(w.net.length - i)∧tm=[(1,.bp 0 0),(3,.sl (v.map Ent.c)),(6,.k .i64 i)]∧S=[(0,.box 54 w.c)]∧nx=1∧(i≤w.net.length)∧((w.net.all fun m=>d7 w.count m && iE v w m && ly w m)=((w.net.drop i).all fun m=>d7 w.count m && iE v w m && ly w m))) ?_ ?_
             · refine la [1,3,6] ?_
               conv=>whnf
               refine ⟨rfl,rfl,_,0,rfl,rfl,rfl,rfl,zAG _,rfl⟩
             · rintro mq tm S nx ⟨i,hn,rfl,rfl,rfl,hi,ha⟩;rcases au w.net i hi with ⟨rfl,hd⟩|⟨x,r,hx',hd,hr,hlt⟩
               · rw [hd] at ha;rw [ha];repeat' first|refine Rx ⟨?_⟩|refine Rd (fun h=>⟨?_⟩) fun h=>⟨?_⟩|fail
                 exact Rf
               · rw [hd,List.all_cons] at ha;have c5:=Fb (m:=m) v w hb (by omega) a5 a6 x (hb.nt x (zAD hx'));cases g4:d7 w.count x && iE v w x && ly w x with
                 | true=>
                   rw [g4] at c5 ha;repeat' first|refine Ra ⟨?_⟩|refine R0 c5 ⟨?_⟩|refine Rd (fun h=>⟨?_⟩) fun h=>⟨?_⟩|refine Rb ⟨?_⟩|fail
                   refine .here ⟨mq - 1,by omega,?_⟩;refine la [1,3,6] ?_
                   conv=>whnf
                   refine ⟨rfl,rfl,i+1,(by omega),rfl,rfl,rfl,by omega,(by rw [ha,hr]; simp)⟩
                 | false=>
                   rw [g4] at c5 ha;rw [ha,zAh,zBb];repeat' first|refine Ra ⟨?_⟩|refine R0 c5 ⟨?_⟩|refine Rd (fun h=>⟨?_⟩) fun h=>⟨?_⟩|refine Rb ⟨?_⟩|fail
                   exact Rf
theorem Bj (w:Wld) (p:Opn) (hb:du w) (hp:nD 1073741823 p) {t v:List Ent} (ho:aQ w.over=some (t,v)):Con (E m) 93 0 [.agg w.c,.agg p.c] [] (.sl (strs (bV v p))) []:=by
 have hv:=(bu ho).2.2.2;have hvl:=az hv;have c1:=fg (m:=m) w.over hb.over;have h2:gp w.over=some v:=by
  obtain ⟨g1,g2,g3⟩:=bJ.1 ho;rw [gp,g1];exact g2
 rw [h2] at c1;have c2:=ia (m:=m) v p (by omega) (o7 hv) hp.1 hp.2.1 hp.2.2;unfold bV;by_cases h:(ao v p).2=0
 · rw [if_pos h];have c3:=qV (m:=m) v (ao v p).1 hv (gM hv p);refine G0 Tryz.func93 ?_;repeat' first|refine Ra ⟨?_⟩|refine R0 c1 ⟨?_⟩|refine Rk [] 1 c2 ⟨?_⟩|refine R0 c3 ⟨?_⟩|refine Rd (fun h=>⟨?_⟩) fun h=>⟨?_⟩|refine Rb ⟨?_⟩|fail
   exact Rz
 · rw [if_neg h];refine G0 Tryz.func93 ?_;repeat' first|refine Ra ⟨?_⟩|refine R0 c1 ⟨?_⟩|refine Rk [] 1 c2 ⟨?_⟩|refine Rd (fun h=>⟨?_⟩) fun h=>⟨?_⟩|refine Rb ⟨?_⟩|fail
   exact Rz
theorem Ck (t:List Bs) (p:Bs) (ht:t.length≤1048576):Con (E m) 94 0 [.sl (strs t),.s p] [] (.b (decide (p∈t))) []:=by
 have e1:(strs t).length=t.length:=zAA ..;refine G0 Tryz.func94 ?_;repeat' first|refine Rx ⟨?_⟩|refine Rd (fun h=>⟨?_⟩) fun h=>⟨?_⟩|fail
 refine Cd.loop2 (fun mq tm S nx=>∃ (i:Nat),mq=(t.length - i)∧tm=[(0,.sl (strs t)),(1,.s p),(5,.k .i64 i)]∧S=[]∧nx=0∧(i≤t.length)∧(decide (p∈t)=decide (p∈t.drop i))) ?_ ?_
 · refine la [0,1,5] ?_
   conv=>whnf
   refine ⟨rfl,rfl,_,0,rfl,rfl,rfl,rfl,zAG _,rfl⟩
 · rintro mq tm S nx ⟨i,hn,rfl,rfl,rfl,hi,ha⟩;rcases au t i hi with ⟨rfl,hd⟩|⟨x,r,hx',hd,hr,hlt⟩
   · rw [hd] at ha;rw [ha];repeat' first|refine Rx ⟨?_⟩|refine Rd (fun h=>⟨?_⟩) fun h=>⟨?_⟩|fail
     exact Rf
   · rw [hd] at ha;by_cases q:x=p
     · have:decide (p∈x :: r)=true:=by simp [q]
       rw [this] at ha;rw [ha];repeat' first|refine Rx ⟨?_⟩|refine Rd (fun h=>⟨?_⟩) fun h=>⟨?_⟩|fail
       exact Rf
     · have:decide (p∈x :: r)=decide (p∈r):=by simp [Ne.symm q]
       rw [this] at ha;repeat' first|refine Rx ⟨?_⟩|refine Rd (fun h=>⟨?_⟩) fun h=>⟨?_⟩|fail
       refine .here ⟨mq - 1,by omega,?_⟩;refine la [0,1,5] ?_
       conv=>whnf
       refine ⟨rfl,rfl,i+1,(by omega),rfl,rfl,rfl,by omega,(by rw [ha,hr])⟩
theorem vV (w:Wld) (p:Opn) (hb:du w) (hp:nD 1073741823 p) {t v:List Ent} (ho:aQ w.over=some (t,v)):Con (E m) 42 0 [.agg w.c,.agg p.c] [] (.own 0) [(0,.own 93 ((dT v w.clock w.leases p).map Lse.c))]:=by
 have hll:=hb.ll;have e1:(w.leases.map Lse.c).length=w.leases.length:=zAA ..;have c2:=Bj (m:=m) w p hb hp ho;have htl:(bV v p).length≤1048576:=by
  unfold bV;split
  · have:=fJ v (ao v p).1
    omega
  · simp
 unfold dT;refine G0 Tryz.func42 ?_;repeat' first|refine Ra ⟨?_⟩|refine R0 c2 ⟨?_⟩|refine Rd (fun h=>⟨?_⟩) fun h=>⟨?_⟩|refine Rb ⟨?_⟩|fail
 refine Cd.loop2 (fun mq tm S nx=>∃ (i:Nat) (A:List Lse),mq=(w.leases.length - i)∧tm=[(2,.bp 0 0),(5,.own 1),(6,.sl (strs (bV v p))),(7,.k .i64 i)]∧S=[(0,.box 54 w.c),(1,.own 93 (A.map Lse.c))]∧nx=2∧(i≤w.leases.length)∧(A=(w.leases.take i).filter (fun l=>decide (w.clock < l.til) && decide (l.path∈bV v p)))∧(A.length≤i)) ?_ ?_
 · refine la [2,5,6,7] ?_
   conv=>whnf
   refine ⟨rfl,rfl,_,0,[],rfl,rfl,rfl,rfl,zAG _,(by simp),by simp⟩
 · rintro mq tm S nx ⟨i,A,hn,rfl,rfl,rfl,hi,hA,hAl⟩;have e2:(A.map Lse.c).length=A.length:=zAA ..;rcases au w.leases i hi with ⟨rfl,hd⟩|⟨x,r,hx',hd,hr,hlt⟩
   · rw [zAN] at hA;subst hA;repeat' first|refine Rx ⟨?_⟩|refine Rd (fun h=>⟨?_⟩) fun h=>⟨?_⟩|fail
     exact Rf
   · have c3:=Ck (m:=m) (bV v p) x.path htl;have hstep:∀ B,B=(w.leases.take i).filter (fun l=>decide (w.clock < l.til) && decide (l.path∈bV v p))++(if w.clock < x.til∧x.path∈bV v p then [x] else [])→B=(w.leases.take (i+1)).filter (fun l=>decide (w.clock < l.til) && decide (l.path∈bV v p)):=by
      intro B hB;rw [hB,zAX,hx',zAg];congr 1
      by_cases q1:w.clock < x.til <;> by_cases q2:x.path∈bV v p <;> simp [q1,q2]
     by_cases q1:w.clock < x.til
     · by_cases q2:x.path∈bV v p
       · rw [decide_eq_true q2] at c3;repeat' first|refine Ra ⟨?_⟩|refine R0 c3 ⟨?_⟩|refine Rd (fun h=>⟨?_⟩) fun h=>⟨?_⟩|refine Rb ⟨?_⟩|fail
         refine .here ⟨mq - 1,by omega,?_⟩;refine la [2,5,6,7] ?_
         conv=>whnf
         refine ⟨rfl,rfl,i+1,A++[x],(by omega),rfl,?_,rfl,by omega,(by rw [← hstep _ rfl,if_pos ⟨q1,q2⟩,hA]),(by simp; omega)⟩;rw [zAK];rfl
       · rw [decide_eq_false q2] at c3;repeat' first|refine Ra ⟨?_⟩|refine R0 c3 ⟨?_⟩|refine Rd (fun h=>⟨?_⟩) fun h=>⟨?_⟩|refine Rb ⟨?_⟩|fail
         refine .here ⟨mq - 1,by omega,?_⟩;refine la [2,5,6,7] ?_
         conv=>whnf
         refine ⟨rfl,rfl,i+1,A,(by omega),rfl,rfl,rfl,by omega,(by rw [← hstep _ rfl,if_neg (fun h=>q2 h.2),hA]; simp),(by omega)⟩
     · repeat' first|refine Rx ⟨?_⟩|refine Rd (fun h=>⟨?_⟩) fun h=>⟨?_⟩|fail
       refine .here ⟨mq - 1,by omega,?_⟩;refine la [2,5,6,7] ?_
       conv=>whnf
       refine ⟨rfl,rfl,i+1,A,(by omega),rfl,rfl,rfl,by omega,(by rw [← hstep _ rfl,if_neg (fun h=>q1 h.1),hA]; simp),(by omega)⟩
theorem tp (w:Wld) (who:Int) (p:Bs) (hb:du w):Con (E m) 200 0 [.agg w.c,.k .i64 who,.s p] [] (rdD (bK w who p)) []:=by
 have c1:=xw (m:=m) w hb;have c2:=o6 (m:=m) who;cases hok:aL w with
 | false=>
   rw [hok] at c1;have hx:bK w who p=none:=by simp [bK,hok]
   rw [hx];refine G0 Tryz.func200 ?_;repeat' first|refine Ra ⟨?_⟩|refine R0 c1 ⟨?_⟩|refine R0 c2 ⟨?_⟩|refine Rd (fun h=>⟨?_⟩) fun h=>⟨?_⟩|refine Rb ⟨?_⟩|fail
   exact Rf
 | true=>
   rw [hok] at c1;cases hwh:dA who with
   | false=>
     rw [hwh] at c2;have hx:bK w who p=none:=by simp [bK,hwh]
     rw [hx];refine G0 Tryz.func200 ?_;repeat' first|refine Ra ⟨?_⟩|refine R0 c1 ⟨?_⟩|refine R0 c2 ⟨?_⟩|refine Rd (fun h=>⟨?_⟩) fun h=>⟨?_⟩|refine Rb ⟨?_⟩|fail
     exact Rf
   | true=>
     rw [hwh] at c2;obtain ⟨k,rfl,hk⟩:=oZ hwh;obtain ⟨t,v,ho,hw,hs⟩:=bi hok;have hl:=hw.hl;have g3:w.holds[k]?=some (w.holds[k]'(by omega)):=zAB (by omega);generalize w.holds[k]'(by omega)=hs at g3;have g4:=fY g3;have hbx:=hb.hs hs (zAD g3);have e3:(hs.map Hld.c).length=hs.length:=zAA ..;have hln:=hbx.2;have g5:(w.holds.map gy)[k]?=some (gy hs):=mg g3;have hx:bK w k p=hs.find? fun h=>decide (h.path=p) && decide (w.clock < h.til):=by rw [bK,hok,hwh,g4]; rfl
     rw [hx];refine G0 Tryz.func200 ?_;repeat' first|refine Ra ⟨?_⟩|refine R0 c1 ⟨?_⟩|refine R0 c2 ⟨?_⟩|refine Rd (fun h=>⟨?_⟩) fun h=>⟨?_⟩|refine Rb ⟨?_⟩|fail
     refine Cd.loop2 (fun mq tm S nx=>∃ (i:Nat),mq=(hs.length - i)∧tm=[(2,.s p),(3,.bp 0 0),(6,.bp 1 0),(9,.sl (hs.map Hld.c)),(10,.k .i64 i)]∧S=[(0,.box 54 w.c),(1,.box 150 [.s [],.b false,.s []])]∧nx=2∧(i≤hs.length)∧((hs.find? fun h=>decide (h.path=p) && decide (w.clock < h.til))=((hs.drop i).find? fun h=>decide (h.path=p) && decide (w.clock < h.til)))) ?_ ?_
     · refine la [2,3,6,9,10] ?_
       conv=>whnf
       refine ⟨rfl,rfl,_,0,rfl,rfl,rfl,rfl,zAG _,rfl⟩
     · rintro mq tm S nx ⟨i,hn,rfl,rfl,rfl,hi,ha⟩;rcases au hs i hi with ⟨rfl,hd⟩|⟨x,r,hx',hd,hr,hlt⟩
       · rw [hd] at ha;rw [ha];repeat' first|refine Rx ⟨?_⟩|refine Rd (fun h=>⟨?_⟩) fun h=>⟨?_⟩|fail
         exact Rf
       · rw [hd] at ha;by_cases q1:x.path=p
         · by_cases q2:w.clock < x.til
           · rw [List.find?_cons_of_pos (by simp [q1,q2])] at ha;rw [ha];repeat' first|refine Rx ⟨?_⟩|refine Rd (fun h=>⟨?_⟩) fun h=>⟨?_⟩|fail
             exact Rf
           · rw [List.find?_cons_of_neg (by simp [q2])] at ha;repeat' first|refine Rx ⟨?_⟩|refine Rd (fun h=>⟨?_⟩) fun h=>⟨?_⟩|fail
             refine .here ⟨mq - 1,by omega,?_⟩;refine la [2,3,6,9,10] ?_
             conv=>whnf
             refine ⟨rfl,rfl,i+1,(by omega),rfl,rfl,rfl,by omega,(by rw [ha,hr])⟩
         · rw [List.find?_cons_of_neg (by simp [q1])] at ha;repeat' first|refine Rx ⟨?_⟩|refine Rd (fun h=>⟨?_⟩) fun h=>⟨?_⟩|fail
           refine .here ⟨mq - 1,by omega,?_⟩;refine la [2,3,6,9,10] ?_
           conv=>whnf
           refine ⟨rfl,rfl,i+1,(by omega),rfl,rfl,rfl,by omega,(by rw [ha,hr])⟩
variable {m:Int}
theorem uy (w:Wld) (hb:du w) (h0 h1 h2:List Hld) (hh:w.holds=[h0,h1,h2]):Con (E m) 142 0 [.agg w.c] [] (.agg (wcO w 0 1 2 3)) [(0,.own 93 (w.leases.map Lse.c)),(1,.deep 159 152 [anH h0,anH h1,anH h2]),(2,.own 3 (i7 w.floors)),(3,.own 154 (w.net.map Mes.c))]:=by
 have hll:=hb.ll;have hfl:=hb.fl;have hnl:=hb.nl;have l0:=(hb.hs h0 (by rw [hh]; simp)).2;have l1:=(hb.hs h1 (by rw [hh]; simp)).2;have l2:=(hb.hs h2 (by rw [hh]; simp)).2;have e2:(w.leases.map Lse.c).length=w.leases.length:=zAA ..;have e3:(i7 w.floors).length=w.floors.length:=zAA ..;have e4:(w.net.map Mes.c).length=w.net.length:=zAA ..;have m0:(h0.map Hld.c).length=h0.length:=zAA ..;have m1:(h1.map Hld.c).length=h1.length:=zAA ..;have m2:(h2.map Hld.c).length=h2.length:=zAA ..;have c1:=cH (gu (m:=m) w.over hb.over);clear hb;obtain ⟨o,clk,cnt,ls,hs,fl,nt,wt,op⟩:=w;simp only at hh hll hfl hnl e2 e3 e4 c1;subst hh;refine cE ?_;refine dO B0 FP Tryz.func142 rfl rfl rfl (zAF rfl) ?_;repeat' first|refine Ra ⟨?_⟩|refine R0 c1 ⟨?_⟩|refine Rd (fun h=>⟨?_⟩) fun h=>⟨?_⟩|refine Rb ⟨?_⟩|fail
 refine Cd.loop2 (fun mq tm S nx=>∃ (i:Nat) (zs:List br),mq=(3 - i)∧tm=[(1,.bp 0 0),(2,.bp 1 0),(3,.bp 2 0),(17,.sl [gy h0,gy h1,gy h2]),(18,.k .i64 (([gy h0,gy h1,gy h2]:List (List D)).length:Int)),(19,.k .i64 i)]∧S=[(0,.box 54 (Wld.c ⟨o,clk,cnt,ls,[h0,h1,h2],fl,nt,wt,op⟩)),(1,.box 54 [.nil,.nil,.nil,.k .i64 0,.k .i64 0,.nil,.nil,.nil,.nil,.b false,.k .i64 0,.s [],.s [],.s []]),(2,.box 54 [.sl (o.base.map Ent.c),.sl (o.layers.map c8),.sl (o.upper.map Mrk.c),.k .i64 clk,.k .i64 cnt,.own 3,.own 4,.sl (i7 fl),.sl (nt.map Mes.c),.b wt,.k .i64 op.kind,.s op.path,.s op.tgt,.s op.data]),(3,.own 93 (ls.map Lse.c)),(4,.deep 159 152 zs)]∧nx=5∧(i≤3)∧(zs=[anH h0,anH h1,anH h2].take i)) ?_ ?_
 · refine lw [.thawD 2 6 159 152] [1,2,3,17,18,19] ?_
   conv=>whnf
   refine ⟨rfl,rfl,_,0,[],rfl,rfl,rfl,rfl,by omega,rfl⟩
 · rintro mq tm S nx ⟨i,zs,hn,rfl,rfl,rfl,hi,hz⟩;obtain rfl|rfl|rfl|rfl:i=0∨i=1∨i=2∨i=3:=by omega
   · have hz:zs=[]:=hz;subst hz;repeat' first|refine Rx ⟨?_⟩|refine Rd (fun h=>⟨?_⟩) fun h=>⟨?_⟩|fail
     refine .here ⟨mq - 1,by omega,?_⟩;refine la [1,2,3,17,18,19] ?_
     conv=>whnf
     refine ⟨rfl,rfl,1,[anH h0],(by omega),rfl,rfl,rfl,by omega,rfl⟩
   · have hz:zs=[anH h0]:=hz;subst hz;repeat' first|refine Ra ⟨?_⟩|((refine ⟨1,_,rfl,rfl,rfl,?_⟩) <;> conv=>whnf)|refine Rd (fun h=>⟨?_⟩) fun h=>⟨?_⟩|refine Rb ⟨?_⟩|fail
     refine .here ⟨mq - 1,by omega,?_⟩;refine la [1,2,3,17,18,19] ?_
     conv=>whnf
     refine ⟨rfl,rfl,2,[anH h0,anH h1],(by omega),rfl,rfl,rfl,by omega,rfl⟩
   · have hz:zs=[anH h0,anH h1]:=hz;subst hz;repeat' first|refine Ra ⟨?_⟩|((refine ⟨2,_,rfl,rfl,rfl,?_⟩) <;> conv=>whnf)|refine Rd (fun h=>⟨?_⟩) fun h=>⟨?_⟩|refine Rb ⟨?_⟩|fail
     refine .here ⟨mq - 1,by omega,?_⟩;refine la [1,2,3,17,18,19] ?_
     conv=>whnf
     refine ⟨rfl,rfl,3,[anH h0,anH h1,anH h2],(by omega),rfl,rfl,rfl,by omega,rfl⟩
   · have hz:zs=[anH h0,anH h1,anH h2]:=hz;subst hz;repeat' first|refine Rx ⟨?_⟩|refine Rd (fun h=>⟨?_⟩) fun h=>⟨?_⟩|fail
     exact Rf
abbrev bxR (w:Wld) (a b c d:Nat) (L:List (List D)) (zs:List br) (F N:List (List D)):ab:=[(0,.box 54 (wcO w a b c d)),(a,.own 93 L),(b,.deep 159 152 zs),(c,.own 3 F),(d,.own 154 N)]
abbrev bxT (w:Wld) (a b c d:Nat) (zs:List br):ab:=bxR w a b c d (w.leases.map Lse.c) zs (i7 w.floors) (w.net.map Mes.c)
theorem dW (w:Wld) (zs:List br) (x:Mes) (hnl:w.net.length≤1048576) (h0 h1 h2:List Hld) (hz:zs=[anH h0,anH h1,anH h2]):Con (E m) 145 5 [.bp 0 0,.agg x.c] (bxT w 1 2 3 4 zs) (.tup []) (bxT { w with net:=cq w.net x } 5 6 7 8 zs):=by
 have e4:(w.net.map Mes.c).length=w.net.length:=zAA ..;subst hz;by_cases h:w.net.length < 12
 · have hx:cq w.net x=w.net++[x]:=by rw [cq,if_pos h]
   rw [hx];refine G0 Tryz.func145 ?_;repeat' first|refine Rx ⟨?_⟩|refine Rd (fun h=>⟨?_⟩) fun h=>⟨?_⟩|fail
   refine ai.here (fw [.anew 1,.close 2,.anew 3] ?_)
   conv=>whnf
   refine ⟨rfl,rfl,rfl,?_⟩;exact congrArg (bxR w 5 6 7 8 _ _ _) (zAK (f:=Mes.c) (l₁:=w.net) (l₂:=[x])).symm
 · have hx:cq w.net x=w.net:=by rw [cq,if_neg h]
   rw [hx];refine G0 Tryz.func145 ?_;repeat' first|refine Rx ⟨?_⟩|refine Rd (fun h=>⟨?_⟩) fun h=>⟨?_⟩|fail
   refine ai.here (fw [.anew 1,.close 2,.anew 3,.anew 4] ?_)
   conv=>whnf
   exact ⟨rfl,rfl,rfl,rfl⟩
variable {m:Int}
theorem kW (net:List Mes) (cnt:Int) (l:Lse) (r:List Lse):dz net cnt (l :: r)=dz (cq net ⟨3,l.who,bE l.path cnt⟩) cnt r:=rfl
theorem km {net:List Mes} {x:Mes} {n:Nat} (h:net.length≤n) (hn:12≤n):(cq net x).length≤n:=by
 unfold cq;split
 · simp; omega
 · exact h
theorem Bk (w:Wld) (zs:List br) (bars:List Lse) (hnl:w.net.length≤1048576) (hbl:bars.length≤1048576) (h0 h1 h2:List Hld) (hz:zs=[anH h0,anH h1,anH h2]):Con (E m) 209 5 [.bp 0 0,.sl (bars.map Lse.c)] (bxT w 1 2 3 4 zs) (.tup []) (bxT { w with net:=dz w.net w.count bars } 5 6 7 8 zs):=by
 have e1:(bars.map Lse.c).length=bars.length:=zAA ..;subst hz;refine G0 Tryz.func209 ?_;repeat' first|refine Rx ⟨?_⟩|refine Rd (fun h=>⟨?_⟩) fun h=>⟨?_⟩|fail
 refine Cd.loop2 (fun mq tm S nx=>∃ (i:Nat) (N:List Mes),mq=(bars.length - i)∧tm=[(0,.bp 0 0),(6,.sl (bars.map Lse.c)),(7,.k .i64 ((bars.map Lse.c).length:Int)),(8,.k .i64 i)]∧S=[(0,.box 54 (wcO w 5 6 7 8)),(5,.own 93 (w.leases.map Lse.c)),(6,.deep 159 152 [anH h0,anH h1,anH h2]),(7,.own 3 (i7 w.floors)),(8,.own 154 (N.map Mes.c))]∧nx=9∧(i≤bars.length)∧(dz w.net w.count bars=dz N w.count (bars.drop i))∧(N.length≤1048576)) ?_ ?_
 · refine lw [.anew 1,.close 2,.anew 3,.anew 4] [0,6,7,8] ?_
   conv=>whnf
   refine ⟨rfl,rfl,_,0,w.net,rfl,rfl,rfl,rfl,zAG _,rfl,hnl⟩
 · rintro mq tm S nx ⟨i,N,hn,rfl,rfl,rfl,hi,ha,hN⟩;rcases (au bars i hi).symm with ⟨x,r,hx',hd,hr,hlt⟩|⟨rfl,hd⟩
   · rw [hd,kW] at ha;have c1:=dW (m:=m) { w with net:=N } [anH h0,anH h1,anH h2] ⟨3,x.who,bE x.path w.count⟩ hN h0 h1 h2 rfl
     repeat' first|refine Ra ⟨?_⟩|refine Rk [0,5,6,7,8] 4 c1 ⟨?_⟩|refine Rd (fun h=>⟨?_⟩) fun h=>⟨?_⟩|refine Rb ⟨?_⟩|fail
     refine .here ⟨mq - 1,by omega,?_⟩;refine la [0,6,7,8] ?_
     conv=>whnf
     refine ⟨rfl,rfl,i+1,cq N ⟨3,x.who,bE x.path w.count⟩,(by omega),rfl,rfl,rfl,by omega,(by rw [ha,hr]),km hN (by omega)⟩
   · rw [hd] at ha;rw [ha];repeat' first|refine Rx ⟨?_⟩|refine Rd (fun h=>⟨?_⟩) fun h=>⟨?_⟩|fail
     exact Rf
theorem pW {v:List Ent} {clk:Int} {ls:List Lse} {p:Opn}:(dT v clk ls p).length≤ls.length:=zAV _ _
theorem Cl (w:Wld) (zs:List br) (hb:du w) (hok:aL w=true) (h0 h1 h2:List Hld) (hh:w.holds=[h0,h1,h2]) (hz:zs=[anH h0,anH h1,anH h2]):Con (E m) 147 5 [.bp 0 0] (bxT w 1 2 3 4 zs) (.k .i64 (gB w).2) (bxT (gB w).1 5 6 7 8 zs):=by
 have hll:=hb.ll;have hnl:=hb.nl;subst hz;obtain ⟨t,v,ho,hw,hs⟩:=bi hok;have hx:gO w w.op=dT (Go.Par.seen w.over) w.clock w.leases w.op:=by rw [gO,if_pos hok]
 have c1:=tj (m:=m) w w.op hb hb.op;rw [hx,Wld.c,hh] at c1;have c3:=y2 (m:=m) w.over w.op hb.over hb.op;have hbl:=pW (v:=Go.Par.seen w.over) (clk:=w.clock) (ls:=w.leases) (p:=w.op);cases hwt:w.waits with
 | false=>
   have q:gB w=(w,22):=by rw [gB,if_pos hwt]
   rw [q];refine G0 Tryz.func147 ?_;repeat' first|refine Rx ⟨?_⟩|refine Rd (fun h=>⟨?_⟩) fun h=>⟨?_⟩|fail
   refine ai.here (fw [.anew 1,.close 2,.anew 3,.anew 4] ?_)
   conv=>whnf
   exact ⟨rfl,rfl,rfl,rfl⟩
 | true=>
   by_cases hbr:dT (Go.Par.seen w.over) w.clock w.leases w.op=[]
   · have q:gB w=({ w with over:=(eG w.over w.op).1,waits:=false,op:=op0 },0):=by rw [gB,if_neg (by simp [hwt]),if_pos hbr]
     rw [q];rw [hbr] at c1;refine G0 Tryz.func147 ?_;repeat' first|refine Ra ⟨?_⟩|(refine ⟨[],_,_,_,_,1,⟨rfl,rfl,rfl,c1,rfl,rfl⟩,.inl ⟨[],trivial,rfl,.inl ⟨by simp [bb,ba,aj],by simp [bg,bc,aj,Ent.c,Mrk.c,Opn.c,Lse.c,Hld.c,Mes.c,aX,anH]⟩,?_⟩⟩ <;> conv=>whnf)|refine R0 c3 ⟨?_⟩|refine Rd (fun h=>⟨?_⟩) fun h=>⟨?_⟩|refine Rb ⟨?_⟩|fail
     refine ai.here (fw [.anew 1,.close 2,.anew 3,.anew 4] ?_)
     conv=>whnf
     exact ⟨rfl,rfl,rfl,rfl⟩
   · have q:gB w=({ w with net:=dz w.net w.count (dT (Go.Par.seen w.over) w.clock w.leases w.op) },20):=by rw [gB,if_neg (by simp [hwt]),if_neg hbr]
     rw [q];have hpos:0 < (dT (Go.Par.seen w.over) w.clock w.leases w.op).length:=List.length_pos_iff.2 hbr;generalize dT (Go.Par.seen w.over) w.clock w.leases w.op=B at c1 hbl hpos;have c2:=Bk (m:=m) w [anH h0,anH h1,anH h2] B hnl (by omega) h0 h1 h2 rfl;have e2:(B.map Lse.c).length=B.length:=zAA ..;refine G0 Tryz.func147 ?_;repeat' first|refine Ra ⟨?_⟩|(refine ⟨[],_,_,_,_,1,⟨rfl,rfl,rfl,c1,rfl,rfl⟩,.inl ⟨[],trivial,rfl,.inl ⟨by simp [bb,ba,aj],by simp [bg,bc,aj,Ent.c,Mrk.c,Opn.c,Lse.c,Hld.c,Mes.c,aX,anH]⟩,?_⟩⟩ <;> conv=>whnf)|refine Rk [0,1,2,3,4] 4 c2 ⟨?_⟩|refine Rd (fun h=>⟨?_⟩) fun h=>⟨?_⟩|refine Rb ⟨?_⟩|fail
     exact Rf
theorem Ds (w:Wld) (zs:List br) (p:Opn) (hb:du w) (hp:nD 1073741823 p) (hok:aL w=true) (h0 h1 h2:List Hld) (hh:w.holds=[h0,h1,h2]) (hz:zs=[anH h0,anH h1,anH h2]):Con (E m) 146 5 [.bp 0 0,.agg p.c] (bxT w 1 2 3 4 zs) (.k .i64 (cD w p).2) (bxT (cD w p).1 5 6 7 8 zs):=by
 obtain ⟨t,v,ho,hw,hs⟩:=bi hok;have hv:=(bu ho).2.2.2;have c1:=fD (m:=m) w.over hb.over;rw [ho] at c1;have c2:=ju (m:=m) v p (bE0 hv) hp.1 hp.2.1 hp.2.2;cases hwt:w.waits with
 | true=>
   have q:cD w p=(w,21):=by rw [cD,if_pos hwt]
   rw [q];subst hz;refine G0 Tryz.func146 ?_;repeat' first|refine Rx ⟨?_⟩|refine Rd (fun h=>⟨?_⟩) fun h=>⟨?_⟩|fail
   refine ai.here (fw [.anew 1,.close 2,.anew 3,.anew 4] ?_)
   conv=>whnf
   exact ⟨rfl,rfl,rfl,rfl⟩
 | false=>
   by_cases hd:(ao v p).2=0
   · have hop:w.op=op0:=by have:=hw.wt; rw [if_neg (by simp [hwt])] at this; exact this
     have hw':OkW v { w with waits:=true,op:=p }:=by
      have:=hw.waitsOn hd (net:=w.net) hw.nl (fun m hm=>.inl hm)
      exact this
     have hok':aL { w with waits:=true,op:=p }=true:=kS (w:={ w with waits:=true,op:=p }) ho hw'
     have hb':du { w with waits:=true,op:=p }:=⟨hb.over,hb.ls,hb.ll,hb.hs,hb.hl,hb.fl,hb.nt,hb.nl,hp⟩
     have c3:=Cl (m:=m) { w with waits:=true,op:=p } zs hb' hok' h0 h1 h2 hh hz
     have q:gB { w with waits:=true,op:=p }=cD w p:=by
      rw [cD,if_neg (by simp [hwt]),if_neg (by rw [hs]; simp [hd]),gB,if_neg (by simp)];by_cases hbr:dT (Go.Par.seen w.over) w.clock w.leases p=[]
      · rw [if_pos hbr,if_pos hbr];obtain ⟨a,b,c,d,e,f,g,h,i⟩:=w;simp only at hwt hop;subst hwt hop;rfl
      · rw [if_neg hbr,if_neg hbr]
     rw [q] at c3;subst hz;refine G0 Tryz.func146 ?_;repeat' first|refine Ra ⟨?_⟩|refine R0 c1 ⟨?_⟩|refine Rk [] 1 c2 ⟨?_⟩|refine Rk [0,1,2,3,4] 4 c3 ⟨?_⟩|refine Rd (fun h=>⟨?_⟩) fun h=>⟨?_⟩|refine Rb ⟨?_⟩|fail
     exact Rf
   · have q:cD w p=(w,(ao v p).2):=by rw [cD,if_neg (by simp [hwt]),if_pos (by rw [hs]; exact hd),hs]
     rw [q];subst hz;refine G0 Tryz.func146 ?_;repeat' first|refine Ra ⟨?_⟩|refine R0 c1 ⟨?_⟩|refine Rk [] 1 c2 ⟨?_⟩|refine Rd (fun h=>⟨?_⟩) fun h=>⟨?_⟩|refine Rb ⟨?_⟩|fail
     refine ai.here (fw [.anew 1,.close 2,.anew 3,.anew 4] ?_)
     conv=>whnf
     exact ⟨rfl,rfl,rfl,rfl⟩
theorem zb {ls:List Lse} {who:Int} {p:Bs} {n:Int} (h:∀ x∈ls,aI who p x=false):jc ls who p n=ls:=by
 unfold jc;rw [zBS];intro x hx;simp [h x hx]
theorem fG {α:Type} {f:α→Bool}:∀ {l:List α} {i:Nat} {x:α},l[i]?=some x→f x=false→(∀ (j:Nat) y,l[j]?=some y→j≠i→f y=true)→l.filter f=l.eraseIdx i
 | [],i,x,h,_,_=>by simp at h
 | a :: r,0,x,h,hx,ho=>by
   simp at h;subst h;rw [List.filter_cons_of_neg (by simp [hx]),List.eraseIdx_cons_zero,zBS];intro y hy;obtain ⟨j,hj⟩:=List.mem_iff_getElem?.1 hy;exact ho (j+1) y (by simpa using hj) (by omega)
 | a :: r,i+1,x,h,hx,ho=>by
   rw [List.filter_cons_of_pos (ho 0 a rfl (by omega)),List.eraseIdx_cons_succ,fG (l:=r) (i:=i) (by simpa using h) hx fun j y hj hne=>ho (j+1) y (by simpa using hj) (by omega)]
theorem tq {ls:List Lse} (hu:ls.Pairwise fun a b=>¬ (a.who=b.who∧a.path=b.path)) {who:Int} {p:Bs} {i:Nat} {x:Lse} (h:ls[i]?=some x) (hx:aI who p x=true) {j:Nat} {y:Lse} (hj:ls[j]?=some y) (hne:j≠i):aI who p y=false:=by
 rw [zAz] at hu;obtain ⟨hi,rfl⟩:=List.getElem?_eq_some_iff.1 h;obtain ⟨hj',rfl⟩:=List.getElem?_eq_some_iff.1 hj;simp only [aI,zAC,decide_eq_true_eq] at hx;rw [← zAa];intro hy;simp only [aI,zAC,decide_eq_true_eq] at hy;rcases zBJ hne with g|g
 · exact hu j i hj' hi g ⟨by rw [hy.1,hx.1],by rw [hy.2,hx.2]⟩
 · exact hu i j hi hj' g ⟨by rw [hy.1,hx.1],by rw [hy.2,hx.2]⟩
theorem Cm {ls:List Lse} (hu:ls.Pairwise fun a b=>¬ (a.who=b.who∧a.path=b.path)) {who:Int} {p:Bs} {n:Int} {i:Nat} {x:Lse} (h:ls[i]?=some x) (hx:aI who p x=true) (hn:x.num≤n):jc ls who p n=ls.eraseIdx i:=by
 unfold jc;refine fG h (by simp [hx,hn]) fun j y hj hne=>?_;simp [tq hu h hx hj hne]
theorem Fc {ls:List Lse} (hu:ls.Pairwise fun a b=>¬ (a.who=b.who∧a.path=b.path)) {who:Int} {p:Bs} {n:Int} {i:Nat} {x:Lse} (h:ls[i]?=some x) (hx:aI who p x=true) (hn:¬ x.num≤n):jc ls who p n=ls:=by
 unfold jc;rw [zBS];intro y hy;obtain ⟨j,hj⟩:=List.mem_iff_getElem?.1 hy;by_cases e:j=i
 · subst e;rw [h] at hj;cases hj;simp [hn]
 · simp [tq hu h hx hj e]
theorem xx (w:Wld) (zs:List br) (who:Int) (p:Bs) (n:Int) (hll:w.leases.length≤1048576) (hu:w.leases.Pairwise fun a b=>¬ (a.who=b.who∧a.path=b.path)) (h0 h1 h2:List Hld) (hz:zs=[anH h0,anH h1,anH h2]):Con (E m) 217 5 [.bp 0 0,.k .i64 who,.s p,.k .i64 n] (bxT w 1 2 3 4 zs) (.tup []) (bxT (lx w who p n) 5 6 7 8 zs):=by
 have c1:=jy (m:=m) w.leases who p hll;subst hz;unfold lx;rcases fO (aI who p) w.leases with ⟨g1,g2⟩|⟨i,x,g1,g2,g3,g4⟩
 · rw [g1] at c1;rw [zb g2];refine G0 Tryz.func217 ?_;repeat' first|refine Ra ⟨?_⟩|(refine ⟨[],_,_,_,_,0,⟨rfl,rfl,rfl,c1,rfl,rfl⟩,.inl ⟨[],trivial,rfl,.inl ⟨by simp [bb,ba,aj],by simp [bg,bc,aj,Ent.c,Mrk.c,Opn.c,Lse.c,Hld.c,Mes.c,aX,anH]⟩,?_⟩⟩ <;> conv=>whnf)|refine Rd (fun h=>⟨?_⟩) fun h=>⟨?_⟩|refine Rb ⟨?_⟩|fail
   refine ai.here (fw [.anew 1,.close 2,.anew 3,.anew 4] ?_)
   conv=>whnf
   exact ⟨rfl,rfl,rfl,rfl⟩
 · rw [g1] at c1;have hi:=(List.getElem?_eq_some_iff.1 g2).1;have e1:(w.leases.map Lse.c).length=w.leases.length:=zAA ..;have g5:(w.leases.map Lse.c)[i]?=some x.c:=mg g2;by_cases hn:x.num≤n
   · rw [Cm hu g2 g3 hn];have c2:=oY (m:=m) w.leases i hi hll;refine G0 Tryz.func217 ?_;repeat' first|refine Ra ⟨?_⟩|(refine ⟨[],_,_,_,_,0,⟨rfl,rfl,rfl,c1,rfl,rfl⟩,.inl ⟨[],trivial,rfl,.inl ⟨by simp [bb,ba,aj],by simp [bg,bc,aj,Ent.c,Mrk.c,Opn.c,Lse.c,Hld.c,Mes.c,aX,anH]⟩,?_⟩⟩ <;> conv=>whnf)|refine Rk [1] 1 c2 ⟨?_⟩|((refine ⟨i,rfl,by omega,?_⟩) <;> conv=>whnf)|((refine ⟨_,g5,?_⟩) <;> conv=>whnf)|refine Rd (fun h=>⟨?_⟩) fun h=>⟨?_⟩|refine Rb ⟨?_⟩|fail
     refine ai.here (fw [.close 2,.anew 3,.anew 4] ?_)
     conv=>whnf
     exact ⟨rfl,rfl,rfl,rfl⟩
   · rw [Fc hu g2 g3 hn];refine G0 Tryz.func217 ?_;repeat' first|refine Ra ⟨?_⟩|(refine ⟨[],_,_,_,_,0,⟨rfl,rfl,rfl,c1,rfl,rfl⟩,.inl ⟨[],trivial,rfl,.inl ⟨by simp [bb,ba,aj],by simp [bg,bc,aj,Ent.c,Mrk.c,Opn.c,Lse.c,Hld.c,Mes.c,aX,anH]⟩,?_⟩⟩ <;> conv=>whnf)|((refine ⟨i,rfl,by omega,?_⟩) <;> conv=>whnf)|((refine ⟨_,g5,?_⟩) <;> conv=>whnf)|refine Rd (fun h=>⟨?_⟩) fun h=>⟨?_⟩|refine Rb ⟨?_⟩|fail
     refine ai.here (fw [.anew 1,.close 2,.anew 3,.anew 4] ?_)
     conv=>whnf
     exact ⟨rfl,rfl,rfl,rfl⟩
variable {m:Int}
abbrev wlR (a b c d:Nat) (L:List (List D)) (zs:List br) (F N:List (List D)):ab:=[(a,.own 93 L),(b,.deep 159 152 zs),(c,.own 3 F),(d,.own 154 N)]
abbrev wlT (w:Wld) (a b c d:Nat) (zs:List br):ab:=wlR a b c d (w.leases.map Lse.c) zs (i7 w.floors) (w.net.map Mes.c)
theorem gQ (w:Wld) (zs:List br) (x:Mes) (hnl:w.net.length≤1048576) (h0 h1 h2:List Hld) (hz:zs=[anH h0,anH h1,anH h2]):Con (E m) 187 4 [.agg (wcO w 0 1 2 3),.agg x.c] (wlT w 0 1 2 3 zs) (.agg (wcO { w with net:=cq w.net x } 4 5 6 7)) (wlT { w with net:=cq w.net x } 4 5 6 7 zs):=by
 have e4:(w.net.map Mes.c).length=w.net.length:=zAA ..;subst hz;by_cases h:w.net.length < 12
 · have hx:cq w.net x=w.net++[x]:=by rw [cq,if_pos h]
   rw [hx];refine G0 Tryz.func187 ?_;repeat' first|refine Rx ⟨?_⟩|refine Rd (fun h=>⟨?_⟩) fun h=>⟨?_⟩|fail
   refine ai.here (fw [.anew 0,.close 1,.anew 2] ?_)
   conv=>whnf
   refine ⟨rfl,rfl,rfl,?_⟩;exact congrArg (wlR 4 5 6 7 _ _ _) (zAK (f:=Mes.c) (l₁:=w.net) (l₂:=[x])).symm
 · have hx:cq w.net x=w.net:=by rw [cq,if_neg h]
   rw [hx];refine G0 Tryz.func187 ?_;repeat' first|refine Rx ⟨?_⟩|refine Rd (fun h=>⟨?_⟩) fun h=>⟨?_⟩|fail
   refine ai.here (fw [.anew 0,.close 1,.anew 2,.anew 3] ?_)
   conv=>whnf
   exact ⟨rfl,rfl,rfl,rfl⟩
theorem qX (w:Wld) (zs:List br) (bars:List Lse) (hnl:w.net.length≤1048576) (hbl:bars.length≤1048576) (h0 h1 h2:List Hld) (hz:zs=[anH h0,anH h1,anH h2]):Con (E m) 249 4 [.agg (wcO w 0 1 2 3),.sl (bars.map Lse.c)] (wlT w 0 1 2 3 zs) (.agg (wcO { w with net:=dz w.net w.count bars } 4 5 6 7)) (wlT { w with net:=dz w.net w.count bars } 4 5 6 7 zs):=by
 have e1:(bars.map Lse.c).length=bars.length:=zAA ..;subst hz;refine G0 Tryz.func249 ?_;repeat' first|refine Rx ⟨?_⟩|refine Rd (fun h=>⟨?_⟩) fun h=>⟨?_⟩|fail
 refine Cd.loop2 (fun mq tm S nx=>∃ (i:Nat) (N:List Mes),mq=(bars.length - i)∧tm=[(1,.sl (bars.map Lse.c)),(2,.bp 4 0),(4,.bp 5 0),(5,.k .i64 i)]∧S=[(4,.box 54 (wcO w 6 7 8 9)),(5,.box 54 [.nil,.nil,.nil,.k .i64 0,.k .i64 0,.nil,.nil,.nil,.nil,.b false,.k .i64 0,.s [],.s [],.s []]),(6,.own 93 (w.leases.map Lse.c)),(7,.deep 159 152 [anH h0,anH h1,anH h2]),(8,.own 3 (i7 w.floors)),(9,.own 154 (N.map Mes.c))]∧nx=10∧(i≤bars.length)∧(dz w.net w.count bars=dz N w.count (bars.drop i))∧(N.length≤1048576)) ?_ ?_
 · refine lw [.anew 0,.close 1,.anew 2,.anew 3] [1,2,4,5] ?_
   conv=>whnf
   refine ⟨rfl,rfl,_,0,w.net,rfl,rfl,rfl,rfl,zAG _,rfl,hnl⟩
 · rintro mq tm S nx ⟨i,N,hn,rfl,rfl,rfl,hi,ha,hN⟩;rcases (au bars i hi).symm with ⟨x,r,hx',hd,hr,hlt⟩|⟨rfl,hd⟩
   · rw [hd,kW] at ha;have c1:=gQ (m:=m) { w with net:=N } [anH h0,anH h1,anH h2] ⟨3,x.who,bE x.path w.count⟩ hN h0 h1 h2 rfl
     repeat' first|refine Ra ⟨?_⟩|refine Rk [6,7,8,9] 4 c1 ⟨?_⟩|refine Rd (fun h=>⟨?_⟩) fun h=>⟨?_⟩|refine Rb ⟨?_⟩|fail
     refine .here ⟨mq - 1,by omega,?_⟩;refine la [1,2,4,5] ?_
     conv=>whnf
     refine ⟨rfl,rfl,i+1,cq N ⟨3,x.who,bE x.path w.count⟩,(by omega),rfl,rfl,rfl,by omega,(by rw [ha,hr]),km hN (by omega)⟩
   · rw [hd] at ha;rw [ha];repeat' first|refine Rx ⟨?_⟩|refine Rd (fun h=>⟨?_⟩) fun h=>⟨?_⟩|fail
     exact Rf
theorem vW (ls:List Lse) (who:Int) (p:Bs) (n:Int) (hl:ls.length≤1048576):Con (E m) 295 0 [.sl (ls.map Lse.c),.k .i64 who,.s p,.k .i64 n] [] (.own 0) [(0,.own 93 ((jc ls who p n).map Lse.c))]:=by
 have e1:(ls.map Lse.c).length=ls.length:=zAA ..;refine G0 Tryz.func295 ?_;repeat' first|refine Rx ⟨?_⟩|refine Rd (fun h=>⟨?_⟩) fun h=>⟨?_⟩|fail
 refine Cd.loop2 (fun mq tm S nx=>∃ (i:Nat) (A:List Lse),mq=(ls.length - i)∧tm=[(0,.sl (ls.map Lse.c)),(1,.k .i64 who),(2,.s p),(3,.k .i64 n),(9,.own 0),(10,.k .i64 i)]∧S=[(0,.own 93 (A.map Lse.c))]∧nx=1∧(i≤ls.length)∧(A=jc (ls.take i) who p n)∧(A.length≤i)) ?_ ?_
 · refine la [0,1,2,3,9,10] ?_
   conv=>whnf
   refine ⟨rfl,rfl,_,0,[],rfl,rfl,rfl,rfl,zAG _,(by simp [jc]),by simp⟩
 · rintro mq tm S nx ⟨i,A,hn,rfl,rfl,rfl,hi,hA,hAl⟩;have e2:(A.map Lse.c).length=A.length:=zAA ..;rcases au ls i hi with ⟨rfl,hd⟩|⟨x,r,hx',hd,hr,hlt⟩
   · rw [zAN] at hA;subst hA;repeat' first|refine Rx ⟨?_⟩|refine Rd (fun h=>⟨?_⟩) fun h=>⟨?_⟩|fail
     exact Rf
   · have hstep:jc (ls.take (i+1)) who p n=A++(if aI who p x && decide (x.num≤n) then [] else [x]):=by
       rw [hA,jc,jc,zAX,hx',zAg];congr 1
       cases hq:aI who p x && decide (x.num≤n) <;> rw [Option.toList_some,List.filter_cons,hq] <;> rfl
     by_cases q1:x.who=who
     · by_cases q2:x.path=p
       · by_cases q3:x.num≤n
         · have q:(aI who p x && decide (x.num≤n))=true:=by simp [aI,q1,q2,q3]
           repeat' first|refine Rx ⟨?_⟩|refine Rd (fun h=>⟨?_⟩) fun h=>⟨?_⟩|fail
           refine .here ⟨mq - 1,by omega,?_⟩;refine la [0,1,2,3,9,10] ?_
           conv=>whnf
           refine ⟨rfl,rfl,i+1,A,(by omega),rfl,rfl,rfl,by omega,(by rw [hstep,if_pos q]; simp),by omega⟩
         · have q:(aI who p x && decide (x.num≤n))=false:=by simp [q3]
           repeat' first|refine Rx ⟨?_⟩|refine Rd (fun h=>⟨?_⟩) fun h=>⟨?_⟩|fail
           refine .here ⟨mq - 1,by omega,?_⟩;refine la [0,1,2,3,9,10] ?_
           conv=>whnf
           refine ⟨rfl,rfl,i+1,A++[x],(by omega),rfl,?_,rfl,by omega,(by rw [hstep,q]; simp),(by simp; omega)⟩;rw [zAK];rfl
       · have q:(aI who p x && decide (x.num≤n))=false:=by simp [aI,q2]
         repeat' first|refine Rx ⟨?_⟩|refine Rd (fun h=>⟨?_⟩) fun h=>⟨?_⟩|fail
         refine .here ⟨mq - 1,by omega,?_⟩;refine la [0,1,2,3,9,10] ?_
         conv=>whnf
         refine ⟨rfl,rfl,i+1,A++[x],(by omega),rfl,?_,rfl,by omega,(by rw [hstep,q]; simp),(by simp; omega)⟩;rw [zAK];rfl
     · have q:(aI who p x && decide (x.num≤n))=false:=by simp [aI,q1]
       repeat' first|refine Rx ⟨?_⟩|refine Rd (fun h=>⟨?_⟩) fun h=>⟨?_⟩|fail
       refine .here ⟨mq - 1,by omega,?_⟩;refine la [0,1,2,3,9,10] ?_
       conv=>whnf
       refine ⟨rfl,rfl,i+1,A++[x],(by omega),rfl,?_,rfl,by omega,(by rw [hstep,q]; simp),(by simp; omega)⟩;rw [zAK];rfl
theorem nH (hs:List Hld) (p:Bs) (n:Int) (hl:hs.length≤1048576):Con (E m) 294 0 [.sl (hs.map Hld.c),.s p,.k .i64 n] [] (.own 0) [(0,.own 152 ((bW hs p n).map Hld.c))]:=by
 have e1:(hs.map Hld.c).length=hs.length:=zAA ..;refine G0 Tryz.func294 ?_;repeat' first|refine Rx ⟨?_⟩|refine Rd (fun h=>⟨?_⟩) fun h=>⟨?_⟩|fail
 refine Cd.loop2 (fun mq tm S nx=>∃ (i:Nat) (A:List Hld),mq=(hs.length - i)∧tm=[(0,.sl (hs.map Hld.c)),(1,.s p),(2,.k .i64 n),(7,.own 0),(8,.k .i64 i)]∧S=[(0,.own 152 (A.map Hld.c))]∧nx=1∧(i≤hs.length)∧(A=bW (hs.take i) p n)∧(A.length≤i)) ?_ ?_
 · refine la [0,1,2,7,8] ?_
   conv=>whnf
   refine ⟨rfl,rfl,_,0,[],rfl,rfl,rfl,rfl,zAG _,(by simp [bW]),by simp⟩
 · rintro mq tm S nx ⟨i,A,hn,rfl,rfl,rfl,hi,hA,hAl⟩;have e2:(A.map Hld.c).length=A.length:=zAA ..;rcases au hs i hi with ⟨rfl,hd⟩|⟨x,r,hx',hd,hr,hlt⟩
   · rw [zAN] at hA;subst hA;repeat' first|refine Rx ⟨?_⟩|refine Rd (fun h=>⟨?_⟩) fun h=>⟨?_⟩|fail
     exact Rf
   · have hstep:bW (hs.take (i+1)) p n=A++(if decide (x.path=p) && decide (x.num≤n) then [] else [x]):=by
       rw [hA,bW,bW,zAX,hx',zAg];congr 1
       cases hq:decide (x.path=p) && decide (x.num≤n) <;> rw [Option.toList_some,List.filter_cons,hq] <;> rfl
     by_cases q2:x.path=p
     · by_cases q3:x.num≤n
       · have q:(decide (x.path=p) && decide (x.num≤n))=true:=by simp [q2,q3]
         repeat' first|refine Rx ⟨?_⟩|refine Rd (fun h=>⟨?_⟩) fun h=>⟨?_⟩|fail
         refine .here ⟨mq - 1,by omega,?_⟩;refine la [0,1,2,7,8] ?_
         conv=>whnf
         refine ⟨rfl,rfl,i+1,A,(by omega),rfl,rfl,rfl,by omega,(by rw [hstep,if_pos q]; simp),by omega⟩
       · have q:(decide (x.path=p) && decide (x.num≤n))=false:=by simp [q3]
         repeat' first|refine Rx ⟨?_⟩|refine Rd (fun h=>⟨?_⟩) fun h=>⟨?_⟩|fail
         refine .here ⟨mq - 1,by omega,?_⟩;refine la [0,1,2,7,8] ?_
         conv=>whnf
         refine ⟨rfl,rfl,i+1,A++[x],(by omega),rfl,?_,rfl,by omega,(by rw [hstep,q]; simp),(by simp; omega)⟩;rw [zAK];rfl
     · have q:(decide (x.path=p) && decide (x.num≤n))=false:=by simp [q2]
       repeat' first|refine Rx ⟨?_⟩|refine Rd (fun h=>⟨?_⟩) fun h=>⟨?_⟩|fail
       refine .here ⟨mq - 1,by omega,?_⟩;refine la [0,1,2,7,8] ?_
       conv=>whnf
       refine ⟨rfl,rfl,i+1,A++[x],(by omega),rfl,?_,rfl,by omega,(by rw [hstep,q]; simp),(by simp; omega)⟩;rw [zAK];rfl
theorem Dt (w:Wld) (zs:List br) (hc:0≤w.clock∧w.clock≤10000) (hll:w.leases.length≤1048576) (h0 h1 h2:List Hld) (hz:zs=[anH h0,anH h1,anH h2]):Con (E m) 190 4 [.agg (wcO w 0 1 2 3)] (wlT w 0 1 2 3 zs) (.agg (wcO (lr w) 4 5 6 7)) (wlT (lr w) 4 5 6 7 zs):=by
 subst hz;have e1:(w.leases.map Lse.c).length=w.leases.length:=zAA ..;unfold lr;by_cases hlt:w.clock < 10000
 · have hcq:fE w.clock=w.clock+1:=by rw [fE,if_pos hlt]
   rw [hcq];refine G0 Tryz.func190 ?_;repeat' first|refine Rx ⟨?_⟩|refine Rd (fun h=>⟨?_⟩) fun h=>⟨?_⟩|fail
   refine Cd.loop2 (fun mq tm S nx=>∃ (i:Nat) (A:List Lse),mq=(w.leases.length - i)∧tm=[(1,.bp 4 0),(2,.bp 5 0),(3,.own 6),(4,.k .i64 i)]∧S=[(0,.own 93 (w.leases.map Lse.c)),(1,.deep 159 152 [anH h0,anH h1,anH h2]),(2,.own 3 (i7 w.floors)),(3,.own 154 (w.net.map Mes.c)),(4,.box 54 (wcO { w with clock:=w.clock+1 } 0 1 2 3)),(5,.box 54 [.nil,.nil,.nil,.k .i64 0,.k .i64 0,.nil,.nil,.nil,.nil,.b false,.k .i64 0,.s [],.s [],.s []]),(6,.own 93 (A.map Lse.c))]∧nx=7∧(i≤w.leases.length)∧(A=(w.leases.take i).filter (fun l=>decide (w.clock+1 < l.til)))∧(A.length≤i)) ?_ ?_
   · refine la [1,2,3,4] ?_
     conv=>whnf
     refine ⟨rfl,rfl,_,0,[],rfl,rfl,rfl,rfl,zAG _,by simp,by simp⟩
   · rintro mq tm S nx ⟨i,A,hn,rfl,rfl,rfl,hi,hA,hAl⟩;have e2:(A.map Lse.c).length=A.length:=zAA ..;rcases au w.leases i hi with ⟨rfl,hd⟩|⟨x,r,hx',hd,hr,hlt2⟩
     · rw [zAN] at hA;subst hA;repeat' first|refine Rx ⟨?_⟩|refine Rd (fun h=>⟨?_⟩) fun h=>⟨?_⟩|fail
       refine ai.here (fw [.ice 0,.close 1,.anew 2,.anew 3] ?_)
       conv=>whnf
       exact ⟨rfl,rfl,rfl,rfl⟩
     · have g5:(w.leases.map Lse.c)[i]?=some x.c:=mg hx';have hstep:(w.leases.take (i+1)).filter (fun l=>decide (w.clock+1 < l.til))=A++(if w.clock+1 < x.til then [x] else []):=by
        rw [hA,zAX,hx',zAg];congr 1
        by_cases q:w.clock+1 < x.til <;> simp [q]
       by_cases q:w.clock+1 < x.til
       · repeat' first|refine Ra ⟨?_⟩|((refine ⟨i,rfl,by omega,?_⟩) <;> conv=>whnf)|((refine ⟨_,g5,?_⟩) <;> conv=>whnf)|refine Rd (fun h=>⟨?_⟩) fun h=>⟨?_⟩|refine Rb ⟨?_⟩|fail
         refine .here ⟨mq - 1,by omega,?_⟩;refine la [1,2,3,4] ?_
         conv=>whnf
         refine ⟨rfl,rfl,i+1,A++[x],(by omega),rfl,?_,rfl,by omega,(by rw [hstep,if_pos q]),(by simp; omega)⟩;rw [zAK];rfl
       · repeat' first|refine Ra ⟨?_⟩|((refine ⟨i,rfl,by omega,?_⟩) <;> conv=>whnf)|((refine ⟨_,g5,?_⟩) <;> conv=>whnf)|refine Rd (fun h=>⟨?_⟩) fun h=>⟨?_⟩|refine Rb ⟨?_⟩|fail
         refine .here ⟨mq - 1,by omega,?_⟩;refine la [1,2,3,4] ?_
         conv=>whnf
         refine ⟨rfl,rfl,i+1,A,(by omega),rfl,rfl,rfl,by omega,(by rw [hstep,if_neg q]; simp),by omega⟩
 · have hcq:fE w.clock=w.clock:=by rw [fE,if_neg hlt]
   rw [hcq];refine G0 Tryz.func190 ?_;repeat' first|refine Rx ⟨?_⟩|refine Rd (fun h=>⟨?_⟩) fun h=>⟨?_⟩|fail
   refine Cd.loop2 (fun mq tm S nx=>∃ (i:Nat) (A:List Lse),mq=(w.leases.length - i)∧tm=[(1,.bp 4 0),(2,.bp 5 0),(3,.own 6),(4,.k .i64 i)]∧S=[(0,.own 93 (w.leases.map Lse.c)),(1,.deep 159 152 [anH h0,anH h1,anH h2]),(2,.own 3 (i7 w.floors)),(3,.own 154 (w.net.map Mes.c)),(4,.box 54 (wcO { w with clock:=w.clock } 0 1 2 3)),(5,.box 54 [.nil,.nil,.nil,.k .i64 0,.k .i64 0,.nil,.nil,.nil,.nil,.b false,.k .i64 0,.s [],.s [],.s []]),(6,.own 93 (A.map Lse.c))]∧nx=7∧(i≤w.leases.length)∧(A=(w.leases.take i).filter (fun l=>decide (w.clock < l.til)))∧(A.length≤i)) ?_ ?_
   · refine la [1,2,3,4] ?_
     conv=>whnf
     refine ⟨rfl,rfl,_,0,[],rfl,rfl,rfl,rfl,zAG _,by simp,by simp⟩
   · rintro mq tm S nx ⟨i,A,hn,rfl,rfl,rfl,hi,hA,hAl⟩;have e2:(A.map Lse.c).length=A.length:=zAA ..;rcases au w.leases i hi with ⟨rfl,hd⟩|⟨x,r,hx',hd,hr,hlt2⟩
     · rw [zAN] at hA;subst hA;repeat' first|refine Rx ⟨?_⟩|refine Rd (fun h=>⟨?_⟩) fun h=>⟨?_⟩|fail
       refine ai.here (fw [.ice 0,.close 1,.anew 2,.anew 3] ?_)
       conv=>whnf
       exact ⟨rfl,rfl,rfl,rfl⟩
     · have g5:(w.leases.map Lse.c)[i]?=some x.c:=mg hx';have hstep:(w.leases.take (i+1)).filter (fun l=>decide (w.clock < l.til))=A++(if w.clock < x.til then [x] else []):=by
        rw [hA,zAX,hx',zAg];congr 1
        by_cases q:w.clock < x.til <;> simp [q]
       by_cases q:w.clock < x.til
       · repeat' first|refine Ra ⟨?_⟩|((refine ⟨i,rfl,by omega,?_⟩) <;> conv=>whnf)|((refine ⟨_,g5,?_⟩) <;> conv=>whnf)|refine Rd (fun h=>⟨?_⟩) fun h=>⟨?_⟩|refine Rb ⟨?_⟩|fail
         refine .here ⟨mq - 1,by omega,?_⟩;refine la [1,2,3,4] ?_
         conv=>whnf
         refine ⟨rfl,rfl,i+1,A++[x],(by omega),rfl,?_,rfl,by omega,(by rw [hstep,if_pos q]),(by simp; omega)⟩;rw [zAK];rfl
       · repeat' first|refine Ra ⟨?_⟩|((refine ⟨i,rfl,by omega,?_⟩) <;> conv=>whnf)|((refine ⟨_,g5,?_⟩) <;> conv=>whnf)|refine Rd (fun h=>⟨?_⟩) fun h=>⟨?_⟩|refine Rb ⟨?_⟩|fail
         refine .here ⟨mq - 1,by omega,?_⟩;refine la [1,2,3,4] ?_
         conv=>whnf
         refine ⟨rfl,rfl,i+1,A,(by omega),rfl,rfl,rfl,by omega,(by rw [hstep,if_neg q]; simp),by omega⟩
end Go.Proofs.YtlicaibhgcenhaaGreatDoor
