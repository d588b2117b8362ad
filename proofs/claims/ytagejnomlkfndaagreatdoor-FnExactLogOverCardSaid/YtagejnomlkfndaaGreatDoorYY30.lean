/- Texts of this claim, set close: lemmas and contracts. -/
import Derived.Test.YtagejnomlkfndaaGreatDoorYY27
set_option linter.unusedSimpArgs false
set_option linter.unusedVariables false
set_option maxHeartbeats 1000000
set_option maxRecDepth 10000
namespace Go.Proofs.YtagejnomlkfndaaGreatDoor
open Go Go.RowKit Go.Ab Go.Par
variable {m:Int}
def C8 (l:Lse):Prop:=l.path.length≤1073741823
def nE (h:Hld):Prop:=h.path.length≤1073741823∧h.ent.path.length≤1073741823∧h.ent.data.length≤1073741823
structure dO (w:Wld):Prop where
 over:gM w.over
 ls:∀ l∈w.leases,C8 l
 ll:w.leases.length≤1048576
 hs:∀ l∈w.holds,(∀ h∈l,nE h)∧l.length≤1048576
 hl:w.holds.length≤1048576
 fl:w.floors.length≤1048576
 nt:∀ x∈w.net,nE x.hold
 nl:w.net.length≤1048576
 op:jc 1073741823 w.op
theorem iH {n i:Nat} (h:i < n):(List.range n).drop i=i :: (List.range n).drop (i+1):=by
 rw [List.drop_eq_getElem_cons (by simpa using h)]
 simp
theorem e8 (n:Nat):(List.range n).drop n=[]:=by simp
theorem H9 {ls:List Lse} {i:Nat} {l:Lse} (h:ls[i]?=some l):decide (ixL (aW l.who l.path) ls=(i:Int))=(ls.take i).all fun k=>!aW l.who l.path k:=by
 have hl:aW l.who l.path l=true:=by simp [aW]
 cases ha:(ls.take i).all fun k=>!aW l.who l.path k with
 | true=>rw [lZ ha h hl]; simp
 | false=>
   refine decide_eq_false fun he=>?_;rcases eD (aW l.who l.path) ls with ⟨h1,_⟩|⟨j,x,h1,h2,h3,h4⟩
   · omega
   · have:j=i:=by omega
     subst this;rw [h4] at ha;cases ha
theorem Ia {ls:List Hld} {i:Nat} {h:Hld} (g:ls[i]?=some h):decide (ixL (hb h.path) ls=(i:Int))=(ls.take i).all fun k=>!decide (k.path=h.path):=by
 have hl:hb h.path h=true:=by simp
 cases ha:(ls.take i).all fun k=>!decide (k.path=h.path) with
 | true=>rw [lZ (f:=hb h.path) ha g hl]; simp
 | false=>
   refine decide_eq_false fun he=>?_;rcases eD (hb h.path) ls with ⟨h1,_⟩|⟨j,x,h1,h2,h3,h4⟩
   · omega
   · have:j=i:=by omega
     subst this;rw [h4] at ha;cases ha
def yK (cnt:Int) (net:List Mes):Bool:=decide (net.length≤12) && net.all (fg cnt)
theorem Fq (w:Wld) (hb:dO w):Con (E m) 139 0 [.agg w.c] [] (.b (yK w.count w.net)) []:=by
 have hnl:=hb.nl;have e1:(w.net.map Mes.c).length=w.net.length:=zAA ..;by_cases hl:w.net.length≤12
 · have hx:yK w.count w.net=w.net.all (fg w.count):=by simp [yK,hl]
   rw [hx];refine G0 Tryz.func139 ?_;repeat' first|refine Rx ⟨?_⟩|refine Rd (fun h=>⟨?_⟩) fun h=>⟨?_⟩|fail
   refine Cd.loop2 (fun mq tm S nx=>∃ (i:Nat),mq=(w.net.length - i)∧tm=[(1,.bp 0 0),(10,.sl (w.net.map Mes.c)),(11,.k .i64 ((w.net.map Mes.c).length:Int)),(12,.k .i64 i)]∧S=[(0,.box 55 w.c)]∧nx=1∧(i≤w.net.length)∧(w.net.all (fg w.count)=(w.net.drop i).all (fg w.count))) ?_ ?_
   · refine la [1,10,11,12] ?_
     conv=>whnf
     refine ⟨rfl,rfl,_,0,rfl,rfl,rfl,rfl,zAG _,rfl⟩
   · rintro mq tm S nx ⟨i,hn,rfl,rfl,rfl,hi,ha⟩;rcases av w.net i hi with ⟨rfl,hd⟩|⟨x,r,hx',hd,hr,hlt⟩
     · rw [hd] at ha;rw [ha];repeat' first|refine Rx ⟨?_⟩|refine Rd (fun h=>⟨?_⟩) fun h=>⟨?_⟩|fail
       exact Rf
     · rw [hd] at ha;have hbx:=hb.nt x (zAD hx');obtain ⟨k,who,⟨p,has,⟨ep,ed,eb⟩,num,til⟩⟩:=x;have c1:=f7 (m:=m) k 1 4;have c2:=nv (m:=m) who;have c3:=cu (m:=m) p (by have:=hbx.1; simp only at this; omega);have c4:=f7 (m:=m) num 0 w.count;cases hm:fg w.count ⟨k,who,⟨p,has,⟨ep,ed,eb⟩,num,til⟩⟩ with
       | true=>
         simp only [fg,aZ,b9,zAE,zAe,decide_eq_true_eq,Hld.mk.injEq,Ent.mk.injEq,true_and] at hm;obtain ⟨⟨⟨⟨⟨⟨b1,b2⟩,b3⟩,b4⟩,b5⟩,b6⟩,b7⟩:=hm;rw [decide_eq_true b1,decide_eq_true b2] at c1;rw [b3] at c2;rw [b4] at c3;rw [decide_eq_true b5,decide_eq_true b6] at c4;have hr':w.net.all (fg w.count)=(w.net.drop (i+1)).all (fg w.count):=by rw [ha,hr]; simp [fg,aZ,b9, *]
         by_cases h2:k=2
         · repeat' first|refine Ra ⟨?_⟩|refine R0 c1 ⟨?_⟩|refine R0 c2 ⟨?_⟩|refine R0 c3 ⟨?_⟩|refine R0 c4 ⟨?_⟩|refine Rd (fun h=>⟨?_⟩) fun h=>⟨?_⟩|refine Rb ⟨?_⟩|fail
           refine .here ⟨mq - 1,by omega,?_⟩;refine la [1,10,11,12] ?_
           conv=>whnf
           refine ⟨rfl,rfl,i+1,(by omega),rfl,rfl,rfl,by omega,hr'⟩
         · obtain ⟨q1,⟨q2,q3,q4⟩,q5⟩:has=false∧(ep=[]∧ed=false∧eb=[])∧til=0:=by
             rcases b7 with h|h
             · exact absurd h h2
             · exact h
           subst q1 q2 q3 q4 q5;have e9:=Hc ⟨p,false,⟨[],false,[]⟩,num,0⟩;repeat' first|refine Ra ⟨?_⟩|refine R0 c1 ⟨?_⟩|refine R0 c2 ⟨?_⟩|refine R0 c3 ⟨?_⟩|refine R0 c4 ⟨?_⟩|refine Rd (fun h=>⟨?_⟩) fun h=>⟨?_⟩|refine Rb ⟨?_⟩|fail
           refine .here ⟨mq - 1,by omega,?_⟩;refine la [1,10,11,12] ?_
           conv=>whnf
           refine ⟨rfl,rfl,i+1,(by omega),rfl,rfl,rfl,by omega,hr'⟩
       | false=>
         have hf:w.net.all (fg w.count)=false:=dM hx' hm;rw [hf];simp only [fg,aZ,b9] at hm;repeat' first|refine Ra ⟨?_⟩|refine R0 c1 ⟨?_⟩|refine R0 c2 ⟨?_⟩|refine R0 c3 ⟨?_⟩|refine R0 c4 ⟨?_⟩|refine Rd (fun h=>⟨?_⟩) fun h=>⟨?_⟩|refine Rb ⟨?_⟩|fail
         all_goals first|exact Rf|(exfalso; simp_all; done)
 · have hx:yK w.count w.net=false:=by simp [yK,hl]
   rw [hx];refine G0 Tryz.func139 ?_;repeat' first|refine Rx ⟨?_⟩|refine Rd (fun h=>⟨?_⟩) fun h=>⟨?_⟩|fail
   exact Rf
theorem yL (w:Wld) (hb:dO w) (hc:0≤w.clock∧w.clock≤10000):Con (E m) 140 0 [.agg w.c] [] (.b (vv w.count w.clock w.leases)) []:=by
 have hll:=hb.ll;have e1:(w.leases.map Lse.c).length=w.leases.length:=zAA ..;unfold vv;refine G0 Tryz.func140 ?_;repeat' first|refine Rx ⟨?_⟩|refine Rd (fun h=>⟨?_⟩) fun h=>⟨?_⟩|fail
 refine Cd.loop2 (fun mq tm S nx=>∃ (i:Nat),mq=(w.leases.length - i)∧tm=[(1,.bp 0 0),(6,.sl (w.leases.map Lse.c)),(7,.k .i64 ((w.leases.map Lse.c).length:Int)),(8,.k .i64 i)]∧S=[(0,.box 55 w.c)]∧nx=1∧(i≤w.leases.length)∧((List.range w.leases.length).all (mX w.count w.clock w.leases)=((List.range w.leases.length).drop i).all (mX w.count w.clock w.leases))) ?_ ?_
 · refine la [1,6,7,8] ?_
   conv=>whnf
   refine ⟨rfl,rfl,_,0,rfl,rfl,rfl,rfl,zAG _,rfl⟩
 · rintro mq tm S nx ⟨i,hn,rfl,rfl,rfl,hi,ha⟩;by_cases hlt:i < w.leases.length
   · have hx':w.leases[i]?=some w.leases[i]:=zAB hlt;generalize w.leases[i]=x at hx';rw [iH hlt] at ha;have hbx:=hb.ls x (zAD hx');have e2:=H9 hx';have c1:=nv (m:=m) x.who;have c2:=cu (m:=m) x.path (by unfold C8 at hbx; omega);have c3:=f7 (m:=m) x.num 1 w.count;have c4:=gX (m:=m) w.leases x.who x.path hll;cases hm:mX w.count w.clock w.leases i with
     | true=>
       have hr':(List.range w.leases.length).all (mX w.count w.clock w.leases)=((List.range w.leases.length).drop (i+1)).all (mX w.count w.clock w.leases):=by rw [ha]; simp [hm]
       rw [mX,hx'] at hm;simp only [zAE,decide_eq_true_eq] at hm;obtain ⟨⟨⟨⟨⟨b1,b2⟩,b3⟩,b4⟩,b5⟩,b6⟩:=hm;rw [b6] at e2;have b7:=of_decide_eq_true e2;rw [b1] at c1;rw [b2] at c2;rw [decide_eq_true b3,decide_eq_true b4] at c3;rw [b7] at c4;repeat' first|refine Ra ⟨?_⟩|refine R0 c1 ⟨?_⟩|refine R0 c2 ⟨?_⟩|refine R0 c3 ⟨?_⟩|refine R0 c4 ⟨?_⟩|refine Rd (fun h=>⟨?_⟩) fun h=>⟨?_⟩|refine Rb ⟨?_⟩|fail
       refine .here ⟨mq - 1,by omega,?_⟩;refine la [1,6,7,8] ?_
       conv=>whnf
       refine ⟨rfl,rfl,i+1,(by omega),rfl,rfl,rfl,by omega,hr'⟩
     | false=>
       have hf:(List.range w.leases.length).all (mX w.count w.clock w.leases)=false:=by rw [ha]; simp [hm]
       rw [hf];rw [mX,hx'] at hm;simp only [← e2] at hm;repeat' first|refine Ra ⟨?_⟩|refine R0 c1 ⟨?_⟩|refine R0 c2 ⟨?_⟩|refine R0 c3 ⟨?_⟩|refine R0 c4 ⟨?_⟩|refine Rd (fun h=>⟨?_⟩) fun h=>⟨?_⟩|refine Rb ⟨?_⟩|fail
       all_goals first|exact Rf|(exfalso; simp_all; done)
   · have:i=w.leases.length:=by omega
     subst this;rw [e8] at ha;rw [ha];repeat' first|refine Rx ⟨?_⟩|refine Rd (fun h=>⟨?_⟩) fun h=>⟨?_⟩|fail
     exact Rf
theorem AU (w:Wld) (hb:dO w):Con (E m) 141 0 [.agg w.c] [] (.b (w.holds.all (oR w.count))) []:=by
 have hhl:=hb.hl;have e1:(w.holds.map cy).length=w.holds.length:=zAA ..;refine G0 Tryz.func141 ?_;repeat' first|refine Rx ⟨?_⟩|refine Rd (fun h=>⟨?_⟩) fun h=>⟨?_⟩|fail
 refine Cd.loop2 (fun mq tm S nx=>∃ (i:Nat),mq=(w.holds.length - i)∧tm=[(1,.bp 0 0),(8,.sl (w.holds.map cy)),(9,.k .i64 ((w.holds.map cy).length:Int)),(10,.k .i64 i)]∧S=[(0,.box 55 w.c)]∧nx=1∧(i≤w.holds.length)∧(w.holds.all (oR w.count)=(w.holds.drop i).all (oR w.count))) ?_ ?_
 · refine la [1,8,9,10] ?_
   conv=>whnf
   refine ⟨rfl,rfl,_,0,rfl,rfl,rfl,rfl,zAG _,rfl⟩
 · rintro mq tm S nx ⟨i,hn,rfl,rfl,rfl,hi,ha⟩;rcases av w.holds i hi with ⟨rfl,hd⟩|⟨hs,r,hx',hd,hr,hlt⟩
   · rw [hd] at ha;rw [ha];repeat' first|refine Rx ⟨?_⟩|refine Rd (fun h=>⟨?_⟩) fun h=>⟨?_⟩|fail
     exact Rf
   · rw [hd] at ha;obtain ⟨hbx,hln⟩:=hb.hs hs (zAD hx');have e3:(hs.map Hld.c).length=hs.length:=zAA ..;repeat' first|refine Rx ⟨?_⟩|refine Rd (fun h=>⟨?_⟩) fun h=>⟨?_⟩|fail
     obtain ⟨mo,hmo⟩:∃ mo,mo=mq:=⟨_,rfl⟩;subst hmo;have hno:=hn;refine Cd.loop2 (fun mq tm S nx=>∃ (k:Nat),mq=(hs.length - k)∧tm=[(1,.bp 0 0),(4,.sl (hs.map Hld.c)),(8,.sl (w.holds.map cy)),(9,.k .i64 ((w.holds.map cy).length:Int)),(10,.k .i64 i),(14,.sl (hs.map Hld.c)),(15,.k .i64 ((hs.map Hld.c).length:Int)),(16,.k .i64 k)]∧S=[(0,.box 55 w.c)]∧nx=1∧(k≤hs.length)∧(oR w.count hs=((List.range hs.length).drop k).all (vx w.count hs))) ?_ ?_
     · refine la [1,4,8,9,10,14,15,16] ?_
       conv=>whnf
       refine ⟨rfl,rfl,_,0,rfl,rfl,rfl,rfl,zAG _,rfl⟩
     · rintro mq tm S nx ⟨k,hn,rfl,rfl,rfl,hk,hp⟩;by_cases hkl:k < hs.length
       · have hy:hs[k]?=some hs[k]:=zAB hkl;generalize hs[k]=x at hy;rw [iH hkl] at hp;have hbh:=hbx x (zAD hy);have e2:=Ia hy;have c1:=cu (m:=m) x.path (by have:=hbh.1; omega);have c2:=f7 (m:=m) x.num 0 w.count;have c3:=du (m:=m) hs x.path hln;cases hm:vx w.count hs k with
         | true=>
           have hr':oR w.count hs=((List.range hs.length).drop (k+1)).all (vx w.count hs):=by rw [hp]; simp [hm]
           rw [vx,hy] at hm;simp only [zAE,decide_eq_true_eq] at hm;obtain ⟨⟨⟨b1,b2⟩,b3⟩,b4⟩:=hm;rw [b4] at e2;have b7:=of_decide_eq_true e2;rw [b1] at c1;rw [decide_eq_true b2,decide_eq_true b3] at c2;rw [b7] at c3;repeat' first|refine Ra ⟨?_⟩|refine R0 c1 ⟨?_⟩|refine R0 c2 ⟨?_⟩|refine R0 c3 ⟨?_⟩|refine Rd (fun h=>⟨?_⟩) fun h=>⟨?_⟩|refine Rb ⟨?_⟩|fail
           refine .here ⟨mq - 1,by omega,?_⟩;refine la [1,4,8,9,10,14,15,16] ?_
           conv=>whnf
           refine ⟨rfl,rfl,k+1,(by omega),rfl,rfl,rfl,by omega,hr'⟩
         | false=>
           have hf:w.holds.all (oR w.count)=false:=dM hx' (by rw [hp]; simp [hm]);rw [hf];rw [vx,hy] at hm;simp only [← e2] at hm;repeat' first|refine Ra ⟨?_⟩|refine R0 c1 ⟨?_⟩|refine R0 c2 ⟨?_⟩|refine R0 c3 ⟨?_⟩|refine Rd (fun h=>⟨?_⟩) fun h=>⟨?_⟩|refine Rb ⟨?_⟩|fail
           all_goals first|exact Rf|(exfalso; simp_all; done)
       · have:k=hs.length:=by omega
         subst this;rw [e8] at hp;repeat' first|refine Rx ⟨?_⟩|refine Rd (fun h=>⟨?_⟩) fun h=>⟨?_⟩|fail
         refine .here ⟨mo - 1,by omega,?_⟩;refine la [1,8,9,10] ?_
         conv=>whnf
         refine ⟨rfl,rfl,i+1,(by omega),rfl,rfl,rfl,by omega,(by rw [ha,hr]; simp [hp])⟩
theorem He (p:Opn):decide (p=op0)=(decide (p.kind=0) && (decide (p.path=[]) && (decide (p.tgt=[]) && (decide (p.data=[]) && true)))):=by
 obtain ⟨a,b,c,d⟩:=p;simp [op0,zAK]
theorem C9 (v:List Ent) (w:Wld) (hb:dO w) (hv:aq v=true):Con (E m) 142 0 [.agg w.c,.sl (v.map Ent.c)] [] (.b (kL v w)) []:=by
 have hop:=hb.op;have c1:=fY (m:=m) v w.op (bE0 hv) hop.1 hop.2.1 hop.2.2;unfold kL;cases hw:w.waits with
 | false=>
   rw [if_neg (by simp),He];refine G0 Tryz.func142 ?_;repeat' first|refine Ra ⟨?_⟩|refine Rk [] 1 c1 ⟨?_⟩|refine Rd (fun h=>⟨?_⟩) fun h=>⟨?_⟩|refine Rb ⟨?_⟩|fail
   exact Rf
 | true=>
   rw [if_pos rfl];refine G0 Tryz.func142 ?_;repeat' first|refine Ra ⟨?_⟩|refine Rk [] 1 c1 ⟨?_⟩|refine Rd (fun h=>⟨?_⟩) fun h=>⟨?_⟩|refine Rb ⟨?_⟩|fail
   exact Rf
theorem uC (v:List Ent) (w:Wld) (hb:dO w) (hv:aq v=true) (who:Int) (h:Hld):Con (E m) 208 0 [.agg w.c,.sl (v.map Ent.c),.k .i64 who,.agg h.c] [] (.b (iq v h && mW w.clock w.leases who h)) []:=by
 have hll:=hb.ll;have c1:=ui (m:=m) v h.path (bE0 hv);have c2:=gX (m:=m) w.leases who h.path hll;rw [if_pos hv] at c1;have hsn:iq v h=(decide ((aA v h.path).isSome=h.has) && decide ((aA v h.path).getD b9=h.ent)):=rfl;have hlo:mW w.clock w.leases who h=match eG w.leases who h.path with
  | some l=>decide (w.clock < l.til) && decide (h.num≤l.num) && decide (h.til≤l.til)
  | none=>false:=rfl
 have ends:∀ (g:Ent) (has:Bool),nD (aA v h.path)=.tup [.agg g.c,.b has]→(aA v h.path).isSome=has→(aA v h.path).getD b9=g→Con (E m) 208 0 [.agg w.c,.sl (v.map Ent.c),.k .i64 who,.agg h.c] [] (.b (iq v h && mW w.clock w.leases who h)) []:=by
  intro g has g1 g2 g3;rw [g1] at c1;rw [g2,g3] at hsn;have e3:ee h.ent g=decide (g=h.ent):=by
   by_cases q:g=h.ent
   · rw [decide_eq_true q,q]; exact D6 _
   · rw [decide_eq_false q]; exact D7 fun e=>q e.symm
  by_cases q1:has=h.has
  · by_cases q2:g=h.ent
    · have q3:iq v h=true:=by rw [hsn,decide_eq_true q1,decide_eq_true q2]; rfl
      rw [q3,zAx];rw [decide_eq_true q2] at e3;rcases eD (aW who h.path) w.leases with ⟨h1,h2⟩|⟨i,l,h1,h2,h3,h4⟩
      · have:eG w.leases who h.path=none:=by
          rw [eG,List.find?_eq_none];intro x hx;rw [h2 x hx]
          simp
        rw [this] at hlo;simp only at hlo;rw [hlo];rw [h1] at c2;subst q1;have q0:(h.has == h.has)=true:=by simp
        refine G0 Tryz.func208 ?_;repeat' first|refine Ra ⟨?_⟩|refine R0 c1 ⟨?_⟩|refine R0 c2 ⟨?_⟩|refine Rd (fun h=>⟨?_⟩) fun h=>⟨?_⟩|refine Rb ⟨?_⟩|fail
        exact Rf
      · have:eG w.leases who h.path=some l:=by
          have hi:=(List.getElem?_eq_some_iff.1 h2).1;rw [eG,List.find?_eq_some_iff_getElem];refine ⟨h3,i,hi,(List.getElem?_eq_some_iff.1 h2).2,fun j hj=>?_⟩
          have:=zAs.1 h4 w.leases[j] (List.mem_take_iff_getElem.2 ⟨j,by omega,rfl⟩)
          simpa using this
        rw [this] at hlo;simp only at hlo;rw [hlo];rw [h1] at c2;subst q1;have q0:(h.has == h.has)=true:=by simp
        refine G0 Tryz.func208 ?_;repeat' first|refine Ra ⟨?_⟩|refine R0 c1 ⟨?_⟩|refine R0 c2 ⟨?_⟩|refine Rd (fun h=>⟨?_⟩) fun h=>⟨?_⟩|refine Rb ⟨?_⟩|fail
        all_goals exact Rf
    · have q3:iq v h=false:=by rw [hsn,decide_eq_false q2]; simp
      rw [q3,zAg];rw [decide_eq_false q2] at e3;subst q1;have q0:(h.has == h.has)=true:=by simp
      refine G0 Tryz.func208 ?_;repeat' first|refine Ra ⟨?_⟩|refine R0 c1 ⟨?_⟩|refine R0 c2 ⟨?_⟩|refine Rd (fun h=>⟨?_⟩) fun h=>⟨?_⟩|refine Rb ⟨?_⟩|fail
      exact Rf
  · have q3:iq v h=false:=by rw [hsn,decide_eq_false q1]; simp
    rw [q3,zAg];have q4:(h.has == has)=false:=by simpa using fun e=>q1 e.symm
    refine G0 Tryz.func208 ?_;repeat' first|refine Ra ⟨?_⟩|refine R0 c1 ⟨?_⟩|refine R0 c2 ⟨?_⟩|refine Rd (fun h=>⟨?_⟩) fun h=>⟨?_⟩|refine Rb ⟨?_⟩|fail
    exact Rf
 cases hg:aA v h.path with
 | none=>exact ends b9 false (by rw [hg]; rfl) (by rw [hg]; rfl) (by rw [hg]; rfl)
 | some g=>exact ends g true (by rw [hg]; rfl) (by rw [hg]; rfl) (by rw [hg]; rfl)
variable {m:Int}
theorem yN {n:Int} (h:dJ n=true):∃ k:Nat,n=(k:Int)∧k < 3:=by
 simp only [dJ,zAE,decide_eq_true_eq] at h;exact ⟨n.toNat,by omega,by omega⟩
theorem qa3 {fl:List Int} {k:Nat} {f:Int} (h:fl[k]?=some f):bz fl (k:Int)=f:=by
 simp [bz,List.getD,h]
theorem ky {hs:List (List Hld)} {k:Nat} {l:List Hld} (h:hs[k]?=some l):aO hs (k:Int)=l:=by
 simp [aO,List.getD,h]
theorem Da {v:List Ent} {clk:Int} {ls:List Lse} {who:Int} {h:Hld} (hc:clk < h.til):soV v clk ls who h=(iq v h && mW clk ls who h):=by
 rw [soV,decide_eq_false (by omega),zAt]
theorem yO {v:List Ent} {clk:Int} {ls:List Lse} {who:Int} {h:Hld} (hc:¬ clk < h.til):soV v clk ls who h=true:=by
 rw [soV,decide_eq_true (by omega),Bool.true_or]
def kz (v:List Ent) (w:Wld):Bool:=((List.range w.holds.length).all fun i=>(aO w.holds (i:Int)).all (soV v w.clock w.leases i)) && w.net.all (jw v w)
theorem Db (v:List Ent) (w:Wld) (hb:dO w) (hv:aq v=true) (hfl:w.floors.length=3) (hwho:∀ x∈w.net,dJ x.who=true):Con (E m) 143 0 [.agg w.c,.sl (v.map Ent.c)] [] (.b (kz v w)) []:=by
 have hhl:=hb.hl;have hnl:=hb.nl;have e1:(w.holds.map cy).length=w.holds.length:=zAA ..;have e2:(w.net.map Mes.c).length=w.net.length:=zAA ..;refine G0 Tryz.func143 ?_;repeat' first|refine Rx ⟨?_⟩|refine Rd (fun h=>⟨?_⟩) fun h=>⟨?_⟩|fail
 refine Cd.loop2 (fun mq tm S nx=>∃ (i:Nat),mq=(w.holds.length - i)∧tm=[(1,.sl (v.map Ent.c)),(2,.bp 0 0),(13,.sl (w.holds.map cy)),(14,.k .i64 ((w.holds.map cy).length:Int)),(15,.k .i64 i)]∧S=[(0,.box 55 w.c)]∧nx=1∧(i≤w.holds.length)∧(((List.range w.holds.length).all fun i=>(aO w.holds (i:Int)).all (soV v w.clock w.leases i))=(((List.range w.holds.length).drop i).all fun i=>(aO w.holds (i:Int)).all (soV v w.clock w.leases i)))) ?_ ?_
 · refine la [1,2,13,14,15] ?_
   conv=>whnf
   refine ⟨rfl,rfl,_,0,rfl,rfl,rfl,rfl,zAG _,rfl⟩
 · rintro mq tm S nx ⟨i,hn,rfl,rfl,rfl,hi,ha⟩;by_cases hlt:i < w.holds.length
   · have hx':w.holds[i]?=some w.holds[i]:=zAB hlt;generalize w.holds[i]=hs at hx';rw [iH hlt,List.all_cons,ky hx'] at ha;obtain ⟨hbx,hln⟩:=hb.hs hs (zAD hx');have e3:(hs.map Hld.c).length=hs.length:=zAA ..;repeat' first|refine Rx ⟨?_⟩|refine Rd (fun h=>⟨?_⟩) fun h=>⟨?_⟩|fail
     obtain ⟨mo,hmo⟩:∃ mo,mo=mq:=⟨_,rfl⟩;subst hmo;have hno:=hn;refine Cd.loop2 (fun mq tm S nx=>∃ (k:Nat),mq=(hs.length - k)∧tm=[(1,.sl (v.map Ent.c)),(2,.bp 0 0),(5,.k .i64 i),(13,.sl (w.holds.map cy)),(14,.k .i64 ((w.holds.map cy).length:Int)),(15,.k .i64 i),(20,.sl (hs.map Hld.c)),(21,.k .i64 ((hs.map Hld.c).length:Int)),(22,.k .i64 k)]∧S=[(0,.box 55 w.c)]∧nx=1∧(k≤hs.length)∧(hs.all (soV v w.clock w.leases i)=(hs.drop k).all (soV v w.clock w.leases i))) ?_ ?_
     · refine la [1,2,5,13,14,15,20,21,22] ?_
       conv=>whnf
       refine ⟨rfl,rfl,_,0,rfl,rfl,rfl,rfl,zAG _,rfl⟩
     · rintro mq tm S nx ⟨k,hn,rfl,rfl,rfl,hk,hp⟩;rcases (av hs k hk).symm with ⟨x,r,hy,hd,hr,hlt2⟩|⟨rfl,hd⟩
       · rw [hd,List.all_cons] at hp;have c1:=uC (m:=m) v w hb hv i x;by_cases hc:w.clock < x.til
         · rw [Da hc] at hp;cases hs:iq v x && mW w.clock w.leases i x with
           | true=>
             rw [hs] at c1 hp;repeat' first|refine Ra ⟨?_⟩|refine R0 c1 ⟨?_⟩|refine Rd (fun h=>⟨?_⟩) fun h=>⟨?_⟩|refine Rb ⟨?_⟩|fail
             refine .here ⟨mq - 1,by omega,?_⟩;refine la [1,2,5,13,14,15,20,21,22] ?_
             conv=>whnf
             refine ⟨rfl,rfl,k+1,(by omega),rfl,rfl,rfl,by omega,(by rw [hp,hr]; simp)⟩
           | false=>
             rw [hs] at c1 hp;have hf:kz v w=false:=by rw [kz,ha,hp]; simp
             rw [hf];repeat' first|refine Ra ⟨?_⟩|refine R0 c1 ⟨?_⟩|refine Rd (fun h=>⟨?_⟩) fun h=>⟨?_⟩|refine Rb ⟨?_⟩|fail
             exact Rf
         · rw [yO hc] at hp;repeat' first|refine Rx ⟨?_⟩|refine Rd (fun h=>⟨?_⟩) fun h=>⟨?_⟩|fail
           refine .here ⟨mq - 1,by omega,?_⟩;refine la [1,2,5,13,14,15,20,21,22] ?_
           conv=>whnf
           refine ⟨rfl,rfl,k+1,(by omega),rfl,rfl,rfl,by omega,(by rw [hp,hr]; simp)⟩
       · rw [hd] at hp;repeat' first|refine Rx ⟨?_⟩|refine Rd (fun h=>⟨?_⟩) fun h=>⟨?_⟩|fail
         refine .here ⟨mo - 1,by omega,?_⟩;refine la [1,2,13,14,15] ?_
         conv=>whnf
         refine ⟨rfl,rfl,i+1,(by omega),rfl,rfl,rfl,by omega,(by rw [ha,hp]; simp)⟩
   · have hie:i=w.holds.length:=by omega
     subst hie;rw [e8] at ha;have hx:kz v w=w.net.all (jw v w):=by rw [kz,ha]; simp
     rw [hx];repeat' first|refine Rx ⟨?_⟩|refine Rd (fun h=>⟨?_⟩) fun h=>⟨?_⟩|fail
     refine Cd.loop2 (fun mq tm S nx=>∃ (i:Nat),mq=(w.net.length - i)∧tm=[(1,.sl (v.map Ent.c)),(2,.bp 0 0),(42,.sl (w.net.map Mes.c)),(43,.k .i64 ((w.net.map Mes.c).length:Int)),(44,.k .i64 i)]∧S=[(0,.box 55 w.c)]∧nx=1∧(i≤w.net.length)∧(w.net.all (jw v w)=(w.net.drop i).all (jw v w))) ?_ ?_
     · refine la [1,2,42,43,44] ?_
       conv=>whnf
       refine ⟨rfl,rfl,_,0,rfl,rfl,rfl,rfl,zAG _,rfl⟩
     · rintro mq tm S nx ⟨i,hn,rfl,rfl,rfl,hi,ha⟩;rcases av w.net i hi with ⟨rfl,hd⟩|⟨x,r,hx',hd,hr,hlt⟩
       · rw [hd] at ha;rw [ha];repeat' first|refine Rx ⟨?_⟩|refine Rd (fun h=>⟨?_⟩) fun h=>⟨?_⟩|fail
         exact Rf
       · rw [hd,List.all_cons] at ha;obtain ⟨k,hk1,hk2⟩:=yN (hwho x (zAD hx'));obtain ⟨kind,who,h⟩:=x;simp only at hk1;subst hk1;have g1:w.floors[k]?=some (w.floors[k]'(by omega)):=zAB (by omega);generalize w.floors[k]'(by omega)=f at g1;have g2:=qa3 g1;have c1:=uC (m:=m) v w hb hv k h;by_cases q1:kind=2
         · by_cases q2:w.clock < h.til
           · by_cases q3:f < h.num
             · have q4:jw v w ⟨kind,k,h⟩=(iq v h && mW w.clock w.leases k h):=by
                 rw [jw,Da q2];simp only [g2];rw [decide_eq_true q1,decide_eq_false (by omega)]
                 simp
               rw [q4] at ha;subst q1;cases hs:iq v h && mW w.clock w.leases k h with
               | true=>
                 rw [hs] at c1 ha;repeat' first|refine Ra ⟨?_⟩|refine R0 c1 ⟨?_⟩|refine Rd (fun h=>⟨?_⟩) fun h=>⟨?_⟩|refine Rb ⟨?_⟩|fail
                 refine .here ⟨mq - 1,by omega,?_⟩;refine la [1,2,42,43,44] ?_
                 conv=>whnf
                 refine ⟨rfl,rfl,i+1,(by omega),rfl,rfl,rfl,by omega,(by rw [ha,hr]; simp)⟩
               | false=>
                 rw [hs] at c1 ha;rw [zAg] at ha;rw [ha];repeat' first|refine Ra ⟨?_⟩|refine R0 c1 ⟨?_⟩|refine Rd (fun h=>⟨?_⟩) fun h=>⟨?_⟩|refine Rb ⟨?_⟩|fail
                 exact Rf
             · have q4:jw v w ⟨kind,k,h⟩=true:=by
                 rw [jw];simp only [g2];rw [decide_eq_true (by omega:h.num≤f)]
                 simp
               rw [q4] at ha;subst q1;repeat' first|refine Rx ⟨?_⟩|refine Rd (fun h=>⟨?_⟩) fun h=>⟨?_⟩|fail
               refine .here ⟨mq - 1,by omega,?_⟩;refine la [1,2,42,43,44] ?_
               conv=>whnf
               refine ⟨rfl,rfl,i+1,(by omega),rfl,rfl,rfl,by omega,(by rw [ha,hr]; simp)⟩
           · have q4:jw v w ⟨kind,k,h⟩=true:=by
               rw [jw,yO q2]
               simp
             rw [q4] at ha;subst q1;repeat' first|refine Rx ⟨?_⟩|refine Rd (fun h=>⟨?_⟩) fun h=>⟨?_⟩|fail
             refine .here ⟨mq - 1,by omega,?_⟩;refine la [1,2,42,43,44] ?_
             conv=>whnf
             refine ⟨rfl,rfl,i+1,(by omega),rfl,rfl,rfl,by omega,(by rw [ha,hr]; simp)⟩
         · have q4:jw v w ⟨kind,k,h⟩=true:=by
             rw [jw,decide_eq_false q1]
             simp
           rw [q4] at ha;repeat' first|refine Rx ⟨?_⟩|refine Rd (fun h=>⟨?_⟩) fun h=>⟨?_⟩|fail
           refine .here ⟨mq - 1,by omega,?_⟩;refine la [1,2,42,43,44] ?_
           conv=>whnf
           refine ⟨rfl,rfl,i+1,(by omega),rfl,rfl,rfl,by omega,(by rw [ha,hr]; simp)⟩
theorem Ib {hs:List Hld} (hu:hs.Pairwise fun a b=>a.path≠b.path) {p:Bs} {n:Int} {i:Nat} {x:Hld} (h:hs[i]?=some x) (hx:hb p x=true):(hs.all fun h=>!(decide (h.path=p) && decide (h.num≤n)))=!decide (x.num≤n):=by
 have hx:x.path=p:=of_decide_eq_true hx;have hi:=(List.getElem?_eq_some_iff.1 h).1;have hxe:=(List.getElem?_eq_some_iff.1 h).2;rw [zBF] at hu;by_cases q:x.num≤n
 · rw [decide_eq_true q];exact dM h (by simp [hx,q])
 · rw [decide_eq_false q,zAQ,zAs];intro y hy;obtain ⟨j,hj,rfl⟩:=List.mem_iff_getElem.1 hy;by_cases e:j=i
   · subst e; rw [hxe]; simp [q]
   · have:hs[j].path≠p:=by
       rcases zBZ e with g|g
       · have:=hu j i hj hi g; rw [hxe,hx] at this; exact this
       · have:=hu i j hi hj g; rw [hxe,hx] at this; exact fun e=>this e.symm
     simp [this]
theorem Dc (w:Wld) (hb:dO w) (hhl:w.holds.length=3) (hfl:w.floors.length=3) (hwho:∀ x∈w.net,dJ x.who=true) (hu:∀ l∈w.holds,l.Pairwise fun a b=>a.path≠b.path):Con (E m) 144 0 [.agg w.c] [] (.b (w.net.all (mp w))) []:=by
 have hnl:=hb.nl;have e2:(w.net.map Mes.c).length=w.net.length:=zAA ..;refine G0 Tryz.func144 ?_;repeat' first|refine Rx ⟨?_⟩|refine Rd (fun h=>⟨?_⟩) fun h=>⟨?_⟩|fail
 refine Cd.loop2 (fun mq tm S nx=>∃ (i:Nat),mq=(w.net.length - i)∧tm=[(1,.bp 0 0),(7,.sl (w.net.map Mes.c)),(8,.k .i64 ((w.net.map Mes.c).length:Int)),(9,.k .i64 i)]∧S=[(0,.box 55 w.c)]∧nx=1∧(i≤w.net.length)∧(w.net.all (mp w)=(w.net.drop i).all (mp w))) ?_ ?_
 · refine la [1,7,8,9] ?_
   conv=>whnf
   refine ⟨rfl,rfl,_,0,rfl,rfl,rfl,rfl,zAG _,rfl⟩
 · rintro mq tm S nx ⟨i,hn,rfl,rfl,rfl,hi,ha⟩;rcases av w.net i hi with ⟨rfl,hd⟩|⟨x,r,hx',hd,hr,hlt⟩
   · rw [hd] at ha;rw [ha];repeat' first|refine Rx ⟨?_⟩|refine Rd (fun h=>⟨?_⟩) fun h=>⟨?_⟩|fail
     exact Rf
   · rw [hd,List.all_cons] at ha;obtain ⟨k,hk1,hk2⟩:=yN (hwho x (zAD hx'));obtain ⟨kind,who,h⟩:=x;simp only at hk1;subst hk1;have g1:w.floors[k]?=some (w.floors[k]'(by omega)):=zAB (by omega);generalize w.floors[k]'(by omega)=f at g1;have g2:=qa3 g1;have g3:w.holds[k]?=some (w.holds[k]'(by omega)):=zAB (by omega);generalize w.holds[k]'(by omega)=hs at g3;have g4:=ky g3;have hbx:=hb.hs hs (zAD g3);have c1:=du (m:=m) hs h.path hbx.2;have q:mp w ⟨kind,k,h⟩=(!decide (kind=4) || (decide (h.num≤f) && hs.all fun x=>!(decide (x.path=h.path) && decide (x.num≤h.num)))):=by
      rw [mp];simp only [g2,g4]
     rw [q] at ha;by_cases q1:kind=4
     · rw [decide_eq_true q1] at ha;subst q1;by_cases q2:h.num≤f
       · rw [decide_eq_true q2] at ha;rcases eD (Go.Proofs.YtagejnomlkfndaaGreatDoor.hb h.path) hs with ⟨h1,h2⟩|⟨j,y,h1,h2,h3,h4⟩
         · rw [h1] at c1;have q3:(hs.all fun x=>!(decide (x.path=h.path) && decide (x.num≤h.num)))=true:=by
            rw [zAs];intro y hy
            have:=h2 y hy
            simp only [decide_eq_false_iff_not] at this;simp [this]
           rw [q3] at ha;repeat' first|refine Ra ⟨?_⟩|refine R0 c1 ⟨?_⟩|refine Rd (fun h=>⟨?_⟩) fun h=>⟨?_⟩|refine Rb ⟨?_⟩|fail
           refine .here ⟨mq - 1,by omega,?_⟩;refine la [1,7,8,9] ?_
           conv=>whnf
           refine ⟨rfl,rfl,i+1,(by omega),rfl,rfl,rfl,by omega,(by rw [ha,hr]; simp)⟩
         · rw [h1] at c1;rw [Ib (hu hs (zAD g3)) h2 h3] at ha;by_cases q3:y.num≤h.num
           · rw [decide_eq_true q3] at ha;simp only [zAR,zBH,Bool.or_false,zAg] at ha;rw [ha];repeat' first|refine Ra ⟨?_⟩|refine R0 c1 ⟨?_⟩|refine Rd (fun h=>⟨?_⟩) fun h=>⟨?_⟩|refine Rb ⟨?_⟩|fail
             exact Rf
           · rw [decide_eq_false q3] at ha;repeat' first|refine Ra ⟨?_⟩|refine R0 c1 ⟨?_⟩|refine Rd (fun h=>⟨?_⟩) fun h=>⟨?_⟩|refine Rb ⟨?_⟩|fail
             refine .here ⟨mq - 1,by omega,?_⟩;refine la [1,7,8,9] ?_
             conv=>whnf
             refine ⟨rfl,rfl,i+1,(by omega),rfl,rfl,rfl,by omega,(by rw [ha,hr]; simp)⟩
       · rw [decide_eq_false q2] at ha;simp only [zAR,zAg,Bool.or_false] at ha;rw [ha];repeat' first|refine Ra ⟨?_⟩|refine R0 c1 ⟨?_⟩|refine Rd (fun h=>⟨?_⟩) fun h=>⟨?_⟩|refine Rb ⟨?_⟩|fail
         exact Rf
     · rw [decide_eq_false q1] at ha;repeat' first|refine Ra ⟨?_⟩|refine R0 c1 ⟨?_⟩|refine Rd (fun h=>⟨?_⟩) fun h=>⟨?_⟩|refine Rb ⟨?_⟩|fail
       refine .here ⟨mq - 1,by omega,?_⟩;refine la [1,7,8,9] ?_
       conv=>whnf
       refine ⟨rfl,rfl,i+1,(by omega),rfl,rfl,rfl,by omega,(by rw [ha,hr]; simp)⟩
end Go.Proofs.YtagejnomlkfndaaGreatDoor
