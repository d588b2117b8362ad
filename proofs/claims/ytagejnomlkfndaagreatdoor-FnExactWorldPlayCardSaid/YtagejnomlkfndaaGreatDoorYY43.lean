/- Texts of this claim, set close: lemmas and contracts. -/
import Derived.Test.YtagejnomlkfndaaGreatDoorYY38
import Derived.Test.YtagejnomlkfndaaGreatDoorYY39
set_option linter.unusedSimpArgs false
set_option linter.unusedVariables false
set_option maxHeartbeats 1000000
set_option maxRecDepth 10000
namespace Go.Proofs.YtagejnomlkfndaaGreatDoor
open Go Go.RowKit Go.Ab Go.Par
variable {m:Int}
theorem qf {t:List Ent} (h:aq t=true):gG 1073741823 t:=fun e he=>by have:=jF (gE h e he); omega
theorem Dq (v:List Ent) (w:Wld) (hb:dO w) (hv:aq v=true):Con (E m) 92 0 [.agg w.c,.sl (v.map Ent.c)] [] (.b (kL v w)) []:=by
 have hop:=hb.op;have hvl:=aN hv;have c1:=fT (m:=m) v w.op (by omega) (qf hv) hop.1 hop.2.1 hop.2.2;unfold kL;by_cases hw:w.waits=true
 · rw [if_pos hw];refine G0 Tryz.func92 ?_;repeat' first|refine Ra ⟨?_⟩|refine Rk [] 1 c1 ⟨?_⟩|refine Rd (fun h=>⟨?_⟩) fun h=>⟨?_⟩|refine Rb ⟨?_⟩|fail
   all_goals exact Rf
 · rw [if_neg hw,He];have hw:w.waits=false:=by simpa using hw
   refine G0 Tryz.func92 ?_;repeat' first|refine Ra ⟨?_⟩|refine Rk [] 1 c1 ⟨?_⟩|refine Rd (fun h=>⟨?_⟩) fun h=>⟨?_⟩|refine Rb ⟨?_⟩|fail
   all_goals exact Rf
theorem l7 (w:Wld) (hb:dO w):Con (E m) 25 0 [.agg w.c] [] (.b (ba w)) []:=by
 have hnl:=hb.nl;have e3:(w.net.map Mes.c).length=w.net.length:=zAA ..;have c1:=vH (m:=m) w.over hb.over;cases h:bv w.over with
 | none=>
   have hx:ba w=false:=by rw [ba,h]
   rw [hx];rw [h] at c1;refine G0 Tryz.func25 ?_;repeat' first|refine Ra ⟨?_⟩|refine R0 c1 ⟨?_⟩|refine Rd (fun h=>⟨?_⟩) fun h=>⟨?_⟩|refine Rb ⟨?_⟩|fail
   exact Rf
 | some tv=>
   obtain ⟨t,v⟩:=tv;have hv:=(ce h).2.2.2;have hvl:=aN hv;have hx:ba w=d9 v w:=by rw [ba,h]
   rw [hx];rw [h] at c1;have c2:=Dk (m:=m) w hb;cases g1:ji w with
   | false=>
     have hf:d9 v w=false:=by simp [d9,g1]
     rw [hf];rw [g1] at c2;refine G0 Tryz.func25 ?_;repeat' first|refine Ra ⟨?_⟩|refine R0 c1 ⟨?_⟩|refine R0 c2 ⟨?_⟩|refine Rd (fun h=>⟨?_⟩) fun h=>⟨?_⟩|refine Rb ⟨?_⟩|fail
     exact Rf
   | true=>
     rw [g1] at c2;have hn:=g1;simp only [ji,zAE,decide_eq_true_eq] at hn;obtain ⟨⟨⟨⟨⟨⟨⟨a1,a2⟩,a3⟩,a4⟩,a5⟩,a6⟩,a7⟩,a8⟩:=hn;have c3:=A7 (m:=m) w hb ⟨a1,a2⟩;cases g2:vv w.count w.clock w.leases with
     | false=>
       have hf:d9 v w=false:=by simp [d9,g2]
       rw [hf];rw [g2] at c3;refine G0 Tryz.func25 ?_;repeat' first|refine Ra ⟨?_⟩|refine R0 c1 ⟨?_⟩|refine R0 c2 ⟨?_⟩|refine R0 c3 ⟨?_⟩|refine Rd (fun h=>⟨?_⟩) fun h=>⟨?_⟩|refine Rb ⟨?_⟩|fail
       exact Rf
     | true=>
       rw [g2] at c3;have c4:=Dq (m:=m) v w hb hv;cases g3:kL v w with
       | false=>
         have hf:d9 v w=false:=by simp [d9,g3]
         rw [hf];rw [g3] at c4;refine G0 Tryz.func25 ?_;repeat' first|refine Ra ⟨?_⟩|refine R0 c1 ⟨?_⟩|refine R0 c2 ⟨?_⟩|refine R0 c3 ⟨?_⟩|refine R0 c4 ⟨?_⟩|refine Rd (fun h=>⟨?_⟩) fun h=>⟨?_⟩|refine Rb ⟨?_⟩|fail
         exact Rf
       | true=>
         rw [g3] at c4;have hx2:d9 v w=((List.range 3).all (mn v w) && w.net.all fun m=>fg w.count m && jw v w m && mp w m):=by simp [d9,g1,g2,g3]
         rw [hx2];refine G0 Tryz.func25 ?_;repeat' first|refine Ra ⟨?_⟩|refine R0 c1 ⟨?_⟩|refine R0 c2 ⟨?_⟩|refine R0 c3 ⟨?_⟩|refine R0 c4 ⟨?_⟩|refine Rd (fun h=>⟨?_⟩) fun h=>⟨?_⟩|refine Rb ⟨?_⟩|fail
         refine Cd.loop2 (fun mq tm S nx=>∃ (i:Nat),mq=(3 - i)∧tm=[(1,.bp 0 0),(3,.sl (v.map Ent.c)),(5,.k .i64 i)]∧S=[(0,.box 55 w.c)]∧nx=1∧(i≤3)∧((List.range 3).all (mn v w)=((List.range 3).drop i).all (mn v w))) ?_ ?_
         · refine la [1,3,5] ?_
           conv=>whnf
           refine ⟨rfl,rfl,_,0,rfl,rfl,rfl,rfl,zAG _,rfl⟩
         · rintro mq tm S nx ⟨i,hn,rfl,rfl,rfl,hi,ha⟩;by_cases hlt:i < 3
           · rw [iH hlt,List.all_cons] at ha;have q1:w.holds[i]?=some (w.holds[i]'(by omega)):=zAB (by omega);have c5:=FD (m:=m) v w hb (by omega) i _ q1;cases g4:mn v w i with
             | true=>
               rw [g4] at c5 ha;repeat' first|refine Ra ⟨?_⟩|refine R0 c5 ⟨?_⟩|refine Rd (fun h=>⟨?_⟩) fun h=>⟨?_⟩|refine Rb ⟨?_⟩|fail
               refine .here ⟨mq - 1,by omega,?_⟩;refine la [1,3,5] ?_
               conv=>whnf
               refine ⟨rfl,rfl,i+1,(by omega),rfl,rfl,rfl,by omega,(by rw [ha]; simp)⟩
             | false=>
               rw [g4] at c5 ha;rw [ha,zAg,zAg];repeat' first|refine Ra ⟨?_⟩|refine R0 c5 ⟨?_⟩|refine Rd (fun h=>⟨?_⟩) fun h=>⟨?_⟩|refine Rb ⟨?_⟩|fail
               exact Rf
           · have:i=3:=by omega
             subst this;rw [e8] at ha;rw [ha];repeat' first|refine Rx ⟨?_⟩|refine Rd (fun h=>⟨?_⟩) fun h=>⟨?_⟩|fail
             refine Cd.loop2 (fun mq tm S nx=>∃ (i:Nat),mq=(w.net.length - i)∧tm=[(1,.bp 0 0),(3,.sl (v.map Ent.c)),(6,.k .i64 i)]∧S=[(0,.box 55 w.c)]∧nx=1∧(i≤w.net.length)∧((w.net.all fun m=>fg w.count m && jw v w m && mp w m)=((w.net.drop i).all fun m=>fg w.count m && jw v w m && mp w m))) ?_ ?_
             · refine la [1,3,6] ?_
               conv=>whnf
               refine ⟨rfl,rfl,_,0,rfl,rfl,rfl,rfl,zAG _,rfl⟩
             · rintro mq tm S nx ⟨i,hn,rfl,rfl,rfl,hi,ha⟩;rcases av w.net i hi with ⟨rfl,hd⟩|⟨x,r,hx',hd,hr,hlt⟩
               · rw [hd] at ha;rw [ha];repeat' first|refine Rx ⟨?_⟩|refine Rd (fun h=>⟨?_⟩) fun h=>⟨?_⟩|fail
                 exact Rf
               · rw [hd,List.all_cons] at ha;have c5:=Hm (m:=m) v w hb (by omega) a5 a6 x (hb.nt x (zAD hx'));cases g4:fg w.count x && jw v w x && mp w x with
                 | true=>
                   rw [g4] at c5 ha;repeat' first|refine Ra ⟨?_⟩|refine R0 c5 ⟨?_⟩|refine Rd (fun h=>⟨?_⟩) fun h=>⟨?_⟩|refine Rb ⟨?_⟩|fail
                   refine .here ⟨mq - 1,by omega,?_⟩;refine la [1,3,6] ?_
                   conv=>whnf
                   refine ⟨rfl,rfl,i+1,(by omega),rfl,rfl,rfl,by omega,(by rw [ha,hr]; simp)⟩
                 | false=>
                   rw [g4] at c5 ha;rw [ha,zAg,zBH];repeat' first|refine Ra ⟨?_⟩|refine R0 c5 ⟨?_⟩|refine Rd (fun h=>⟨?_⟩) fun h=>⟨?_⟩|refine Rb ⟨?_⟩|fail
                   exact Rf
theorem Dr (w:Wld) (p:Opn) (hb:dO w) (hp:jc 1073741823 p) {t v:List Ent} (ho:bv w.over=some (t,v)):Con (E m) 264 0 [.agg w.c,.agg p.c] [] (.sl (strs (cf v p))) []:=by
 have hv:=(ce ho).2.2.2;have hvl:=aN hv;have c1:=fD (m:=m) w.over hb.over;have h2:gi w.over=some v:=by
  obtain ⟨g1,g2,g3⟩:=dz.1 ho;rw [gi,g1];exact g2
 rw [h2] at c1;have c2:=fT (m:=m) v p (by omega) (qf hv) hp.1 hp.2.1 hp.2.2;unfold cf;by_cases h:(aJ v p).2=0
 · rw [if_pos h];have c3:=rU (m:=m) v (aJ v p).1 hv (gS hv p);refine G0 Tryz.func264 ?_;repeat' first|refine Ra ⟨?_⟩|refine R0 c1 ⟨?_⟩|refine Rk [] 1 c2 ⟨?_⟩|refine R0 c3 ⟨?_⟩|refine Rd (fun h=>⟨?_⟩) fun h=>⟨?_⟩|refine Rb ⟨?_⟩|fail
   exact Rz
 · rw [if_neg h];refine G0 Tryz.func264 ?_;repeat' first|refine Ra ⟨?_⟩|refine R0 c1 ⟨?_⟩|refine Rk [] 1 c2 ⟨?_⟩|refine Rd (fun h=>⟨?_⟩) fun h=>⟨?_⟩|refine Rb ⟨?_⟩|fail
   exact Rz
theorem El (t:List Bs) (p:Bs) (ht:t.length≤1048576):Con (E m) 265 0 [.sl (strs t),.s p] [] (.b (decide (p∈t))) []:=by
 have e1:(strs t).length=t.length:=zAA ..;refine G0 Tryz.func265 ?_;repeat' first|refine Rx ⟨?_⟩|refine Rd (fun h=>⟨?_⟩) fun h=>⟨?_⟩|fail
 refine Cd.loop2 (fun mq tm S nx=>∃ (i:Nat),mq=(t.length - i)∧tm=[(0,.sl (strs t)),(1,.s p),(5,.k .i64 i)]∧S=[]∧nx=0∧(i≤t.length)∧(decide (p∈t)=decide (p∈t.drop i))) ?_ ?_
 · refine la [0,1,5] ?_
   conv=>whnf
   refine ⟨rfl,rfl,_,0,rfl,rfl,rfl,rfl,zAG _,rfl⟩
 · rintro mq tm S nx ⟨i,hn,rfl,rfl,rfl,hi,ha⟩;rcases av t i hi with ⟨rfl,hd⟩|⟨x,r,hx',hd,hr,hlt⟩
   · rw [hd] at ha;rw [ha];repeat' first|refine Rx ⟨?_⟩|refine Rd (fun h=>⟨?_⟩) fun h=>⟨?_⟩|fail
     exact Rf
   · rw [hd] at ha;by_cases q:x=p
     · have:decide (p∈x :: r)=true:=by simp [q]
       rw [this] at ha;rw [ha];repeat' first|refine Rx ⟨?_⟩|refine Rd (fun h=>⟨?_⟩) fun h=>⟨?_⟩|fail
       exact Rf
     · have:decide (p∈x :: r)=decide (p∈r):=by simp [Ne.symm q]
       rw [this] at ha;repeat' first|refine Rx ⟨?_⟩|refine Rd (fun h=>⟨?_⟩) fun h=>⟨?_⟩|fail
       refine .here ⟨mq - 1,by omega,?_⟩;refine la [0,1,5] ?_
       conv=>whnf
       refine ⟨rfl,rfl,i+1,(by omega),rfl,rfl,rfl,by omega,(by rw [ha,hr])⟩
theorem xh (w:Wld) (p:Opn) (hb:dO w) (hp:jc 1073741823 p) {t v:List Ent} (ho:bv w.over=some (t,v)):Con (E m) 217 0 [.agg w.c,.agg p.c] [] (.own 0) [(0,.own 132 ((dg v w.clock w.leases p).map Lse.c))]:=by
 have hll:=hb.ll;have e1:(w.leases.map Lse.c).length=w.leases.length:=zAA ..;have c2:=Dr (m:=m) w p hb hp ho;have htl:(cf v p).length≤1048576:=by
  unfold cf;split
  · have:=fX v (aJ v p).1
    omega
  · simp
 unfold dg;refine G0 Tryz.func217 ?_;repeat' first|refine Ra ⟨?_⟩|refine R0 c2 ⟨?_⟩|refine Rd (fun h=>⟨?_⟩) fun h=>⟨?_⟩|refine Rb ⟨?_⟩|fail
 refine Cd.loop2 (fun mq tm S nx=>∃ (i:Nat) (A:List Lse),mq=(w.leases.length - i)∧tm=[(2,.bp 0 0),(5,.own 1),(6,.sl (strs (cf v p))),(7,.k .i64 i)]∧S=[(0,.box 55 w.c),(1,.own 132 (A.map Lse.c))]∧nx=2∧(i≤w.leases.length)∧(A=(w.leases.take i).filter (fun l=>decide (w.clock < l.til) && decide (l.path∈cf v p)))∧(A.length≤i)) ?_ ?_
 · refine la [2,5,6,7] ?_
   conv=>whnf
   refine ⟨rfl,rfl,_,0,[],rfl,rfl,rfl,rfl,zAG _,(by simp),by simp⟩
 · rintro mq tm S nx ⟨i,A,hn,rfl,rfl,rfl,hi,hA,hAl⟩;have e2:(A.map Lse.c).length=A.length:=zAA ..;rcases av w.leases i hi with ⟨rfl,hd⟩|⟨x,r,hx',hd,hr,hlt⟩
   · rw [zAP] at hA;subst hA;repeat' first|refine Rx ⟨?_⟩|refine Rd (fun h=>⟨?_⟩) fun h=>⟨?_⟩|fail
     exact Rf
   · have c3:=El (m:=m) (cf v p) x.path htl;have hstep:∀ B,B=(w.leases.take i).filter (fun l=>decide (w.clock < l.til) && decide (l.path∈cf v p))++(if w.clock < x.til∧x.path∈cf v p then [x] else [])→B=(w.leases.take (i+1)).filter (fun l=>decide (w.clock < l.til) && decide (l.path∈cf v p)):=by
      intro B hB;rw [hB,zAY,hx',zAj];congr 1
      by_cases q1:w.clock < x.til <;> by_cases q2:x.path∈cf v p <;> simp [q1,q2]
     by_cases q1:w.clock < x.til
     · by_cases q2:x.path∈cf v p
       · rw [decide_eq_true q2] at c3;repeat' first|refine Ra ⟨?_⟩|refine R0 c3 ⟨?_⟩|refine Rd (fun h=>⟨?_⟩) fun h=>⟨?_⟩|refine Rb ⟨?_⟩|fail
         refine .here ⟨mq - 1,by omega,?_⟩;refine la [2,5,6,7] ?_
         conv=>whnf
         refine ⟨rfl,rfl,i+1,A++[x],(by omega),rfl,?_,rfl,by omega,(by rw [← hstep _ rfl,if_pos ⟨q1,q2⟩,hA]),(by simp; omega)⟩;rw [zAH];rfl
       · rw [decide_eq_false q2] at c3;repeat' first|refine Ra ⟨?_⟩|refine R0 c3 ⟨?_⟩|refine Rd (fun h=>⟨?_⟩) fun h=>⟨?_⟩|refine Rb ⟨?_⟩|fail
         refine .here ⟨mq - 1,by omega,?_⟩;refine la [2,5,6,7] ?_
         conv=>whnf
         refine ⟨rfl,rfl,i+1,A,(by omega),rfl,rfl,rfl,by omega,(by rw [← hstep _ rfl,if_neg (fun h=>q2 h.2),hA]; simp),(by omega)⟩
     · repeat' first|refine Rx ⟨?_⟩|refine Rd (fun h=>⟨?_⟩) fun h=>⟨?_⟩|fail
       refine .here ⟨mq - 1,by omega,?_⟩;refine la [2,5,6,7] ?_
       conv=>whnf
       refine ⟨rfl,rfl,i+1,A,(by omega),rfl,rfl,rfl,by omega,(by rw [← hstep _ rfl,if_neg (fun h=>q1 h.1),hA]; simp),(by omega)⟩
variable {m:Int}
abbrev wlR (a b c d:Nat) (L:List (List D)) (zs:List aE) (F N:List (List D)):ac:=[(a,.own 132 L),(b,.deep 121 68 zs),(c,.own 3 F),(d,.own 70 N)]
abbrev wlT (w:Wld) (a b c d:Nat) (zs:List aE):ac:=wlR a b c d (w.leases.map Lse.c) zs (ck w.floors) (w.net.map Mes.c)
theorem iK (w:Wld) (zs:List aE) (x:Mes) (hnl:w.net.length≤1048576) (h0 h1 h2:List Hld) (hz:zs=[anH h0,anH h1,anH h2]):Con (E m) 155 4 [.agg (wcO w 0 1 2 3),.agg x.c] (wlT w 0 1 2 3 zs) (.agg (wcO { w with net:=bZ w.net x } 4 5 6 7)) (wlT { w with net:=bZ w.net x } 4 5 6 7 zs):=by
 have e4:(w.net.map Mes.c).length=w.net.length:=zAA ..;subst hz;by_cases h:w.net.length < 12
 · have hx:bZ w.net x=w.net++[x]:=by rw [bZ,if_pos h]
   rw [hx];refine G0 Tryz.func155 ?_;repeat' first|refine Rx ⟨?_⟩|refine Rd (fun h=>⟨?_⟩) fun h=>⟨?_⟩|fail
   refine ak.here (fw [.anew 0,.close 1,.anew 2] ?_)
   conv=>whnf
   refine ⟨rfl,rfl,rfl,?_⟩;exact congrArg (wlR 4 5 6 7 _ _ _) (zAH (f:=Mes.c) (l₁:=w.net) (l₂:=[x])).symm
 · have hx:bZ w.net x=w.net:=by rw [bZ,if_neg h]
   rw [hx];refine G0 Tryz.func155 ?_;repeat' first|refine Rx ⟨?_⟩|refine Rd (fun h=>⟨?_⟩) fun h=>⟨?_⟩|fail
   refine ak.here (fw [.anew 0,.close 1,.anew 2,.anew 3] ?_)
   conv=>whnf
   exact ⟨rfl,rfl,rfl,rfl⟩
theorem rW (w:Wld) (zs:List aE) (bars:List Lse) (hnl:w.net.length≤1048576) (hbl:bars.length≤1048576) (h0 h1 h2:List Hld) (hz:zs=[anH h0,anH h1,anH h2]):Con (E m) 218 4 [.agg (wcO w 0 1 2 3),.sl (bars.map Lse.c)] (wlT w 0 1 2 3 zs) (.agg (wcO { w with net:=dQ w.net w.count bars } 4 5 6 7)) (wlT { w with net:=dQ w.net w.count bars } 4 5 6 7 zs):=by
 have e1:(bars.map Lse.c).length=bars.length:=zAA ..;subst hz;refine G0 Tryz.func218 ?_;repeat' first|refine Rx ⟨?_⟩|refine Rd (fun h=>⟨?_⟩) fun h=>⟨?_⟩|fail
 refine Cd.loop2 (fun mq tm S nx=>∃ (i:Nat) (N:List Mes),mq=(bars.length - i)∧tm=[(1,.sl (bars.map Lse.c)),(2,.bp 4 0),(4,.bp 5 0),(5,.k .i64 i)]∧S=[(4,.box 55 (wcO w 6 7 8 9)),(5,.box 55 [.nil,.nil,.nil,.k .i64 0,.k .i64 0,.nil,.nil,.nil,.nil,.b false,.k .i64 0,.s [],.s [],.s []]),(6,.own 132 (w.leases.map Lse.c)),(7,.deep 121 68 [anH h0,anH h1,anH h2]),(8,.own 3 (ck w.floors)),(9,.own 70 (N.map Mes.c))]∧nx=10∧(i≤bars.length)∧(dQ w.net w.count bars=dQ N w.count (bars.drop i))∧(N.length≤1048576)) ?_ ?_
 · refine lw [.anew 0,.close 1,.anew 2,.anew 3] [1,2,4,5] ?_
   conv=>whnf
   refine ⟨rfl,rfl,_,0,w.net,rfl,rfl,rfl,rfl,zAG _,rfl,hnl⟩
 · rintro mq tm S nx ⟨i,N,hn,rfl,rfl,rfl,hi,ha,hN⟩;rcases (av bars i hi).symm with ⟨x,r,hx',hd,hr,hlt⟩|⟨rfl,hd⟩
   · rw [hd,jz] at ha;have c1:=iK (m:=m) { w with net:=N } [anH h0,anH h1,anH h2] ⟨3,x.who,aZ x.path w.count⟩ hN h0 h1 h2 rfl
     repeat' first|refine Ra ⟨?_⟩|refine Rk [6,7,8,9] 4 c1 ⟨?_⟩|refine Rd (fun h=>⟨?_⟩) fun h=>⟨?_⟩|refine Rb ⟨?_⟩|fail
     refine .here ⟨mq - 1,by omega,?_⟩;refine la [1,2,4,5] ?_
     conv=>whnf
     refine ⟨rfl,rfl,i+1,bZ N ⟨3,x.who,aZ x.path w.count⟩,(by omega),rfl,rfl,rfl,by omega,(by rw [ha,hr]),j7 hN (by omega)⟩
   · rw [hd] at ha;rw [ha];repeat' first|refine Rx ⟨?_⟩|refine Rd (fun h=>⟨?_⟩) fun h=>⟨?_⟩|fail
     exact Rf
theorem xi (ls:List Lse) (who:Int) (p:Bs) (n:Int) (hl:ls.length≤1048576):Con (E m) 269 0 [.sl (ls.map Lse.c),.k .i64 who,.s p,.k .i64 n] [] (.own 0) [(0,.own 132 ((jY ls who p n).map Lse.c))]:=by
 have e1:(ls.map Lse.c).length=ls.length:=zAA ..;refine G0 Tryz.func269 ?_;repeat' first|refine Rx ⟨?_⟩|refine Rd (fun h=>⟨?_⟩) fun h=>⟨?_⟩|fail
 refine Cd.loop2 (fun mq tm S nx=>∃ (i:Nat) (A:List Lse),mq=(ls.length - i)∧tm=[(0,.sl (ls.map Lse.c)),(1,.k .i64 who),(2,.s p),(3,.k .i64 n),(9,.own 0),(10,.k .i64 i)]∧S=[(0,.own 132 (A.map Lse.c))]∧nx=1∧(i≤ls.length)∧(A=jY (ls.take i) who p n)∧(A.length≤i)) ?_ ?_
 · refine la [0,1,2,3,9,10] ?_
   conv=>whnf
   refine ⟨rfl,rfl,_,0,[],rfl,rfl,rfl,rfl,zAG _,(by simp [jY]),by simp⟩
 · rintro mq tm S nx ⟨i,A,hn,rfl,rfl,rfl,hi,hA,hAl⟩;have e2:(A.map Lse.c).length=A.length:=zAA ..;rcases av ls i hi with ⟨rfl,hd⟩|⟨x,r,hx',hd,hr,hlt⟩
   · rw [zAP] at hA;subst hA;repeat' first|refine Rx ⟨?_⟩|refine Rd (fun h=>⟨?_⟩) fun h=>⟨?_⟩|fail
     exact Rf
   · have hstep:jY (ls.take (i+1)) who p n=A++(if aW who p x && decide (x.num≤n) then [] else [x]):=by
       rw [hA,jY,jY,zAY,hx',zAj];congr 1
       cases hq:aW who p x && decide (x.num≤n) <;> rw [Option.toList_some,List.filter_cons,hq] <;> rfl
     by_cases q1:x.who=who
     · by_cases q2:x.path=p
       · by_cases q3:x.num≤n
         · have q:(aW who p x && decide (x.num≤n))=true:=by simp [aW,q1,q2,q3]
           repeat' first|refine Rx ⟨?_⟩|refine Rd (fun h=>⟨?_⟩) fun h=>⟨?_⟩|fail
           refine .here ⟨mq - 1,by omega,?_⟩;refine la [0,1,2,3,9,10] ?_
           conv=>whnf
           refine ⟨rfl,rfl,i+1,A,(by omega),rfl,rfl,rfl,by omega,(by rw [hstep,if_pos q]; simp),by omega⟩
         · have q:(aW who p x && decide (x.num≤n))=false:=by simp [q3]
           repeat' first|refine Rx ⟨?_⟩|refine Rd (fun h=>⟨?_⟩) fun h=>⟨?_⟩|fail
           refine .here ⟨mq - 1,by omega,?_⟩;refine la [0,1,2,3,9,10] ?_
           conv=>whnf
           refine ⟨rfl,rfl,i+1,A++[x],(by omega),rfl,?_,rfl,by omega,(by rw [hstep,q]; simp),(by simp; omega)⟩;rw [zAH];rfl
       · have q:(aW who p x && decide (x.num≤n))=false:=by simp [aW,q2]
         repeat' first|refine Rx ⟨?_⟩|refine Rd (fun h=>⟨?_⟩) fun h=>⟨?_⟩|fail
         refine .here ⟨mq - 1,by omega,?_⟩;refine la [0,1,2,3,9,10] ?_
         conv=>whnf
         refine ⟨rfl,rfl,i+1,A++[x],(by omega),rfl,?_,rfl,by omega,(by rw [hstep,q]; simp),(by simp; omega)⟩;rw [zAH];rfl
     · have q:(aW who p x && decide (x.num≤n))=false:=by simp [aW,q1]
       repeat' first|refine Rx ⟨?_⟩|refine Rd (fun h=>⟨?_⟩) fun h=>⟨?_⟩|fail
       refine .here ⟨mq - 1,by omega,?_⟩;refine la [0,1,2,3,9,10] ?_
       conv=>whnf
       refine ⟨rfl,rfl,i+1,A++[x],(by omega),rfl,?_,rfl,by omega,(by rw [hstep,q]; simp),(by simp; omega)⟩;rw [zAH];rfl
theorem oW (hs:List Hld) (p:Bs) (n:Int) (hl:hs.length≤1048576):Con (E m) 268 0 [.sl (hs.map Hld.c),.s p,.k .i64 n] [] (.own 0) [(0,.own 68 ((bP hs p n).map Hld.c))]:=by
 have e1:(hs.map Hld.c).length=hs.length:=zAA ..;refine G0 Tryz.func268 ?_;repeat' first|refine Rx ⟨?_⟩|refine Rd (fun h=>⟨?_⟩) fun h=>⟨?_⟩|fail
 refine Cd.loop2 (fun mq tm S nx=>∃ (i:Nat) (A:List Hld),mq=(hs.length - i)∧tm=[(0,.sl (hs.map Hld.c)),(1,.s p),(2,.k .i64 n),(7,.own 0),(8,.k .i64 i)]∧S=[(0,.own 68 (A.map Hld.c))]∧nx=1∧(i≤hs.length)∧(A=bP (hs.take i) p n)∧(A.length≤i)) ?_ ?_
 · refine la [0,1,2,7,8] ?_
   conv=>whnf
   refine ⟨rfl,rfl,_,0,[],rfl,rfl,rfl,rfl,zAG _,(by simp [bP]),by simp⟩
 · rintro mq tm S nx ⟨i,A,hn,rfl,rfl,rfl,hi,hA,hAl⟩;have e2:(A.map Hld.c).length=A.length:=zAA ..;rcases av hs i hi with ⟨rfl,hd⟩|⟨x,r,hx',hd,hr,hlt⟩
   · rw [zAP] at hA;subst hA;repeat' first|refine Rx ⟨?_⟩|refine Rd (fun h=>⟨?_⟩) fun h=>⟨?_⟩|fail
     exact Rf
   · have hstep:bP (hs.take (i+1)) p n=A++(if decide (x.path=p) && decide (x.num≤n) then [] else [x]):=by
       rw [hA,bP,bP,zAY,hx',zAj];congr 1
       cases hq:decide (x.path=p) && decide (x.num≤n) <;> rw [Option.toList_some,List.filter_cons,hq] <;> rfl
     by_cases q2:x.path=p
     · by_cases q3:x.num≤n
       · have q:(decide (x.path=p) && decide (x.num≤n))=true:=by simp [q2,q3]
         repeat' first|refine Rx ⟨?_⟩|refine Rd (fun h=>⟨?_⟩) fun h=>⟨?_⟩|fail
         refine .here ⟨mq - 1,by omega,?_⟩;refine la [0,1,2,7,8] ?_
         conv=>whnf
         refine ⟨rfl,rfl,i+1,A,(by omega),rfl,rfl,rfl,by omega,(by rw [hstep,if_pos q]; simp),by omega⟩
       · have q:(decide (x.path=p) && decide (x.num≤n))=false:=by simp [q3]
         repeat' first|refine Rx ⟨?_⟩|refine Rd (fun h=>⟨?_⟩) fun h=>⟨?_⟩|fail
         refine .here ⟨mq - 1,by omega,?_⟩;refine la [0,1,2,7,8] ?_
         conv=>whnf
         refine ⟨rfl,rfl,i+1,A++[x],(by omega),rfl,?_,rfl,by omega,(by rw [hstep,q]; simp),(by simp; omega)⟩;rw [zAH];rfl
     · have q:(decide (x.path=p) && decide (x.num≤n))=false:=by simp [q2]
       repeat' first|refine Rx ⟨?_⟩|refine Rd (fun h=>⟨?_⟩) fun h=>⟨?_⟩|fail
       refine .here ⟨mq - 1,by omega,?_⟩;refine la [0,1,2,7,8] ?_
       conv=>whnf
       refine ⟨rfl,rfl,i+1,A++[x],(by omega),rfl,?_,rfl,by omega,(by rw [hstep,q]; simp),(by simp; omega)⟩;rw [zAH];rfl
theorem FE (w:Wld) (zs:List aE) (hc:0≤w.clock∧w.clock≤10000) (hll:w.leases.length≤1048576) (h0 h1 h2:List Hld) (hz:zs=[anH h0,anH h1,anH h2]):Con (E m) 158 4 [.agg (wcO w 0 1 2 3)] (wlT w 0 1 2 3 zs) (.agg (wcO (ix w) 4 5 6 7)) (wlT (ix w) 4 5 6 7 zs):=by
 subst hz;have e1:(w.leases.map Lse.c).length=w.leases.length:=zAA ..;unfold ix;by_cases hlt:w.clock < 10000
 · have hcq:eX w.clock=w.clock+1:=by rw [eX,if_pos hlt]
   rw [hcq];refine G0 Tryz.func158 ?_;repeat' first|refine Rx ⟨?_⟩|refine Rd (fun h=>⟨?_⟩) fun h=>⟨?_⟩|fail
   refine Cd.loop2 (fun mq tm S nx=>∃ (i:Nat) (A:List Lse),mq=(w.leases.length - i)∧tm=[(1,.bp 4 0),(2,.bp 5 0),(3,.own 6),(4,.k .i64 i)]∧S=[(0,.own 132 (w.leases.map Lse.c)),(1,.deep 121 68 [anH h0,anH h1,anH h2]),(2,.own 3 (ck w.floors)),(3,.own 70 (w.net.map Mes.c)),(4,.box 55 (wcO { w with clock:=w.clock+1 } 0 1 2 3)),(5,.box 55 [.nil,.nil,.nil,.k .i64 0,.k .i64 0,.nil,.nil,.nil,.nil,.b false,.k .i64 0,.s [],.s [],.s []]),(6,.own 132 (A.map Lse.c))]∧nx=7∧(i≤w.leases.length)∧(A=(w.leases.take i).filter (fun l=>decide (w.clock+1 < l.til)))∧(A.length≤i)) ?_ ?_
   · refine la [1,2,3,4] ?_
     conv=>whnf
     refine ⟨rfl,rfl,_,0,[],rfl,rfl,rfl,rfl,zAG _,by simp,by simp⟩
   · rintro mq tm S nx ⟨i,A,hn,rfl,rfl,rfl,hi,hA,hAl⟩;have e2:(A.map Lse.c).length=A.length:=zAA ..;rcases av w.leases i hi with ⟨rfl,hd⟩|⟨x,r,hx',hd,hr,hlt2⟩
     · rw [zAP] at hA;subst hA;repeat' first|refine Rx ⟨?_⟩|refine Rd (fun h=>⟨?_⟩) fun h=>⟨?_⟩|fail
       refine ak.here (fw [.ice 0,.close 1,.anew 2,.anew 3] ?_)
       conv=>whnf
       exact ⟨rfl,rfl,rfl,rfl⟩
     · have g5:(w.leases.map Lse.c)[i]?=some x.c:=mg hx';have hstep:(w.leases.take (i+1)).filter (fun l=>decide (w.clock+1 < l.til))=A++(if w.clock+1 < x.til then [x] else []):=by
        rw [hA,zAY,hx',zAj];congr 1
        by_cases q:w.clock+1 < x.til <;> simp [q]
       by_cases q:w.clock+1 < x.til
       · repeat' first|refine Ra ⟨?_⟩|((refine ⟨i,rfl,by omega,?_⟩) <;> conv=>whnf)|((refine ⟨_,g5,?_⟩) <;> conv=>whnf)|refine Rd (fun h=>⟨?_⟩) fun h=>⟨?_⟩|refine Rb ⟨?_⟩|fail
         refine .here ⟨mq - 1,by omega,?_⟩;refine la [1,2,3,4] ?_
         conv=>whnf
         refine ⟨rfl,rfl,i+1,A++[x],(by omega),rfl,?_,rfl,by omega,(by rw [hstep,if_pos q]),(by simp; omega)⟩;rw [zAH];rfl
       · repeat' first|refine Ra ⟨?_⟩|((refine ⟨i,rfl,by omega,?_⟩) <;> conv=>whnf)|((refine ⟨_,g5,?_⟩) <;> conv=>whnf)|refine Rd (fun h=>⟨?_⟩) fun h=>⟨?_⟩|refine Rb ⟨?_⟩|fail
         refine .here ⟨mq - 1,by omega,?_⟩;refine la [1,2,3,4] ?_
         conv=>whnf
         refine ⟨rfl,rfl,i+1,A,(by omega),rfl,rfl,rfl,by omega,(by rw [hstep,if_neg q]; simp),by omega⟩
 · have hcq:eX w.clock=w.clock:=by rw [eX,if_neg hlt]
   rw [hcq];refine G0 Tryz.func158 ?_;repeat' first|refine Rx ⟨?_⟩|refine Rd (fun h=>⟨?_⟩) fun h=>⟨?_⟩|fail
   refine Cd.loop2 (fun mq tm S nx=>∃ (i:Nat) (A:List Lse),mq=(w.leases.length - i)∧tm=[(1,.bp 4 0),(2,.bp 5 0),(3,.own 6),(4,.k .i64 i)]∧S=[(0,.own 132 (w.leases.map Lse.c)),(1,.deep 121 68 [anH h0,anH h1,anH h2]),(2,.own 3 (ck w.floors)),(3,.own 70 (w.net.map Mes.c)),(4,.box 55 (wcO { w with clock:=w.clock } 0 1 2 3)),(5,.box 55 [.nil,.nil,.nil,.k .i64 0,.k .i64 0,.nil,.nil,.nil,.nil,.b false,.k .i64 0,.s [],.s [],.s []]),(6,.own 132 (A.map Lse.c))]∧nx=7∧(i≤w.leases.length)∧(A=(w.leases.take i).filter (fun l=>decide (w.clock < l.til)))∧(A.length≤i)) ?_ ?_
   · refine la [1,2,3,4] ?_
     conv=>whnf
     refine ⟨rfl,rfl,_,0,[],rfl,rfl,rfl,rfl,zAG _,by simp,by simp⟩
   · rintro mq tm S nx ⟨i,A,hn,rfl,rfl,rfl,hi,hA,hAl⟩;have e2:(A.map Lse.c).length=A.length:=zAA ..;rcases av w.leases i hi with ⟨rfl,hd⟩|⟨x,r,hx',hd,hr,hlt2⟩
     · rw [zAP] at hA;subst hA;repeat' first|refine Rx ⟨?_⟩|refine Rd (fun h=>⟨?_⟩) fun h=>⟨?_⟩|fail
       refine ak.here (fw [.ice 0,.close 1,.anew 2,.anew 3] ?_)
       conv=>whnf
       exact ⟨rfl,rfl,rfl,rfl⟩
     · have g5:(w.leases.map Lse.c)[i]?=some x.c:=mg hx';have hstep:(w.leases.take (i+1)).filter (fun l=>decide (w.clock < l.til))=A++(if w.clock < x.til then [x] else []):=by
        rw [hA,zAY,hx',zAj];congr 1
        by_cases q:w.clock < x.til <;> simp [q]
       by_cases q:w.clock < x.til
       · repeat' first|refine Ra ⟨?_⟩|((refine ⟨i,rfl,by omega,?_⟩) <;> conv=>whnf)|((refine ⟨_,g5,?_⟩) <;> conv=>whnf)|refine Rd (fun h=>⟨?_⟩) fun h=>⟨?_⟩|refine Rb ⟨?_⟩|fail
         refine .here ⟨mq - 1,by omega,?_⟩;refine la [1,2,3,4] ?_
         conv=>whnf
         refine ⟨rfl,rfl,i+1,A++[x],(by omega),rfl,?_,rfl,by omega,(by rw [hstep,if_pos q]),(by simp; omega)⟩;rw [zAH];rfl
       · repeat' first|refine Ra ⟨?_⟩|((refine ⟨i,rfl,by omega,?_⟩) <;> conv=>whnf)|((refine ⟨_,g5,?_⟩) <;> conv=>whnf)|refine Rd (fun h=>⟨?_⟩) fun h=>⟨?_⟩|refine Rb ⟨?_⟩|fail
         refine .here ⟨mq - 1,by omega,?_⟩;refine la [1,2,3,4] ?_
         conv=>whnf
         refine ⟨rfl,rfl,i+1,A,(by omega),rfl,rfl,rfl,by omega,(by rw [hstep,if_neg q]; simp),by omega⟩
end Go.Proofs.YtagejnomlkfndaaGreatDoor
