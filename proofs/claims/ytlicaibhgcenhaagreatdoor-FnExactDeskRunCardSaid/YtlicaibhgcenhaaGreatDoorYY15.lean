/- Texts of this claim, set close: lemmas and contracts. -/
import Derived.Test.YtlicaibhgcenhaaGreatDoorYY14
set_option linter.unusedSimpArgs false
set_option linter.unusedVariables false
set_option maxHeartbeats 1000000
set_option maxRecDepth 10000
namespace Go.Proofs.YtlicaibhgcenhaaGreatDoor
open Go Go.RowKit Go.Ab Go.Par
variable {m:Int}
theorem zf (a b c d:Nat) (zs:List br) (F N:List (List D)) (l:List Lse) (x:Lse):wlR a b c d (l.map Lse.c++[x.c]) zs F N=wlR a b c d ((l++[x]).map Lse.c) zs F N:=by rw [zAK]; rfl
theorem Bo (w:Wld) (zs:List br) (who:Int) (p:Bs) (hb:du w) {t v:List Ent} (ho:aQ w.over=some (t,v)) (hcl:0≤w.clock∧w.clock≤10000) (hct:0≤w.count∧w.count≤10000) (h0 h1 h2:List Hld) (hh:w.holds=[h0,h1,h2]) (hz:zs=[anH h0,anH h1,anH h2]) :
   Con (E m) 292 4 [.agg (wcO w 0 1 2 3),.k .i64 who,.s p] (wlT w 0 1 2 3 zs) (.agg (wcO (jI w who p) 4 5 6 7)) (wlT (jI w who p) 4 5 6 7 zs):=by
 subst hz;have hll:=hb.ll;have hv:=(bu ho).2.2.2;have hvl:=az hv;have hs:Go.Par.seen w.over=v:=by rw [Go.Par.seen,ho]
 have c1:=zd (m:=m) w w.op hb hb.op ho;rw [Wld.c,hh] at c1;have htl:(bV v w.op).length≤1048576:=by
  unfold bV;split
  · have:=fJ v (ao v w.op).1
    omega
  · simp
 have c2:=Ck (m:=m) (bV v w.op) p htl;have e1:(w.leases.map Lse.c).length=w.leases.length:=zAA ..;unfold jI;rw [hs];by_cases hbad:w.waits=true∧p∈bV v w.op
 · rw [if_pos (.inl hbad)];obtain ⟨hw,hp⟩:=hbad;rw [decide_eq_true hp] at c2;refine G0 Tryz.func292 ?_;repeat' first|refine Ra ⟨?_⟩|(refine ⟨[],_,_,_,_,1,⟨rfl,rfl,rfl,c1,rfl,rfl⟩,.inl ⟨[],trivial,rfl,.inl ⟨by simp [bb,ba,aj],by simp [bg,bc,aj,Ent.c,Mrk.c,Opn.c,Lse.c,Hld.c,Mes.c,aX,anH]⟩,?_⟩⟩ <;> conv=>whnf)|refine R0 c2 ⟨?_⟩|refine Rd (fun h=>⟨?_⟩) fun h=>⟨?_⟩|refine Rb ⟨?_⟩|fail
   refine ai.here (fw [.anew 0,.close 1,.anew 2,.anew 3] ?_)
   conv=>whnf
   exact ⟨rfl,rfl,rfl,rfl⟩
 · by_cases hc:10000≤w.count
   · rw [if_pos (.inr hc)];by_cases hw:w.waits=true
     · rw [decide_eq_false (fun hp=>hbad ⟨hw,hp⟩)] at c2;refine G0 Tryz.func292 ?_;repeat' first|refine Ra ⟨?_⟩|(refine ⟨[],_,_,_,_,1,⟨rfl,rfl,rfl,c1,rfl,rfl⟩,.inl ⟨[],trivial,rfl,.inl ⟨by simp [bb,ba,aj],by simp [bg,bc,aj,Ent.c,Mrk.c,Opn.c,Lse.c,Hld.c,Mes.c,aX,anH]⟩,?_⟩⟩ <;> conv=>whnf)|refine R0 c2 ⟨?_⟩|refine Rd (fun h=>⟨?_⟩) fun h=>⟨?_⟩|refine Rb ⟨?_⟩|fail
       refine ai.here (fw [.anew 0,.close 1,.anew 2,.anew 3] ?_)
       conv=>whnf
       exact ⟨rfl,rfl,rfl,rfl⟩
     · have hw:w.waits=false:=by simpa using hw
       refine G0 Tryz.func292 ?_;repeat' first|refine Rx ⟨?_⟩|refine Rd (fun h=>⟨?_⟩) fun h=>⟨?_⟩|fail
       refine ai.here (fw [.anew 0,.close 1,.anew 2,.anew 3] ?_)
       conv=>whnf
       exact ⟨rfl,rfl,rfl,rfl⟩
   · rw [if_neg (by rintro (h|h); exact hbad h; exact hc h)];have c0:=fg (m:=m) w.over hb.over;have h2':gp w.over=some v:=by
      obtain ⟨g1,g2,g3⟩:=bJ.1 ho;rw [gp,g1];exact g2
     rw [h2'] at c0;have c6:=dH (m:=m) v p (by omega);obtain ⟨g,has,q1,q2,q3⟩:∃ (g:Ent) (has:Bool),nv (am v p)=.tup [.agg g.c,.b has]∧(am v p).isSome=has∧(am v p).getD eZ=g:=by
      cases hg:am v p with
      | none=>exact ⟨eZ,false,rfl,rfl,rfl⟩
      | some g=>exact ⟨g,true,rfl,rfl,rfl⟩
     rw [q1] at c6;rw [q2,q3];have c4:=vW (m:=m) w.leases who p (w.count+1) hll;have c9:=gQ (m:=m) { w with count:=w.count+1,leases:=jc w.leases who p (w.count+1)++[⟨who,p,w.count+1,w.clock+5⟩] } [anH h0,anH h1,anH h2] ⟨2,who,⟨p,has,g,w.count+1,w.clock+5⟩⟩ hb.nl h0 h1 h2 rfl
     simp only [wlT,← zf] at c9 ⊢;have e2:((jc w.leases who p (w.count+1)).map Lse.c).length=(jc w.leases who p (w.count+1)).length:=zAA ..;have e3:(jc w.leases who p (w.count+1)).length≤w.leases.length:=zAV _ _;by_cases hw:w.waits=true
     · rw [decide_eq_false (fun hp=>hbad ⟨hw,hp⟩)] at c2;refine G0 Tryz.func292 ?_;repeat' first|refine Ra ⟨?_⟩|(refine ⟨[],_,_,_,_,1,⟨rfl,rfl,rfl,c1,rfl,rfl⟩,.inl ⟨[],trivial,rfl,.inl ⟨by simp [bb,ba,aj],by simp [bg,bc,aj,Ent.c,Mrk.c,Opn.c,Lse.c,Hld.c,Mes.c,aX,anH]⟩,?_⟩⟩ <;> conv=>whnf)|refine R0 c2 ⟨?_⟩|refine R0 c0 ⟨?_⟩|refine R0 c6 ⟨?_⟩|(refine ⟨[],_,_,_,_,1,⟨rfl,rfl,rfl,c4,rfl,rfl⟩,.inl ⟨[],trivial,rfl,.inl ⟨by simp [bb,ba,aj],by simp [bg,bc,aj,Ent.c,Mrk.c,Opn.c,Lse.c,Hld.c,Mes.c,aX,anH]⟩,?_⟩⟩ <;> conv=>whnf)|refine Rk [10,1,2,3] 4 c9 ⟨?_⟩|refine Rd (fun h=>⟨?_⟩) fun h=>⟨?_⟩|refine Rb ⟨?_⟩|fail
       refine ai.here (fw [.ice 0] ?_)
       conv=>whnf
       exact ⟨rfl,rfl,rfl,rfl⟩
     · have hw:w.waits=false:=by simpa using hw
       refine G0 Tryz.func292 ?_;repeat' first|refine Ra ⟨?_⟩|refine R0 c0 ⟨?_⟩|refine R0 c6 ⟨?_⟩|(refine ⟨[],_,_,_,_,1,⟨rfl,rfl,rfl,c4,rfl,rfl⟩,.inl ⟨[],trivial,rfl,.inl ⟨by simp [bb,ba,aj],by simp [bg,bc,aj,Ent.c,Mrk.c,Opn.c,Lse.c,Hld.c,Mes.c,aX,anH]⟩,?_⟩⟩ <;> conv=>whnf)|refine Rk [9,1,2,3] 4 c9 ⟨?_⟩|refine Rd (fun h=>⟨?_⟩) fun h=>⟨?_⟩|refine Rb ⟨?_⟩|fail
       refine ai.here (fw [.ice 0] ?_)
       conv=>whnf
       exact ⟨rfl,rfl,rfl,rfl⟩
theorem kY (hs:List Hld) (g:Hld) (hl:hs.length≤1048576) (h:(hs.any fun x=>decide (x.path=g.path) && decide (g.num≤x.num))=true):Con (E m) 293 1 [.own 0,.agg g.c] [(0,.own 152 (hs.map Hld.c))] (.own 0) [(0,.own 152 (hs.map Hld.c))]:=by
 have e1:(hs.map Hld.c).length=hs.length:=zAA ..;refine G0 Tryz.func293 ?_;repeat' first|refine Rx ⟨?_⟩|refine Rd (fun h=>⟨?_⟩) fun h=>⟨?_⟩|fail
 refine Cd.loop2 (fun mq tm S nx=>∃ (i:Nat) (A:List Hld),mq=(hs.length - i)∧tm=[(0,.own 0),(3,.bp 1 0),(5,.own 2),(6,.k .i64 i)]∧S=[(0,.own 152 (hs.map Hld.c)),(1,.box 152 g.c),(2,.own 152 (A.map Hld.c))]∧nx=3∧(i≤hs.length)∧(((hs.drop i).any fun x=>decide (x.path=g.path) && decide (g.num≤x.num))=true)∧(A.length≤i)) ?_ ?_
 · refine la [0,3,5,6] ?_
   conv=>whnf
   refine ⟨rfl,rfl,_,0,[],rfl,rfl,rfl,rfl,zAG _,h,by simp⟩
 · rintro mq tm S nx ⟨i,A,hn,rfl,rfl,rfl,hi,ha,hAl⟩;have e2:(A.map Hld.c).length=A.length:=zAA ..;rcases au hs i hi with ⟨rfl,hd⟩|⟨x,r,hx',hd,hr,hlt⟩
   · rw [hd] at ha;simp at ha
   · rw [hd,List.any_cons] at ha;have g5:(hs.map Hld.c)[i]?=some x.c:=mg hx';by_cases q1:x.path=g.path
     · by_cases q2:g.num≤x.num
       · repeat' first|refine Ra ⟨?_⟩|((refine ⟨i,rfl,by omega,?_⟩) <;> conv=>whnf)|((refine ⟨_,g5,?_⟩) <;> conv=>whnf)|refine Rd (fun h=>⟨?_⟩) fun h=>⟨?_⟩|refine Rb ⟨?_⟩|fail
         exact Rf
       · rw [decide_eq_false q2,zBb,zAs] at ha;repeat' first|refine Ra ⟨?_⟩|((refine ⟨i,rfl,by omega,?_⟩) <;> conv=>whnf)|((refine ⟨_,g5,?_⟩) <;> conv=>whnf)|refine Rd (fun h=>⟨?_⟩) fun h=>⟨?_⟩|refine Rb ⟨?_⟩|fail
         refine .here ⟨mq - 1,by omega,?_⟩;refine la [0,3,5,6] ?_
         conv=>whnf
         refine ⟨rfl,rfl,i+1,A,(by omega),rfl,rfl,rfl,by omega,(by rw [hr]; exact ha),by omega⟩
     · rw [decide_eq_false q1,zAh,zAs] at ha;repeat' first|refine Ra ⟨?_⟩|((refine ⟨i,rfl,by omega,?_⟩) <;> conv=>whnf)|((refine ⟨_,g5,?_⟩) <;> conv=>whnf)|refine Rd (fun h=>⟨?_⟩) fun h=>⟨?_⟩|refine Rb ⟨?_⟩|fail
       refine .here ⟨mq - 1,by omega,?_⟩;refine la [0,3,5,6] ?_
       conv=>whnf
       refine ⟨rfl,rfl,i+1,A++[x],(by omega),rfl,?_,rfl,by omega,(by rw [hr]; exact ha),(by simp; omega)⟩;rw [zAK];rfl
theorem kZ (hs:List Hld) (g:Hld) (hl:hs.length≤1048576) (h:(hs.any fun x=>decide (x.path=g.path) && decide (g.num≤x.num))=false):Con (E m) 293 1 [.own 0,.agg g.c] [(0,.own 152 (hs.map Hld.c))] (.own 1) [(0,.own 152 (hs.map Hld.c)),(1,.own 152 ((cC hs g).map Hld.c))]:=by
 have e1:(hs.map Hld.c).length=hs.length:=zAA ..;have ht:cC hs g=hs.filter (fun x=>!decide (x.path=g.path))++[g]:=by rw [cC,h,if_neg (by simp)]
 rw [ht];refine G0 Tryz.func293 ?_;repeat' first|refine Rx ⟨?_⟩|refine Rd (fun h=>⟨?_⟩) fun h=>⟨?_⟩|fail
 refine Cd.loop2 (fun mq tm S nx=>∃ (i:Nat) (A:List Hld),mq=(hs.length - i)∧tm=[(0,.own 0),(3,.bp 1 0),(5,.own 2),(6,.k .i64 i)]∧S=[(0,.own 152 (hs.map Hld.c)),(1,.box 152 g.c),(2,.own 152 (A.map Hld.c))]∧nx=3∧(i≤hs.length)∧(A=(hs.take i).filter (fun x=>!decide (x.path=g.path)))∧(A.length≤i)) ?_ ?_
 · refine la [0,3,5,6] ?_
   conv=>whnf
   refine ⟨rfl,rfl,_,0,[],rfl,rfl,rfl,rfl,zAG _,by simp,by simp⟩
 · rintro mq tm S nx ⟨i,A,hn,rfl,rfl,rfl,hi,hA,hAl⟩;have e2:(A.map Hld.c).length=A.length:=zAA ..;rcases au hs i hi with ⟨rfl,hd⟩|⟨x,r,hx',hd,hr,hlt⟩
   · rw [zAN] at hA;subst hA;repeat' first|refine Rx ⟨?_⟩|refine Rd (fun h=>⟨?_⟩) fun h=>⟨?_⟩|fail
     refine ai.here (fa ?_)
     conv=>whnf
     refine ⟨rfl,rfl,rfl,?_⟩;rw [zAK];rfl
   · have g5:(hs.map Hld.c)[i]?=some x.c:=mg hx';have hxx:=List.any_eq_false.1 h x (zAD hx');have hstep:(hs.take (i+1)).filter (fun x=>!decide (x.path=g.path))=A++(if x.path=g.path then [] else [x]):=by
      rw [hA,zAX,hx',zAg];congr 1
      by_cases q:x.path=g.path <;> simp [q]
     by_cases q1:x.path=g.path
     · have q2:¬ g.num≤x.num:=fun q=>hxx (by simp [q1,q]);repeat' first|refine Ra ⟨?_⟩|((refine ⟨i,rfl,by omega,?_⟩) <;> conv=>whnf)|((refine ⟨_,g5,?_⟩) <;> conv=>whnf)|refine Rd (fun h=>⟨?_⟩) fun h=>⟨?_⟩|refine Rb ⟨?_⟩|fail
       refine .here ⟨mq - 1,by omega,?_⟩;refine la [0,3,5,6] ?_
       conv=>whnf
       refine ⟨rfl,rfl,i+1,A,(by omega),rfl,rfl,rfl,by omega,(by rw [hstep,if_pos q1]; simp),by omega⟩
     · repeat' first|refine Ra ⟨?_⟩|((refine ⟨i,rfl,by omega,?_⟩) <;> conv=>whnf)|((refine ⟨_,g5,?_⟩) <;> conv=>whnf)|refine Rd (fun h=>⟨?_⟩) fun h=>⟨?_⟩|refine Rb ⟨?_⟩|fail
       refine .here ⟨mq - 1,by omega,?_⟩;refine la [0,3,5,6] ?_
       conv=>whnf
       refine ⟨rfl,rfl,i+1,A++[x],(by omega),rfl,?_,rfl,by omega,(by rw [hstep,if_neg q1]),(by simp; omega)⟩;rw [zAK];rfl
variable {m:Int}
theorem Du (w:Wld) (who:Int) (g:Hld) (hw3:0≤who∧who≤2) (h0 h1 h2:List Hld) (hh:w.holds=[h0,h1,h2]) (hf:w.floors.length=3) (hl:∀ l∈w.holds,l.length≤1048575) (hu:∀ l∈w.holds,l.Pairwise fun a b=>a.path≠b.path) :
   ∃ g0 g1 g2,(gx w who g).holds=[g0,g1,g2]∧Con (E m) 215 5 [.bp 0 0,.k .i64 who,.agg g.c] (bxT w 1 2 3 4 [anH h0,anH h1,anH h2]) (.tup []) (bxT (gx w who g) 5 6 7 8 [anH g0,anH g1,anH g2]):=by
 obtain ⟨f0,f1,f2,hf⟩:=Bl hf;rw [hh] at hl hu;unfold gx;obtain rfl|rfl|rfl:who=0∨who=1∨who=2:=by omega
 · have q1:bq w.floors 0=f0:=by rw [hf]; rfl
   have q2:aJ w.holds 0=h0:=by rw [hh]; rfl
   rw [q1,q2];by_cases hc:w.clock < g.til∧f0 < g.num
   · rw [if_pos hc];exact ⟨cC h0 g,h1,h2,by simp [hh],tx (m:=m) w g h0 h1 h2 f0 f1 f2 hf (hl h0 (by simp)) (hu h0 (by simp)) hc.1 hc.2⟩
   · rw [if_neg hc];exact ⟨h0,h1,h2,hh,o8 (m:=m) w g h0 h1 h2 f0 f1 f2 hf hc⟩
 · have q1:bq w.floors 1=f1:=by rw [hf]; rfl
   have q2:aJ w.holds 1=h1:=by rw [hh]; rfl
   rw [q1,q2];by_cases hc:w.clock < g.til∧f1 < g.num
   · rw [if_pos hc];exact ⟨h0,cC h1 g,h2,by simp [hh],tz (m:=m) w g h0 h1 h2 f0 f1 f2 hf (hl h1 (by simp)) (hu h1 (by simp)) hc.1 hc.2⟩
   · rw [if_neg hc];exact ⟨h0,h1,h2,hh,o9 (m:=m) w g h0 h1 h2 f0 f1 f2 hf hc⟩
 · have q1:bq w.floors 2=f2:=by rw [hf]; rfl
   have q2:aJ w.holds 2=h2:=by rw [hh]; rfl
   rw [q1,q2];by_cases hc:w.clock < g.til∧f2 < g.num
   · rw [if_pos hc];exact ⟨h0,h1,cC h2 g,by simp [hh],tA (m:=m) w g h0 h1 h2 f0 f1 f2 hf (hl h2 (by simp)) (hu h2 (by simp)) hc.1 hc.2⟩
   · rw [if_neg hc];exact ⟨h0,h1,h2,hh,pb (m:=m) w g h0 h1 h2 f0 f1 f2 hf hc⟩
theorem zg (w:Wld) (who:Int) (p:Bs) (n:Int) (hw3:0≤who∧who≤2) (hnl:w.net.length≤1048576) (h0 h1 h2:List Hld) (hh:w.holds=[h0,h1,h2]) (hf:w.floors.length=3) (hl:∀ l∈w.holds,l.length≤1048575) (hu:∀ l∈w.holds,l.Pairwise fun a b=>a.path≠b.path) :
   ∃ g0 g1 g2,(fd w who p n).holds=[g0,g1,g2]∧Con (E m) 216 5 [.bp 0 0,.k .i64 who,.s p,.k .i64 n] (bxT w 1 2 3 4 [anH h0,anH h1,anH h2]) (.tup []) (bxT (fd w who p n) 5 6 7 8 [anH g0,anH g1,anH g2]):=by
 obtain ⟨f0,f1,f2,hf⟩:=Bl hf;rw [hh] at hl hu;unfold fd;obtain rfl|rfl|rfl:who=0∨who=1∨who=2:=by omega
 · have q1:bq w.floors 0=f0:=by rw [hf]; rfl
   have q2:aJ w.holds 0=h0:=by rw [hh]; rfl
   rw [q1,q2];refine ⟨bW h0 p n,h1,h2,by simp [hh],?_⟩
   have:=rg (m:=m) w p n hnl h0 h1 h2 f0 f1 f2 hf (hl h0 (by simp)) (hu h0 (by simp))
   rw [hf];exact this
 · have q1:bq w.floors 1=f1:=by rw [hf]; rfl
   have q2:aJ w.holds 1=h1:=by rw [hh]; rfl
   rw [q1,q2];refine ⟨h0,bW h1 p n,h2,by simp [hh],?_⟩
   have:=rh (m:=m) w p n hnl h0 h1 h2 f0 f1 f2 hf (hl h1 (by simp)) (hu h1 (by simp))
   rw [hf];exact this
 · have q1:bq w.floors 2=f2:=by rw [hf]; rfl
   have q2:aJ w.holds 2=h2:=by rw [hh]; rfl
   rw [q1,q2];refine ⟨h0,h1,bW h2 p n,by simp [hh],?_⟩
   have:=ri (m:=m) w p n hnl h0 h1 h2 f0 f1 f2 hf (hl h2 (by simp)) (hu h2 (by simp))
   rw [hf];exact this
theorem zh (w:Wld) (k pos:Int) (hb:du w) (hok:aL w=true) (hk:k=5∨k=6∨k=7) (hl:∀ l∈w.holds,l.length≤1048575) (h0 h1 h2:List Hld) (hh:w.holds=[h0,h1,h2]) :
   ∃ g0 g1 g2,(ki w k pos).1.holds=[g0,g1,g2]∧Con (E m) 149 5 [.bp 0 0,.k .i64 k,.k .i64 pos] (bxT w 1 2 3 4 [anH h0,anH h1,anH h2]) (.k .i64 (ki w k pos).2) (bxT (ki w k pos).1 5 6 7 8 [anH g0,anH g1,anH g2]):=by
 obtain ⟨t,v,ho,hw,hs⟩:=bi hok;have hnl:=hb.nl;have e1:(w.net.map Mes.c).length=w.net.length:=zAA ..;unfold ki;by_cases hp:pos < 0
 · rw [if_pos hp];refine ⟨h0,h1,h2,hh,?_⟩;refine G0 Tryz.func149 ?_;repeat' first|refine Rx ⟨?_⟩|refine Rd (fun h=>⟨?_⟩) fun h=>⟨?_⟩|fail
   refine ai.here (fw [.anew 1,.close 2,.anew 3,.anew 4] ?_)
   conv=>whnf
   exact ⟨rfl,rfl,rfl,rfl⟩
 · rw [if_neg hp];obtain ⟨i,rfl⟩:∃ i:Nat,pos=(i:Int):=⟨pos.toNat,by omega⟩;simp only [zBX];cases hx:w.net[i]? with
   | none=>
     have hi:=List.getElem?_eq_none_iff.1 hx;refine ⟨h0,h1,h2,hh,?_⟩;refine G0 Tryz.func149 ?_;repeat' first|refine Rx ⟨?_⟩|refine Rd (fun h=>⟨?_⟩) fun h=>⟨?_⟩|fail
     refine ai.here (fw [.anew 1,.close 2,.anew 3,.anew 4] ?_)
     conv=>whnf
     exact ⟨rfl,rfl,rfl,rfl⟩
   | some x=>
     have hi:=(List.getElem?_eq_some_iff.1 hx).1;have g5:(w.net.map Mes.c)[i]?=some x.c:=mg hx;have hxm:=zAD hx;have hnt:=hw.nt x hxm;have c2:=A5 (m:=m) w.net i hi hnl;have hlen:(w.net.eraseIdx i).length≤1048576:=by rw [zAu]; split <;> omega
     have hb1:du { w with net:=w.net.eraseIdx i }:=⟨hb.over,hb.ls,hb.ll,hb.hs,hb.hl,hb.fl,fun y hy=>hb.nt y ((zBc _ _).subset hy),hlen,hb.op⟩
     by_cases h7:k=7
     · subst h7;simp only [if_pos];refine ⟨h0,h1,h2,hh,?_⟩;have c1:=dW (m:=m) w [anH h0,anH h1,anH h2] x hnl h0 h1 h2 rfl;refine G0 Tryz.func149 ?_;repeat' first|refine Ra ⟨?_⟩|refine Rk [0,1,2,3,4] 4 c1 ⟨?_⟩|((refine ⟨i,rfl,by omega,?_⟩) <;> conv=>whnf)|((refine ⟨_,g5,?_⟩) <;> conv=>whnf)|refine Rd (fun h=>⟨?_⟩) fun h=>⟨?_⟩|refine Rb ⟨?_⟩|fail
       exact Rf
     · simp only [if_neg h7];by_cases h6:k=6
       · subst h6;simp only [if_neg (by decide:¬ (6:Int)=5)];refine ⟨h0,h1,h2,hh,?_⟩;refine G0 Tryz.func149 ?_;repeat' first|refine Ra ⟨?_⟩|refine Rk [4] 1 c2 ⟨?_⟩|((refine ⟨i,rfl,by omega,?_⟩) <;> conv=>whnf)|((refine ⟨_,g5,?_⟩) <;> conv=>whnf)|refine Rd (fun h=>⟨?_⟩) fun h=>⟨?_⟩|refine Rb ⟨?_⟩|fail
         refine ai.here (fw [.anew 1,.close 2,.anew 3] ?_)
         conv=>whnf
         exact ⟨rfl,rfl,rfl,rfl⟩
       · have h5:k=5:=by omega
         subst h5;simp only [if_true];obtain ⟨kind,who,h⟩:=x;simp only at hnt;obtain ⟨⟨k1,k2⟩,hwho,hrest⟩:=hnt;obtain rfl|rfl|rfl|rfl:kind=1∨kind=2∨kind=3∨kind=4:=by omega
         · have hq:dU { w with net:=w.net.eraseIdx i } ⟨1,who,h⟩=jI { w with net:=w.net.eraseIdx i } who h.path:=by simp [dU]
           rw [hq];have c3:=ze (m:=m) { w with net:=w.net.eraseIdx i } [anH h0,anH h1,anH h2] who h.path hb1 ho hw.clk hw.cnt hw.lu (fun l hl=>(hw.ls l hl).2.2.2.1) h0 h1 h2 hh rfl
           refine ⟨h0,h1,h2,by unfold jI; split <;> exact hh,?_⟩;generalize jI { w with net:=w.net.eraseIdx i } who h.path=W at c3
           refine G0 Tryz.func149 ?_;repeat' first|refine Ra ⟨?_⟩|refine Rk [4] 1 c2 ⟨?_⟩|refine Rk [0,1,2,3,6] 4 c3 ⟨?_⟩|((refine ⟨i,rfl,by omega,?_⟩) <;> conv=>whnf)|((refine ⟨_,g5,?_⟩) <;> conv=>whnf)|refine Rd (fun h=>⟨?_⟩) fun h=>⟨?_⟩|refine Rb ⟨?_⟩|fail
           exact Rf
         · have hq:dU { w with net:=w.net.eraseIdx i } ⟨2,who,h⟩=gx { w with net:=w.net.eraseIdx i } who h:=by simp [dU]
           rw [hq];obtain ⟨g0,g1,g2,hg,c3⟩:=Du (m:=m) { w with net:=w.net.eraseIdx i } who h hwho h0 h1 h2 hh hw.fl hl hw.hu
           refine ⟨g0,g1,g2,hg,?_⟩;generalize gx { w with net:=w.net.eraseIdx i } who h=W at c3
           refine G0 Tryz.func149 ?_;repeat' first|refine Ra ⟨?_⟩|refine Rk [4] 1 c2 ⟨?_⟩|refine Rk [0,1,2,3,6] 4 c3 ⟨?_⟩|((refine ⟨i,rfl,by omega,?_⟩) <;> conv=>whnf)|((refine ⟨_,g5,?_⟩) <;> conv=>whnf)|refine Rd (fun h=>⟨?_⟩) fun h=>⟨?_⟩|refine Rb ⟨?_⟩|fail
           exact Rf
         · have hq:dU { w with net:=w.net.eraseIdx i } ⟨3,who,h⟩=fd { w with net:=w.net.eraseIdx i } who h.path h.num:=by simp [dU]
           rw [hq];obtain ⟨g0,g1,g2,hg,c3⟩:=zg (m:=m) { w with net:=w.net.eraseIdx i } who h.path h.num hwho hlen h0 h1 h2 hh hw.fl hl hw.hu
           refine ⟨g0,g1,g2,hg,?_⟩;generalize fd { w with net:=w.net.eraseIdx i } who h.path h.num=W at c3
           refine G0 Tryz.func149 ?_;repeat' first|refine Ra ⟨?_⟩|refine Rk [4] 1 c2 ⟨?_⟩|refine Rk [0,1,2,3,6] 4 c3 ⟨?_⟩|((refine ⟨i,rfl,by omega,?_⟩) <;> conv=>whnf)|((refine ⟨_,g5,?_⟩) <;> conv=>whnf)|refine Rd (fun h=>⟨?_⟩) fun h=>⟨?_⟩|refine Rb ⟨?_⟩|fail
           exact Rf
         · have hq:dU { w with net:=w.net.eraseIdx i } ⟨4,who,h⟩=lx { w with net:=w.net.eraseIdx i } who h.path h.num:=by simp [dU]
           rw [hq];have c3:=xx (m:=m) { w with net:=w.net.eraseIdx i } [anH h0,anH h1,anH h2] who h.path h.num hb.ll hw.lu h0 h1 h2 rfl
           refine ⟨h0,h1,h2,hh,?_⟩;generalize lx { w with net:=w.net.eraseIdx i } who h.path h.num=W at c3
           refine G0 Tryz.func149 ?_;repeat' first|refine Ra ⟨?_⟩|refine Rk [4] 1 c2 ⟨?_⟩|refine Rk [0,1,2,3,6] 4 c3 ⟨?_⟩|((refine ⟨i,rfl,by omega,?_⟩) <;> conv=>whnf)|((refine ⟨_,g5,?_⟩) <;> conv=>whnf)|refine Rd (fun h=>⟨?_⟩) fun h=>⟨?_⟩|refine Rb ⟨?_⟩|fail
           exact Rf
variable {m:Int}
theorem cdI {E:Env} {k0:Nat} {c:Code} {tm:Tm} {S:ab} {nx:Nat} {Q:Ex→Tm→ab→Nat→Prop} (h:Cd E k0 c tm S nx Q):Cd E k0 c tm S nx Q:=h
theorem pc (a b:Int):Con (E m) 35 0 [.k .i64 a,.k .i64 b] [] (.k .i64 (max a b)) []:=by
 by_cases h:a < b
 · rw [Int.max_eq_right (by omega)];refine G0 Tryz.func35 ?_;repeat' first|refine Rx ⟨?_⟩|refine Rd (fun h=>⟨?_⟩) fun h=>⟨?_⟩|fail
   all_goals first|exact Rf|(exfalso; omega)
 · rw [Int.max_eq_left (by omega)];refine G0 Tryz.func35 ?_;repeat' first|refine Rx ⟨?_⟩|refine Rd (fun h=>⟨?_⟩) fun h=>⟨?_⟩|fail
   all_goals first | exact Rf | (have:a=b:=by omega
                                 subst this;exact Rf)|(exfalso; omega)
theorem xA (w:Wld) (h:Hld) (who:Int) (hb:du w) {t v:List Ent} (ho:aQ w.over=some (t,v)) (hcl:0≤w.clock∧w.clock≤10000) (hct:0≤w.count∧w.count≤10000) (h0 h1 h2:List Hld) (hh:w.holds=[h0,h1,h2]) :
   Con (E m) 251 4 [.agg (wcO w 0 1 2 3),.agg (Mes.c ⟨1,who,h⟩)] (wlT w 0 1 2 3 [anH h0,anH h1,anH h2]) (.agg (wcO (jI w who h.path) 4 5 6 7)) (wlT (jI w who h.path) 4 5 6 7 [anH h0,anH h1,anH h2]):=by
 have c1:=Bo (m:=m) w [anH h0,anH h1,anH h2] who h.path hb ho hcl hct h0 h1 h2 hh rfl;generalize jI w who h.path=W at c1;refine G0 Tryz.func251 ?_;repeat' first|refine Ra ⟨?_⟩|refine Rk [0,1,2,3] 4 c1 ⟨?_⟩|refine Rd (fun h=>⟨?_⟩) fun h=>⟨?_⟩|refine Rb ⟨?_⟩|fail
 exact Rf
theorem uz (w:Wld) (h:Hld) (who:Int) (hll:w.leases.length≤1048576) (h0 h1 h2:List Hld) :
   Con (E m) 251 4 [.agg (wcO w 0 1 2 3),.agg (Mes.c ⟨4,who,h⟩)] (wlT w 0 1 2 3 [anH h0,anH h1,anH h2]) (.agg (wcO (lx w who h.path h.num) 4 5 6 7)) (wlT (lx w who h.path h.num) 4 5 6 7 [anH h0,anH h1,anH h2]):=by
 have c1:=vW (m:=m) w.leases who h.path h.num hll;unfold lx;refine G0 Tryz.func251 ?_;repeat' first|refine Ra ⟨?_⟩|(refine ⟨[],_,_,_,_,1,⟨rfl,rfl,rfl,c1,rfl,rfl⟩,.inl ⟨[],trivial,rfl,.inl ⟨by simp [bb,ba,aj],by simp [bg,bc,aj,Ent.c,Mrk.c,Opn.c,Lse.c,Hld.c,Mes.c,aX,anH]⟩,?_⟩⟩ <;> conv=>whnf)|refine Rd (fun h=>⟨?_⟩) fun h=>⟨?_⟩|refine Rb ⟨?_⟩|fail
 refine ai.here (fw [.ice 0,.close 1,.anew 2,.anew 3] ?_)
 conv=>whnf
 exact ⟨rfl,rfl,rfl,rfl⟩
theorem rj (w:Wld) (g:Hld) (h0 h1 h2:List Hld) (f0 f1 f2:Int) (hf:w.floors=[f0,f1,f2]) (hln:h0.length≤1048575) (hc:w.clock < g.til) (hn:f0 < g.num):Con (E m) 251 4 [.agg (wcO w 0 1 2 3),.agg (Mes.c ⟨2,0,g⟩)] (wlT w 0 1 2 3 [anH h0,anH h1,anH h2]) (.agg (wcO w 4 5 6 7)) (wlT w 4 5 6 7 [anH (cC h0 g),anH h1,anH h2]):=by
 obtain ⟨o,clk,cnt,ls,hs,fl,nt,wt,op⟩:=w;simp only at hf hc;subst hf;by_cases ha:(h0.any fun x=>decide (x.path=g.path) && decide (g.num≤x.num))=true
 · have c1:=kY (m:=m) h0 g (by omega) ha;have ht:cC h0 g=h0:=by rw [cC,if_pos ha]
   rw [ht];refine G0 Tryz.func251 ?_;refine mw [.openA 1 0] ?_
   conv=>whnf
   repeat' first|refine Ra ⟨?_⟩|refine Rk [4] 0 c1 ⟨?_⟩|((refine ⟨0,rfl,by simp,?_⟩) <;> conv=>whnf)|((refine ⟨br.nm 4,rfl,?_⟩) <;> conv=>whnf)|refine Rd (fun h=>⟨?_⟩) fun h=>⟨?_⟩|refine Rb ⟨?_⟩|fail
   refine ai.here (fw [.anew 0,.close 1,.anew 2,.anew 3] ?_)
   conv=>whnf
   exact ⟨rfl,rfl,rfl,rfl⟩
 · have c1:=kZ (m:=m) h0 g (by omega) (by simpa using ha);refine G0 Tryz.func251 ?_;refine mw [.openA 1 0] ?_
   conv=>whnf
   repeat' first|refine Ra ⟨?_⟩|refine Rk [4] 1 c1 ⟨?_⟩|((refine ⟨0,rfl,by simp,?_⟩) <;> conv=>whnf)|((refine ⟨br.nm 4,rfl,?_⟩) <;> conv=>whnf)|refine Rd (fun h=>⟨?_⟩) fun h=>⟨?_⟩|refine Rb ⟨?_⟩|fail
   refine ai.here (fw [.anew 0,.close 1,.anew 2,.anew 3] ?_)
   conv=>whnf
   exact ⟨rfl,rfl,rfl,rfl⟩
theorem nK (w:Wld) (g:Hld) (h0 h1 h2:List Hld) (f0 f1 f2:Int) (hf:w.floors=[f0,f1,f2]) (hc:¬ (w.clock < g.til∧f0 < g.num)):Con (E m) 251 4 [.agg (wcO w 0 1 2 3),.agg (Mes.c ⟨2,0,g⟩)] (wlT w 0 1 2 3 [anH h0,anH h1,anH h2]) (.agg (wcO w 4 5 6 7)) (wlT w 4 5 6 7 [anH h0,anH h1,anH h2]):=by
 obtain ⟨o,clk,cnt,ls,hs,fl,nt,wt,op⟩:=w;simp only at hf hc;subst hf;by_cases hc1:clk < g.til
 · have hc2:¬ f0 < g.num:=fun h=>hc ⟨hc1,h⟩;refine G0 Tryz.func251 ?_;repeat' first|refine Ra ⟨?_⟩|((refine ⟨0,rfl,by simp,?_⟩) <;> conv=>whnf)|refine Rd (fun h=>⟨?_⟩) fun h=>⟨?_⟩|refine Rb ⟨?_⟩|fail
   refine ai.here (fw [.anew 0,.close 1,.anew 2,.anew 3] ?_)
   conv=>whnf
   exact ⟨rfl,rfl,rfl,rfl⟩
 · refine G0 Tryz.func251 ?_;repeat' first|refine Ra ⟨?_⟩|((refine ⟨0,rfl,by simp,?_⟩) <;> conv=>whnf)|refine Rd (fun h=>⟨?_⟩) fun h=>⟨?_⟩|refine Rb ⟨?_⟩|fail
   refine ai.here (fw [.anew 0,.close 1,.anew 2,.anew 3] ?_)
   conv=>whnf
   exact ⟨rfl,rfl,rfl,rfl⟩
theorem rk (w:Wld) (g:Hld) (h0 h1 h2:List Hld) (f0 f1 f2:Int) (hf:w.floors=[f0,f1,f2]) (hln:h1.length≤1048575) (hc:w.clock < g.til) (hn:f1 < g.num):Con (E m) 251 4 [.agg (wcO w 0 1 2 3),.agg (Mes.c ⟨2,1,g⟩)] (wlT w 0 1 2 3 [anH h0,anH h1,anH h2]) (.agg (wcO w 4 5 6 7)) (wlT w 4 5 6 7 [anH h0,anH (cC h1 g),anH h2]):=by
 obtain ⟨o,clk,cnt,ls,hs,fl,nt,wt,op⟩:=w;simp only at hf hc;subst hf;by_cases ha:(h1.any fun x=>decide (x.path=g.path) && decide (g.num≤x.num))=true
 · have c1:=kY (m:=m) h1 g (by omega) ha;have ht:cC h1 g=h1:=by rw [cC,if_pos ha]
   rw [ht];refine G0 Tryz.func251 ?_;refine mw [.openA 1 1] ?_
   conv=>whnf
   repeat' first|refine Ra ⟨?_⟩|refine Rk [4] 0 c1 ⟨?_⟩|((refine ⟨1,rfl,by simp,?_⟩) <;> conv=>whnf)|((refine ⟨br.nm 4,rfl,?_⟩) <;> conv=>whnf)|refine Rd (fun h=>⟨?_⟩) fun h=>⟨?_⟩|refine Rb ⟨?_⟩|fail
   refine ai.here (fw [.anew 0,.close 1,.anew 2,.anew 3] ?_)
   conv=>whnf
   exact ⟨rfl,rfl,rfl,rfl⟩
 · have c1:=kZ (m:=m) h1 g (by omega) (by simpa using ha);refine G0 Tryz.func251 ?_;refine mw [.openA 1 1] ?_
   conv=>whnf
   repeat' first|refine Ra ⟨?_⟩|refine Rk [4] 1 c1 ⟨?_⟩|((refine ⟨1,rfl,by simp,?_⟩) <;> conv=>whnf)|((refine ⟨br.nm 4,rfl,?_⟩) <;> conv=>whnf)|refine Rd (fun h=>⟨?_⟩) fun h=>⟨?_⟩|refine Rb ⟨?_⟩|fail
   refine ai.here (fw [.anew 0,.close 1,.anew 2,.anew 3] ?_)
   conv=>whnf
   exact ⟨rfl,rfl,rfl,rfl⟩
theorem nL (w:Wld) (g:Hld) (h0 h1 h2:List Hld) (f0 f1 f2:Int) (hf:w.floors=[f0,f1,f2]) (hc:¬ (w.clock < g.til∧f1 < g.num)):Con (E m) 251 4 [.agg (wcO w 0 1 2 3),.agg (Mes.c ⟨2,1,g⟩)] (wlT w 0 1 2 3 [anH h0,anH h1,anH h2]) (.agg (wcO w 4 5 6 7)) (wlT w 4 5 6 7 [anH h0,anH h1,anH h2]):=by
 obtain ⟨o,clk,cnt,ls,hs,fl,nt,wt,op⟩:=w;simp only at hf hc;subst hf;by_cases hc1:clk < g.til
 · have hc2:¬ f1 < g.num:=fun h=>hc ⟨hc1,h⟩;refine G0 Tryz.func251 ?_;repeat' first|refine Ra ⟨?_⟩|((refine ⟨1,rfl,by simp,?_⟩) <;> conv=>whnf)|refine Rd (fun h=>⟨?_⟩) fun h=>⟨?_⟩|refine Rb ⟨?_⟩|fail
   refine ai.here (fw [.anew 0,.close 1,.anew 2,.anew 3] ?_)
   conv=>whnf
   exact ⟨rfl,rfl,rfl,rfl⟩
 · refine G0 Tryz.func251 ?_;repeat' first|refine Ra ⟨?_⟩|((refine ⟨1,rfl,by simp,?_⟩) <;> conv=>whnf)|refine Rd (fun h=>⟨?_⟩) fun h=>⟨?_⟩|refine Rb ⟨?_⟩|fail
   refine ai.here (fw [.anew 0,.close 1,.anew 2,.anew 3] ?_)
   conv=>whnf
   exact ⟨rfl,rfl,rfl,rfl⟩
theorem rl (w:Wld) (g:Hld) (h0 h1 h2:List Hld) (f0 f1 f2:Int) (hf:w.floors=[f0,f1,f2]) (hln:h2.length≤1048575) (hc:w.clock < g.til) (hn:f2 < g.num):Con (E m) 251 4 [.agg (wcO w 0 1 2 3),.agg (Mes.c ⟨2,2,g⟩)] (wlT w 0 1 2 3 [anH h0,anH h1,anH h2]) (.agg (wcO w 4 5 6 7)) (wlT w 4 5 6 7 [anH h0,anH h1,anH (cC h2 g)]):=by
 obtain ⟨o,clk,cnt,ls,hs,fl,nt,wt,op⟩:=w;simp only at hf hc;subst hf;by_cases ha:(h2.any fun x=>decide (x.path=g.path) && decide (g.num≤x.num))=true
 · have c1:=kY (m:=m) h2 g (by omega) ha;have ht:cC h2 g=h2:=by rw [cC,if_pos ha]
   rw [ht];refine G0 Tryz.func251 ?_;refine mw [.openA 1 2] ?_
   conv=>whnf
   repeat' first|refine Ra ⟨?_⟩|refine Rk [4] 0 c1 ⟨?_⟩|((refine ⟨2,rfl,by simp,?_⟩) <;> conv=>whnf)|((refine ⟨br.nm 4,rfl,?_⟩) <;> conv=>whnf)|refine Rd (fun h=>⟨?_⟩) fun h=>⟨?_⟩|refine Rb ⟨?_⟩|fail
   refine ai.here (fw [.anew 0,.close 1,.anew 2,.anew 3] ?_)
   conv=>whnf
   exact ⟨rfl,rfl,rfl,rfl⟩
 · have c1:=kZ (m:=m) h2 g (by omega) (by simpa using ha);refine G0 Tryz.func251 ?_;refine mw [.openA 1 2] ?_
   conv=>whnf
   repeat' first|refine Ra ⟨?_⟩|refine Rk [4] 1 c1 ⟨?_⟩|((refine ⟨2,rfl,by simp,?_⟩) <;> conv=>whnf)|((refine ⟨br.nm 4,rfl,?_⟩) <;> conv=>whnf)|refine Rd (fun h=>⟨?_⟩) fun h=>⟨?_⟩|refine Rb ⟨?_⟩|fail
   refine ai.here (fw [.anew 0,.close 1,.anew 2,.anew 3] ?_)
   conv=>whnf
   exact ⟨rfl,rfl,rfl,rfl⟩
theorem nM (w:Wld) (g:Hld) (h0 h1 h2:List Hld) (f0 f1 f2:Int) (hf:w.floors=[f0,f1,f2]) (hc:¬ (w.clock < g.til∧f2 < g.num)):Con (E m) 251 4 [.agg (wcO w 0 1 2 3),.agg (Mes.c ⟨2,2,g⟩)] (wlT w 0 1 2 3 [anH h0,anH h1,anH h2]) (.agg (wcO w 4 5 6 7)) (wlT w 4 5 6 7 [anH h0,anH h1,anH h2]):=by
 obtain ⟨o,clk,cnt,ls,hs,fl,nt,wt,op⟩:=w;simp only at hf hc;subst hf;by_cases hc1:clk < g.til
 · have hc2:¬ f2 < g.num:=fun h=>hc ⟨hc1,h⟩;refine G0 Tryz.func251 ?_;repeat' first|refine Ra ⟨?_⟩|((refine ⟨2,rfl,by simp,?_⟩) <;> conv=>whnf)|refine Rd (fun h=>⟨?_⟩) fun h=>⟨?_⟩|refine Rb ⟨?_⟩|fail
   refine ai.here (fw [.anew 0,.close 1,.anew 2,.anew 3] ?_)
   conv=>whnf
   exact ⟨rfl,rfl,rfl,rfl⟩
 · refine G0 Tryz.func251 ?_;repeat' first|refine Ra ⟨?_⟩|((refine ⟨2,rfl,by simp,?_⟩) <;> conv=>whnf)|refine Rd (fun h=>⟨?_⟩) fun h=>⟨?_⟩|refine Rb ⟨?_⟩|fail
   refine ai.here (fw [.anew 0,.close 1,.anew 2,.anew 3] ?_)
   conv=>whnf
   exact ⟨rfl,rfl,rfl,rfl⟩
theorem p0 (w:Wld) (p:Bs) (n:Int) (hnl:w.net.length≤1048576) (h0 h1 h2:List Hld) (f0 f1 f2:Int) (hf:w.floors=[f0,f1,f2]) (hln:h0.length≤1048575):Con (E m) 251 4 [.agg (wcO w 0 1 2 3),.agg (Mes.c ⟨3,0,bE p n⟩)] (wlT w 0 1 2 3 [anH h0,anH h1,anH h2]) (.agg (wcO { w with floors:=[max f0 n,f1,f2],net:=cq w.net ⟨4,0,bE p n⟩ } 4 5 6 7)) (wlT { w with floors:=[max f0 n,f1,f2],net:=cq w.net ⟨4,0,bE p n⟩ } 4 5 6 7 [anH (bW h0 p n),anH h1,anH h2]):=by
 obtain ⟨o,clk,cnt,ls,hs,fl,nt,wt,op⟩:=w;simp only at hf hnl ⊢;subst hf;have c1:=nH (m:=m) h0 p n (by omega);have c2:=pc (m:=m) f0 n;have c9:=gQ (m:=m) ⟨o,clk,cnt,ls,[bW h0 p n,h1,h2],[max f0 n,f1,f2],nt,wt,op⟩ [anH (bW h0 p n),anH h1,anH h2] ⟨4,0,bE p n⟩ hnl (bW h0 p n) (h1) (h2) rfl;refine G0 Tryz.func251 ?_;refine mw [.openA 1 0] ?_
 conv=>whnf
 repeat' first|(refine mw [.anew 4,.close 1] ?_; (conv=>whnf); refine cdI ?_)|((first|refine Ops.noneF rfl ?_|refine Cd.seq ?_|refine Ops.nil ?_|refine Cd.region ?_|refine Ops.guardF rfl rfl rfl ?_|refine Ops.off rfl rfl rfl ?_|refine Cd.cond rfl ?_|refine Cd.block ?_|refine Cd.exit ?_|refine Cd.ret ?_|refine Cd.skip ?_|refine Cd.drawn ?_|refine And.intro (a:=lB _ _=true) (by kernel_rfl) ?_|refine ai.out ?_|refine aB.tt ?_|refine aB.ff ?_|refine bn ?_|refine bt ‹_› ?_|refine bf ‹_› ?_|refine bt (by first|omega|(simp only [zAA,List.length_cons,List.length_nil]; first|done|omega)) ?_|refine bf (by first|omega|(simp only [zAA,List.length_cons,List.length_nil]; first|done|omega)) ?_|refine bT ‹_› ?_|refine bF ‹_› ?_) <;> conv=>whnf)|((first|refine ⟨[],_,_,_,_,1,⟨rfl,rfl,rfl,c1,rfl,rfl⟩,.inl ⟨[],trivial,rfl,.inl ⟨by simp [bb,ba,aj],by simp [bg,bc,aj,Hld.c]⟩,?_⟩⟩|refine Rc [] 0 rfl rfl (c2) ?_|refine Rc [0,9,2,3] 4 rfl rfl (c9) ?_|refine Rc [0,10,2,3] 4 rfl rfl (c9) ?_|refine Rc [0,11,2,3] 4 rfl rfl (c9) ?_|refine Rc [0,12,2,3] 4 rfl rfl (c9) ?_|refine Rc [0,13,2,3] 4 rfl rfl (c9) ?_|refine ⟨0,rfl,by simp,?_⟩|refine ⟨br.nm 4,rfl,?_⟩|refine ⟨zAF rfl,?_⟩) <;> conv=>whnf)|refine Rb ⟨?_⟩|fail
 exact Rf
theorem p7 (w:Wld) (p:Bs) (n:Int) (hnl:w.net.length≤1048576) (h0 h1 h2:List Hld) (f0 f1 f2:Int) (hf:w.floors=[f0,f1,f2]) (hln:h1.length≤1048575):Con (E m) 251 4 [.agg (wcO w 0 1 2 3),.agg (Mes.c ⟨3,1,bE p n⟩)] (wlT w 0 1 2 3 [anH h0,anH h1,anH h2]) (.agg (wcO { w with floors:=[f0,max f1 n,f2],net:=cq w.net ⟨4,1,bE p n⟩ } 4 5 6 7)) (wlT { w with floors:=[f0,max f1 n,f2],net:=cq w.net ⟨4,1,bE p n⟩ } 4 5 6 7 [anH h0,anH (bW h1 p n),anH h2]):=by
 obtain ⟨o,clk,cnt,ls,hs,fl,nt,wt,op⟩:=w;simp only at hf hnl ⊢;subst hf;have c1:=nH (m:=m) h1 p n (by omega);have c2:=pc (m:=m) f1 n;have c9:=gQ (m:=m) ⟨o,clk,cnt,ls,[h0,bW h1 p n,h2],[f0,max f1 n,f2],nt,wt,op⟩ [anH h0,anH (bW h1 p n),anH h2] ⟨4,1,bE p n⟩ hnl (h0) (bW h1 p n) (h2) rfl;refine G0 Tryz.func251 ?_;refine mw [.openA 1 1] ?_
 conv=>whnf
 repeat' first|(refine mw [.anew 4,.close 1] ?_; (conv=>whnf); refine cdI ?_)|((first|refine Ops.noneF rfl ?_|refine Cd.seq ?_|refine Ops.nil ?_|refine Cd.region ?_|refine Ops.guardF rfl rfl rfl ?_|refine Ops.off rfl rfl rfl ?_|refine Cd.cond rfl ?_|refine Cd.block ?_|refine Cd.exit ?_|refine Cd.ret ?_|refine Cd.skip ?_|refine Cd.drawn ?_|refine And.intro (a:=lB _ _=true) (by kernel_rfl) ?_|refine ai.out ?_|refine aB.tt ?_|refine aB.ff ?_|refine bn ?_|refine bt ‹_› ?_|refine bf ‹_› ?_|refine bt (by first|omega|(simp only [zAA,List.length_cons,List.length_nil]; first|done|omega)) ?_|refine bf (by first|omega|(simp only [zAA,List.length_cons,List.length_nil]; first|done|omega)) ?_|refine bT ‹_› ?_|refine bF ‹_› ?_) <;> conv=>whnf)|((first|refine ⟨[],_,_,_,_,1,⟨rfl,rfl,rfl,c1,rfl,rfl⟩,.inl ⟨[],trivial,rfl,.inl ⟨by simp [bb,ba,aj],by simp [bg,bc,aj,Hld.c]⟩,?_⟩⟩|refine Rc [] 0 rfl rfl (c2) ?_|refine Rc [0,9,2,3] 4 rfl rfl (c9) ?_|refine Rc [0,10,2,3] 4 rfl rfl (c9) ?_|refine Rc [0,11,2,3] 4 rfl rfl (c9) ?_|refine Rc [0,12,2,3] 4 rfl rfl (c9) ?_|refine Rc [0,13,2,3] 4 rfl rfl (c9) ?_|refine ⟨1,rfl,by simp,?_⟩|refine ⟨br.nm 4,rfl,?_⟩|refine ⟨zAF rfl,?_⟩) <;> conv=>whnf)|refine Rb ⟨?_⟩|fail
 exact Rf
theorem p8 (w:Wld) (p:Bs) (n:Int) (hnl:w.net.length≤1048576) (h0 h1 h2:List Hld) (f0 f1 f2:Int) (hf:w.floors=[f0,f1,f2]) (hln:h2.length≤1048575):Con (E m) 251 4 [.agg (wcO w 0 1 2 3),.agg (Mes.c ⟨3,2,bE p n⟩)] (wlT w 0 1 2 3 [anH h0,anH h1,anH h2]) (.agg (wcO { w with floors:=[f0,f1,max f2 n],net:=cq w.net ⟨4,2,bE p n⟩ } 4 5 6 7)) (wlT { w with floors:=[f0,f1,max f2 n],net:=cq w.net ⟨4,2,bE p n⟩ } 4 5 6 7 [anH h0,anH h1,anH (bW h2 p n)]):=by
 obtain ⟨o,clk,cnt,ls,hs,fl,nt,wt,op⟩:=w;simp only at hf hnl ⊢;subst hf;have c1:=nH (m:=m) h2 p n (by omega);have c2:=pc (m:=m) f2 n;have c9:=gQ (m:=m) ⟨o,clk,cnt,ls,[h0,h1,bW h2 p n],[f0,f1,max f2 n],nt,wt,op⟩ [anH h0,anH h1,anH (bW h2 p n)] ⟨4,2,bE p n⟩ hnl (h0) (h1) (bW h2 p n) rfl;refine G0 Tryz.func251 ?_;refine mw [.openA 1 2] ?_
 conv=>whnf
 repeat' first|(refine mw [.anew 4,.close 1] ?_; (conv=>whnf); refine cdI ?_)|((first|refine Ops.noneF rfl ?_|refine Cd.seq ?_|refine Ops.nil ?_|refine Cd.region ?_|refine Ops.guardF rfl rfl rfl ?_|refine Ops.off rfl rfl rfl ?_|refine Cd.cond rfl ?_|refine Cd.block ?_|refine Cd.exit ?_|refine Cd.ret ?_|refine Cd.skip ?_|refine Cd.drawn ?_|refine And.intro (a:=lB _ _=true) (by kernel_rfl) ?_|refine ai.out ?_|refine aB.tt ?_|refine aB.ff ?_|refine bn ?_|refine bt ‹_› ?_|refine bf ‹_› ?_|refine bt (by first|omega|(simp only [zAA,List.length_cons,List.length_nil]; first|done|omega)) ?_|refine bf (by first|omega|(simp only [zAA,List.length_cons,List.length_nil]; first|done|omega)) ?_|refine bT ‹_› ?_|refine bF ‹_› ?_) <;> conv=>whnf)|((first|refine ⟨[],_,_,_,_,1,⟨rfl,rfl,rfl,c1,rfl,rfl⟩,.inl ⟨[],trivial,rfl,.inl ⟨by simp [bb,ba,aj],by simp [bg,bc,aj,Hld.c]⟩,?_⟩⟩|refine Rc [] 0 rfl rfl (c2) ?_|refine Rc [0,9,2,3] 4 rfl rfl (c9) ?_|refine Rc [0,10,2,3] 4 rfl rfl (c9) ?_|refine Rc [0,11,2,3] 4 rfl rfl (c9) ?_|refine Rc [0,12,2,3] 4 rfl rfl (c9) ?_|refine Rc [0,13,2,3] 4 rfl rfl (c9) ?_|refine ⟨2,rfl,by simp,?_⟩|refine ⟨br.nm 4,rfl,?_⟩|refine ⟨zAF rfl,?_⟩) <;> conv=>whnf)|refine Rb ⟨?_⟩|fail
 exact Rf
variable {m:Int}
def wcH (w:Wld) (g0 g1 g2:List Hld):List D:=[.sl (w.over.base.map Ent.c),.sl (w.over.layers.map c8),.sl (w.over.upper.map Mrk.c),.k .i64 w.clock,.k .i64 w.count,.sl (w.leases.map Lse.c),.sl [gy g0,gy g1,gy g2],.sl (i7 w.floors),.sl (w.net.map Mes.c),.b w.waits,.k .i64 w.op.kind,.s w.op.path,.s w.op.tgt,.s w.op.data]
theorem pd {w:Wld} {g0 g1 g2:List Hld} (h:w.holds=[g0,g1,g2]):w.c=wcH w g0 g1 g2:=by rw [Wld.c,h]; rfl
theorem pe (w:Wld) (p:Opn):(cD w p).1.holds=w.holds:=by
 unfold cD;split
 · rfl
 · split
   · rfl
   · split <;> rfl
theorem tB (w:Wld):(gB w).1.holds=w.holds:=by
 unfold gB;split
 · rfl
 · split <;> rfl
structure vY (e:Evn):Prop where
 path:e.path.length≤1073741823
 op:nD 1073741823 e.op
theorem xB (w:Wld) (e:Evn) (hb:du w) (hl:∀ l∈w.holds,l.length≤1048575) (he:vY e):Con (E m) 74 0 [.agg w.c,.agg e.c] [] (.tup [.agg (jw w e).1.c,.k .i64 (jw w e).2]) []:=by
 have c1:=kT (m:=m) w hb;by_cases hok:aL w=true
 rotate_left
 · have hok:aL w=false:=by simpa using hok
   rw [hok] at c1;have hx:jw w e=(w0,1):=by rw [jw,hok]; rfl
   rw [hx];refine G0 Tryz.func74 ?_;repeat' first|refine Ra ⟨?_⟩|refine R0 c1 ⟨?_⟩|refine Rd (fun h=>⟨?_⟩) fun h=>⟨?_⟩|refine Rb ⟨?_⟩|fail
   exact Rz
 · rw [hok] at c1;have hx:jw w e=wDo w e:=by rw [jw,if_pos hok]
   rw [hx];obtain ⟨t,v,ho,hw,hs⟩:=bi hok;obtain ⟨h0,h1,h2,hh⟩:=GD hw.hl;have c2:=uy (m:=m) w hb h0 h1 h2 hh;have hep:=he.path;obtain ⟨kind,who,p,op,pos⟩:=e;simp only at hep;unfold wDo;by_cases k1:kind=1
   · simp only [if_pos k1];subst k1;have c4:=mG (m:=m) who;have c5:=bP (m:=m) p (by omega);by_cases hwp:dA who=true∧ac p=true
     · rw [hwp.1] at c4;rw [hwp.2] at c5;have q:(dA who && ac p)=true:=by rw [hwp.1,hwp.2]; rfl
       simp only [q,if_true];have c3:=dW (m:=m) w [anH h0,anH h1,anH h2] ⟨1,who,bE p 0⟩ hb.nl h0 h1 h2 rfl;rw [pd (w:={ w with net:=cq w.net ⟨1,who,bE p 0⟩ }) hh]
       refine G0 Tryz.func74 ?_;repeat' first|refine Ra ⟨?_⟩|refine R0 c1 ⟨?_⟩|refine Rk [] 4 c2 ⟨?_⟩|refine R0 c4 ⟨?_⟩|refine R0 c5 ⟨?_⟩|refine Rk [7,3,4,5,6] 4 c3 ⟨?_⟩|refine Rd (fun h=>⟨?_⟩) fun h=>⟨?_⟩|refine Rb ⟨?_⟩|fail
       exact Rz
     · have q:(dA who && ac p)=false:=by rw [← zAa]; simpa using hwp
       rw [q];simp only [zAE,if_false];rw [pd hh] at c1 c2 ⊢;by_cases hw1:dA who=true
       · have hp1:ac p=false:=by rw [← zAa]; exact fun h=>hwp ⟨hw1,h⟩
         rw [hw1] at c4;rw [hp1] at c5;refine G0 Tryz.func74 ?_;repeat' first|refine Ra ⟨?_⟩|refine R0 c1 ⟨?_⟩|refine Rk [] 4 c2 ⟨?_⟩|refine R0 c4 ⟨?_⟩|refine R0 c5 ⟨?_⟩|refine Rd (fun h=>⟨?_⟩) fun h=>⟨?_⟩|refine Rb ⟨?_⟩|fail
         exact Rz
       · have hw1:dA who=false:=by simpa using hw1
         rw [hw1] at c4;refine G0 Tryz.func74 ?_;repeat' first|refine Ra ⟨?_⟩|refine R0 c1 ⟨?_⟩|refine Rk [] 4 c2 ⟨?_⟩|refine R0 c4 ⟨?_⟩|refine Rd (fun h=>⟨?_⟩) fun h=>⟨?_⟩|refine Rb ⟨?_⟩|fail
         exact Rz
   · rw [if_neg k1];by_cases k2:kind=2
     · simp only [if_pos k2];subst k2;have c3:=Ds (m:=m) w [anH h0,anH h1,anH h2] op hb he.op hok h0 h1 h2 hh rfl;have hW:(cD w op).1.holds=[h0,h1,h2]:=(pe w op).trans hh;rw [pd hW];generalize cD w op=W at c3;refine G0 Tryz.func74 ?_;repeat' first|refine Ra ⟨?_⟩|refine R0 c1 ⟨?_⟩|refine Rk [] 4 c2 ⟨?_⟩|refine Rk [7,3,4,5,6] 4 c3 ⟨?_⟩|refine Rd (fun h=>⟨?_⟩) fun h=>⟨?_⟩|refine Rb ⟨?_⟩|fail
       exact Rz
     · rw [if_neg k2];by_cases k3:kind=3
       · simp only [if_pos k3];subst k3;have c3:=Cl (m:=m) w [anH h0,anH h1,anH h2] hb hok h0 h1 h2 hh rfl;have hW:(gB w).1.holds=[h0,h1,h2]:=(tB w).trans hh;rw [pd hW];generalize gB w=W at c3;refine G0 Tryz.func74 ?_;repeat' first|refine Ra ⟨?_⟩|refine R0 c1 ⟨?_⟩|refine Rk [] 4 c2 ⟨?_⟩|refine Rk [7,3,4,5,6] 4 c3 ⟨?_⟩|refine Rd (fun h=>⟨?_⟩) fun h=>⟨?_⟩|refine Rb ⟨?_⟩|fail
         exact Rz
       · rw [if_neg k3];by_cases k4:kind=4
         · simp only [if_pos k4];subst k4;have c3:=Fe (m:=m) w [anH h0,anH h1,anH h2] hw.clk hb.ll h0 h1 h2 rfl;have hW:(lr w).holds=[h0,h1,h2]:=hh;rw [pd hW];generalize lr w=W at c3;refine G0 Tryz.func74 ?_;repeat' first|refine Ra ⟨?_⟩|refine R0 c1 ⟨?_⟩|refine Rk [] 4 c2 ⟨?_⟩|refine Rk [7,3,4,5,6] 4 c3 ⟨?_⟩|refine Rd (fun h=>⟨?_⟩) fun h=>⟨?_⟩|refine Rb ⟨?_⟩|fail
           exact Rz
         · rw [if_neg k4];by_cases k5:kind=5∨kind=6∨kind=7
           · simp only [if_pos k5];obtain ⟨g0,g1,g2,hW,c3⟩:=zh (m:=m) w kind pos hb hok k5 hl h0 h1 h2 hh;rw [pd hW];generalize ki w kind pos=W at c3;obtain rfl|rfl|rfl:=k5
             · refine G0 Tryz.func74 ?_;repeat' first|refine Ra ⟨?_⟩|refine R0 c1 ⟨?_⟩|refine Rk [] 4 c2 ⟨?_⟩|refine Rk [7,3,4,5,6] 4 c3 ⟨?_⟩|refine Rd (fun h=>⟨?_⟩) fun h=>⟨?_⟩|refine Rb ⟨?_⟩|fail
               exact Rz
             · refine G0 Tryz.func74 ?_;repeat' first|refine Ra ⟨?_⟩|refine R0 c1 ⟨?_⟩|refine Rk [] 4 c2 ⟨?_⟩|refine Rk [7,3,4,5,6] 4 c3 ⟨?_⟩|refine Rd (fun h=>⟨?_⟩) fun h=>⟨?_⟩|refine Rb ⟨?_⟩|fail
               exact Rz
             · refine G0 Tryz.func74 ?_;repeat' first|refine Ra ⟨?_⟩|refine R0 c1 ⟨?_⟩|refine Rk [] 4 c2 ⟨?_⟩|refine Rk [7,3,4,5,6] 4 c3 ⟨?_⟩|refine Rd (fun h=>⟨?_⟩) fun h=>⟨?_⟩|refine Rb ⟨?_⟩|fail
               exact Rz
           · simp only [if_neg k5];have k6:¬ kind=5:=fun h=>k5 (.inl h);have k7:¬ kind=6:=fun h=>k5 (.inr (.inl h));have k8:¬ kind=7:=fun h=>k5 (.inr (.inr h));rw [pd hh] at c1 c2 ⊢;refine G0 Tryz.func74 ?_;repeat' first|refine Ra ⟨?_⟩|refine R0 c1 ⟨?_⟩|refine Rk [] 4 c2 ⟨?_⟩|refine Rd (fun h=>⟨?_⟩) fun h=>⟨?_⟩|refine Rb ⟨?_⟩|fail
             exact Rz
theorem uA (o:Ovr) (hb:gq o):Con (E m) 25 0 [.agg o.c] [] (.agg (av o).c) []:=by
 have c1:=cH (gu (m:=m) o hb);rw [pd (w:=av o) (g0:=[]) (g1:=[]) (g2:=[]) rfl];refine cE ?_;refine dO B0 FP Tryz.func25 rfl rfl rfl (zAF rfl) ?_;repeat' first|refine Ra ⟨?_⟩|refine R0 c1 ⟨?_⟩|((refine ⟨rfl,?_⟩) <;> conv=>whnf)|((refine ⟨3,rfl,zAF rfl,zAF rfl,?_⟩) <;> conv=>whnf)|((refine ⟨3,rfl,rfl,zAF rfl,zAF rfl,?_⟩) <;> conv=>whnf)|refine Rd (fun h=>⟨?_⟩) fun h=>⟨?_⟩|refine Rb ⟨?_⟩|fail
 exact Rz
variable {m:Int}
theorem Dv (w:Wld) (x:Mes) (hb:du w) {t v:List Ent} (ho:aQ w.over=some (t,v)) (hw:OkW v w) (hx:(1≤x.kind∧x.kind≤4)∧(0≤x.who∧x.who≤2)∧(x.kind=2∨x.hold=bE x.hold.path x.hold.num)) (hl:∀ l∈w.holds,l.length≤1048575) (h0 h1 h2:List Hld) (hh:w.holds=[h0,h1,h2]) :
   ∃ g0 g1 g2,(dU w x).holds=[g0,g1,g2]∧Con (E m) 251 4 [.agg (wcO w 0 1 2 3),.agg x.c] (wlT w 0 1 2 3 [anH h0,anH h1,anH h2]) (.agg (wcO (dU w x) 4 5 6 7)) (wlT (dU w x) 4 5 6 7 [anH g0,anH g1,anH g2]):=by
 obtain ⟨⟨k1,k2⟩,⟨w1,w2⟩,k3⟩:=hx;obtain ⟨kind,who,h⟩:=x;simp only at k1 k2 w1 w2 k3;obtain ⟨f0,f1,f2,hf⟩:=Bl hw.fl;have hl':=hl;rw [hh] at hl';obtain rfl|rfl|rfl|rfl:kind=1∨kind=2∨kind=3∨kind=4:=by omega
 · have hq:dU w ⟨1,who,h⟩=jI w who h.path:=by simp [dU]
   rw [hq];exact ⟨h0,h1,h2,by unfold jI; split <;> exact hh,xA (m:=m) w h who hb ho hw.clk hw.cnt h0 h1 h2 hh⟩
 · have hq:dU w ⟨2,who,h⟩=gx w who h:=by simp [dU]
   rw [hq];unfold gx;obtain rfl|rfl|rfl:who=0∨who=1∨who=2:=by omega
   · have q1:bq w.floors 0=f0:=by rw [hf]; rfl
     have q2:aJ w.holds 0=h0:=by rw [hh]; rfl
     rw [q1,q2];by_cases hc:w.clock < h.til∧f0 < h.num
     · rw [if_pos hc];exact ⟨cC h0 h,h1,h2,by simp [hh],rj (m:=m) w h h0 h1 h2 f0 f1 f2 hf (hl' h0 (by simp)) hc.1 hc.2⟩
     · rw [if_neg hc];exact ⟨h0,h1,h2,hh,nK (m:=m) w h h0 h1 h2 f0 f1 f2 hf hc⟩
   · have q1:bq w.floors 1=f1:=by rw [hf]; rfl
     have q2:aJ w.holds 1=h1:=by rw [hh]; rfl
     rw [q1,q2];by_cases hc:w.clock < h.til∧f1 < h.num
     · rw [if_pos hc];exact ⟨h0,cC h1 h,h2,by simp [hh],rk (m:=m) w h h0 h1 h2 f0 f1 f2 hf (hl' h1 (by simp)) hc.1 hc.2⟩
     · rw [if_neg hc];exact ⟨h0,h1,h2,hh,nL (m:=m) w h h0 h1 h2 f0 f1 f2 hf hc⟩
   · have q1:bq w.floors 2=f2:=by rw [hf]; rfl
     have q2:aJ w.holds 2=h2:=by rw [hh]; rfl
     rw [q1,q2];by_cases hc:w.clock < h.til∧f2 < h.num
     · rw [if_pos hc];exact ⟨h0,h1,cC h2 h,by simp [hh],rl (m:=m) w h h0 h1 h2 f0 f1 f2 hf (hl' h2 (by simp)) hc.1 hc.2⟩
     · rw [if_neg hc];exact ⟨h0,h1,h2,hh,nM (m:=m) w h h0 h1 h2 f0 f1 f2 hf hc⟩
 · have hq:dU w ⟨3,who,h⟩=fd w who h.path h.num:=by simp [dU]
   rw [hq];have hbare:h=bE h.path h.num:=by
    rcases k3 with k|k
    · omega
    · exact k
   have hnl:=hb.nl;unfold fd;obtain rfl|rfl|rfl:who=0∨who=1∨who=2:=by omega
   · have q1:bq w.floors 0=f0:=by rw [hf]; rfl
     have q2:aJ w.holds 0=h0:=by rw [hh]; rfl
     rw [q1,q2];refine ⟨bW h0 h.path h.num,h1,h2,by simp [hh],?_⟩
     have:=p0 (m:=m) w h.path h.num hnl h0 h1 h2 f0 f1 f2 hf (hl' h0 (by simp))
     rw [← hbare] at this;rw [hf,← hbare];exact this
   · have q1:bq w.floors 1=f1:=by rw [hf]; rfl
     have q2:aJ w.holds 1=h1:=by rw [hh]; rfl
     rw [q1,q2];refine ⟨h0,bW h1 h.path h.num,h2,by simp [hh],?_⟩
     have:=p7 (m:=m) w h.path h.num hnl h0 h1 h2 f0 f1 f2 hf (hl' h1 (by simp))
     rw [← hbare] at this;rw [hf,← hbare];exact this
   · have q1:bq w.floors 2=f2:=by rw [hf]; rfl
     have q2:aJ w.holds 2=h2:=by rw [hh]; rfl
     rw [q1,q2];refine ⟨h0,h1,bW h2 h.path h.num,by simp [hh],?_⟩
     have:=p8 (m:=m) w h.path h.num hnl h0 h1 h2 f0 f1 f2 hf (hl' h2 (by simp))
     rw [← hbare] at this;rw [hf,← hbare];exact this
 · have hq:dU w ⟨4,who,h⟩=lx w who h.path h.num:=by simp [dU]
   rw [hq];exact ⟨h0,h1,h2,hh,uz (m:=m) w h who hb.ll h0 h1 h2⟩
theorem Dw (l:List Mes) (i:Nat) (hi:i < l.length):(([]:List (List D))++((l.map Mes.c).take i).drop 0)++((l.map Mes.c).take (l.map Mes.c).length).drop (i+1)=(l.eraseIdx i).map Mes.c:=by
 rw [zAN,List.eraseIdx_eq_take_drop_succ,zAK,zBU,zBf]
 simp
theorem Fg (w:Wld) (e:Evn) (hb:du w) {t v:List Ent} (ho:aQ w.over=some (t,v)) (hw:OkW v w) (hk:e.kind=5∨e.kind=6∨e.kind=7) (hl:∀ l∈w.holds,l.length≤1048575) (h0 h1 h2:List Hld) (hh:w.holds=[h0,h1,h2]) :
   ∃ g0 g1 g2,(ki w e.kind e.pos).1.holds=[g0,g1,g2]∧Con (E m) 191 4 [.agg (wcO w 0 1 2 3),.agg e.c] (wlT w 0 1 2 3 [anH h0,anH h1,anH h2]) (.tup [.agg (wcO (ki w e.kind e.pos).1 4 5 6 7),.k .i64 (ki w e.kind e.pos).2]) (wlT (ki w e.kind e.pos).1 4 5 6 7 [anH g0,anH g1,anH g2]):=by
 obtain ⟨k,who,p,op,pos⟩:=e;simp only at hk ⊢;have hnl:=hb.nl;have e1:(w.net.map Mes.c).length=w.net.length:=zAA ..;unfold ki;by_cases hp:pos < 0
 · rw [if_pos hp];refine ⟨h0,h1,h2,hh,?_⟩;refine G0 Tryz.func191 ?_;repeat' first|refine Rx ⟨?_⟩|refine Rd (fun h=>⟨?_⟩) fun h=>⟨?_⟩|fail
   refine ai.here (fw [.anew 0,.close 1,.anew 2,.anew 3] ?_)
   conv=>whnf
   exact ⟨rfl,rfl,rfl,rfl⟩
 · rw [if_neg hp];obtain ⟨i,rfl⟩:∃ i:Nat,pos=(i:Int):=⟨pos.toNat,by omega⟩;simp only [zBX];cases hx:w.net[i]? with
   | none=>
     have hi:=List.getElem?_eq_none_iff.1 hx;refine ⟨h0,h1,h2,hh,?_⟩;refine G0 Tryz.func191 ?_;repeat' first|refine Rx ⟨?_⟩|refine Rd (fun h=>⟨?_⟩) fun h=>⟨?_⟩|fail
     refine ai.here (fw [.anew 0,.close 1,.anew 2,.anew 3] ?_)
     conv=>whnf
     exact ⟨rfl,rfl,rfl,rfl⟩
   | some x=>
     have hi:=(List.getElem?_eq_some_iff.1 hx).1;have g5:(w.net.map Mes.c)[i]?=some x.c:=mg hx;have hxm:=zAD hx;have hnt:=hw.nt x hxm;have hlen:(w.net.eraseIdx i).length≤1048576:=by rw [zAu]; split <;> omega
     have hb1:du { w with net:=w.net.eraseIdx i }:=⟨hb.over,hb.ls,hb.ll,hb.hs,hb.hl,hb.fl,fun y hy=>hb.nt y ((zBc _ _).subset hy),hlen,hb.op⟩
     have hw1:OkW v { w with net:=w.net.eraseIdx i }:=hw.less (by have:=hw.nl; rw [zAu]; split <;> omega) fun y hy=>(zBc _ _).subset hy
     have hraw:=Dw w.net i hi;have hels:∀ cs∈w.net.map Mes.c,cs.length=9:=rA fun _=>rfl;by_cases h7:k=7
     · subst h7;simp only [if_pos];refine ⟨h0,h1,h2,hh,?_⟩;have c1:=gQ (m:=m) w [anH h0,anH h1,anH h2] x hnl h0 h1 h2 rfl;refine G0 Tryz.func191 ?_;repeat' first|refine Ra ⟨?_⟩|refine Rk [0,1,2,3] 4 c1 ⟨?_⟩|((refine ⟨i,rfl,by omega,?_⟩) <;> conv=>whnf)|((refine ⟨_,g5,?_⟩) <;> conv=>whnf)|refine Rd (fun h=>⟨?_⟩) fun h=>⟨?_⟩|refine Rb ⟨?_⟩|fail
       exact Rf
     · simp only [if_neg h7];have ALT:True:=trivial;by_cases h6:k=6
       · subst h6;simp only [if_neg (by decide:¬ (6:Int)=5)];refine ⟨h0,h1,h2,hh,?_⟩;simp only [wlT,← hraw];refine G0 Tryz.func191 ?_;refine mw [.ice 3] ?_
         conv=>whnf
         repeat' first|refine Ra ⟨?_⟩|((refine ⟨i,rfl,by omega,?_⟩) <;> conv=>whnf)|((refine ⟨_,g5,?_⟩) <;> conv=>whnf)|((refine ⟨hels,?_⟩) <;> conv=>whnf)|((refine ⟨i,rfl,zAG _,by omega,?_⟩) <;> conv=>whnf)|((refine ⟨i+1,by omega,by omega,zAM _,?_⟩) <;> conv=>whnf)|refine Rd (fun h=>⟨?_⟩) fun h=>⟨?_⟩|refine Rb ⟨?_⟩|fail
         refine ai.here (fw [.anew 0,.close 1,.anew 2] ?_)
         conv=>whnf
         exact ⟨rfl,rfl,rfl,rfl⟩
       · have h5:k=5:=by omega
         subst h5;simp only [if_true];obtain ⟨g0,g1,g2,hg,c1⟩:=Dv (m:=m) { w with net:=w.net.eraseIdx i } x hb1 ho hw1 ⟨hnt.1,hnt.2.1,hnt.2.2.2.2.2⟩ hl h0 h1 h2 hh
         refine ⟨g0,g1,g2,hg,?_⟩;generalize dU { w with net:=w.net.eraseIdx i } x=W at c1
         simp only [wlT,← hraw] at c1;refine G0 Tryz.func191 ?_;refine mw [.ice 3] ?_
         conv=>whnf
         repeat' first|refine Ra ⟨?_⟩|((refine ⟨i,rfl,by omega,?_⟩) <;> conv=>whnf)|((refine ⟨_,g5,?_⟩) <;> conv=>whnf)|((refine ⟨hels,?_⟩) <;> conv=>whnf)|((refine ⟨i,rfl,zAG _,by omega,?_⟩) <;> conv=>whnf)|((refine ⟨i+1,by omega,by omega,zAM _,?_⟩) <;> conv=>whnf)|refine Rk [0,1,2,8] 4 c1 ⟨?_⟩|refine Rk [0,1,2,9] 4 c1 ⟨?_⟩|refine Rk [0,1,2,7] 4 c1 ⟨?_⟩|refine Rk [0,1,2,10] 4 c1 ⟨?_⟩|refine Rd (fun h=>⟨?_⟩) fun h=>⟨?_⟩|refine Rb ⟨?_⟩|fail
         exact Rf
variable {m:Int}
theorem Dx (w:Wld) (e:Evn) (hb:du w) {t v:List Ent} (ho:aQ w.over=some (t,v)) (hw:OkW v w) (hl:∀ l∈w.holds,l.length≤1048575) (he:vY e) (h0 h1 h2:List Hld) (hh:w.holds=[h0,h1,h2]) :
   ∃ g0 g1 g2,(wDo w e).1.holds=[g0,g1,g2]∧Con (E m) 125 4 [.agg (wcO w 0 1 2 3),.agg e.c] (wlT w 0 1 2 3 [anH h0,anH h1,anH h2]) (.tup [.agg (wcO (wDo w e).1 4 5 6 7),.k .i64 (wDo w e).2]) (wlT (wDo w e).1 4 5 6 7 [anH g0,anH g1,anH g2]):=by
 by_cases k5:e.kind=5∨e.kind=6∨e.kind=7
 · have hq:wDo w e=ki w e.kind e.pos:=by
     unfold wDo;rw [if_neg (by omega),if_neg (by omega),if_neg (by omega),if_neg (by omega),if_pos k5]
   rw [hq];obtain ⟨g0,g1,g2,hg,c1⟩:=Fg (m:=m) w e hb ho hw k5 hl h0 h1 h2 hh;refine ⟨g0,g1,g2,hg,?_⟩;generalize ki w e.kind e.pos=W at c1;obtain ⟨kind,who,p,op,pos⟩:=e;simp only at k5;obtain rfl|rfl|rfl:=k5
   · refine G0 Tryz.func125 ?_;repeat' first|refine Ra ⟨?_⟩|refine Rk [0,1,2,3] 4 c1 ⟨?_⟩|refine Rd (fun h=>⟨?_⟩) fun h=>⟨?_⟩|refine Rb ⟨?_⟩|fail
     exact Rf
   · refine G0 Tryz.func125 ?_;repeat' first|refine Ra ⟨?_⟩|refine Rk [0,1,2,3] 4 c1 ⟨?_⟩|refine Rd (fun h=>⟨?_⟩) fun h=>⟨?_⟩|refine Rb ⟨?_⟩|fail
     exact Rf
   · refine G0 Tryz.func125 ?_;repeat' first|refine Ra ⟨?_⟩|refine Rk [0,1,2,3] 4 c1 ⟨?_⟩|refine Rd (fun h=>⟨?_⟩) fun h=>⟨?_⟩|refine Rb ⟨?_⟩|fail
     exact Rf
 · have hep:=he.path;have heo:=he.op;obtain ⟨kind,who,p,op,pos⟩:=e;simp only at hep heo k5;unfold wDo;by_cases k1:kind=1
   · simp only [if_pos k1];subst k1;have c4:=o6 (m:=m) who;have c5:=cc (m:=m) p (by omega);by_cases hw1:dA who=true
     · rw [hw1] at c4;by_cases hp1:ac p=true
       · rw [hp1] at c5;have q:(dA who && ac p)=true:=by rw [hw1,hp1]; rfl
         simp only [q,if_true];have c3:=gQ (m:=m) w [anH h0,anH h1,anH h2] ⟨1,who,bE p 0⟩ hb.nl h0 h1 h2 rfl;refine ⟨h0,h1,h2,hh,?_⟩;refine G0 Tryz.func125 ?_;repeat' first|refine Ra ⟨?_⟩|refine R0 c4 ⟨?_⟩|refine R0 c5 ⟨?_⟩|refine Rk [0,1,2,3] 4 c3 ⟨?_⟩|refine Rd (fun h=>⟨?_⟩) fun h=>⟨?_⟩|refine Rb ⟨?_⟩|fail
         exact Rf
       · have hp1:ac p=false:=by simpa using hp1
         rw [hp1] at c5;have q:(dA who && ac p)=false:=by rw [hw1,hp1]; rfl
         rw [q];simp only [zAE,if_false];refine ⟨h0,h1,h2,hh,?_⟩;refine G0 Tryz.func125 ?_;repeat' first|refine Ra ⟨?_⟩|refine R0 c4 ⟨?_⟩|refine R0 c5 ⟨?_⟩|refine Rd (fun h=>⟨?_⟩) fun h=>⟨?_⟩|refine Rb ⟨?_⟩|fail
         refine ai.here (fw [.anew 0,.close 1,.anew 2,.anew 3] ?_)
         conv=>whnf
         exact ⟨rfl,rfl,rfl,rfl⟩
     · have hw1:dA who=false:=by simpa using hw1
       rw [hw1] at c4;have q:(dA who && ac p)=false:=by rw [hw1]; rfl
       rw [q];simp only [zAE,if_false];refine ⟨h0,h1,h2,hh,?_⟩;refine G0 Tryz.func125 ?_;repeat' first|refine Ra ⟨?_⟩|refine R0 c4 ⟨?_⟩|refine Rd (fun h=>⟨?_⟩) fun h=>⟨?_⟩|refine Rb ⟨?_⟩|fail
       refine ai.here (fw [.anew 0,.close 1,.anew 2,.anew 3] ?_)
       conv=>whnf
       exact ⟨rfl,rfl,rfl,rfl⟩
   · rw [if_neg k1];by_cases k2:kind=2
     · simp only [if_pos k2];subst k2;have c3:=Bm (m:=m) w [anH h0,anH h1,anH h2] op hb heo ho h0 h1 h2 hh rfl;refine ⟨h0,h1,h2,(pe w op).trans hh,?_⟩;generalize cD w op=W at c3;refine G0 Tryz.func125 ?_;repeat' first|refine Ra ⟨?_⟩|refine Rk [0,1,2,3] 4 c3 ⟨?_⟩|refine Rd (fun h=>⟨?_⟩) fun h=>⟨?_⟩|refine Rb ⟨?_⟩|fail
       exact Rf
     · rw [if_neg k2];by_cases k3:kind=3
       · simp only [if_pos k3];subst k3;have c3:=Ff (m:=m) w [anH h0,anH h1,anH h2] hb ho h0 h1 h2 hh rfl;refine ⟨h0,h1,h2,(tB w).trans hh,?_⟩;generalize gB w=W at c3;refine G0 Tryz.func125 ?_;repeat' first|refine Ra ⟨?_⟩|refine Rk [0,1,2,3] 4 c3 ⟨?_⟩|refine Rd (fun h=>⟨?_⟩) fun h=>⟨?_⟩|refine Rb ⟨?_⟩|fail
         exact Rf
       · rw [if_neg k3];by_cases k4:kind=4
         · simp only [if_pos k4];subst k4;have c3:=Dt (m:=m) w [anH h0,anH h1,anH h2] hw.clk hb.ll h0 h1 h2 rfl;refine ⟨h0,h1,h2,hh,?_⟩;generalize lr w=W at c3;refine G0 Tryz.func125 ?_;repeat' first|refine Ra ⟨?_⟩|refine Rk [0,1,2,3] 4 c3 ⟨?_⟩|refine Rd (fun h=>⟨?_⟩) fun h=>⟨?_⟩|refine Rb ⟨?_⟩|fail
           exact Rf
         · rw [if_neg k4];simp only [if_neg k5];have k6:¬ kind=5:=fun h=>k5 (.inl h);have k7:¬ kind=6:=fun h=>k5 (.inr (.inl h));have k8:¬ kind=7:=fun h=>k5 (.inr (.inr h));refine ⟨h0,h1,h2,hh,?_⟩;refine G0 Tryz.func125 ?_;repeat' first|refine Rx ⟨?_⟩|refine Rd (fun h=>⟨?_⟩) fun h=>⟨?_⟩|fail
           refine ai.here (fw [.anew 0,.close 1,.anew 2,.anew 3] ?_)
           conv=>whnf
           exact ⟨rfl,rfl,rfl,rfl⟩
variable {m:Int}
theorem Bp (w:Wld) (hb:du w) (h0 h1 h2:List Hld) (hh:w.holds=[h0,h1,h2]):Con (E m) 126 0 [.agg w.c] [] (.agg (wcO w 0 1 2 3)) [(0,.own 93 (w.leases.map Lse.c)),(1,.deep 159 152 [anH h0,anH h1,anH h2]),(2,.own 3 (i7 w.floors)),(3,.own 154 (w.net.map Mes.c))]:=by
 have hll:=hb.ll;have hfl:=hb.fl;have hnl:=hb.nl;have l0:=(hb.hs h0 (by rw [hh]; simp)).2;have l1:=(hb.hs h1 (by rw [hh]; simp)).2;have l2:=(hb.hs h2 (by rw [hh]; simp)).2;have e2:(w.leases.map Lse.c).length=w.leases.length:=zAA ..;have e3:(i7 w.floors).length=w.floors.length:=zAA ..;have e4:(w.net.map Mes.c).length=w.net.length:=zAA ..;have m0:(h0.map Hld.c).length=h0.length:=zAA ..;have m1:(h1.map Hld.c).length=h1.length:=zAA ..;have m2:(h2.map Hld.c).length=h2.length:=zAA ..;have c1:=cH (iL (m:=m) w.over hb.over);clear hb;obtain ⟨o,clk,cnt,ls,hs,fl,nt,wt,op⟩:=w;simp only at hh hll hfl hnl e2 e3 e4 c1;subst hh;refine cE ?_;refine dO B0 FP Tryz.func126 rfl rfl rfl (zAF rfl) ?_;repeat' first|refine Ra ⟨?_⟩|refine R0 c1 ⟨?_⟩|refine Rd (fun h=>⟨?_⟩) fun h=>⟨?_⟩|refine Rb ⟨?_⟩|fail
 refine Cd.loop2 (fun mq tm S nx=>∃ (i:Nat) (zs:List br),mq=(3 - i)∧tm=[(1,.bp 0 0),(2,.bp 1 0),(3,.bp 2 0),(4,.k .i64 i)]∧S=[(0,.box 54 (Wld.c ⟨o,clk,cnt,ls,[h0,h1,h2],fl,nt,wt,op⟩)),(1,.box 54 [.nil,.nil,.nil,.k .i64 0,.k .i64 0,.nil,.nil,.nil,.nil,.b false,.k .i64 0,.s [],.s [],.s []]),(2,.box 54 [.sl (o.base.map Ent.c),.sl (o.layers.map c8),.sl (o.upper.map Mrk.c),.k .i64 clk,.k .i64 cnt,.own 3,.own 4,.sl (i7 fl),.sl (nt.map Mes.c),.b wt,.k .i64 op.kind,.s op.path,.s op.tgt,.s op.data]),(3,.own 93 (ls.map Lse.c)),(4,.deep 159 152 zs)]∧nx=5∧(i≤3)∧(zs=[anH h0,anH h1,anH h2].take i)) ?_ ?_
 · refine la [1,2,3,4] ?_
   conv=>whnf
   refine ⟨rfl,rfl,_,0,[],rfl,rfl,rfl,rfl,by omega,rfl⟩
 · rintro mq tm S nx ⟨i,zs,hn,rfl,rfl,rfl,hi,hz⟩;obtain rfl|rfl|rfl|rfl:i=0∨i=1∨i=2∨i=3:=by omega
   · have hz:zs=[]:=hz;subst hz;repeat' first|refine Rx ⟨?_⟩|refine Rd (fun h=>⟨?_⟩) fun h=>⟨?_⟩|fail
     refine .here ⟨mq - 1,by omega,?_⟩;refine la [1,2,3,4] ?_
     conv=>whnf
     refine ⟨rfl,rfl,1,[anH h0],(by omega),rfl,rfl,rfl,by omega,rfl⟩
   · have hz:zs=[anH h0]:=hz;subst hz;repeat' first|refine Ra ⟨?_⟩|((refine ⟨1,_,rfl,rfl,rfl,?_⟩) <;> conv=>whnf)|refine Rd (fun h=>⟨?_⟩) fun h=>⟨?_⟩|refine Rb ⟨?_⟩|fail
     refine .here ⟨mq - 1,by omega,?_⟩;refine la [1,2,3,4] ?_
     conv=>whnf
     refine ⟨rfl,rfl,2,[anH h0,anH h1],(by omega),rfl,rfl,rfl,by omega,rfl⟩
   · have hz:zs=[anH h0,anH h1]:=hz;subst hz;repeat' first|refine Ra ⟨?_⟩|((refine ⟨2,_,rfl,rfl,rfl,?_⟩) <;> conv=>whnf)|refine Rd (fun h=>⟨?_⟩) fun h=>⟨?_⟩|refine Rb ⟨?_⟩|fail
     refine .here ⟨mq - 1,by omega,?_⟩;refine la [1,2,3,4] ?_
     conv=>whnf
     refine ⟨rfl,rfl,3,[anH h0,anH h1,anH h2],(by omega),rfl,rfl,rfl,by omega,rfl⟩
   · have hz:zs=[anH h0,anH h1,anH h2]:=hz;subst hz;repeat' first|refine Rx ⟨?_⟩|refine Rd (fun h=>⟨?_⟩) fun h=>⟨?_⟩|fail
     exact Rf
end Go.Proofs.YtlicaibhgcenhaaGreatDoor
