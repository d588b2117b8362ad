/- Texts of this claim, set close: lemmas and contracts. -/
import Derived.Test.YtagejnomlkfndaaGreatDoorYY43
import Derived.Test.YtagejnomlkfndaaGreatDoorYY39
set_option linter.unusedSimpArgs false
set_option linter.unusedVariables false
set_option maxHeartbeats 1000000
set_option maxRecDepth 10000
namespace Go.Proofs.YtagejnomlkfndaaGreatDoor
open Go Go.RowKit Go.Ab Go.Par
variable {m:Int}
theorem zc (a b:List Ent) (ha:aq a=true) (hb:aq b=true):Con (E m) 180 0 [.sl (a.map Ent.c),.sl (b.map Ent.c)] [] (.own 0) [(0,.own 9 (strs (bo a b)))]:=by
 have hal:=aN ha;have hbl:=aN hb;have e1:(a.map Ent.c).length=a.length:=zAA ..;have e2:(b.map Ent.c).length=b.length:=zAA ..;have hx:bo a b=(aC (cF a b)).filter fun p=>decide (aA a p≠aA b p):=by rw [bo,ha,hb]; rfl
 refine G0 Tryz.func180 ?_;repeat' first|refine Rx ⟨?_⟩|refine Rd (fun h=>⟨?_⟩) fun h=>⟨?_⟩|fail
 refine Cd.loop2 (fun mq tm S nx=>∃ (i:Nat) (X:List Ent),mq=(b.length - i)∧tm=[(0,.sl (a.map Ent.c)),(1,.sl (b.map Ent.c)),(5,.sl (X.map Ent.c)),(6,.k .i64 i)]∧S=[]∧nx=0∧(i≤b.length)∧(X=cF a (b.take i))∧(X.length≤16+i)) ?_ ?_
 · refine li [5] [0,1,5,6] ?_
   conv=>whnf
   refine ⟨rfl,rfl,_,0,a,rfl,rfl,rfl,rfl,by omega,by simp [cF],by omega⟩
 · rintro mq tm S nx ⟨i,X,hn,rfl,rfl,rfl,hi,hX,hXl⟩;by_cases hlt:i < b.length
   · have g1:b[i]?=some b[i]:=zAB hlt;generalize b[i]=x at g1;have c1:=iY (m:=m) X x (by omega);have hl:=(fR X x).2;repeat' first|refine Ra ⟨?_⟩|refine Rk [] 1 c1 ⟨?_⟩|refine Rd (fun h=>⟨?_⟩) fun h=>⟨?_⟩|refine Rb ⟨?_⟩|fail
     refine .here ⟨mq - 1,by omega,?_⟩;refine li [5] [0,1,5,6] ?_
     conv=>whnf
     refine ⟨rfl,rfl,i+1,ea X x,(by omega),rfl,rfl,rfl,by omega,(by rw [hX,rI g1]),by omega⟩
   · rw [zAc (by omega)] at hX;rw [← hX] at hx;have e3:(X.map Ent.c).length=X.length:=zAA ..;repeat' first|refine Rx ⟨?_⟩|refine Rd (fun h=>⟨?_⟩) fun h=>⟨?_⟩|fail
     refine Cd.loop2 (fun mq tm S nx=>∃ (k:Nat) (A:List Bs),mq=(X.length - k)∧tm=[(0,.sl (a.map Ent.c)),(1,.sl (b.map Ent.c)),(5,.sl (X.map Ent.c)),(7,.own 0),(8,.k .i64 k)]∧S=[(0,.own 9 (strs A))]∧nx=1∧(k≤X.length)∧(A=(aC (X.take k)).filter (fun p=>decide (aA a p≠aA b p)))∧(A.length≤k)) ?_ ?_
     · refine la [0,1,5,7,8] ?_
       conv=>whnf
       refine ⟨rfl,rfl,_,0,[],rfl,rfl,rfl,rfl,by omega,by simp,by simp⟩
     · rintro mq tm S nx ⟨k,A,hn,rfl,rfl,rfl,hk,hA,hAl⟩;have e4:(strs A).length=A.length:=zAA ..;by_cases hlt2:k < X.length
       · have g3:X[k]?=some X[k]:=zAB hlt2;generalize X[k]=x at g3;have c2:=eW (m:=m) a x.path (by omega);have c3:=eW (m:=m) b x.path (by omega);rw [yw] at c2 c3;have g4:=rG g3;by_cases hq:aA a x.path=aA b x.path
         · have g5:A=(aC (X.take (k+1))).filter (fun p=>decide (aA a p≠aA b p)):=by rw [hA,g4,zAj]; simp [hq]
           rw [← hq] at c3;generalize aA a x.path=O at c2 c3;have f1:=Iy (rfl:O=O);repeat' first|refine Ra ⟨?_⟩|refine R0 c2 ⟨?_⟩|refine R0 c3 ⟨?_⟩|refine Rd (fun h=>⟨?_⟩) fun h=>⟨?_⟩|refine Rb ⟨?_⟩|fail
           refine .here ⟨mq - 1,by omega,?_⟩;refine la [0,1,5,7,8] ?_
           conv=>whnf
           refine ⟨rfl,rfl,k+1,A,(by omega),rfl,rfl,rfl,by omega,g5,by omega⟩
         · have g5:A++[x.path]=(aC (X.take (k+1))).filter (fun p=>decide (aA a p≠aA b p)):=by rw [hA,g4,zAj]; simp [hq]
           have f1:=Iz hq;generalize aA a x.path=O at c2 f1;generalize aA b x.path=O2 at c3 f1;rcases f1 with f1|⟨f1,f2⟩
           · unfold fs at f1;repeat' first|refine Ra ⟨?_⟩|refine R0 c2 ⟨?_⟩|refine R0 c3 ⟨?_⟩|refine Rd (fun h=>⟨?_⟩) fun h=>⟨?_⟩|refine Rb ⟨?_⟩|fail
             refine .here ⟨mq - 1,by omega,?_⟩;refine la [0,1,5,7,8] ?_
             conv=>whnf
             refine ⟨rfl,rfl,k+1,A++[x.path],(by omega),rfl,?_,rfl,by omega,g5,(by simp; omega)⟩;rw [← gg];rfl
           · unfold fs at f1;repeat' first|refine Ra ⟨?_⟩|refine R0 c2 ⟨?_⟩|refine R0 c3 ⟨?_⟩|refine Rd (fun h=>⟨?_⟩) fun h=>⟨?_⟩|refine Rb ⟨?_⟩|fail
             refine .here ⟨mq - 1,by omega,?_⟩;refine la [0,1,5,7,8] ?_
             conv=>whnf
             refine ⟨rfl,rfl,k+1,A++[x.path],(by omega),rfl,?_,rfl,by omega,g5,(by simp; omega)⟩;rw [← gg];rfl
       · rw [zAc (by omega)] at hA;rw [hx,← hA];repeat' first|refine Rx ⟨?_⟩|refine Rd (fun h=>⟨?_⟩) fun h=>⟨?_⟩|fail
         exact Rf
theorem Bl (w:Wld) (p:Opn) (hb:dO w) (hp:jc 1073741823 p) {t v:List Ent} (ho:bv w.over=some (t,v)):Con (E m) 264 0 [.agg w.c,.agg p.c] [] (.own 0) [(0,.own 9 (strs (cf v p)))]:=by
 have hv:=(ce ho).2.2.2;have hvl:=aN hv;have c1:=fD (m:=m) w.over hb.over;have h2:gi w.over=some v:=by
  obtain ⟨g1,g2,g3⟩:=dz.1 ho;rw [gi,g1];exact g2
 rw [h2] at c1;have c2:=fT (m:=m) v p (by omega) (qf hv) hp.1 hp.2.1 hp.2.2;unfold cf;by_cases h:(aJ v p).2=0
 · rw [if_pos h];have c3:=zc (m:=m) v (aJ v p).1 hv (gS hv p);refine G0 Tryz.func264 ?_;repeat' first|refine Ra ⟨?_⟩|refine R0 c1 ⟨?_⟩|refine Rk [] 1 c2 ⟨?_⟩|refine Rk [] 1 c3 ⟨?_⟩|refine Rd (fun h=>⟨?_⟩) fun h=>⟨?_⟩|refine Rb ⟨?_⟩|fail
   exact Rf
 · rw [if_neg h];refine G0 Tryz.func264 ?_;repeat' first|refine Ra ⟨?_⟩|refine R0 c1 ⟨?_⟩|refine Rk [] 1 c2 ⟨?_⟩|refine Rd (fun h=>⟨?_⟩) fun h=>⟨?_⟩|refine Rb ⟨?_⟩|fail
   exact Rf
theorem Hs (w:Wld) (zs:List aE) (hb:dO w) {t v:List Ent} (ho:bv w.over=some (t,v)) (h0 h1 h2:List Hld) (hh:w.holds=[h0,h1,h2]) (hz:zs=[anH h0,anH h1,anH h2]):Con (E m) 157 4 [.agg (wcO w 0 1 2 3)] (wlT w 0 1 2 3 zs) (.tup [.agg (wcO (eI w).1 4 5 6 7),.k .i64 (eI w).2]) (wlT (eI w).1 4 5 6 7 zs):=by
 have hll:=hb.ll;have hnl:=hb.nl;subst hz;have hs:Go.Par.seen w.over=v:=by rw [Go.Par.seen,ho]
 have c1:=xh (m:=m) w w.op hb hb.op ho;rw [Wld.c,hh] at c1;have c3:=kw (m:=m) w.over w.op hb.over hb.op;have hbl:=nw (v:=v) (clk:=w.clock) (ls:=w.leases) (p:=w.op);unfold eI;rw [hs];by_cases hwt:w.waits=false
 · rw [if_pos hwt];refine G0 Tryz.func157 ?_;repeat' first|refine Rx ⟨?_⟩|refine Rd (fun h=>⟨?_⟩) fun h=>⟨?_⟩|fail
   refine ak.here (fw [.anew 0,.close 1,.anew 2,.anew 3] ?_)
   conv=>whnf
   exact ⟨rfl,rfl,rfl,rfl⟩
 · rw [if_neg hwt];have hwt:w.waits=true:=by simpa using hwt
   by_cases hbr:dg v w.clock w.leases w.op=[]
   · rw [if_pos hbr];rw [hbr] at c1;refine G0 Tryz.func157 ?_;repeat' first|refine Ra ⟨?_⟩|(refine ⟨[],_,_,_,_,1,⟨rfl,rfl,rfl,c1,rfl,rfl⟩,.inl ⟨[],trivial,rfl,.inl ⟨by simp [ay,aD,aj],by simp [aF,aG,aj,Ent.c,Mrk.c,Opn.c,Lse.c,Hld.c,Mes.c,az,anH]⟩,?_⟩⟩ <;> conv=>whnf)|refine R0 c3 ⟨?_⟩|refine Rd (fun h=>⟨?_⟩) fun h=>⟨?_⟩|refine Rb ⟨?_⟩|fail
     refine ak.here (fw [.anew 0,.close 1,.anew 2,.anew 3] ?_)
     conv=>whnf
     exact ⟨rfl,rfl,rfl,rfl⟩
   · rw [if_neg hbr];have hpos:0 < (dg v w.clock w.leases w.op).length:=List.length_pos_iff.2 hbr;generalize dg v w.clock w.leases w.op=B at c1 hbl hpos;have c2:=rW (m:=m) w [anH h0,anH h1,anH h2] B hnl (by omega) h0 h1 h2 rfl;have e2:(B.map Lse.c).length=B.length:=zAA ..;refine G0 Tryz.func157 ?_;repeat' first|refine Ra ⟨?_⟩|(refine ⟨[],_,_,_,_,1,⟨rfl,rfl,rfl,c1,rfl,rfl⟩,.inl ⟨[],trivial,rfl,.inl ⟨by simp [ay,aD,aj],by simp [aF,aG,aj,Ent.c,Mrk.c,Opn.c,Lse.c,Hld.c,Mes.c,az,anH]⟩,?_⟩⟩ <;> conv=>whnf)|refine Rk [0,1,2,3] 4 c2 ⟨?_⟩|refine Rd (fun h=>⟨?_⟩) fun h=>⟨?_⟩|refine Rb ⟨?_⟩|fail
     exact Rf
theorem Dx (w:Wld) (zs:List aE) (p:Opn) (hb:dO w) (hp:jc 1073741823 p) {t v:List Ent} (ho:bv w.over=some (t,v)) (h0 h1 h2:List Hld) (hh:w.holds=[h0,h1,h2]) (hz:zs=[anH h0,anH h1,anH h2]):Con (E m) 156 4 [.agg (wcO w 0 1 2 3),.agg p.c] (wlT w 0 1 2 3 zs) (.tup [.agg (wcO (bQ w p).1 4 5 6 7),.k .i64 (bQ w p).2]) (wlT (bQ w p).1 4 5 6 7 zs):=by
 have hll:=hb.ll;have hnl:=hb.nl;subst hz;have hs:Go.Par.seen w.over=v:=by rw [Go.Par.seen,ho]
 have hv:=(ce ho).2.2.2;have hvl:=aN hv;have c0:=fD (m:=m) w.over hb.over;have h2':gi w.over=some v:=by
  obtain ⟨g1,g2,g3⟩:=dz.1 ho;rw [gi,g1];exact g2
 rw [h2'] at c0;have c4:=fT (m:=m) v p (by omega) (qf hv) hp.1 hp.2.1 hp.2.2;have c1:=xh (m:=m) w p hb hp ho;rw [Wld.c,hh] at c1;have c3:=kw (m:=m) w.over p hb.over hp;have hbl:=nw (v:=v) (clk:=w.clock) (ls:=w.leases) (p:=p);unfold bQ;rw [hs];by_cases hwt:w.waits=true
 · rw [if_pos hwt];refine G0 Tryz.func156 ?_;repeat' first|refine Ra ⟨?_⟩|refine R0 c0 ⟨?_⟩|refine Rk [] 1 c4 ⟨?_⟩|refine Rd (fun h=>⟨?_⟩) fun h=>⟨?_⟩|refine Rb ⟨?_⟩|fail
   refine ak.here (fw [.anew 0,.close 1,.anew 2,.anew 3] ?_)
   conv=>whnf
   exact ⟨rfl,rfl,rfl,rfl⟩
 · rw [if_neg hwt];have hwt:w.waits=false:=by simpa using hwt
   by_cases hd:(aJ v p).2=0
   · rw [if_neg (by simp [hd])];by_cases hbr:dg v w.clock w.leases p=[]
     · rw [if_pos hbr];rw [hbr] at c1;refine G0 Tryz.func156 ?_;repeat' first|refine Ra ⟨?_⟩|refine R0 c0 ⟨?_⟩|refine Rk [] 1 c4 ⟨?_⟩|(refine ⟨[],_,_,_,_,1,⟨rfl,rfl,rfl,c1,rfl,rfl⟩,.inl ⟨[],trivial,rfl,.inl ⟨by simp [ay,aD,aj],by simp [aF,aG,aj,Ent.c,Mrk.c,Opn.c,Lse.c,Hld.c,Mes.c,az,anH]⟩,?_⟩⟩ <;> conv=>whnf)|refine R0 c3 ⟨?_⟩|refine Rd (fun h=>⟨?_⟩) fun h=>⟨?_⟩|refine Rb ⟨?_⟩|fail
       refine ak.here (fw [.anew 0,.close 1,.anew 2,.anew 3] ?_)
       conv=>whnf
       exact ⟨rfl,rfl,rfl,rfl⟩
     · rw [if_neg hbr];have hpos:0 < (dg v w.clock w.leases p).length:=List.length_pos_iff.2 hbr;generalize dg v w.clock w.leases p=B at c1 hbl hpos;have c2:=rW (m:=m) { w with waits:=true,op:=p } [anH h0,anH h1,anH h2] B hnl (by omega) h0 h1 h2 rfl
       have e2:(B.map Lse.c).length=B.length:=zAA ..;refine G0 Tryz.func156 ?_;repeat' first|refine Ra ⟨?_⟩|refine R0 c0 ⟨?_⟩|refine Rk [] 1 c4 ⟨?_⟩|(refine ⟨[],_,_,_,_,1,⟨rfl,rfl,rfl,c1,rfl,rfl⟩,.inl ⟨[],trivial,rfl,.inl ⟨by simp [ay,aD,aj],by simp [aF,aG,aj,Ent.c,Mrk.c,Opn.c,Lse.c,Hld.c,Mes.c,az,anH]⟩,?_⟩⟩ <;> conv=>whnf)|refine Rk [0,1,2,3] 4 c2 ⟨?_⟩|refine Rd (fun h=>⟨?_⟩) fun h=>⟨?_⟩|refine Rb ⟨?_⟩|fail
       exact Rf
   · rw [if_pos hd];refine G0 Tryz.func156 ?_;repeat' first|refine Ra ⟨?_⟩|refine R0 c0 ⟨?_⟩|refine Rk [] 1 c4 ⟨?_⟩|refine Rd (fun h=>⟨?_⟩) fun h=>⟨?_⟩|refine Rb ⟨?_⟩|fail
     refine ak.here (fw [.anew 0,.close 1,.anew 2,.anew 3] ?_)
     conv=>whnf
     exact ⟨rfl,rfl,rfl,rfl⟩
variable {m:Int}
theorem Bn (a b c d:Nat) (zs:List aE) (F N:List (List D)) (l:List Lse) (x:Lse):wlR a b c d (l.map Lse.c++[x.c]) zs F N=wlR a b c d ((l++[x]).map Lse.c) zs F N:=by rw [zAH]; rfl
theorem Dz (w:Wld) (zs:List aE) (who:Int) (p:Bs) (hb:dO w) {t v:List Ent} (ho:bv w.over=some (t,v)) (hcl:0≤w.clock∧w.clock≤10000) (hct:0≤w.count∧w.count≤10000) (h0 h1 h2:List Hld) (hh:w.holds=[h0,h1,h2]) (hz:zs=[anH h0,anH h1,anH h2]) :
   Con (E m) 266 4 [.agg (wcO w 0 1 2 3),.k .i64 who,.s p] (wlT w 0 1 2 3 zs) (.agg (wcO (ja w who p) 4 5 6 7)) (wlT (ja w who p) 4 5 6 7 zs):=by
 subst hz;have hll:=hb.ll;have hv:=(ce ho).2.2.2;have hvl:=aN hv;have hs:Go.Par.seen w.over=v:=by rw [Go.Par.seen,ho]
 have c1:=Bl (m:=m) w w.op hb hb.op ho;rw [Wld.c,hh] at c1;have htl:(cf v w.op).length≤1048576:=by
  unfold cf;split
  · have:=fX v (aJ v w.op).1
    omega
  · simp
 have c2:=El (m:=m) (cf v w.op) p htl;have e1:(w.leases.map Lse.c).length=w.leases.length:=zAA ..;unfold ja;rw [hs];by_cases hbad:w.waits=true∧p∈cf v w.op
 · rw [if_pos (.inl hbad)];obtain ⟨hw,hp⟩:=hbad;rw [decide_eq_true hp] at c2;refine G0 Tryz.func266 ?_;repeat' first|refine Ra ⟨?_⟩|(refine ⟨[],_,_,_,_,1,⟨rfl,rfl,rfl,c1,rfl,rfl⟩,.inl ⟨[],trivial,rfl,.inl ⟨by simp [ay,aD,aj],by simp [aF,aG,aj,Ent.c,Mrk.c,Opn.c,Lse.c,Hld.c,Mes.c,az,anH]⟩,?_⟩⟩ <;> conv=>whnf)|refine R0 c2 ⟨?_⟩|refine Rd (fun h=>⟨?_⟩) fun h=>⟨?_⟩|refine Rb ⟨?_⟩|fail
   refine ak.here (fw [.anew 0,.close 1,.anew 2,.anew 3] ?_)
   conv=>whnf
   exact ⟨rfl,rfl,rfl,rfl⟩
 · by_cases hc:10000≤w.count
   · rw [if_pos (.inr hc)];by_cases hw:w.waits=true
     · rw [decide_eq_false (fun hp=>hbad ⟨hw,hp⟩)] at c2;refine G0 Tryz.func266 ?_;repeat' first|refine Ra ⟨?_⟩|(refine ⟨[],_,_,_,_,1,⟨rfl,rfl,rfl,c1,rfl,rfl⟩,.inl ⟨[],trivial,rfl,.inl ⟨by simp [ay,aD,aj],by simp [aF,aG,aj,Ent.c,Mrk.c,Opn.c,Lse.c,Hld.c,Mes.c,az,anH]⟩,?_⟩⟩ <;> conv=>whnf)|refine R0 c2 ⟨?_⟩|refine Rd (fun h=>⟨?_⟩) fun h=>⟨?_⟩|refine Rb ⟨?_⟩|fail
       refine ak.here (fw [.anew 0,.close 1,.anew 2,.anew 3] ?_)
       conv=>whnf
       exact ⟨rfl,rfl,rfl,rfl⟩
     · have hw:w.waits=false:=by simpa using hw
       refine G0 Tryz.func266 ?_;repeat' first|refine Rx ⟨?_⟩|refine Rd (fun h=>⟨?_⟩) fun h=>⟨?_⟩|fail
       refine ak.here (fw [.anew 0,.close 1,.anew 2,.anew 3] ?_)
       conv=>whnf
       exact ⟨rfl,rfl,rfl,rfl⟩
   · rw [if_neg (by rintro (h|h); exact hbad h; exact hc h)];have c0:=fD (m:=m) w.over hb.over;have h2':gi w.over=some v:=by
      obtain ⟨g1,g2,g3⟩:=dz.1 ho;rw [gi,g1];exact g2
     rw [h2'] at c0;have c6:=eW (m:=m) v p (by omega);obtain ⟨g,has,q1,q2,q3⟩:∃ (g:Ent) (has:Bool),nD (aA v p)=.tup [.agg g.c,.b has]∧(aA v p).isSome=has∧(aA v p).getD b9=g:=by
      cases hg:aA v p with
      | none=>exact ⟨b9,false,rfl,rfl,rfl⟩
      | some g=>exact ⟨g,true,rfl,rfl,rfl⟩
     rw [q1] at c6;rw [q2,q3];have c4:=xi (m:=m) w.leases who p (w.count+1) hll;have c9:=iK (m:=m) { w with count:=w.count+1,leases:=jY w.leases who p (w.count+1)++[⟨who,p,w.count+1,w.clock+5⟩] } [anH h0,anH h1,anH h2] ⟨2,who,⟨p,has,g,w.count+1,w.clock+5⟩⟩ hb.nl h0 h1 h2 rfl
     simp only [wlT,← Bn] at c9 ⊢;have e2:((jY w.leases who p (w.count+1)).map Lse.c).length=(jY w.leases who p (w.count+1)).length:=zAA ..;have e3:(jY w.leases who p (w.count+1)).length≤w.leases.length:=zAa _ _;by_cases hw:w.waits=true
     · rw [decide_eq_false (fun hp=>hbad ⟨hw,hp⟩)] at c2;refine G0 Tryz.func266 ?_;repeat' first|refine Ra ⟨?_⟩|(refine ⟨[],_,_,_,_,1,⟨rfl,rfl,rfl,c1,rfl,rfl⟩,.inl ⟨[],trivial,rfl,.inl ⟨by simp [ay,aD,aj],by simp [aF,aG,aj,Ent.c,Mrk.c,Opn.c,Lse.c,Hld.c,Mes.c,az,anH]⟩,?_⟩⟩ <;> conv=>whnf)|refine R0 c2 ⟨?_⟩|refine R0 c0 ⟨?_⟩|refine R0 c6 ⟨?_⟩|(refine ⟨[],_,_,_,_,1,⟨rfl,rfl,rfl,c4,rfl,rfl⟩,.inl ⟨[],trivial,rfl,.inl ⟨by simp [ay,aD,aj],by simp [aF,aG,aj,Ent.c,Mrk.c,Opn.c,Lse.c,Hld.c,Mes.c,az,anH]⟩,?_⟩⟩ <;> conv=>whnf)|refine Rk [10,1,2,3] 4 c9 ⟨?_⟩|refine Rd (fun h=>⟨?_⟩) fun h=>⟨?_⟩|refine Rb ⟨?_⟩|fail
       refine ak.here (fw [.ice 0] ?_)
       conv=>whnf
       exact ⟨rfl,rfl,rfl,rfl⟩
     · have hw:w.waits=false:=by simpa using hw
       refine G0 Tryz.func266 ?_;repeat' first|refine Ra ⟨?_⟩|refine R0 c0 ⟨?_⟩|refine R0 c6 ⟨?_⟩|(refine ⟨[],_,_,_,_,1,⟨rfl,rfl,rfl,c4,rfl,rfl⟩,.inl ⟨[],trivial,rfl,.inl ⟨by simp [ay,aD,aj],by simp [aF,aG,aj,Ent.c,Mrk.c,Opn.c,Lse.c,Hld.c,Mes.c,az,anH]⟩,?_⟩⟩ <;> conv=>whnf)|refine Rk [9,1,2,3] 4 c9 ⟨?_⟩|refine Rd (fun h=>⟨?_⟩) fun h=>⟨?_⟩|refine Rb ⟨?_⟩|fail
       refine ak.here (fw [.ice 0] ?_)
       conv=>whnf
       exact ⟨rfl,rfl,rfl,rfl⟩
theorem ma (hs:List Hld) (g:Hld) (hl:hs.length≤1048576) (h:(hs.any fun x=>decide (x.path=g.path) && decide (g.num≤x.num))=true):Con (E m) 267 1 [.own 0,.agg g.c] [(0,.own 68 (hs.map Hld.c))] (.own 0) [(0,.own 68 (hs.map Hld.c))]:=by
 have e1:(hs.map Hld.c).length=hs.length:=zAA ..;refine G0 Tryz.func267 ?_;repeat' first|refine Rx ⟨?_⟩|refine Rd (fun h=>⟨?_⟩) fun h=>⟨?_⟩|fail
 refine Cd.loop2 (fun mq tm S nx=>∃ (i:Nat) (A:List Hld),mq=(hs.length - i)∧tm=[(0,.own 0),(3,.bp 1 0),(5,.own 2),(6,.k .i64 i)]∧S=[(0,.own 68 (hs.map Hld.c)),(1,.box 68 g.c),(2,.own 68 (A.map Hld.c))]∧nx=3∧(i≤hs.length)∧(((hs.drop i).any fun x=>decide (x.path=g.path) && decide (g.num≤x.num))=true)∧(A.length≤i)) ?_ ?_
 · refine la [0,3,5,6] ?_
   conv=>whnf
   refine ⟨rfl,rfl,_,0,[],rfl,rfl,rfl,rfl,zAG _,h,by simp⟩
 · rintro mq tm S nx ⟨i,A,hn,rfl,rfl,rfl,hi,ha,hAl⟩;have e2:(A.map Hld.c).length=A.length:=zAA ..;rcases av hs i hi with ⟨rfl,hd⟩|⟨x,r,hx',hd,hr,hlt⟩
   · rw [hd] at ha;simp at ha
   · rw [hd,List.any_cons] at ha;have g5:(hs.map Hld.c)[i]?=some x.c:=mg hx';by_cases q1:x.path=g.path
     · by_cases q2:g.num≤x.num
       · repeat' first|refine Ra ⟨?_⟩|((refine ⟨i,rfl,by omega,?_⟩) <;> conv=>whnf)|((refine ⟨_,g5,?_⟩) <;> conv=>whnf)|refine Rd (fun h=>⟨?_⟩) fun h=>⟨?_⟩|refine Rb ⟨?_⟩|fail
         exact Rf
       · rw [decide_eq_false q2,zBH,zAt] at ha;repeat' first|refine Ra ⟨?_⟩|((refine ⟨i,rfl,by omega,?_⟩) <;> conv=>whnf)|((refine ⟨_,g5,?_⟩) <;> conv=>whnf)|refine Rd (fun h=>⟨?_⟩) fun h=>⟨?_⟩|refine Rb ⟨?_⟩|fail
         refine .here ⟨mq - 1,by omega,?_⟩;refine la [0,3,5,6] ?_
         conv=>whnf
         refine ⟨rfl,rfl,i+1,A,(by omega),rfl,rfl,rfl,by omega,(by rw [hr]; exact ha),by omega⟩
     · rw [decide_eq_false q1,zAg,zAt] at ha;repeat' first|refine Ra ⟨?_⟩|((refine ⟨i,rfl,by omega,?_⟩) <;> conv=>whnf)|((refine ⟨_,g5,?_⟩) <;> conv=>whnf)|refine Rd (fun h=>⟨?_⟩) fun h=>⟨?_⟩|refine Rb ⟨?_⟩|fail
       refine .here ⟨mq - 1,by omega,?_⟩;refine la [0,3,5,6] ?_
       conv=>whnf
       refine ⟨rfl,rfl,i+1,A++[x],(by omega),rfl,?_,rfl,by omega,(by rw [hr]; exact ha),(by simp; omega)⟩;rw [zAH];rfl
theorem mb (hs:List Hld) (g:Hld) (hl:hs.length≤1048576) (h:(hs.any fun x=>decide (x.path=g.path) && decide (g.num≤x.num))=false):Con (E m) 267 1 [.own 0,.agg g.c] [(0,.own 68 (hs.map Hld.c))] (.own 1) [(0,.own 68 (hs.map Hld.c)),(1,.own 68 ((cN hs g).map Hld.c))]:=by
 have e1:(hs.map Hld.c).length=hs.length:=zAA ..;have ht:cN hs g=hs.filter (fun x=>!decide (x.path=g.path))++[g]:=by rw [cN,h,if_neg (by simp)]
 rw [ht];refine G0 Tryz.func267 ?_;repeat' first|refine Rx ⟨?_⟩|refine Rd (fun h=>⟨?_⟩) fun h=>⟨?_⟩|fail
 refine Cd.loop2 (fun mq tm S nx=>∃ (i:Nat) (A:List Hld),mq=(hs.length - i)∧tm=[(0,.own 0),(3,.bp 1 0),(5,.own 2),(6,.k .i64 i)]∧S=[(0,.own 68 (hs.map Hld.c)),(1,.box 68 g.c),(2,.own 68 (A.map Hld.c))]∧nx=3∧(i≤hs.length)∧(A=(hs.take i).filter (fun x=>!decide (x.path=g.path)))∧(A.length≤i)) ?_ ?_
 · refine la [0,3,5,6] ?_
   conv=>whnf
   refine ⟨rfl,rfl,_,0,[],rfl,rfl,rfl,rfl,zAG _,by simp,by simp⟩
 · rintro mq tm S nx ⟨i,A,hn,rfl,rfl,rfl,hi,hA,hAl⟩;have e2:(A.map Hld.c).length=A.length:=zAA ..;rcases av hs i hi with ⟨rfl,hd⟩|⟨x,r,hx',hd,hr,hlt⟩
   · rw [zAP] at hA;subst hA;repeat' first|refine Rx ⟨?_⟩|refine Rd (fun h=>⟨?_⟩) fun h=>⟨?_⟩|fail
     refine ak.here (fa ?_)
     conv=>whnf
     refine ⟨rfl,rfl,rfl,?_⟩;rw [zAH];rfl
   · have g5:(hs.map Hld.c)[i]?=some x.c:=mg hx';have hxx:=List.any_eq_false.1 h x (zAD hx');have hstep:(hs.take (i+1)).filter (fun x=>!decide (x.path=g.path))=A++(if x.path=g.path then [] else [x]):=by
      rw [hA,zAY,hx',zAj];congr 1
      by_cases q:x.path=g.path <;> simp [q]
     by_cases q1:x.path=g.path
     · have q2:¬ g.num≤x.num:=fun q=>hxx (by simp [q1,q]);repeat' first|refine Ra ⟨?_⟩|((refine ⟨i,rfl,by omega,?_⟩) <;> conv=>whnf)|((refine ⟨_,g5,?_⟩) <;> conv=>whnf)|refine Rd (fun h=>⟨?_⟩) fun h=>⟨?_⟩|refine Rb ⟨?_⟩|fail
       refine .here ⟨mq - 1,by omega,?_⟩;refine la [0,3,5,6] ?_
       conv=>whnf
       refine ⟨rfl,rfl,i+1,A,(by omega),rfl,rfl,rfl,by omega,(by rw [hstep,if_pos q1]; simp),by omega⟩
     · repeat' first|refine Ra ⟨?_⟩|((refine ⟨i,rfl,by omega,?_⟩) <;> conv=>whnf)|((refine ⟨_,g5,?_⟩) <;> conv=>whnf)|refine Rd (fun h=>⟨?_⟩) fun h=>⟨?_⟩|refine Rb ⟨?_⟩|fail
       refine .here ⟨mq - 1,by omega,?_⟩;refine la [0,3,5,6] ?_
       conv=>whnf
       refine ⟨rfl,rfl,i+1,A++[x],(by omega),rfl,?_,rfl,by omega,(by rw [hstep,if_neg q1]),(by simp; omega)⟩;rw [zAH];rfl
end Go.Proofs.YtagejnomlkfndaaGreatDoor
