/- Texts of this claim, set close: lemmas and contracts. -/
import Derived.Test.YtagejnomlkfndaaGreatDoorYY41
import Derived.Test.YtagejnomlkfndaaGreatDoorYY39
set_option linter.unusedSimpArgs false
set_option linter.unusedVariables false
set_option maxHeartbeats 1000000
set_option maxRecDepth 10000
namespace Go.Proofs.YtagejnomlkfndaaGreatDoor
open Go Go.RowKit Go.Ab Go.Par
variable {m:Int}
theorem Bq (w:Wld) (zs:List aE) (F N:List (List D)) (l:List Lse) (x:Lse):bxP w (l.map Lse.c++[x.c]) zs F N=bxP w ((l++[x]).map Lse.c) zs F N:=by rw [zAH]; rfl
theorem Br (w:Wld) (zs:List aE) (F N:List (List D)) (l:List Lse) (x:Lse):bxQ w (l.map Lse.c++[x.c]) zs F N=bxQ w ((l++[x]).map Lse.c) zs F N:=by rw [zAH]; rfl
theorem zg (w:Wld) (zs:List aE) (who:Int) (p:Bs) (hb:dO w) {t v:List Ent} (ho:bv w.over=some (t,v)) (hcl:0≤w.clock∧w.clock≤10000) (hct:0≤w.count∧w.count≤10000)
   (hu:w.leases.Pairwise fun a b=>¬ (a.who=b.who∧a.path=b.path)) (hn:∀ l∈w.leases,l.num≤w.count) (h0 h1 h2:List Hld) (hh:w.holds=[h0,h1,h2]) (hz:zs=[anH h0,anH h1,anH h2]) :
   Con (E m) 150 8 [.bp 0 0,.k .i64 who,.s p] (bxI w zs) (.tup []) (bxJ (ja w who p) zs):=by
 subst hz;have hll:=hb.ll;have hv:=(ce ho).2.2.2;have hs:Go.Par.seen w.over=v:=by rw [Go.Par.seen,ho]
 have c1:=qa4 (m:=m) w w.op hb hb.op ho;rw [Wld.c,hh] at c1;have htl:(cf v w.op).length≤1048576:=by
  unfold cf;split
  · have:=fX v (aJ v w.op).1
    omega
  · simp
 have c2:=l4 (m:=m) (cf v w.op) p htl;have e1:(w.leases.map Lse.c).length=w.leases.length:=zAA ..;unfold ja;rw [hs];by_cases hc:w.count=10000
 · rw [if_pos (.inr (by omega))];refine G0 Tryz.func150 ?_;repeat' first|refine Rx ⟨?_⟩|refine Rd (fun h=>⟨?_⟩) fun h=>⟨?_⟩|fail
   refine ak.here (fw [.anew 1,.close 2,.anew 3,.anew 4] ?_)
   conv=>whnf
   exact ⟨rfl,rfl,rfl,rfl⟩
 · have hc':¬ 10000≤w.count:=by omega
   by_cases hbad:w.waits=true∧p∈cf v w.op
   · rw [if_pos (.inl hbad)];obtain ⟨hw,hp⟩:=hbad;rw [decide_eq_true hp] at c2;refine G0 Tryz.func150 ?_;repeat' first|refine Ra ⟨?_⟩|(refine ⟨[],_,_,_,_,1,⟨rfl,rfl,rfl,c1,rfl,rfl⟩,.inl ⟨[],trivial,rfl,.inl ⟨by simp [ay,aD,aj],by simp [aF,aG,aj,Ent.c,Mrk.c,Opn.c,Lse.c,Hld.c,Mes.c,az,anH]⟩,?_⟩⟩ <;> conv=>whnf)|refine R0 c2 ⟨?_⟩|refine Rd (fun h=>⟨?_⟩) fun h=>⟨?_⟩|refine Rb ⟨?_⟩|fail
     refine ak.here (fw [.anew 1,.close 2,.anew 3,.anew 4] ?_)
     conv=>whnf
     exact ⟨rfl,rfl,rfl,rfl⟩
   · rw [if_neg (by rintro (h|h); exact hbad h; exact hc' h)];have hsml:∀ x∈w.leases,x.num≤w.count+1:=fun x hx=>by have:=hn x hx; omega
     have c3:=gX (m:=m) w.leases who p hll;have c5:=eM (m:=m) w.over hb.over;rw [ho] at c5;have c6:=ui (m:=m) v p (bE0 hv);rw [if_pos hv] at c6;obtain ⟨g,has,q1,q2,q3⟩:∃ (g:Ent) (has:Bool),nD (aA v p)=.tup [.agg g.c,.b has]∧(aA v p).isSome=has∧(aA v p).getD b9=g:=by
      cases hg:aA v p with
      | none=>exact ⟨b9,false,rfl,rfl,rfl⟩
      | some g=>exact ⟨g,true,rfl,rfl,rfl⟩
     rw [q1] at c6;rw [q2,q3];have c9:=fun (L:List Lse)=>ew (m:=m) { w with count:=w.count+1,leases:=L++[⟨who,p,w.count+1,w.clock+5⟩] } [anH h0,anH h1,anH h2] ⟨2,who,⟨p,has,g,w.count+1,w.clock+5⟩⟩ hb.nl h0 h1 h2 rfl
     simp only [bxI,bxJ,← Bq,← Br] at c9 ⊢;rcases eD (aW who p) w.leases with ⟨g1,g2⟩|⟨i,x,g1,g2,g3,g4⟩
     · rw [g1] at c3;rw [qd g2];have c9:=c9 w.leases;by_cases hw:w.waits=true
       rotate_left
       · have hw:w.waits=false:=by simpa using hw
         refine G0 Tryz.func150 ?_;repeat' first|refine Ra ⟨?_⟩|(refine ⟨[],_,_,_,_,0,⟨rfl,rfl,rfl,c3,rfl,rfl⟩,.inl ⟨[],trivial,rfl,.inl ⟨by simp [ay,aD,aj],by simp [aF,aG,aj,Ent.c,Mrk.c,Opn.c,Lse.c,Hld.c,Mes.c,az,anH]⟩,?_⟩⟩ <;> conv=>whnf)|refine R0 c5 ⟨?_⟩|refine R0 c6 ⟨?_⟩|refine Rk [0,9,2,3,4,5,6,7] 4 c9 ⟨?_⟩|refine Rd (fun h=>⟨?_⟩) fun h=>⟨?_⟩|refine Rb ⟨?_⟩|fail
         exact Rf
       · rw [decide_eq_false (fun hp=>hbad ⟨hw,hp⟩)] at c2;refine G0 Tryz.func150 ?_;repeat' first|refine Ra ⟨?_⟩|(refine ⟨[],_,_,_,_,1,⟨rfl,rfl,rfl,c1,rfl,rfl⟩,.inl ⟨[],trivial,rfl,.inl ⟨by simp [ay,aD,aj],by simp [aF,aG,aj,Ent.c,Mrk.c,Opn.c,Lse.c,Hld.c,Mes.c,az,anH]⟩,?_⟩⟩ <;> conv=>whnf)|refine R0 c2 ⟨?_⟩|(refine ⟨[],_,_,_,_,0,⟨rfl,rfl,rfl,c3,rfl,rfl⟩,.inl ⟨[],trivial,rfl,.inl ⟨by simp [ay,aD,aj],by simp [aF,aG,aj,Ent.c,Mrk.c,Opn.c,Lse.c,Hld.c,Mes.c,az,anH]⟩,?_⟩⟩ <;> conv=>whnf)|refine R0 c5 ⟨?_⟩|refine R0 c6 ⟨?_⟩|refine Rk [0,10,2,3,4,5,6,7] 4 c9 ⟨?_⟩|refine Rd (fun h=>⟨?_⟩) fun h=>⟨?_⟩|refine Rb ⟨?_⟩|fail
         exact Rf
     · rw [g1] at c3;have hi:=(List.getElem?_eq_some_iff.1 g2).1;rw [sI hu g2 g3 (hsml x (zAD g2))];have c4:=jy (m:=m) w.leases i hi hll;have c9:=c9 (w.leases.eraseIdx i);have e2:((w.leases.eraseIdx i).map Lse.c).length=(w.leases.eraseIdx i).length:=zAA ..;have e3:(w.leases.eraseIdx i).length≤w.leases.length:=by rw [zAk]; split <;> omega
       by_cases hw:w.waits=true
       rotate_left
       · have hw:w.waits=false:=by simpa using hw
         refine G0 Tryz.func150 ?_;repeat' first|refine Ra ⟨?_⟩|(refine ⟨[],_,_,_,_,0,⟨rfl,rfl,rfl,c3,rfl,rfl⟩,.inl ⟨[],trivial,rfl,.inl ⟨by simp [ay,aD,aj],by simp [aF,aG,aj,Ent.c,Mrk.c,Opn.c,Lse.c,Hld.c,Mes.c,az,anH]⟩,?_⟩⟩ <;> conv=>whnf)|refine Rk [1] 1 c4 ⟨?_⟩|refine R0 c5 ⟨?_⟩|refine R0 c6 ⟨?_⟩|refine Rk [0,10,2,3,4,5,6,7] 4 c9 ⟨?_⟩|refine Rd (fun h=>⟨?_⟩) fun h=>⟨?_⟩|refine Rb ⟨?_⟩|fail
         exact Rf
       · rw [decide_eq_false (fun hp=>hbad ⟨hw,hp⟩)] at c2;refine G0 Tryz.func150 ?_;repeat' first|refine Ra ⟨?_⟩|(refine ⟨[],_,_,_,_,1,⟨rfl,rfl,rfl,c1,rfl,rfl⟩,.inl ⟨[],trivial,rfl,.inl ⟨by simp [ay,aD,aj],by simp [aF,aG,aj,Ent.c,Mrk.c,Opn.c,Lse.c,Hld.c,Mes.c,az,anH]⟩,?_⟩⟩ <;> conv=>whnf)|refine R0 c2 ⟨?_⟩|(refine ⟨[],_,_,_,_,0,⟨rfl,rfl,rfl,c3,rfl,rfl⟩,.inl ⟨[],trivial,rfl,.inl ⟨by simp [ay,aD,aj],by simp [aF,aG,aj,Ent.c,Mrk.c,Opn.c,Lse.c,Hld.c,Mes.c,az,anH]⟩,?_⟩⟩ <;> conv=>whnf)|refine Rk [1] 1 c4 ⟨?_⟩|refine R0 c5 ⟨?_⟩|refine R0 c6 ⟨?_⟩|refine Rk [0,11,2,3,4,5,6,7] 4 c9 ⟨?_⟩|refine Rd (fun h=>⟨?_⟩) fun h=>⟨?_⟩|refine Rb ⟨?_⟩|fail
         exact Rf
variable {m:Int}
abbrev Ho (w:Wld) (L:List (List D)) (zs:List aE):ac:=[(0,.own 132 L),(1,.box 180 [.bp 2 0]),(2,.box 55 (wcG w 6 7 8 0 3 4 5)),(3,.deep 121 68 zs),(4,.own 3 (ck w.floors)),(5,.own 70 (w.net.map Mes.c)),(6,.fr (w.over.base.map Ent.c)),(7,.fr (w.over.layers.map cm)),(8,.fr (w.over.upper.map Mrk.c))]
abbrev JG (w:Wld) (L:List (List D)) (zs:List aE):ac:=[(0,.box 180 [.bp 1 0]),(1,.box 55 (wcG w 6 7 8 2 3 4 5)),(2,.own 132 L),(3,.deep 121 68 zs),(4,.own 3 (ck w.floors)),(5,.own 70 (w.net.map Mes.c)),(6,.fr (w.over.base.map Ent.c)),(7,.fr (w.over.layers.map cm)),(8,.fr (w.over.upper.map Mrk.c))]
theorem uX (w:Wld) (l:Lse) (L:List (List D)) (h0 h1 h2:List Hld):Con (E m) 148 9 [.agg l.c,.bp 0 0] (JG w L [anH h0,anH h1,anH h2]) (.b (gone w.clock l)) (JG w L [anH h0,anH h1,anH h2]):=by
 refine G0 Tryz.func148 ?_;repeat' first|refine Rx ⟨?_⟩|refine Rd (fun h=>⟨?_⟩) fun h=>⟨?_⟩|fail
 exact Rf
theorem rY (w:Wld) (ls:List Lse) (h0 h1 h2:List Hld) (hl:ls.length≤1048576):Con (E m) 211 9 [.own 0,.fn 148 [1]] (Ho w (ls.map Lse.c) [anH h0,anH h1,anH h2]) (.k .i64 (ixL (gone w.clock) ls)) (Ho w (ls.map Lse.c) [anH h0,anH h1,anH h2]):=by
 have e1:(ls.map Lse.c).length=ls.length:=zAA ..;refine G0 Tryz.func211 ?_;repeat' first|refine Rx ⟨?_⟩|refine Rd (fun h=>⟨?_⟩) fun h=>⟨?_⟩|fail
 refine Cd.loop2 (fun mq tm S nx=>∃ (i:Nat),mq=(ls.length - i)∧tm=[(0,.own 0),(1,.fn 148 [1]),(7,.k .i64 ((ls.map Lse.c).length:Int)),(8,.k .i64 i)]∧S=[(0,.own 132 (ls.map Lse.c)),(1,.box 180 [.bp 2 0]),(2,.box 55 (wcG w 6 7 8 0 3 4 5)),(3,.deep 121 68 [anH h0,anH h1,anH h2]),(4,.own 3 (ck w.floors)),(5,.own 70 (w.net.map Mes.c)),(6,.fr (w.over.base.map Ent.c)),(7,.fr (w.over.layers.map cm)),(8,.fr (w.over.upper.map Mrk.c))]∧nx=9∧(i≤ls.length)∧((ls.take i).all (fun x=>!gone w.clock x)=true)) ?_ ?_
 · refine la [0,1,7,8] ?_
   conv=>whnf
   refine ⟨rfl,rfl,_,0,rfl,rfl,rfl,rfl,by omega,by simp⟩
 · rintro mq tm S nx ⟨i,hn,rfl,rfl,rfl,hi,ha⟩;by_cases hlt:i < ls.length
   · have g1:ls[i]?=some ls[i]:=zAB hlt;generalize ls[i]=x at g1;have g5:(ls.map Lse.c)[i]?=some x.c:=mg g1;have c1:=uX (m:=m) w x (ls.map Lse.c) h0 h1 h2;cases hx:gone w.clock x with
     | true=>
       rw [hx] at c1;rw [lZ ha g1 hx];repeat' first|refine Ra ⟨?_⟩|refine Rk [1,2,0,3,4,5,6,7,8] 0 c1 ⟨?_⟩|((refine ⟨i,rfl,by omega,?_⟩) <;> conv=>whnf)|((refine ⟨_,g5,?_⟩) <;> conv=>whnf)|refine Rd (fun h=>⟨?_⟩) fun h=>⟨?_⟩|refine Rb ⟨?_⟩|fail
       exact Rf
     | false=>
       rw [hx] at c1;repeat' first|refine Ra ⟨?_⟩|refine Rk [1,2,0,3,4,5,6,7,8] 0 c1 ⟨?_⟩|((refine ⟨i,rfl,by omega,?_⟩) <;> conv=>whnf)|((refine ⟨_,g5,?_⟩) <;> conv=>whnf)|refine Rd (fun h=>⟨?_⟩) fun h=>⟨?_⟩|refine Rb ⟨?_⟩|fail
       refine .here ⟨mq - 1,by omega,?_⟩;refine la [0,1,7,8] ?_
       conv=>whnf
       refine ⟨rfl,rfl,i+1,(by omega),rfl,rfl,rfl,by omega,bN ha g1 (by simp [hx])⟩
   · rw [qa2 ha (by omega)];repeat' first|refine Rx ⟨?_⟩|refine Rd (fun h=>⟨?_⟩) fun h=>⟨?_⟩|fail
     exact Rf
theorem za (w:Wld) (ls:List Lse) (h0 h1 h2:List Hld) (hl:ls.length≤1048576) (i0:Nat) (x0:Lse) (g1:ixL (gone w.clock) ls=(i0:Int)) (g2:ls[i0]?=some x0) (g3:gone w.clock x0=true) (g4:(ls.take i0).all (fun y=>!gone w.clock y)=true) :
   Con (E m) 147 9 [.own 0,.fn 148 [1]] (Ho w (ls.map Lse.c) [anH h0,anH h1,anH h2]) (.own 9) [(1,.box 180 [.bp 2 0]),(2,.box 55 (wcG w 6 7 8 0 3 4 5)),(3,.deep 121 68 [anH h0,anH h1,anH h2]),(4,.own 3 (ck w.floors)),(5,.own 70 (w.net.map Mes.c)),(6,.fr (w.over.base.map Ent.c)),(7,.fr (w.over.layers.map cm)),(8,.fr (w.over.upper.map Mrk.c)),(9,.own 132 ((ls.filter (fun l=>!gone w.clock l)).map Lse.c))]:=by
 have e1:(ls.map Lse.c).length=ls.length:=zAA ..;have hi0:=(List.getElem?_eq_some_iff.1 g2).1;have c1:=cV (rY (m:=m) w ls h0 h1 h2 hl);rw [g1] at c1;refine cVE ?_;refine bK tF Ce Tryz.func147 rfl rfl rfl (zAC rfl) ?_;repeat' first|refine Ra ⟨?_⟩|refine Rk [0,1,2,3,4,5,6,7,8] 0 c1 ⟨?_⟩|refine Rd (fun h=>⟨?_⟩) fun h=>⟨?_⟩|refine Rb ⟨?_⟩|fail
 refine Cd.loop2 (fun mq tm S nx=>∃ (i:Nat) (j:Nat) (X:List Lse),mq=(ls.length - j)∧tm=[(0,.own 0),(1,.fn 148 [1]),(5,.k .i64 i),(6,.k .i64 j)]∧S=[(0,.own 132 (X.map Lse.c)),(1,.box 180 [.bp 2 0]),(2,.box 55 (wcG w 6 7 8 0 3 4 5)),(3,.deep 121 68 [anH h0,anH h1,anH h2]),(4,.own 3 (ck w.floors)),(5,.own 70 (w.net.map Mes.c)),(6,.fr (w.over.base.map Ent.c)),(7,.fr (w.over.layers.map cm)),(8,.fr (w.over.upper.map Mrk.c))]∧nx=9∧(j≤ls.length)∧(i < j)∧(X.length=ls.length)∧(X.take i=(ls.take j).filter (fun l=>!gone w.clock l))∧(X.drop j=ls.drop j)) ?_ ?_
 · refine la [0,1,5,6] ?_
   conv=>whnf
   refine ⟨rfl,rfl,_,i0,i0+1,ls,rfl,rfl,rfl,rfl,by omega,by omega,rfl,(by rw [jJ g2,if_pos g3,List.append_nil,zBV.2 (zAs.1 g4)]),rfl⟩
 · rintro mq tm S nx ⟨i,j,X,hn,rfl,rfl,rfl,hj,hij,hX,hk,hd⟩;have e2:(X.map Lse.c).length=X.length:=zAA ..;by_cases hlt:j < ls.length
   · have p1:ls[j]?=some ls[j]:=zAB hlt;generalize ls[j]=x at p1;have p2:X[j]?=some x:=by
      have:(X.drop j)[0]?=(ls.drop j)[0]?:=by rw [hd]
      rw [zAi,zAi,Nat.add_zero] at this;rw [this,p1]
     have p5:(X.map Lse.c)[j]?=some x.c:=mg p2;have hdr:X.drop (j+1)=ls.drop (j+1):=by rw [← zBb,← zBb,hd]
     have c2:=cV (uX (m:=m) w x (X.map Lse.c) h0 h1 h2);have hiX:i < X.length:=by omega
     have p6:(X.map Lse.c)[i]?=some (X[i]).c:=mg (zAB hiX);cases hx:gone w.clock x with
     | true=>
       rw [hx] at c2;repeat' first|refine Ra ⟨?_⟩|refine Rk [1,2,0,3,4,5,6,7,8] 0 c2 ⟨?_⟩|((refine ⟨j,rfl,by omega,?_⟩) <;> conv=>whnf)|((refine ⟨_,p5,?_⟩) <;> conv=>whnf)|refine Rd (fun h=>⟨?_⟩) fun h=>⟨?_⟩|refine Rb ⟨?_⟩|fail
       refine .here ⟨mq - 1,by omega,?_⟩;refine la [0,1,5,6] ?_
       conv=>whnf
       refine ⟨rfl,rfl,i,j+1,X,(by omega),rfl,rfl,rfl,by omega,by omega,hX,(by rw [jJ p1,hx,hk]; simp),hdr⟩
     | false=>
       rw [hx] at c2;repeat' first|refine Ra ⟨?_⟩|refine Rk [1,2,0,3,4,5,6,7,8] 0 c2 ⟨?_⟩|((refine ⟨j,rfl,by omega,?_⟩) <;> conv=>whnf)|((refine ⟨i,rfl,by omega,?_⟩) <;> conv=>whnf)|((refine ⟨_,p5,?_⟩) <;> conv=>whnf)|((refine ⟨(rfl:kA _ _=false),_,p6,zAC rfl,?_⟩) <;> conv=>whnf)|refine Rd (fun h=>⟨?_⟩) fun h=>⟨?_⟩|refine Rb ⟨?_⟩|fail
       refine .here ⟨mq - 1,by omega,?_⟩;refine la [0,1,5,6] ?_
       conv=>whnf
       refine ⟨rfl,rfl,i+1,j+1,X.set i x,(by omega),rfl,?_,rfl,by omega,by omega,(by simpa using hX),(by rw [jJ p1,hx,← hk,zAY,List.getElem?_set_self hiX,List.take_set_of_le (zAL _)]; simp),(by rw [List.drop_set_of_lt (by omega),hdr])⟩;rw [List.map_set];rfl
   · have:j=ls.length:=by omega
     subst this;have hiX:i≤X.length:=by omega
     rw [zAP] at hk;rw [← hk,← A9 Lse.c X i hiX (cellsOf (.agg [.k .i64 0,.s [],.k .i64 0,.k .i64 0]))];repeat' first|refine Ra ⟨?_⟩|((refine ⟨i,rfl,by omega,zAL _,?_⟩) <;> conv=>whnf)|((refine ⟨by omega,zAL _,?_⟩) <;> conv=>whnf)|((refine ⟨i,rfl,zAG _,by simp; omega,?_⟩) <;> conv=>whnf)|refine Rd (fun h=>⟨?_⟩) fun h=>⟨?_⟩|refine Rb ⟨?_⟩|fail
     refine ak.here (fw [.trim 4] ?_)
     conv=>whnf
     exact ⟨rfl,rfl,rfl,rfl⟩
theorem vL (w:Wld) (ls:List Lse) (h0 h1 h2:List Hld) (hl:ls.length≤1048576) (g1:ixL (gone w.clock) ls=-1) :
   Con (E m) 147 9 [.own 0,.fn 148 [1]] (Ho w (ls.map Lse.c) [anH h0,anH h1,anH h2]) (.own 0) (Ho w (ls.map Lse.c) [anH h0,anH h1,anH h2]):=by
 have c1:=cV (rY (m:=m) w ls h0 h1 h2 hl);rw [g1] at c1;refine cVE ?_;refine bK tF Ce Tryz.func147 rfl rfl rfl (zAC rfl) ?_;repeat' first|refine Ra ⟨?_⟩|refine Rk [0,1,2,3,4,5,6,7,8] 0 c1 ⟨?_⟩|refine Rd (fun h=>⟨?_⟩) fun h=>⟨?_⟩|refine Rb ⟨?_⟩|fail
 exact Rf
theorem FF (w:Wld) (zs:List aE) (hc:0≤w.clock∧w.clock≤10000) (hll:w.leases.length≤1048576) (h0 h1 h2:List Hld) (hz:zs=[anH h0,anH h1,anH h2]):Con (E m) 78 8 [.bp 0 0] (bxI w zs) (.tup []) (bxJ (ix w) zs):=by
 subst hz;have hclk:min (w.clock+1) 10000=eX w.clock:=by unfold eX; split <;> omega
 have hflt:w.leases.filter (fun l=>decide (eX w.clock < l.til))=w.leases.filter (fun l=>!gone (eX w.clock) l):=by
  congr 1
  funext l
  rw [zAK];simp only [decide_eq_true_eq,zAJ,decide_eq_false_iff_not];omega
 unfold ix;rw [hflt];rcases eD (gone (eX w.clock)) w.leases with ⟨g1,g2⟩|⟨i,x,g1,g2,g3,g4⟩
 · have c1:=vL (m:=m) { w with clock:=eX w.clock } w.leases h0 h1 h2 hll g1
   rw [zBV.2 (fun l hl=>by rw [g2 l hl]; rfl)];rw [← hclk] at c1 ⊢;refine G0 Tryz.func78 ?_;repeat' first|refine Ra ⟨?_⟩|((refine ⟨[1,8,0,2,3,4,5,6,7],_,_,_,_,0,⟨rfl,rfl,rfl,c1,rfl,rfl⟩,.inl ⟨[8],⟨rfl,trivial⟩,rfl,.inr rfl,?_⟩⟩) <;> conv=>whnf)|refine Rd (fun h=>⟨?_⟩) fun h=>⟨?_⟩|refine Rb ⟨?_⟩|fail
   refine ak.here (fw [.anew 1,.close 2,.anew 3,.anew 4] ?_)
   conv=>whnf
   exact ⟨rfl,rfl,rfl,rfl⟩
 · have c1:=za (m:=m) { w with clock:=eX w.clock } w.leases h0 h1 h2 hll i x g1 g2 g3 g4
   rw [← hclk] at c1 ⊢;refine G0 Tryz.func78 ?_;repeat' first|refine Ra ⟨?_⟩|((refine ⟨[1,8,0,2,3,4,5,6,7],_,_,_,_,1,⟨rfl,rfl,rfl,c1,rfl,rfl⟩,.inl ⟨[8],⟨rfl,trivial⟩,rfl,.inr rfl,?_⟩⟩) <;> conv=>whnf)|refine Rd (fun h=>⟨?_⟩) fun h=>⟨?_⟩|refine Rb ⟨?_⟩|fail
   refine ak.here (fw [.close 2,.anew 3,.anew 4] ?_)
   conv=>whnf
   exact ⟨rfl,rfl,rfl,rfl⟩
variable {m:Int}
theorem DA (w:Wld) (who:Int) (g:Hld) (hw3:0≤who∧who≤2) (h0 h1 h2:List Hld) (hh:w.holds=[h0,h1,h2]) (hf:w.floors.length=3) (hl:∀ l∈w.holds,l.length≤1048575) (hu:∀ l∈w.holds,l.Pairwise fun a b=>a.path≠b.path) :
   ∃ g0 g1 g2,(eY w who g).holds=[g0,g1,g2]∧Con (E m) 151 8 [.bp 0 0,.k .i64 who,.agg g.c] (bxI w [anH h0,anH h1,anH h2]) (.tup []) (bxJ (eY w who g) [anH g0,anH g1,anH g2]):=by
 obtain ⟨f0,f1,f2,hf⟩:=uT hf;rw [hh] at hl hu;unfold eY;obtain rfl|rfl|rfl:who=0∨who=1∨who=2:=by omega
 · have q1:bz w.floors 0=f0:=by rw [hf]; rfl
   have q2:aO w.holds 0=h0:=by rw [hh]; rfl
   rw [q1,q2];by_cases hc:w.clock < g.til∧f0 < g.num
   · rw [if_pos hc];exact ⟨cN h0 g,h1,h2,by simp [hh],sd (m:=m) w g h0 h1 h2 f0 f1 f2 hf (hl h0 (by simp)) (hu h0 (by simp)) hc.1 hc.2⟩
   · rw [if_neg hc];exact ⟨h0,h1,h2,hh,oY (m:=m) w g h0 h1 h2 f0 f1 f2 hf hc⟩
 · have q1:bz w.floors 1=f1:=by rw [hf]; rfl
   have q2:aO w.holds 1=h1:=by rw [hh]; rfl
   rw [q1,q2];by_cases hc:w.clock < g.til∧f1 < g.num
   · rw [if_pos hc];exact ⟨h0,cN h1 g,h2,by simp [hh],se (m:=m) w g h0 h1 h2 f0 f1 f2 hf (hl h1 (by simp)) (hu h1 (by simp)) hc.1 hc.2⟩
   · rw [if_neg hc];exact ⟨h0,h1,h2,hh,o4 (m:=m) w g h0 h1 h2 f0 f1 f2 hf hc⟩
 · have q1:bz w.floors 2=f2:=by rw [hf]; rfl
   have q2:aO w.holds 2=h2:=by rw [hh]; rfl
   rw [q1,q2];by_cases hc:w.clock < g.til∧f2 < g.num
   · rw [if_pos hc];exact ⟨h0,h1,cN h2 g,by simp [hh],sf (m:=m) w g h0 h1 h2 f0 f1 f2 hf (hl h2 (by simp)) (hu h2 (by simp)) hc.1 hc.2⟩
   · rw [if_neg hc];exact ⟨h0,h1,h2,hh,o5 (m:=m) w g h0 h1 h2 f0 f1 f2 hf hc⟩
theorem zi (w:Wld) (who:Int) (p:Bs) (n:Int) (hw3:0≤who∧who≤2) (hnl:w.net.length≤1048576) (h0 h1 h2:List Hld) (hh:w.holds=[h0,h1,h2]) (hf:w.floors.length=3) (hl:∀ l∈w.holds,l.length≤1048575) (hu:∀ l∈w.holds,l.Pairwise fun a b=>a.path≠b.path) :
   ∃ g0 g1 g2,(d7 w who p n).holds=[g0,g1,g2]∧Con (E m) 152 8 [.bp 0 0,.k .i64 who,.s p,.k .i64 n] (bxI w [anH h0,anH h1,anH h2]) (.tup []) (bxJ (d7 w who p n) [anH g0,anH g1,anH g2]):=by
 obtain ⟨f0,f1,f2,hf⟩:=uT hf;rw [hh] at hl hu;unfold d7;obtain rfl|rfl|rfl:who=0∨who=1∨who=2:=by omega
 · have q1:bz w.floors 0=f0:=by rw [hf]; rfl
   have q2:aO w.holds 0=h0:=by rw [hh]; rfl
   rw [q1,q2];refine ⟨bP h0 p n,h1,h2,by simp [hh],?_⟩
   have:=qX (m:=m) w p n hnl h0 h1 h2 f0 f1 f2 hf (hl h0 (by simp)) (hu h0 (by simp))
   rw [hf];exact this
 · have q1:bz w.floors 1=f1:=by rw [hf]; rfl
   have q2:aO w.holds 1=h1:=by rw [hh]; rfl
   rw [q1,q2];refine ⟨h0,bP h1 p n,h2,by simp [hh],?_⟩
   have:=qY (m:=m) w p n hnl h0 h1 h2 f0 f1 f2 hf (hl h1 (by simp)) (hu h1 (by simp))
   rw [hf];exact this
 · have q1:bz w.floors 2=f2:=by rw [hf]; rfl
   have q2:aO w.holds 2=h2:=by rw [hh]; rfl
   rw [q1,q2];refine ⟨h0,h1,bP h2 p n,by simp [hh],?_⟩
   have:=qZ (m:=m) w p n hnl h0 h1 h2 f0 f1 f2 hf (hl h2 (by simp)) (hu h2 (by simp))
   rw [hf];exact this
theorem zj (w:Wld) (k pos:Int) (hb:dO w) (hok:ba w=true) (hk:k=5∨k=6∨k=7) (hl:∀ l∈w.holds,l.length≤1048575) (h0 h1 h2:List Hld) (hh:w.holds=[h0,h1,h2]) :
   ∃ g0 g1 g2,(jb w k pos).1.holds=[g0,g1,g2]∧Con (E m) 79 8 [.bp 0 0,.k .i64 k,.k .i64 pos] (bxI w [anH h0,anH h1,anH h2]) (.k .i64 (jb w k pos).2) (bxJ (jb w k pos).1 [anH g0,anH g1,anH g2]):=by
 obtain ⟨t,v,ho,hw,hs⟩:=bB hok;have hnl:=hb.nl;have e1:(w.net.map Mes.c).length=w.net.length:=zAA ..;unfold jb;by_cases hp:pos < 0
 · rw [if_pos hp];refine ⟨h0,h1,h2,hh,?_⟩;refine G0 Tryz.func79 ?_;repeat' first|refine Rx ⟨?_⟩|refine Rd (fun h=>⟨?_⟩) fun h=>⟨?_⟩|fail
   refine ak.here (fw [.anew 1,.close 2,.anew 3,.anew 4] ?_)
   conv=>whnf
   exact ⟨rfl,rfl,rfl,rfl⟩
 · rw [if_neg hp];obtain ⟨i,rfl⟩:∃ i:Nat,pos=(i:Int):=⟨pos.toNat,by omega⟩;simp only [zBQ];cases hx:w.net[i]? with
   | none=>
     have hi:=List.getElem?_eq_none_iff.1 hx;refine ⟨h0,h1,h2,hh,?_⟩;refine G0 Tryz.func79 ?_;repeat' first|refine Rx ⟨?_⟩|refine Rd (fun h=>⟨?_⟩) fun h=>⟨?_⟩|fail
     refine ak.here (fw [.anew 1,.close 2,.anew 3,.anew 4] ?_)
     conv=>whnf
     exact ⟨rfl,rfl,rfl,rfl⟩
   | some x=>
     have hi:=(List.getElem?_eq_some_iff.1 hx).1;have g5:(w.net.map Mes.c)[i]?=some x.c:=mg hx;have hxm:=zAD hx;have hnt:=hw.nt x hxm;have c2:=uz (m:=m) w.net i hi hnl;have hlen:(w.net.eraseIdx i).length≤1048576:=by rw [zAk]; split <;> omega
     have hb1:dO { w with net:=w.net.eraseIdx i }:=⟨hb.over,hb.ls,hb.ll,hb.hs,hb.hl,hb.fl,fun y hy=>hb.nt y ((zBM _ _).subset hy),hlen,hb.op⟩
     by_cases h7:k=7
     · subst h7;simp only [if_pos];refine ⟨h0,h1,h2,hh,?_⟩;have c1:=ew (m:=m) w [anH h0,anH h1,anH h2] x hnl h0 h1 h2 rfl;refine G0 Tryz.func79 ?_;repeat' first|refine Ra ⟨?_⟩|refine Rk [0,1,2,3,4,5,6,7] 4 c1 ⟨?_⟩|((refine ⟨i,rfl,by omega,?_⟩) <;> conv=>whnf)|((refine ⟨_,g5,?_⟩) <;> conv=>whnf)|refine Rd (fun h=>⟨?_⟩) fun h=>⟨?_⟩|refine Rb ⟨?_⟩|fail
       exact Rf
     · simp only [if_neg h7];by_cases h6:k=6
       · subst h6;simp only [if_neg (by decide:¬ (6:Int)=5)];refine ⟨h0,h1,h2,hh,?_⟩;refine G0 Tryz.func79 ?_;repeat' first|refine Ra ⟨?_⟩|refine Rk [4] 1 c2 ⟨?_⟩|((refine ⟨i,rfl,by omega,?_⟩) <;> conv=>whnf)|((refine ⟨_,g5,?_⟩) <;> conv=>whnf)|refine Rd (fun h=>⟨?_⟩) fun h=>⟨?_⟩|refine Rb ⟨?_⟩|fail
         refine ak.here (fw [.anew 1,.close 2,.anew 3] ?_)
         conv=>whnf
         exact ⟨rfl,rfl,rfl,rfl⟩
       · have h5:k=5:=by omega
         subst h5;simp only [if_true];obtain ⟨kind,who,h⟩:=x;simp only at hnt;obtain ⟨⟨k1,k2⟩,hwho,hrest⟩:=hnt;obtain rfl|rfl|rfl|rfl:kind=1∨kind=2∨kind=3∨kind=4:=by omega
         · have hq:dA { w with net:=w.net.eraseIdx i } ⟨1,who,h⟩=ja { w with net:=w.net.eraseIdx i } who h.path:=by simp [dA]
           rw [hq];have c3:=zg (m:=m) { w with net:=w.net.eraseIdx i } [anH h0,anH h1,anH h2] who h.path hb1 ho hw.clk hw.cnt hw.lu (fun l hl=>(hw.ls l hl).2.2.2.1) h0 h1 h2 hh rfl
           refine ⟨h0,h1,h2,by unfold ja; split <;> exact hh,?_⟩;generalize ja { w with net:=w.net.eraseIdx i } who h.path=W at c3
           refine G0 Tryz.func79 ?_;repeat' first|refine Ra ⟨?_⟩|refine Rk [4] 1 c2 ⟨?_⟩|refine Rk [0,1,2,3,9,5,6,7] 4 c3 ⟨?_⟩|((refine ⟨i,rfl,by omega,?_⟩) <;> conv=>whnf)|((refine ⟨_,g5,?_⟩) <;> conv=>whnf)|refine Rd (fun h=>⟨?_⟩) fun h=>⟨?_⟩|refine Rb ⟨?_⟩|fail
           exact Rf
         · have hq:dA { w with net:=w.net.eraseIdx i } ⟨2,who,h⟩=eY { w with net:=w.net.eraseIdx i } who h:=by simp [dA]
           rw [hq];obtain ⟨g0,g1,g2,hg,c3⟩:=DA (m:=m) { w with net:=w.net.eraseIdx i } who h hwho h0 h1 h2 hh hw.fl hl hw.hu
           refine ⟨g0,g1,g2,hg,?_⟩;generalize eY { w with net:=w.net.eraseIdx i } who h=W at c3
           refine G0 Tryz.func79 ?_;repeat' first|refine Ra ⟨?_⟩|refine Rk [4] 1 c2 ⟨?_⟩|refine Rk [0,1,2,3,9,5,6,7] 4 c3 ⟨?_⟩|((refine ⟨i,rfl,by omega,?_⟩) <;> conv=>whnf)|((refine ⟨_,g5,?_⟩) <;> conv=>whnf)|refine Rd (fun h=>⟨?_⟩) fun h=>⟨?_⟩|refine Rb ⟨?_⟩|fail
           exact Rf
         · have hq:dA { w with net:=w.net.eraseIdx i } ⟨3,who,h⟩=d7 { w with net:=w.net.eraseIdx i } who h.path h.num:=by simp [dA]
           rw [hq];obtain ⟨g0,g1,g2,hg,c3⟩:=zi (m:=m) { w with net:=w.net.eraseIdx i } who h.path h.num hwho hlen h0 h1 h2 hh hw.fl hl hw.hu
           refine ⟨g0,g1,g2,hg,?_⟩;generalize d7 { w with net:=w.net.eraseIdx i } who h.path h.num=W at c3
           refine G0 Tryz.func79 ?_;repeat' first|refine Ra ⟨?_⟩|refine Rk [4] 1 c2 ⟨?_⟩|refine Rk [0,1,2,3,9,5,6,7] 4 c3 ⟨?_⟩|((refine ⟨i,rfl,by omega,?_⟩) <;> conv=>whnf)|((refine ⟨_,g5,?_⟩) <;> conv=>whnf)|refine Rd (fun h=>⟨?_⟩) fun h=>⟨?_⟩|refine Rb ⟨?_⟩|fail
           exact Rf
         · have hq:dA { w with net:=w.net.eraseIdx i } ⟨4,who,h⟩=iy { w with net:=w.net.eraseIdx i } who h.path h.num:=by simp [dA]
           rw [hq];have c3:=vJ (m:=m) { w with net:=w.net.eraseIdx i } [anH h0,anH h1,anH h2] who h.path h.num hb.ll hw.lu h0 h1 h2 rfl
           refine ⟨h0,h1,h2,hh,?_⟩;generalize iy { w with net:=w.net.eraseIdx i } who h.path h.num=W at c3
           refine G0 Tryz.func79 ?_;repeat' first|refine Ra ⟨?_⟩|refine Rk [4] 1 c2 ⟨?_⟩|refine Rk [0,1,2,3,9,5,6,7] 4 c3 ⟨?_⟩|((refine ⟨i,rfl,by omega,?_⟩) <;> conv=>whnf)|((refine ⟨_,g5,?_⟩) <;> conv=>whnf)|refine Rd (fun h=>⟨?_⟩) fun h=>⟨?_⟩|refine Rb ⟨?_⟩|fail
           exact Rf
end Go.Proofs.YtagejnomlkfndaaGreatDoor
