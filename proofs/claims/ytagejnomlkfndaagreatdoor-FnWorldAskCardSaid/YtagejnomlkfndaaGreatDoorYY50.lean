/- Texts of this claim, set close: lemmas and contracts. -/
import Derived.Test.YtagejnomlkfndaaGreatDoorYY39
import Derived.Test.YtagejnomlkfndaaGreatDoorYY47
set_option linter.unusedSimpArgs false
set_option linter.unusedVariables false
set_option maxHeartbeats 1000000
set_option maxRecDepth 10000
namespace Go.Proofs.YtagejnomlkfndaaGreatDoor
open Go Go.RowKit Go.Ab Go.Par
variable {m:Int}
theorem Dy (w:Wld) (a b c d:Nat) (zs:List aE) (F N:List (List D)) (l:List Lse) (x:Lse):bxR w a b c d (l.map Lse.c++[x.c]) zs F N=bxR w a b c d ((l++[x]).map Lse.c) zs F N:=by rw [zAH]; rfl
theorem Bm (w:Wld) (zs:List aE) (who:Int) (p:Bs) (hb:dO w) {t v:List Ent} (ho:bv w.over=some (t,v)) (hcl:0≤w.clock∧w.clock≤10000) (hct:0≤w.count∧w.count≤10000)
   (hu:w.leases.Pairwise fun a b=>¬ (a.who=b.who∧a.path=b.path)) (hn:∀ l∈w.leases,l.num≤w.count) (h0 h1 h2:List Hld) (hh:w.holds=[h0,h1,h2]) (hz:zs=[anH h0,anH h1,anH h2]) :
   Con (E m) 150 5 [.bp 0 0,.k .i64 who,.s p] (bxT w 1 2 3 4 zs) (.tup []) (bxT (ja w who p) 5 6 7 8 zs):=by
 subst hz;have hll:=hb.ll;have hv:=(ce ho).2.2.2;have hs:Go.Par.seen w.over=v:=by rw [Go.Par.seen,ho]
 have c1:=qa4 (m:=m) w w.op hb hb.op ho;rw [Wld.c,hh] at c1;have htl:(cf v w.op).length≤1048576:=by
  unfold cf;split
  · have:=fX v (aJ v w.op).1
    omega
  · simp
 have c2:=l4 (m:=m) (cf v w.op) p htl;have e1:(w.leases.map Lse.c).length=w.leases.length:=zAA ..;unfold ja;rw [hs];by_cases hc:w.count=10000
 · rw [if_pos (.inr (by omega))];refine G0 Tryz.func150 ?_;repeat' first|refine Rx ⟨?_⟩|refine Rd (fun h=>⟨?_⟩) fun h=>⟨?_⟩|fail
   refine ak.here (fw [.anew 1,.close 2,.anew 3,.anew 4] ?_)
   conv=>whnf
   exact ⟨rfl,rfl,rfl,rfl⟩
 · have hc':¬ 10000≤w.count:=by omega
   by_cases hbad:w.waits=true∧p∈cf v w.op
   · rw [if_pos (.inl hbad)];obtain ⟨hw,hp⟩:=hbad;rw [decide_eq_true hp] at c2;refine G0 Tryz.func150 ?_;repeat' first|refine Ra ⟨?_⟩|(refine ⟨[],_,_,_,_,1,⟨rfl,rfl,rfl,c1,rfl,rfl⟩,.inl ⟨[],trivial,rfl,.inl ⟨by simp [ay,aD,aj],by simp [aF,aG,aj,Ent.c,Mrk.c,Opn.c,Lse.c,Hld.c,Mes.c,az,anH]⟩,?_⟩⟩ <;> conv=>whnf)|refine R0 c2 ⟨?_⟩|refine Rd (fun h=>⟨?_⟩) fun h=>⟨?_⟩|refine Rb ⟨?_⟩|fail
     refine ak.here (fw [.anew 1,.close 2,.anew 3,.anew 4] ?_)
     conv=>whnf
     exact ⟨rfl,rfl,rfl,rfl⟩
   · rw [if_neg (by rintro (h|h); exact hbad h; exact hc' h)];have hsml:∀ x∈w.leases,x.num≤w.count+1:=fun x hx=>by have:=hn x hx; omega
     have c3:=gX (m:=m) w.leases who p hll;have c5:=eM (m:=m) w.over hb.over;rw [ho] at c5;have c6:=ui (m:=m) v p (bE0 hv);rw [if_pos hv] at c6;obtain ⟨g,has,q1,q2,q3⟩:∃ (g:Ent) (has:Bool),nD (aA v p)=.tup [.agg g.c,.b has]∧(aA v p).isSome=has∧(aA v p).getD b9=g:=by
      cases hg:aA v p with
      | none=>exact ⟨b9,false,rfl,rfl,rfl⟩
      | some g=>exact ⟨g,true,rfl,rfl,rfl⟩
     rw [q1] at c6;rw [q2,q3];have c9:=fun (L:List Lse)=>fc (m:=m) { w with count:=w.count+1,leases:=L++[⟨who,p,w.count+1,w.clock+5⟩] } [anH h0,anH h1,anH h2] ⟨2,who,⟨p,has,g,w.count+1,w.clock+5⟩⟩ hb.nl h0 h1 h2 rfl
     simp only [bxT,← Dy] at c9 ⊢;rcases eD (aW who p) w.leases with ⟨g1,g2⟩|⟨i,x,g1,g2,g3,g4⟩
     · rw [g1] at c3;rw [qd g2];have c9:=c9 w.leases;by_cases hw:w.waits=true
       rotate_left
       · have hw:w.waits=false:=by simpa using hw
         refine G0 Tryz.func150 ?_;repeat' first|refine Ra ⟨?_⟩|(refine ⟨[],_,_,_,_,0,⟨rfl,rfl,rfl,c3,rfl,rfl⟩,.inl ⟨[],trivial,rfl,.inl ⟨by simp [ay,aD,aj],by simp [aF,aG,aj,Ent.c,Mrk.c,Opn.c,Lse.c,Hld.c,Mes.c,az,anH]⟩,?_⟩⟩ <;> conv=>whnf)|refine R0 c5 ⟨?_⟩|refine R0 c6 ⟨?_⟩|refine Rk [0,6,2,3,4] 4 c9 ⟨?_⟩|refine Rd (fun h=>⟨?_⟩) fun h=>⟨?_⟩|refine Rb ⟨?_⟩|fail
         exact Rf
       · rw [decide_eq_false (fun hp=>hbad ⟨hw,hp⟩)] at c2;refine G0 Tryz.func150 ?_;repeat' first|refine Ra ⟨?_⟩|(refine ⟨[],_,_,_,_,1,⟨rfl,rfl,rfl,c1,rfl,rfl⟩,.inl ⟨[],trivial,rfl,.inl ⟨by simp [ay,aD,aj],by simp [aF,aG,aj,Ent.c,Mrk.c,Opn.c,Lse.c,Hld.c,Mes.c,az,anH]⟩,?_⟩⟩ <;> conv=>whnf)|refine R0 c2 ⟨?_⟩|(refine ⟨[],_,_,_,_,0,⟨rfl,rfl,rfl,c3,rfl,rfl⟩,.inl ⟨[],trivial,rfl,.inl ⟨by simp [ay,aD,aj],by simp [aF,aG,aj,Ent.c,Mrk.c,Opn.c,Lse.c,Hld.c,Mes.c,az,anH]⟩,?_⟩⟩ <;> conv=>whnf)|refine R0 c5 ⟨?_⟩|refine R0 c6 ⟨?_⟩|refine Rk [0,7,2,3,4] 4 c9 ⟨?_⟩|refine Rd (fun h=>⟨?_⟩) fun h=>⟨?_⟩|refine Rb ⟨?_⟩|fail
         exact Rf
     · rw [g1] at c3;have hi:=(List.getElem?_eq_some_iff.1 g2).1;rw [sI hu g2 g3 (hsml x (zAD g2))];have c4:=jy (m:=m) w.leases i hi hll;have c9:=c9 (w.leases.eraseIdx i);have e2:((w.leases.eraseIdx i).map Lse.c).length=(w.leases.eraseIdx i).length:=zAA ..;have e3:(w.leases.eraseIdx i).length≤w.leases.length:=by rw [zAk]; split <;> omega
       by_cases hw:w.waits=true
       rotate_left
       · have hw:w.waits=false:=by simpa using hw
         refine G0 Tryz.func150 ?_;repeat' first|refine Ra ⟨?_⟩|(refine ⟨[],_,_,_,_,0,⟨rfl,rfl,rfl,c3,rfl,rfl⟩,.inl ⟨[],trivial,rfl,.inl ⟨by simp [ay,aD,aj],by simp [aF,aG,aj,Ent.c,Mrk.c,Opn.c,Lse.c,Hld.c,Mes.c,az,anH]⟩,?_⟩⟩ <;> conv=>whnf)|refine Rk [1] 1 c4 ⟨?_⟩|refine R0 c5 ⟨?_⟩|refine R0 c6 ⟨?_⟩|refine Rk [0,7,2,3,4] 4 c9 ⟨?_⟩|refine Rd (fun h=>⟨?_⟩) fun h=>⟨?_⟩|refine Rb ⟨?_⟩|fail
         exact Rf
       · rw [decide_eq_false (fun hp=>hbad ⟨hw,hp⟩)] at c2;refine G0 Tryz.func150 ?_;repeat' first|refine Ra ⟨?_⟩|(refine ⟨[],_,_,_,_,1,⟨rfl,rfl,rfl,c1,rfl,rfl⟩,.inl ⟨[],trivial,rfl,.inl ⟨by simp [ay,aD,aj],by simp [aF,aG,aj,Ent.c,Mrk.c,Opn.c,Lse.c,Hld.c,Mes.c,az,anH]⟩,?_⟩⟩ <;> conv=>whnf)|refine R0 c2 ⟨?_⟩|(refine ⟨[],_,_,_,_,0,⟨rfl,rfl,rfl,c3,rfl,rfl⟩,.inl ⟨[],trivial,rfl,.inl ⟨by simp [ay,aD,aj],by simp [aF,aG,aj,Ent.c,Mrk.c,Opn.c,Lse.c,Hld.c,Mes.c,az,anH]⟩,?_⟩⟩ <;> conv=>whnf)|refine Rk [1] 1 c4 ⟨?_⟩|refine R0 c5 ⟨?_⟩|refine R0 c6 ⟨?_⟩|refine Rk [0,8,2,3,4] 4 c9 ⟨?_⟩|refine Rd (fun h=>⟨?_⟩) fun h=>⟨?_⟩|refine Rb ⟨?_⟩|fail
         exact Rf
variable {m:Int}
theorem FK (w:Wld) (who:Int) (g:Hld) (hw3:0≤who∧who≤2) (h0 h1 h2:List Hld) (hh:w.holds=[h0,h1,h2]) (hf:w.floors.length=3) (hl:∀ l∈w.holds,l.length≤1048575) (hu:∀ l∈w.holds,l.Pairwise fun a b=>a.path≠b.path) :
   ∃ g0 g1 g2,(eY w who g).holds=[g0,g1,g2]∧Con (E m) 151 5 [.bp 0 0,.k .i64 who,.agg g.c] (bxT w 1 2 3 4 [anH h0,anH h1,anH h2]) (.tup []) (bxT (eY w who g) 5 6 7 8 [anH g0,anH g1,anH g2]):=by
 obtain ⟨f0,f1,f2,hf⟩:=uT hf;rw [hh] at hl hu;unfold eY;obtain rfl|rfl|rfl:who=0∨who=1∨who=2:=by omega
 · have q1:bz w.floors 0=f0:=by rw [hf]; rfl
   have q2:aO w.holds 0=h0:=by rw [hh]; rfl
   rw [q1,q2];by_cases hc:w.clock < g.til∧f0 < g.num
   · rw [if_pos hc];exact ⟨cN h0 g,h1,h2,by simp [hh],uU (m:=m) w g h0 h1 h2 f0 f1 f2 hf (hl h0 (by simp)) (hu h0 (by simp)) hc.1 hc.2⟩
   · rw [if_neg hc];exact ⟨h0,h1,h2,hh,qg (m:=m) w g h0 h1 h2 f0 f1 f2 hf hc⟩
 · have q1:bz w.floors 1=f1:=by rw [hf]; rfl
   have q2:aO w.holds 1=h1:=by rw [hh]; rfl
   rw [q1,q2];by_cases hc:w.clock < g.til∧f1 < g.num
   · rw [if_pos hc];exact ⟨h0,cN h1 g,h2,by simp [hh],uV (m:=m) w g h0 h1 h2 f0 f1 f2 hf (hl h1 (by simp)) (hu h1 (by simp)) hc.1 hc.2⟩
   · rw [if_neg hc];exact ⟨h0,h1,h2,hh,qh (m:=m) w g h0 h1 h2 f0 f1 f2 hf hc⟩
 · have q1:bz w.floors 2=f2:=by rw [hf]; rfl
   have q2:aO w.holds 2=h2:=by rw [hh]; rfl
   rw [q1,q2];by_cases hc:w.clock < g.til∧f2 < g.num
   · rw [if_pos hc];exact ⟨h0,h1,cN h2 g,by simp [hh],uW (m:=m) w g h0 h1 h2 f0 f1 f2 hf (hl h2 (by simp)) (hu h2 (by simp)) hc.1 hc.2⟩
   · rw [if_neg hc];exact ⟨h0,h1,h2,hh,qi (m:=m) w g h0 h1 h2 f0 f1 f2 hf hc⟩
theorem Bo (w:Wld) (who:Int) (p:Bs) (n:Int) (hw3:0≤who∧who≤2) (hnl:w.net.length≤1048576) (h0 h1 h2:List Hld) (hh:w.holds=[h0,h1,h2]) (hf:w.floors.length=3) (hl:∀ l∈w.holds,l.length≤1048575) (hu:∀ l∈w.holds,l.Pairwise fun a b=>a.path≠b.path) :
   ∃ g0 g1 g2,(d7 w who p n).holds=[g0,g1,g2]∧Con (E m) 152 5 [.bp 0 0,.k .i64 who,.s p,.k .i64 n] (bxT w 1 2 3 4 [anH h0,anH h1,anH h2]) (.tup []) (bxT (d7 w who p n) 5 6 7 8 [anH g0,anH g1,anH g2]):=by
 obtain ⟨f0,f1,f2,hf⟩:=uT hf;rw [hh] at hl hu;unfold d7;obtain rfl|rfl|rfl:who=0∨who=1∨who=2:=by omega
 · have q1:bz w.floors 0=f0:=by rw [hf]; rfl
   have q2:aO w.holds 0=h0:=by rw [hh]; rfl
   rw [q1,q2];refine ⟨bP h0 p n,h1,h2,by simp [hh],?_⟩
   have:=sa (m:=m) w p n hnl h0 h1 h2 f0 f1 f2 hf (hl h0 (by simp)) (hu h0 (by simp))
   rw [hf];exact this
 · have q1:bz w.floors 1=f1:=by rw [hf]; rfl
   have q2:aO w.holds 1=h1:=by rw [hh]; rfl
   rw [q1,q2];refine ⟨h0,bP h1 p n,h2,by simp [hh],?_⟩
   have:=sb (m:=m) w p n hnl h0 h1 h2 f0 f1 f2 hf (hl h1 (by simp)) (hu h1 (by simp))
   rw [hf];exact this
 · have q1:bz w.floors 2=f2:=by rw [hf]; rfl
   have q2:aO w.holds 2=h2:=by rw [hh]; rfl
   rw [q1,q2];refine ⟨h0,h1,bP h2 p n,by simp [hh],?_⟩
   have:=sc (m:=m) w p n hnl h0 h1 h2 f0 f1 f2 hf (hl h2 (by simp)) (hu h2 (by simp))
   rw [hf];exact this
theorem Bp (w:Wld) (k pos:Int) (hb:dO w) (hok:ba w=true) (hk:k=5∨k=6∨k=7) (hl:∀ l∈w.holds,l.length≤1048575) (h0 h1 h2:List Hld) (hh:w.holds=[h0,h1,h2]) :
   ∃ g0 g1 g2,(jb w k pos).1.holds=[g0,g1,g2]∧Con (E m) 79 5 [.bp 0 0,.k .i64 k,.k .i64 pos] (bxT w 1 2 3 4 [anH h0,anH h1,anH h2]) (.k .i64 (jb w k pos).2) (bxT (jb w k pos).1 5 6 7 8 [anH g0,anH g1,anH g2]):=by
 obtain ⟨t,v,ho,hw,hs⟩:=bB hok;have hnl:=hb.nl;have e1:(w.net.map Mes.c).length=w.net.length:=zAA ..;unfold jb;by_cases hp:pos < 0
 · rw [if_pos hp];refine ⟨h0,h1,h2,hh,?_⟩;refine G0 Tryz.func79 ?_;repeat' first|refine Rx ⟨?_⟩|refine Rd (fun h=>⟨?_⟩) fun h=>⟨?_⟩|fail
   refine ak.here (fw [.anew 1,.close 2,.anew 3,.anew 4] ?_)
   conv=>whnf
   exact ⟨rfl,rfl,rfl,rfl⟩
 · rw [if_neg hp];obtain ⟨i,rfl⟩:∃ i:Nat,pos=(i:Int):=⟨pos.toNat,by omega⟩;simp only [zBQ];cases hx:w.net[i]? with
   | none=>
     have hi:=List.getElem?_eq_none_iff.1 hx;refine ⟨h0,h1,h2,hh,?_⟩;refine G0 Tryz.func79 ?_;repeat' first|refine Rx ⟨?_⟩|refine Rd (fun h=>⟨?_⟩) fun h=>⟨?_⟩|fail
     refine ak.here (fw [.anew 1,.close 2,.anew 3,.anew 4] ?_)
     conv=>whnf
     exact ⟨rfl,rfl,rfl,rfl⟩
   | some x=>
     have hi:=(List.getElem?_eq_some_iff.1 hx).1;have g5:(w.net.map Mes.c)[i]?=some x.c:=mg hx;have hxm:=zAD hx;have hnt:=hw.nt x hxm;have c2:=uz (m:=m) w.net i hi hnl;have hlen:(w.net.eraseIdx i).length≤1048576:=by rw [zAk]; split <;> omega
     have hb1:dO { w with net:=w.net.eraseIdx i }:=⟨hb.over,hb.ls,hb.ll,hb.hs,hb.hl,hb.fl,fun y hy=>hb.nt y ((zBM _ _).subset hy),hlen,hb.op⟩
     by_cases h7:k=7
     · subst h7;simp only [if_pos];refine ⟨h0,h1,h2,hh,?_⟩;have c1:=fc (m:=m) w [anH h0,anH h1,anH h2] x hnl h0 h1 h2 rfl;refine G0 Tryz.func79 ?_;repeat' first|refine Ra ⟨?_⟩|refine Rk [0,1,2,3,4] 4 c1 ⟨?_⟩|((refine ⟨i,rfl,by omega,?_⟩) <;> conv=>whnf)|((refine ⟨_,g5,?_⟩) <;> conv=>whnf)|refine Rd (fun h=>⟨?_⟩) fun h=>⟨?_⟩|refine Rb ⟨?_⟩|fail
       exact Rf
     · simp only [if_neg h7];by_cases h6:k=6
       · subst h6;simp only [if_neg (by decide:¬ (6:Int)=5)];refine ⟨h0,h1,h2,hh,?_⟩;refine G0 Tryz.func79 ?_;repeat' first|refine Ra ⟨?_⟩|refine Rk [4] 1 c2 ⟨?_⟩|((refine ⟨i,rfl,by omega,?_⟩) <;> conv=>whnf)|((refine ⟨_,g5,?_⟩) <;> conv=>whnf)|refine Rd (fun h=>⟨?_⟩) fun h=>⟨?_⟩|refine Rb ⟨?_⟩|fail
         refine ak.here (fw [.anew 1,.close 2,.anew 3] ?_)
         conv=>whnf
         exact ⟨rfl,rfl,rfl,rfl⟩
       · have h5:k=5:=by omega
         subst h5;simp only [if_true];obtain ⟨kind,who,h⟩:=x;simp only at hnt;obtain ⟨⟨k1,k2⟩,hwho,hrest⟩:=hnt;obtain rfl|rfl|rfl|rfl:kind=1∨kind=2∨kind=3∨kind=4:=by omega
         · have hq:dA { w with net:=w.net.eraseIdx i } ⟨1,who,h⟩=ja { w with net:=w.net.eraseIdx i } who h.path:=by simp [dA]
           rw [hq];have c3:=Bm (m:=m) { w with net:=w.net.eraseIdx i } [anH h0,anH h1,anH h2] who h.path hb1 ho hw.clk hw.cnt hw.lu (fun l hl=>(hw.ls l hl).2.2.2.1) h0 h1 h2 hh rfl
           refine ⟨h0,h1,h2,by unfold ja; split <;> exact hh,?_⟩;generalize ja { w with net:=w.net.eraseIdx i } who h.path=W at c3
           refine G0 Tryz.func79 ?_;repeat' first|refine Ra ⟨?_⟩|refine Rk [4] 1 c2 ⟨?_⟩|refine Rk [0,1,2,3,6] 4 c3 ⟨?_⟩|((refine ⟨i,rfl,by omega,?_⟩) <;> conv=>whnf)|((refine ⟨_,g5,?_⟩) <;> conv=>whnf)|refine Rd (fun h=>⟨?_⟩) fun h=>⟨?_⟩|refine Rb ⟨?_⟩|fail
           exact Rf
         · have hq:dA { w with net:=w.net.eraseIdx i } ⟨2,who,h⟩=eY { w with net:=w.net.eraseIdx i } who h:=by simp [dA]
           rw [hq];obtain ⟨g0,g1,g2,hg,c3⟩:=FK (m:=m) { w with net:=w.net.eraseIdx i } who h hwho h0 h1 h2 hh hw.fl hl hw.hu
           refine ⟨g0,g1,g2,hg,?_⟩;generalize eY { w with net:=w.net.eraseIdx i } who h=W at c3
           refine G0 Tryz.func79 ?_;repeat' first|refine Ra ⟨?_⟩|refine Rk [4] 1 c2 ⟨?_⟩|refine Rk [0,1,2,3,6] 4 c3 ⟨?_⟩|((refine ⟨i,rfl,by omega,?_⟩) <;> conv=>whnf)|((refine ⟨_,g5,?_⟩) <;> conv=>whnf)|refine Rd (fun h=>⟨?_⟩) fun h=>⟨?_⟩|refine Rb ⟨?_⟩|fail
           exact Rf
         · have hq:dA { w with net:=w.net.eraseIdx i } ⟨3,who,h⟩=d7 { w with net:=w.net.eraseIdx i } who h.path h.num:=by simp [dA]
           rw [hq];obtain ⟨g0,g1,g2,hg,c3⟩:=Bo (m:=m) { w with net:=w.net.eraseIdx i } who h.path h.num hwho hlen h0 h1 h2 hh hw.fl hl hw.hu
           refine ⟨g0,g1,g2,hg,?_⟩;generalize d7 { w with net:=w.net.eraseIdx i } who h.path h.num=W at c3
           refine G0 Tryz.func79 ?_;repeat' first|refine Ra ⟨?_⟩|refine Rk [4] 1 c2 ⟨?_⟩|refine Rk [0,1,2,3,6] 4 c3 ⟨?_⟩|((refine ⟨i,rfl,by omega,?_⟩) <;> conv=>whnf)|((refine ⟨_,g5,?_⟩) <;> conv=>whnf)|refine Rd (fun h=>⟨?_⟩) fun h=>⟨?_⟩|refine Rb ⟨?_⟩|fail
           exact Rf
         · have hq:dA { w with net:=w.net.eraseIdx i } ⟨4,who,h⟩=iy { w with net:=w.net.eraseIdx i } who h.path h.num:=by simp [dA]
           rw [hq];have c3:=yW (m:=m) { w with net:=w.net.eraseIdx i } [anH h0,anH h1,anH h2] who h.path h.num hb.ll hw.lu h0 h1 h2 rfl
           refine ⟨h0,h1,h2,hh,?_⟩;generalize iy { w with net:=w.net.eraseIdx i } who h.path h.num=W at c3
           refine G0 Tryz.func79 ?_;repeat' first|refine Ra ⟨?_⟩|refine Rk [4] 1 c2 ⟨?_⟩|refine Rk [0,1,2,3,6] 4 c3 ⟨?_⟩|((refine ⟨i,rfl,by omega,?_⟩) <;> conv=>whnf)|((refine ⟨_,g5,?_⟩) <;> conv=>whnf)|refine Rd (fun h=>⟨?_⟩) fun h=>⟨?_⟩|refine Rb ⟨?_⟩|fail
           exact Rf
variable {m:Int}
theorem zh (w:Wld) (e:Evn) (hb:dO w) (hl:∀ l∈w.holds,l.length≤1048575) (he:ql e):Con (E m) 22 0 [.agg w.c,.agg e.c] [] (.tup [.agg (bX w e).1.c,.k .i64 (bX w e).2]) []:=by
 have c1:=l5 (m:=m) w hb;by_cases hok:ba w=true
 rotate_left
 · have hok:ba w=false:=by simpa using hok
   rw [hok] at c1;have hx:bX w e=(w0,1):=by rw [bX,hok]; rfl
   rw [hx];refine G0 Tryz.func22 ?_;repeat' first|refine Ra ⟨?_⟩|refine R0 c1 ⟨?_⟩|refine Rd (fun h=>⟨?_⟩) fun h=>⟨?_⟩|refine Rb ⟨?_⟩|fail
   exact Rz
 · rw [hok] at c1;have hx:bX w e=wDo w e:=by rw [bX,if_pos hok]
   rw [hx];obtain ⟨t,v,ho,hw,hs⟩:=bB hok;obtain ⟨h0,h1,h2,hh⟩:=Bb hw.hl;have c2:=vG (m:=m) w hb h0 h1 h2 hh;have hep:=he.path;obtain ⟨kind,who,p,op,pos⟩:=e;simp only at hep;unfold wDo;by_cases k1:kind=1
   · simp only [if_pos k1];subst k1;have c4:=nv (m:=m) who;have c5:=cu (m:=m) p (by omega);by_cases hwp:dJ who=true∧ah p=true
     · rw [hwp.1] at c4;rw [hwp.2] at c5;have q:(dJ who && ah p)=true:=by rw [hwp.1,hwp.2]; rfl
       simp only [q,if_true];have c3:=fc (m:=m) w [anH h0,anH h1,anH h2] ⟨1,who,aZ p 0⟩ hb.nl h0 h1 h2 rfl;rw [dV (w:={ w with net:=bZ w.net ⟨1,who,aZ p 0⟩ }) hh]
       refine G0 Tryz.func22 ?_;repeat' first|refine Ra ⟨?_⟩|refine R0 c1 ⟨?_⟩|refine Rk [] 4 c2 ⟨?_⟩|refine R0 c4 ⟨?_⟩|refine R0 c5 ⟨?_⟩|refine Rk [7,3,4,5,6] 4 c3 ⟨?_⟩|refine Rd (fun h=>⟨?_⟩) fun h=>⟨?_⟩|refine Rb ⟨?_⟩|fail
       exact Rz
     · have q:(dJ who && ah p)=false:=by rw [← zAZ]; simpa using hwp
       rw [q];simp only [zAF,if_false];rw [dV hh] at c1 c2 ⊢;by_cases hw1:dJ who=true
       · have hp1:ah p=false:=by rw [← zAZ]; exact fun h=>hwp ⟨hw1,h⟩
         rw [hw1] at c4;rw [hp1] at c5;refine G0 Tryz.func22 ?_;repeat' first|refine Ra ⟨?_⟩|refine R0 c1 ⟨?_⟩|refine Rk [] 4 c2 ⟨?_⟩|refine R0 c4 ⟨?_⟩|refine R0 c5 ⟨?_⟩|refine Rd (fun h=>⟨?_⟩) fun h=>⟨?_⟩|refine Rb ⟨?_⟩|fail
         exact Rz
       · have hw1:dJ who=false:=by simpa using hw1
         rw [hw1] at c4;refine G0 Tryz.func22 ?_;repeat' first|refine Ra ⟨?_⟩|refine R0 c1 ⟨?_⟩|refine Rk [] 4 c2 ⟨?_⟩|refine R0 c4 ⟨?_⟩|refine Rd (fun h=>⟨?_⟩) fun h=>⟨?_⟩|refine Rb ⟨?_⟩|fail
         exact Rz
   · rw [if_neg k1];by_cases k2:kind=2
     · simp only [if_pos k2];subst k2;have c3:=FC (m:=m) w [anH h0,anH h1,anH h2] op hb he.op hok h0 h1 h2 hh rfl;have hW:(bQ w op).1.holds=[h0,h1,h2]:=(jA w op).trans hh;rw [dV hW];generalize bQ w op=W at c3;refine G0 Tryz.func22 ?_;repeat' first|refine Ra ⟨?_⟩|refine R0 c1 ⟨?_⟩|refine Rk [] 4 c2 ⟨?_⟩|refine Rk [7,3,4,5,6] 4 c3 ⟨?_⟩|refine Rd (fun h=>⟨?_⟩) fun h=>⟨?_⟩|refine Rb ⟨?_⟩|fail
       exact Rz
     · rw [if_neg k2];by_cases k3:kind=3
       · simp only [if_pos k3];subst k3;have c3:=Ej (m:=m) w [anH h0,anH h1,anH h2] hb hok h0 h1 h2 hh rfl;have hW:(eI w).1.holds=[h0,h1,h2]:=(mc w).trans hh;rw [dV hW];generalize eI w=W at c3;refine G0 Tryz.func22 ?_;repeat' first|refine Ra ⟨?_⟩|refine R0 c1 ⟨?_⟩|refine Rk [] 4 c2 ⟨?_⟩|refine Rk [7,3,4,5,6] 4 c3 ⟨?_⟩|refine Rd (fun h=>⟨?_⟩) fun h=>⟨?_⟩|refine Rb ⟨?_⟩|fail
         exact Rz
       · rw [if_neg k3];by_cases k4:kind=4
         · simp only [if_pos k4];subst k4;have c3:=Hn (m:=m) w [anH h0,anH h1,anH h2] hw.clk hb.ll h0 h1 h2 rfl;have hW:(ix w).holds=[h0,h1,h2]:=hh;rw [dV hW];generalize ix w=W at c3;refine G0 Tryz.func22 ?_;repeat' first|refine Ra ⟨?_⟩|refine R0 c1 ⟨?_⟩|refine Rk [] 4 c2 ⟨?_⟩|refine Rk [7,3,4,5,6] 4 c3 ⟨?_⟩|refine Rd (fun h=>⟨?_⟩) fun h=>⟨?_⟩|refine Rb ⟨?_⟩|fail
           exact Rz
         · rw [if_neg k4];by_cases k5:kind=5∨kind=6∨kind=7
           · simp only [if_pos k5];obtain ⟨g0,g1,g2,hW,c3⟩:=Bp (m:=m) w kind pos hb hok k5 hl h0 h1 h2 hh;rw [dV hW];generalize jb w kind pos=W at c3;obtain rfl|rfl|rfl:=k5
             · refine G0 Tryz.func22 ?_;repeat' first|refine Ra ⟨?_⟩|refine R0 c1 ⟨?_⟩|refine Rk [] 4 c2 ⟨?_⟩|refine Rk [7,3,4,5,6] 4 c3 ⟨?_⟩|refine Rd (fun h=>⟨?_⟩) fun h=>⟨?_⟩|refine Rb ⟨?_⟩|fail
               exact Rz
             · refine G0 Tryz.func22 ?_;repeat' first|refine Ra ⟨?_⟩|refine R0 c1 ⟨?_⟩|refine Rk [] 4 c2 ⟨?_⟩|refine Rk [7,3,4,5,6] 4 c3 ⟨?_⟩|refine Rd (fun h=>⟨?_⟩) fun h=>⟨?_⟩|refine Rb ⟨?_⟩|fail
               exact Rz
             · refine G0 Tryz.func22 ?_;repeat' first|refine Ra ⟨?_⟩|refine R0 c1 ⟨?_⟩|refine Rk [] 4 c2 ⟨?_⟩|refine Rk [7,3,4,5,6] 4 c3 ⟨?_⟩|refine Rd (fun h=>⟨?_⟩) fun h=>⟨?_⟩|refine Rb ⟨?_⟩|fail
               exact Rz
           · simp only [if_neg k5];have k6:¬ kind=5:=fun h=>k5 (.inl h);have k7:¬ kind=6:=fun h=>k5 (.inr (.inl h));have k8:¬ kind=7:=fun h=>k5 (.inr (.inr h));rw [dV hh] at c1 c2 ⊢;refine G0 Tryz.func22 ?_;repeat' first|refine Ra ⟨?_⟩|refine R0 c1 ⟨?_⟩|refine Rk [] 4 c2 ⟨?_⟩|refine Rd (fun h=>⟨?_⟩) fun h=>⟨?_⟩|refine Rb ⟨?_⟩|fail
             exact Rz
end Go.Proofs.YtagejnomlkfndaaGreatDoor
