/- Texts of this claim, set close: lemmas and contracts. -/
import Derived.Test.YtagejnomlkfndaaGreatDoorYY39
set_option linter.unusedSimpArgs false
set_option linter.unusedVariables false
set_option maxHeartbeats 1000000
set_option maxRecDepth 10000
namespace Go.Proofs.YtagejnomlkfndaaGreatDoor
open Go Go.RowKit Go.Ab Go.Par
variable {m:Int}
def wcG (w:Wld) (o1 o2 o3 a b c d:Nat):List D:=[.own o1,.own o2,.own o3,.k .i64 w.clock,.k .i64 w.count,.own a,.own b,.own c,.own d,.b w.waits,.k .i64 w.op.kind,.s w.op.path,.s w.op.tgt,.s w.op.data]
abbrev bxP (w:Wld) (L:List (List D)) (zs:List aE) (F N:List (List D)):ac:=[(0,.box 55 (wcG w 5 6 7 1 2 3 4)),(1,.own 132 L),(2,.deep 121 68 zs),(3,.own 3 F),(4,.own 70 N),(5,.fr (w.over.base.map Ent.c)),(6,.fr (w.over.layers.map cm)),(7,.fr (w.over.upper.map Mrk.c))]
abbrev bxQ (w:Wld) (L:List (List D)) (zs:List aE) (F N:List (List D)):ac:=[(0,.box 55 (wcG w 5 6 7 8 9 10 11)),(5,.fr (w.over.base.map Ent.c)),(6,.fr (w.over.layers.map cm)),(7,.fr (w.over.upper.map Mrk.c)),(8,.own 132 L),(9,.deep 121 68 zs),(10,.own 3 F),(11,.own 70 N)]
abbrev bxI (w:Wld) (zs:List aE):ac:=bxP w (w.leases.map Lse.c) zs (ck w.floors) (w.net.map Mes.c)
abbrev bxJ (w:Wld) (zs:List aE):ac:=bxQ w (w.leases.map Lse.c) zs (ck w.floors) (w.net.map Mes.c)
theorem ew (w:Wld) (zs:List aE) (x:Mes) (hnl:w.net.length≤1048576) (h0 h1 h2:List Hld) (hz:zs=[anH h0,anH h1,anH h2]):Con (E m) 75 8 [.bp 0 0,.agg x.c] (bxI w zs) (.tup []) (bxJ { w with net:=bZ w.net x } zs):=by
 have e4:(w.net.map Mes.c).length=w.net.length:=zAA ..;subst hz;by_cases h:w.net.length < 12
 · have hx:bZ w.net x=w.net++[x]:=by rw [bZ,if_pos h]
   rw [hx];refine G0 Tryz.func75 ?_;repeat' first|refine Rx ⟨?_⟩|refine Rd (fun h=>⟨?_⟩) fun h=>⟨?_⟩|fail
   refine ak.here (fw [.anew 1,.close 2,.anew 3] ?_)
   conv=>whnf
   refine ⟨rfl,rfl,rfl,?_⟩;exact congrArg (bxQ w _ _ _) (zAH (f:=Mes.c) (l₁:=w.net) (l₂:=[x])).symm
 · have hx:bZ w.net x=w.net:=by rw [bZ,if_neg h]
   rw [hx];refine G0 Tryz.func75 ?_;repeat' first|refine Rx ⟨?_⟩|refine Rd (fun h=>⟨?_⟩) fun h=>⟨?_⟩|fail
   refine ak.here (fw [.anew 1,.close 2,.anew 3,.anew 4] ?_)
   conv=>whnf
   exact ⟨rfl,rfl,rfl,rfl⟩
theorem Bc (w:Wld) (zs:List aE) (bars:List Lse) (hnl:w.net.length≤1048576) (hbl:bars.length≤1048576) (h0 h1 h2:List Hld) (hz:zs=[anH h0,anH h1,anH h2]):Con (E m) 146 8 [.bp 0 0,.sl (bars.map Lse.c)] (bxI w zs) (.tup []) (bxJ { w with net:=dQ w.net w.count bars } zs):=by
 have e1:(bars.map Lse.c).length=bars.length:=zAA ..;subst hz;refine G0 Tryz.func146 ?_;repeat' first|refine Rx ⟨?_⟩|refine Rd (fun h=>⟨?_⟩) fun h=>⟨?_⟩|fail
 refine Cd.loop2 (fun mq tm S nx=>∃ (i:Nat) (N:List Mes),mq=(bars.length - i)∧tm=[(0,.bp 0 0),(6,.sl (bars.map Lse.c)),(7,.k .i64 ((bars.map Lse.c).length:Int)),(8,.k .i64 i)]∧S=[(0,.box 55 (wcG w 5 6 7 8 9 10 11)),(5,.fr (w.over.base.map Ent.c)),(6,.fr (w.over.layers.map cm)),(7,.fr (w.over.upper.map Mrk.c)),(8,.own 132 (w.leases.map Lse.c)),(9,.deep 121 68 [anH h0,anH h1,anH h2]),(10,.own 3 (ck w.floors)),(11,.own 70 (N.map Mes.c))]∧nx=12∧(i≤bars.length)∧(dQ w.net w.count bars=dQ N w.count (bars.drop i))∧(N.length≤1048576)) ?_ ?_
 · refine lw [.anew 1,.close 2,.anew 3,.anew 4] [0,6,7,8] ?_
   conv=>whnf
   refine ⟨rfl,rfl,_,0,w.net,rfl,rfl,rfl,rfl,zAG _,rfl,hnl⟩
 · rintro mq tm S nx ⟨i,N,hn,rfl,rfl,rfl,hi,ha,hN⟩;rcases (av bars i hi).symm with ⟨x,r,hx',hd,hr,hlt⟩|⟨rfl,hd⟩
   · rw [hd,jz] at ha;have c1:=ew (m:=m) { w with net:=N } [anH h0,anH h1,anH h2] ⟨3,x.who,aZ x.path w.count⟩ hN h0 h1 h2 rfl
     repeat' first|refine Ra ⟨?_⟩|refine Rk [0,8,9,10,11,5,6,7] 4 c1 ⟨?_⟩|refine Rd (fun h=>⟨?_⟩) fun h=>⟨?_⟩|refine Rb ⟨?_⟩|fail
     refine .here ⟨mq - 1,by omega,?_⟩;refine la [0,6,7,8] ?_
     conv=>whnf
     refine ⟨rfl,rfl,i+1,bZ N ⟨3,x.who,aZ x.path w.count⟩,(by omega),rfl,rfl,rfl,by omega,(by rw [ha,hr]),j7 hN (by omega)⟩
   · rw [hd] at ha;rw [ha];repeat' first|refine Rx ⟨?_⟩|refine Rd (fun h=>⟨?_⟩) fun h=>⟨?_⟩|fail
     exact Rf
theorem vJ (w:Wld) (zs:List aE) (who:Int) (p:Bs) (n:Int) (hll:w.leases.length≤1048576) (hu:w.leases.Pairwise fun a b=>¬ (a.who=b.who∧a.path=b.path)) (h0 h1 h2:List Hld) (hz:zs=[anH h0,anH h1,anH h2]):Con (E m) 153 8 [.bp 0 0,.k .i64 who,.s p,.k .i64 n] (bxI w zs) (.tup []) (bxJ (iy w who p n) zs):=by
 have c1:=gX (m:=m) w.leases who p hll;subst hz;unfold iy;rcases eD (aW who p) w.leases with ⟨g1,g2⟩|⟨i,x,g1,g2,g3,g4⟩
 · rw [g1] at c1;rw [qd g2];refine G0 Tryz.func153 ?_;repeat' first|refine Ra ⟨?_⟩|(refine ⟨[],_,_,_,_,0,⟨rfl,rfl,rfl,c1,rfl,rfl⟩,.inl ⟨[],trivial,rfl,.inl ⟨by simp [ay,aD,aj],by simp [aF,aG,aj,Ent.c,Mrk.c,Opn.c,Lse.c,Hld.c,Mes.c,az,anH]⟩,?_⟩⟩ <;> conv=>whnf)|refine Rd (fun h=>⟨?_⟩) fun h=>⟨?_⟩|refine Rb ⟨?_⟩|fail
   refine ak.here (fw [.anew 1,.close 2,.anew 3,.anew 4] ?_)
   conv=>whnf
   exact ⟨rfl,rfl,rfl,rfl⟩
 · rw [g1] at c1;have hi:=(List.getElem?_eq_some_iff.1 g2).1;have e1:(w.leases.map Lse.c).length=w.leases.length:=zAA ..;have g5:(w.leases.map Lse.c)[i]?=some x.c:=mg g2;by_cases hn:x.num≤n
   · rw [sI hu g2 g3 hn];have c2:=jy (m:=m) w.leases i hi hll;refine G0 Tryz.func153 ?_;repeat' first|refine Ra ⟨?_⟩|(refine ⟨[],_,_,_,_,0,⟨rfl,rfl,rfl,c1,rfl,rfl⟩,.inl ⟨[],trivial,rfl,.inl ⟨by simp [ay,aD,aj],by simp [aF,aG,aj,Ent.c,Mrk.c,Opn.c,Lse.c,Hld.c,Mes.c,az,anH]⟩,?_⟩⟩ <;> conv=>whnf)|refine Rk [1] 1 c2 ⟨?_⟩|((refine ⟨i,rfl,by omega,?_⟩) <;> conv=>whnf)|((refine ⟨_,g5,?_⟩) <;> conv=>whnf)|refine Rd (fun h=>⟨?_⟩) fun h=>⟨?_⟩|refine Rb ⟨?_⟩|fail
     refine ak.here (fw [.close 2,.anew 3,.anew 4] ?_)
     conv=>whnf
     exact ⟨rfl,rfl,rfl,rfl⟩
   · rw [A6 hu g2 g3 hn];refine G0 Tryz.func153 ?_;repeat' first|refine Ra ⟨?_⟩|(refine ⟨[],_,_,_,_,0,⟨rfl,rfl,rfl,c1,rfl,rfl⟩,.inl ⟨[],trivial,rfl,.inl ⟨by simp [ay,aD,aj],by simp [aF,aG,aj,Ent.c,Mrk.c,Opn.c,Lse.c,Hld.c,Mes.c,az,anH]⟩,?_⟩⟩ <;> conv=>whnf)|((refine ⟨i,rfl,by omega,?_⟩) <;> conv=>whnf)|((refine ⟨_,g5,?_⟩) <;> conv=>whnf)|refine Rd (fun h=>⟨?_⟩) fun h=>⟨?_⟩|refine Rb ⟨?_⟩|fail
     refine ak.here (fw [.anew 1,.close 2,.anew 3,.anew 4] ?_)
     conv=>whnf
     exact ⟨rfl,rfl,rfl,rfl⟩
variable {m:Int}
theorem sd (w:Wld) (g:Hld) (h0 h1 h2:List Hld) (f0 f1 f2:Int) (hf:w.floors=[f0,f1,f2]) (hln:h0.length≤1048575) (hu:h0.Pairwise fun a b=>a.path≠b.path) (hc:w.clock < g.til) (hn:f0 < g.num):Con (E m) 151 8 [.bp 0 0,.k .i64 0,.agg g.c] (bxI w [anH h0,anH h1,anH h2]) (.tup []) (bxJ w [anH (cN h0 g),anH h1,anH h2]):=by
 have e1:(h0.map Hld.c).length=h0.length:=zAA ..;have c1:=du (m:=m) h0 g.path (by omega);obtain ⟨o,clk,cnt,ls,hs,fl,nt,wt,op⟩:=w;simp only at hf hc;subst hf;rcases eD (hb g.path) h0 with ⟨g1,g2⟩|⟨i,x,g1,g2,g3,g4⟩
 · rw [g1] at c1;rw [jL g2];refine G0 Tryz.func151 ?_;refine mw [.openA 2 0] ?_
   conv=>whnf
   repeat' first|refine Ra ⟨?_⟩|(refine ⟨[],_,_,_,_,0,⟨rfl,rfl,rfl,c1,rfl,rfl⟩,.inl ⟨[],trivial,rfl,.inl ⟨by simp [ay,aD,aj],by simp [aF,aG,aj,Ent.c,Mrk.c,Opn.c,Lse.c,Hld.c,Mes.c,az,anH]⟩,?_⟩⟩ <;> conv=>whnf)|((refine ⟨0,_,rfl,rfl,?_⟩) <;> conv=>whnf)|((refine ⟨0,rfl,by simp,?_⟩) <;> conv=>whnf)|((refine ⟨aE.nm 8,rfl,?_⟩) <;> conv=>whnf)|refine Rd (fun h=>⟨?_⟩) fun h=>⟨?_⟩|refine Rb ⟨?_⟩|fail
   refine ak.here (fw [.anew 1,.close 2,.anew 3,.anew 4] ?_)
   conv=>whnf
   refine ⟨rfl,rfl,rfl,?_⟩;unfold anH;rw [zAH];rfl
 · rw [g1] at c1;have hi:=(List.getElem?_eq_some_iff.1 g2).1;have g5:(h0.map Hld.c)[i]?=some x.c:=mg g2;by_cases hx:g.num≤x.num
   · rw [lC g2 g3 hx];refine G0 Tryz.func151 ?_;refine mw [.openA 2 0] ?_
     conv=>whnf
     repeat' first|refine Ra ⟨?_⟩|(refine ⟨[],_,_,_,_,0,⟨rfl,rfl,rfl,c1,rfl,rfl⟩,.inl ⟨[],trivial,rfl,.inl ⟨by simp [ay,aD,aj],by simp [aF,aG,aj,Ent.c,Mrk.c,Opn.c,Lse.c,Hld.c,Mes.c,az,anH]⟩,?_⟩⟩ <;> conv=>whnf)|((refine ⟨0,_,rfl,rfl,?_⟩) <;> conv=>whnf)|((refine ⟨0,rfl,by simp,?_⟩) <;> conv=>whnf)|((refine ⟨aE.nm 8,rfl,?_⟩) <;> conv=>whnf)|((refine ⟨i,rfl,by omega,?_⟩) <;> conv=>whnf)|((refine ⟨_,g5,?_⟩) <;> conv=>whnf)|refine Rd (fun h=>⟨?_⟩) fun h=>⟨?_⟩|refine Rb ⟨?_⟩|fail
     refine ak.here (fw [.anew 1,.close 2,.anew 3,.anew 4] ?_)
     conv=>whnf
     exact ⟨rfl,rfl,rfl,rfl⟩
   · rw [lD hu g2 g3 hx];have c2:=dC (m:=m) h0 i hi (by omega);have e2:((h0.eraseIdx i).map Hld.c).length=(h0.eraseIdx i).length:=zAA ..;have e3:(h0.eraseIdx i).length≤h0.length:=by rw [zAk]; split <;> omega
     refine G0 Tryz.func151 ?_;refine mw [.openA 2 0] ?_
     conv=>whnf
     repeat' first|refine Ra ⟨?_⟩|(refine ⟨[],_,_,_,_,0,⟨rfl,rfl,rfl,c1,rfl,rfl⟩,.inl ⟨[],trivial,rfl,.inl ⟨by simp [ay,aD,aj],by simp [aF,aG,aj,Ent.c,Mrk.c,Opn.c,Lse.c,Hld.c,Mes.c,az,anH]⟩,?_⟩⟩ <;> conv=>whnf)|refine Rk [8] 1 c2 ⟨?_⟩|((refine ⟨0,_,rfl,rfl,?_⟩) <;> conv=>whnf)|((refine ⟨0,rfl,by simp,?_⟩) <;> conv=>whnf)|((refine ⟨aE.nm 8,rfl,?_⟩) <;> conv=>whnf)|((refine ⟨i,rfl,by omega,?_⟩) <;> conv=>whnf)|((refine ⟨_,g5,?_⟩) <;> conv=>whnf)|refine Rd (fun h=>⟨?_⟩) fun h=>⟨?_⟩|refine Rb ⟨?_⟩|fail
     refine ak.here (fw [.anew 1,.close 2,.anew 3,.anew 4] ?_)
     conv=>whnf
     refine ⟨rfl,rfl,rfl,?_⟩;unfold anH;rw [zAH];rfl
theorem se (w:Wld) (g:Hld) (h0 h1 h2:List Hld) (f0 f1 f2:Int) (hf:w.floors=[f0,f1,f2]) (hln:h1.length≤1048575) (hu:h1.Pairwise fun a b=>a.path≠b.path) (hc:w.clock < g.til) (hn:f1 < g.num):Con (E m) 151 8 [.bp 0 0,.k .i64 1,.agg g.c] (bxI w [anH h0,anH h1,anH h2]) (.tup []) (bxJ w [anH h0,anH (cN h1 g),anH h2]):=by
 have e1:(h1.map Hld.c).length=h1.length:=zAA ..;have c1:=du (m:=m) h1 g.path (by omega);obtain ⟨o,clk,cnt,ls,hs,fl,nt,wt,op⟩:=w;simp only at hf hc;subst hf;rcases eD (hb g.path) h1 with ⟨g1,g2⟩|⟨i,x,g1,g2,g3,g4⟩
 · rw [g1] at c1;rw [jL g2];refine G0 Tryz.func151 ?_;refine mw [.openA 2 1] ?_
   conv=>whnf
   repeat' first|refine Ra ⟨?_⟩|(refine ⟨[],_,_,_,_,0,⟨rfl,rfl,rfl,c1,rfl,rfl⟩,.inl ⟨[],trivial,rfl,.inl ⟨by simp [ay,aD,aj],by simp [aF,aG,aj,Ent.c,Mrk.c,Opn.c,Lse.c,Hld.c,Mes.c,az,anH]⟩,?_⟩⟩ <;> conv=>whnf)|((refine ⟨1,_,rfl,rfl,?_⟩) <;> conv=>whnf)|((refine ⟨1,rfl,by simp,?_⟩) <;> conv=>whnf)|((refine ⟨aE.nm 8,rfl,?_⟩) <;> conv=>whnf)|refine Rd (fun h=>⟨?_⟩) fun h=>⟨?_⟩|refine Rb ⟨?_⟩|fail
   refine ak.here (fw [.anew 1,.close 2,.anew 3,.anew 4] ?_)
   conv=>whnf
   refine ⟨rfl,rfl,rfl,?_⟩;unfold anH;rw [zAH];rfl
 · rw [g1] at c1;have hi:=(List.getElem?_eq_some_iff.1 g2).1;have g5:(h1.map Hld.c)[i]?=some x.c:=mg g2;by_cases hx:g.num≤x.num
   · rw [lC g2 g3 hx];refine G0 Tryz.func151 ?_;refine mw [.openA 2 1] ?_
     conv=>whnf
     repeat' first|refine Ra ⟨?_⟩|(refine ⟨[],_,_,_,_,0,⟨rfl,rfl,rfl,c1,rfl,rfl⟩,.inl ⟨[],trivial,rfl,.inl ⟨by simp [ay,aD,aj],by simp [aF,aG,aj,Ent.c,Mrk.c,Opn.c,Lse.c,Hld.c,Mes.c,az,anH]⟩,?_⟩⟩ <;> conv=>whnf)|((refine ⟨1,_,rfl,rfl,?_⟩) <;> conv=>whnf)|((refine ⟨1,rfl,by simp,?_⟩) <;> conv=>whnf)|((refine ⟨aE.nm 8,rfl,?_⟩) <;> conv=>whnf)|((refine ⟨i,rfl,by omega,?_⟩) <;> conv=>whnf)|((refine ⟨_,g5,?_⟩) <;> conv=>whnf)|refine Rd (fun h=>⟨?_⟩) fun h=>⟨?_⟩|refine Rb ⟨?_⟩|fail
     refine ak.here (fw [.anew 1,.close 2,.anew 3,.anew 4] ?_)
     conv=>whnf
     exact ⟨rfl,rfl,rfl,rfl⟩
   · rw [lD hu g2 g3 hx];have c2:=dC (m:=m) h1 i hi (by omega);have e2:((h1.eraseIdx i).map Hld.c).length=(h1.eraseIdx i).length:=zAA ..;have e3:(h1.eraseIdx i).length≤h1.length:=by rw [zAk]; split <;> omega
     refine G0 Tryz.func151 ?_;refine mw [.openA 2 1] ?_
     conv=>whnf
     repeat' first|refine Ra ⟨?_⟩|(refine ⟨[],_,_,_,_,0,⟨rfl,rfl,rfl,c1,rfl,rfl⟩,.inl ⟨[],trivial,rfl,.inl ⟨by simp [ay,aD,aj],by simp [aF,aG,aj,Ent.c,Mrk.c,Opn.c,Lse.c,Hld.c,Mes.c,az,anH]⟩,?_⟩⟩ <;> conv=>whnf)|refine Rk [8] 1 c2 ⟨?_⟩|((refine ⟨1,_,rfl,rfl,?_⟩) <;> conv=>whnf)|((refine ⟨1,rfl,by simp,?_⟩) <;> conv=>whnf)|((refine ⟨aE.nm 8,rfl,?_⟩) <;> conv=>whnf)|((refine ⟨i,rfl,by omega,?_⟩) <;> conv=>whnf)|((refine ⟨_,g5,?_⟩) <;> conv=>whnf)|refine Rd (fun h=>⟨?_⟩) fun h=>⟨?_⟩|refine Rb ⟨?_⟩|fail
     refine ak.here (fw [.anew 1,.close 2,.anew 3,.anew 4] ?_)
     conv=>whnf
     refine ⟨rfl,rfl,rfl,?_⟩;unfold anH;rw [zAH];rfl
theorem sf (w:Wld) (g:Hld) (h0 h1 h2:List Hld) (f0 f1 f2:Int) (hf:w.floors=[f0,f1,f2]) (hln:h2.length≤1048575) (hu:h2.Pairwise fun a b=>a.path≠b.path) (hc:w.clock < g.til) (hn:f2 < g.num):Con (E m) 151 8 [.bp 0 0,.k .i64 2,.agg g.c] (bxI w [anH h0,anH h1,anH h2]) (.tup []) (bxJ w [anH h0,anH h1,anH (cN h2 g)]):=by
 have e1:(h2.map Hld.c).length=h2.length:=zAA ..;have c1:=du (m:=m) h2 g.path (by omega);obtain ⟨o,clk,cnt,ls,hs,fl,nt,wt,op⟩:=w;simp only at hf hc;subst hf;rcases eD (hb g.path) h2 with ⟨g1,g2⟩|⟨i,x,g1,g2,g3,g4⟩
 · rw [g1] at c1;rw [jL g2];refine G0 Tryz.func151 ?_;refine mw [.openA 2 2] ?_
   conv=>whnf
   repeat' first|refine Ra ⟨?_⟩|(refine ⟨[],_,_,_,_,0,⟨rfl,rfl,rfl,c1,rfl,rfl⟩,.inl ⟨[],trivial,rfl,.inl ⟨by simp [ay,aD,aj],by simp [aF,aG,aj,Ent.c,Mrk.c,Opn.c,Lse.c,Hld.c,Mes.c,az,anH]⟩,?_⟩⟩ <;> conv=>whnf)|((refine ⟨2,_,rfl,rfl,?_⟩) <;> conv=>whnf)|((refine ⟨2,rfl,by simp,?_⟩) <;> conv=>whnf)|((refine ⟨aE.nm 8,rfl,?_⟩) <;> conv=>whnf)|refine Rd (fun h=>⟨?_⟩) fun h=>⟨?_⟩|refine Rb ⟨?_⟩|fail
   refine ak.here (fw [.anew 1,.close 2,.anew 3,.anew 4] ?_)
   conv=>whnf
   refine ⟨rfl,rfl,rfl,?_⟩;unfold anH;rw [zAH];rfl
 · rw [g1] at c1;have hi:=(List.getElem?_eq_some_iff.1 g2).1;have g5:(h2.map Hld.c)[i]?=some x.c:=mg g2;by_cases hx:g.num≤x.num
   · rw [lC g2 g3 hx];refine G0 Tryz.func151 ?_;refine mw [.openA 2 2] ?_
     conv=>whnf
     repeat' first|refine Ra ⟨?_⟩|(refine ⟨[],_,_,_,_,0,⟨rfl,rfl,rfl,c1,rfl,rfl⟩,.inl ⟨[],trivial,rfl,.inl ⟨by simp [ay,aD,aj],by simp [aF,aG,aj,Ent.c,Mrk.c,Opn.c,Lse.c,Hld.c,Mes.c,az,anH]⟩,?_⟩⟩ <;> conv=>whnf)|((refine ⟨2,_,rfl,rfl,?_⟩) <;> conv=>whnf)|((refine ⟨2,rfl,by simp,?_⟩) <;> conv=>whnf)|((refine ⟨aE.nm 8,rfl,?_⟩) <;> conv=>whnf)|((refine ⟨i,rfl,by omega,?_⟩) <;> conv=>whnf)|((refine ⟨_,g5,?_⟩) <;> conv=>whnf)|refine Rd (fun h=>⟨?_⟩) fun h=>⟨?_⟩|refine Rb ⟨?_⟩|fail
     refine ak.here (fw [.anew 1,.close 2,.anew 3,.anew 4] ?_)
     conv=>whnf
     exact ⟨rfl,rfl,rfl,rfl⟩
   · rw [lD hu g2 g3 hx];have c2:=dC (m:=m) h2 i hi (by omega);have e2:((h2.eraseIdx i).map Hld.c).length=(h2.eraseIdx i).length:=zAA ..;have e3:(h2.eraseIdx i).length≤h2.length:=by rw [zAk]; split <;> omega
     refine G0 Tryz.func151 ?_;refine mw [.openA 2 2] ?_
     conv=>whnf
     repeat' first|refine Ra ⟨?_⟩|(refine ⟨[],_,_,_,_,0,⟨rfl,rfl,rfl,c1,rfl,rfl⟩,.inl ⟨[],trivial,rfl,.inl ⟨by simp [ay,aD,aj],by simp [aF,aG,aj,Ent.c,Mrk.c,Opn.c,Lse.c,Hld.c,Mes.c,az,anH]⟩,?_⟩⟩ <;> conv=>whnf)|refine Rk [8] 1 c2 ⟨?_⟩|((refine ⟨2,_,rfl,rfl,?_⟩) <;> conv=>whnf)|((refine ⟨2,rfl,by simp,?_⟩) <;> conv=>whnf)|((refine ⟨aE.nm 8,rfl,?_⟩) <;> conv=>whnf)|((refine ⟨i,rfl,by omega,?_⟩) <;> conv=>whnf)|((refine ⟨_,g5,?_⟩) <;> conv=>whnf)|refine Rd (fun h=>⟨?_⟩) fun h=>⟨?_⟩|refine Rb ⟨?_⟩|fail
     refine ak.here (fw [.anew 1,.close 2,.anew 3,.anew 4] ?_)
     conv=>whnf
     refine ⟨rfl,rfl,rfl,?_⟩;unfold anH;rw [zAH];rfl
variable {m:Int}
theorem oY (w:Wld) (g:Hld) (h0 h1 h2:List Hld) (f0 f1 f2:Int) (hf:w.floors=[f0,f1,f2]) (hc:¬ (w.clock < g.til∧f0 < g.num)):Con (E m) 151 8 [.bp 0 0,.k .i64 0,.agg g.c] (bxI w [anH h0,anH h1,anH h2]) (.tup []) (bxJ w [anH h0,anH h1,anH h2]):=by
 obtain ⟨o,clk,cnt,ls,hs,fl,nt,wt,op⟩:=w;simp only at hf hc;subst hf;by_cases hc1:clk < g.til
 · have hc2:¬ f0 < g.num:=fun h=>hc ⟨hc1,h⟩;refine G0 Tryz.func151 ?_;repeat' first|refine Ra ⟨?_⟩|((refine ⟨0,rfl,by simp,?_⟩) <;> conv=>whnf)|refine Rd (fun h=>⟨?_⟩) fun h=>⟨?_⟩|refine Rb ⟨?_⟩|fail
   refine ak.here (fw [.anew 1,.close 2,.anew 3,.anew 4] ?_)
   conv=>whnf
   exact ⟨rfl,rfl,rfl,rfl⟩
 · refine G0 Tryz.func151 ?_;repeat' first|refine Ra ⟨?_⟩|((refine ⟨0,rfl,by simp,?_⟩) <;> conv=>whnf)|refine Rd (fun h=>⟨?_⟩) fun h=>⟨?_⟩|refine Rb ⟨?_⟩|fail
   refine ak.here (fw [.anew 1,.close 2,.anew 3,.anew 4] ?_)
   conv=>whnf
   exact ⟨rfl,rfl,rfl,rfl⟩
theorem o4 (w:Wld) (g:Hld) (h0 h1 h2:List Hld) (f0 f1 f2:Int) (hf:w.floors=[f0,f1,f2]) (hc:¬ (w.clock < g.til∧f1 < g.num)):Con (E m) 151 8 [.bp 0 0,.k .i64 1,.agg g.c] (bxI w [anH h0,anH h1,anH h2]) (.tup []) (bxJ w [anH h0,anH h1,anH h2]):=by
 obtain ⟨o,clk,cnt,ls,hs,fl,nt,wt,op⟩:=w;simp only at hf hc;subst hf;by_cases hc1:clk < g.til
 · have hc2:¬ f1 < g.num:=fun h=>hc ⟨hc1,h⟩;refine G0 Tryz.func151 ?_;repeat' first|refine Ra ⟨?_⟩|((refine ⟨1,rfl,by simp,?_⟩) <;> conv=>whnf)|refine Rd (fun h=>⟨?_⟩) fun h=>⟨?_⟩|refine Rb ⟨?_⟩|fail
   refine ak.here (fw [.anew 1,.close 2,.anew 3,.anew 4] ?_)
   conv=>whnf
   exact ⟨rfl,rfl,rfl,rfl⟩
 · refine G0 Tryz.func151 ?_;repeat' first|refine Ra ⟨?_⟩|((refine ⟨1,rfl,by simp,?_⟩) <;> conv=>whnf)|refine Rd (fun h=>⟨?_⟩) fun h=>⟨?_⟩|refine Rb ⟨?_⟩|fail
   refine ak.here (fw [.anew 1,.close 2,.anew 3,.anew 4] ?_)
   conv=>whnf
   exact ⟨rfl,rfl,rfl,rfl⟩
theorem o5 (w:Wld) (g:Hld) (h0 h1 h2:List Hld) (f0 f1 f2:Int) (hf:w.floors=[f0,f1,f2]) (hc:¬ (w.clock < g.til∧f2 < g.num)):Con (E m) 151 8 [.bp 0 0,.k .i64 2,.agg g.c] (bxI w [anH h0,anH h1,anH h2]) (.tup []) (bxJ w [anH h0,anH h1,anH h2]):=by
 obtain ⟨o,clk,cnt,ls,hs,fl,nt,wt,op⟩:=w;simp only at hf hc;subst hf;by_cases hc1:clk < g.til
 · have hc2:¬ f2 < g.num:=fun h=>hc ⟨hc1,h⟩;refine G0 Tryz.func151 ?_;repeat' first|refine Ra ⟨?_⟩|((refine ⟨2,rfl,by simp,?_⟩) <;> conv=>whnf)|refine Rd (fun h=>⟨?_⟩) fun h=>⟨?_⟩|refine Rb ⟨?_⟩|fail
   refine ak.here (fw [.anew 1,.close 2,.anew 3,.anew 4] ?_)
   conv=>whnf
   exact ⟨rfl,rfl,rfl,rfl⟩
 · refine G0 Tryz.func151 ?_;repeat' first|refine Ra ⟨?_⟩|((refine ⟨2,rfl,by simp,?_⟩) <;> conv=>whnf)|refine Rd (fun h=>⟨?_⟩) fun h=>⟨?_⟩|refine Rb ⟨?_⟩|fail
   refine ak.here (fw [.anew 1,.close 2,.anew 3,.anew 4] ?_)
   conv=>whnf
   exact ⟨rfl,rfl,rfl,rfl⟩
theorem qX (w:Wld) (p:Bs) (n:Int) (hnl:w.net.length≤1048576) (h0 h1 h2:List Hld) (f0 f1 f2:Int) (hf:w.floors=[f0,f1,f2]) (hln:h0.length≤1048575) (hu:h0.Pairwise fun a b=>a.path≠b.path):Con (E m) 152 8 [.bp 0 0,.k .i64 0,.s p,.k .i64 n] (bxI w [anH h0,anH h1,anH h2]) (.tup []) (bxJ { w with floors:=[max f0 n,f1,f2],net:=bZ w.net ⟨4,0,aZ p n⟩ } [anH (bP h0 p n),anH h1,anH h2]):=by
 have e1:(h0.map Hld.c).length=h0.length:=zAA ..;have c1:=du (m:=m) h0 p (by omega);obtain ⟨o,clk,cnt,ls,hs,fl,nt,wt,op⟩:=w;simp only at hf hnl ⊢;subst hf;rcases eD (hb p) h0 with ⟨g1,g2⟩|⟨i,x,g1,g2,g3,g4⟩
 · rw [g1] at c1;rw [iI g2];have c9:=ew (m:=m) ⟨o,clk,cnt,ls,[h0,h1,h2],[max f0 n,f1,f2],nt,wt,op⟩ [anH (h0),anH h1,anH h2] ⟨4,0,aZ p n⟩ hnl (h0) h1 h2 rfl;refine G0 Tryz.func152 ?_;refine mw [.openA 2 0] ?_
   conv=>whnf
   refine Cd.seqS ?_;repeat' first|refine Ra ⟨?_⟩|(refine ⟨[],_,_,_,_,0,⟨rfl,rfl,rfl,c1,rfl,rfl⟩,.inl ⟨[],trivial,rfl,.inl ⟨by simp [ay,aD,aj],by simp [aF,aG,aj,Ent.c,Mrk.c,Opn.c,Lse.c,Hld.c,Mes.c,az,anH]⟩,?_⟩⟩ <;> conv=>whnf)|((refine ⟨0,rfl,by simp,?_⟩) <;> conv=>whnf)|((refine ⟨aE.nm 8,rfl,?_⟩) <;> conv=>whnf)|refine Rd (fun h=>⟨?_⟩) fun h=>⟨?_⟩|refine Rb ⟨?_⟩|fail
   all_goals (try refine Stop.here ?_)
   refine Cd.seqS ?_;repeat' first|refine Ra ⟨?_⟩|((refine ⟨0,rfl,by simp,?_⟩) <;> conv=>whnf)|((refine ⟨aE.nm 8,rfl,?_⟩) <;> conv=>whnf)|((refine ⟨zAC rfl,?_⟩) <;> conv=>whnf)|refine Rd (fun h=>⟨?_⟩) fun h=>⟨?_⟩|refine Rb ⟨?_⟩|fail
   all_goals (try refine Stop.here ?_)
   refine mw [.close 2] ?_
   conv=>whnf
   repeat' first|refine Ra ⟨?_⟩|refine Rk [0,1,9,3,4,5,6,7] 4 c9 ⟨?_⟩|((refine ⟨0,rfl,by simp,?_⟩) <;> conv=>whnf)|((refine ⟨zAC rfl,?_⟩) <;> conv=>whnf)|refine Rd (fun h=>⟨?_⟩) fun h=>⟨?_⟩|refine Rb ⟨?_⟩|fail
   exact Rf
 · rw [g1] at c1;have hi:=(List.getElem?_eq_some_iff.1 g2).1;have g5:(h0.map Hld.c)[i]?=some x.c:=mg g2;have c2:=dC (m:=m) h0 i hi (by omega);by_cases hx:x.num≤n
   · skip
     rw [jK hu g2 g3 hx];have c9:=ew (m:=m) ⟨o,clk,cnt,ls,[h0.eraseIdx i,h1,h2],[max f0 n,f1,f2],nt,wt,op⟩ [anH (h0.eraseIdx i),anH h1,anH h2] ⟨4,0,aZ p n⟩ hnl (h0.eraseIdx i) h1 h2 rfl;refine G0 Tryz.func152 ?_;refine mw [.openA 2 0] ?_
     conv=>whnf
     refine Cd.seqS ?_;repeat' first|refine Ra ⟨?_⟩|(refine ⟨[],_,_,_,_,0,⟨rfl,rfl,rfl,c1,rfl,rfl⟩,.inl ⟨[],trivial,rfl,.inl ⟨by simp [ay,aD,aj],by simp [aF,aG,aj,Ent.c,Mrk.c,Opn.c,Lse.c,Hld.c,Mes.c,az,anH]⟩,?_⟩⟩ <;> conv=>whnf)|refine Rk [8] 1 c2 ⟨?_⟩|((refine ⟨0,rfl,by simp,?_⟩) <;> conv=>whnf)|((refine ⟨aE.nm 8,rfl,?_⟩) <;> conv=>whnf)|((refine ⟨i,rfl,by omega,?_⟩) <;> conv=>whnf)|((refine ⟨_,g5,?_⟩) <;> conv=>whnf)|refine Rd (fun h=>⟨?_⟩) fun h=>⟨?_⟩|refine Rb ⟨?_⟩|fail
     all_goals (try refine Stop.here ?_)
     refine Cd.seqS ?_;repeat' first|refine Ra ⟨?_⟩|refine Rk [8] 1 c2 ⟨?_⟩|((refine ⟨0,rfl,by simp,?_⟩) <;> conv=>whnf)|((refine ⟨aE.nm 8,rfl,?_⟩) <;> conv=>whnf)|((refine ⟨i,rfl,by omega,?_⟩) <;> conv=>whnf)|((refine ⟨_,g5,?_⟩) <;> conv=>whnf)|((refine ⟨zAC rfl,?_⟩) <;> conv=>whnf)|refine Rd (fun h=>⟨?_⟩) fun h=>⟨?_⟩|refine Rb ⟨?_⟩|fail
     all_goals (try refine Stop.here ?_)
     refine mw [.close 2] ?_
     conv=>whnf
     repeat' first|refine Ra ⟨?_⟩|refine Rk [0,1,10,3,4,5,6,7] 4 c9 ⟨?_⟩|((refine ⟨0,rfl,by simp,?_⟩) <;> conv=>whnf)|((refine ⟨zAC rfl,?_⟩) <;> conv=>whnf)|refine Rd (fun h=>⟨?_⟩) fun h=>⟨?_⟩|refine Rb ⟨?_⟩|fail
     exact Rf
   · skip
     rw [iJ hu g2 g3 hx];have c9:=ew (m:=m) ⟨o,clk,cnt,ls,[h0,h1,h2],[max f0 n,f1,f2],nt,wt,op⟩ [anH (h0),anH h1,anH h2] ⟨4,0,aZ p n⟩ hnl (h0) h1 h2 rfl;refine G0 Tryz.func152 ?_;refine mw [.openA 2 0] ?_
     conv=>whnf
     refine Cd.seqS ?_;repeat' first|refine Ra ⟨?_⟩|(refine ⟨[],_,_,_,_,0,⟨rfl,rfl,rfl,c1,rfl,rfl⟩,.inl ⟨[],trivial,rfl,.inl ⟨by simp [ay,aD,aj],by simp [aF,aG,aj,Ent.c,Mrk.c,Opn.c,Lse.c,Hld.c,Mes.c,az,anH]⟩,?_⟩⟩ <;> conv=>whnf)|((refine ⟨0,rfl,by simp,?_⟩) <;> conv=>whnf)|((refine ⟨aE.nm 8,rfl,?_⟩) <;> conv=>whnf)|refine Rd (fun h=>⟨?_⟩) fun h=>⟨?_⟩|refine Rb ⟨?_⟩|fail
     all_goals (try refine Stop.here ?_)
     refine Cd.seqS ?_;repeat' first|refine Ra ⟨?_⟩|((refine ⟨0,rfl,by simp,?_⟩) <;> conv=>whnf)|((refine ⟨aE.nm 8,rfl,?_⟩) <;> conv=>whnf)|((refine ⟨i,rfl,by omega,?_⟩) <;> conv=>whnf)|((refine ⟨_,g5,?_⟩) <;> conv=>whnf)|((refine ⟨zAC rfl,?_⟩) <;> conv=>whnf)|refine Rd (fun h=>⟨?_⟩) fun h=>⟨?_⟩|refine Rb ⟨?_⟩|fail
     all_goals (try refine Stop.here ?_)
     refine mw [.close 2] ?_
     conv=>whnf
     repeat' first|refine Ra ⟨?_⟩|refine Rk [0,1,9,3,4,5,6,7] 4 c9 ⟨?_⟩|((refine ⟨0,rfl,by simp,?_⟩) <;> conv=>whnf)|((refine ⟨zAC rfl,?_⟩) <;> conv=>whnf)|refine Rd (fun h=>⟨?_⟩) fun h=>⟨?_⟩|refine Rb ⟨?_⟩|fail
     exact Rf
theorem qY (w:Wld) (p:Bs) (n:Int) (hnl:w.net.length≤1048576) (h0 h1 h2:List Hld) (f0 f1 f2:Int) (hf:w.floors=[f0,f1,f2]) (hln:h1.length≤1048575) (hu:h1.Pairwise fun a b=>a.path≠b.path):Con (E m) 152 8 [.bp 0 0,.k .i64 1,.s p,.k .i64 n] (bxI w [anH h0,anH h1,anH h2]) (.tup []) (bxJ { w with floors:=[f0,max f1 n,f2],net:=bZ w.net ⟨4,1,aZ p n⟩ } [anH h0,anH (bP h1 p n),anH h2]):=by
 have e1:(h1.map Hld.c).length=h1.length:=zAA ..;have c1:=du (m:=m) h1 p (by omega);obtain ⟨o,clk,cnt,ls,hs,fl,nt,wt,op⟩:=w;simp only at hf hnl ⊢;subst hf;rcases eD (hb p) h1 with ⟨g1,g2⟩|⟨i,x,g1,g2,g3,g4⟩
 · rw [g1] at c1;rw [iI g2];have c9:=ew (m:=m) ⟨o,clk,cnt,ls,[h0,h1,h2],[f0,max f1 n,f2],nt,wt,op⟩ [anH h0,anH (h1),anH h2] ⟨4,1,aZ p n⟩ hnl h0 (h1) h2 rfl;refine G0 Tryz.func152 ?_;refine mw [.openA 2 1] ?_
   conv=>whnf
   refine Cd.seqS ?_;repeat' first|refine Ra ⟨?_⟩|(refine ⟨[],_,_,_,_,0,⟨rfl,rfl,rfl,c1,rfl,rfl⟩,.inl ⟨[],trivial,rfl,.inl ⟨by simp [ay,aD,aj],by simp [aF,aG,aj,Ent.c,Mrk.c,Opn.c,Lse.c,Hld.c,Mes.c,az,anH]⟩,?_⟩⟩ <;> conv=>whnf)|((refine ⟨1,rfl,by simp,?_⟩) <;> conv=>whnf)|((refine ⟨aE.nm 8,rfl,?_⟩) <;> conv=>whnf)|refine Rd (fun h=>⟨?_⟩) fun h=>⟨?_⟩|refine Rb ⟨?_⟩|fail
   all_goals (try refine Stop.here ?_)
   refine Cd.seqS ?_;repeat' first|refine Ra ⟨?_⟩|((refine ⟨1,rfl,by simp,?_⟩) <;> conv=>whnf)|((refine ⟨aE.nm 8,rfl,?_⟩) <;> conv=>whnf)|((refine ⟨zAC rfl,?_⟩) <;> conv=>whnf)|refine Rd (fun h=>⟨?_⟩) fun h=>⟨?_⟩|refine Rb ⟨?_⟩|fail
   all_goals (try refine Stop.here ?_)
   refine mw [.close 2] ?_
   conv=>whnf
   repeat' first|refine Ra ⟨?_⟩|refine Rk [0,1,9,3,4,5,6,7] 4 c9 ⟨?_⟩|((refine ⟨1,rfl,by simp,?_⟩) <;> conv=>whnf)|((refine ⟨zAC rfl,?_⟩) <;> conv=>whnf)|refine Rd (fun h=>⟨?_⟩) fun h=>⟨?_⟩|refine Rb ⟨?_⟩|fail
   exact Rf
 · rw [g1] at c1;have hi:=(List.getElem?_eq_some_iff.1 g2).1;have g5:(h1.map Hld.c)[i]?=some x.c:=mg g2;have c2:=dC (m:=m) h1 i hi (by omega);by_cases hx:x.num≤n
   · skip
     rw [jK hu g2 g3 hx];have c9:=ew (m:=m) ⟨o,clk,cnt,ls,[h0,h1.eraseIdx i,h2],[f0,max f1 n,f2],nt,wt,op⟩ [anH h0,anH (h1.eraseIdx i),anH h2] ⟨4,1,aZ p n⟩ hnl h0 (h1.eraseIdx i) h2 rfl;refine G0 Tryz.func152 ?_;refine mw [.openA 2 1] ?_
     conv=>whnf
     refine Cd.seqS ?_;repeat' first|refine Ra ⟨?_⟩|(refine ⟨[],_,_,_,_,0,⟨rfl,rfl,rfl,c1,rfl,rfl⟩,.inl ⟨[],trivial,rfl,.inl ⟨by simp [ay,aD,aj],by simp [aF,aG,aj,Ent.c,Mrk.c,Opn.c,Lse.c,Hld.c,Mes.c,az,anH]⟩,?_⟩⟩ <;> conv=>whnf)|refine Rk [8] 1 c2 ⟨?_⟩|((refine ⟨1,rfl,by simp,?_⟩) <;> conv=>whnf)|((refine ⟨aE.nm 8,rfl,?_⟩) <;> conv=>whnf)|((refine ⟨i,rfl,by omega,?_⟩) <;> conv=>whnf)|((refine ⟨_,g5,?_⟩) <;> conv=>whnf)|refine Rd (fun h=>⟨?_⟩) fun h=>⟨?_⟩|refine Rb ⟨?_⟩|fail
     all_goals (try refine Stop.here ?_)
     refine Cd.seqS ?_;repeat' first|refine Ra ⟨?_⟩|refine Rk [8] 1 c2 ⟨?_⟩|((refine ⟨1,rfl,by simp,?_⟩) <;> conv=>whnf)|((refine ⟨aE.nm 8,rfl,?_⟩) <;> conv=>whnf)|((refine ⟨i,rfl,by omega,?_⟩) <;> conv=>whnf)|((refine ⟨_,g5,?_⟩) <;> conv=>whnf)|((refine ⟨zAC rfl,?_⟩) <;> conv=>whnf)|refine Rd (fun h=>⟨?_⟩) fun h=>⟨?_⟩|refine Rb ⟨?_⟩|fail
     all_goals (try refine Stop.here ?_)
     refine mw [.close 2] ?_
     conv=>whnf
     repeat' first|refine Ra ⟨?_⟩|refine Rk [0,1,10,3,4,5,6,7] 4 c9 ⟨?_⟩|((refine ⟨1,rfl,by simp,?_⟩) <;> conv=>whnf)|((refine ⟨zAC rfl,?_⟩) <;> conv=>whnf)|refine Rd (fun h=>⟨?_⟩) fun h=>⟨?_⟩|refine Rb ⟨?_⟩|fail
     exact Rf
   · skip
     rw [iJ hu g2 g3 hx];have c9:=ew (m:=m) ⟨o,clk,cnt,ls,[h0,h1,h2],[f0,max f1 n,f2],nt,wt,op⟩ [anH h0,anH (h1),anH h2] ⟨4,1,aZ p n⟩ hnl h0 (h1) h2 rfl;refine G0 Tryz.func152 ?_;refine mw [.openA 2 1] ?_
     conv=>whnf
     refine Cd.seqS ?_;repeat' first|refine Ra ⟨?_⟩|(refine ⟨[],_,_,_,_,0,⟨rfl,rfl,rfl,c1,rfl,rfl⟩,.inl ⟨[],trivial,rfl,.inl ⟨by simp [ay,aD,aj],by simp [aF,aG,aj,Ent.c,Mrk.c,Opn.c,Lse.c,Hld.c,Mes.c,az,anH]⟩,?_⟩⟩ <;> conv=>whnf)|((refine ⟨1,rfl,by simp,?_⟩) <;> conv=>whnf)|((refine ⟨aE.nm 8,rfl,?_⟩) <;> conv=>whnf)|refine Rd (fun h=>⟨?_⟩) fun h=>⟨?_⟩|refine Rb ⟨?_⟩|fail
     all_goals (try refine Stop.here ?_)
     refine Cd.seqS ?_;repeat' first|refine Ra ⟨?_⟩|((refine ⟨1,rfl,by simp,?_⟩) <;> conv=>whnf)|((refine ⟨aE.nm 8,rfl,?_⟩) <;> conv=>whnf)|((refine ⟨i,rfl,by omega,?_⟩) <;> conv=>whnf)|((refine ⟨_,g5,?_⟩) <;> conv=>whnf)|((refine ⟨zAC rfl,?_⟩) <;> conv=>whnf)|refine Rd (fun h=>⟨?_⟩) fun h=>⟨?_⟩|refine Rb ⟨?_⟩|fail
     all_goals (try refine Stop.here ?_)
     refine mw [.close 2] ?_
     conv=>whnf
     repeat' first|refine Ra ⟨?_⟩|refine Rk [0,1,9,3,4,5,6,7] 4 c9 ⟨?_⟩|((refine ⟨1,rfl,by simp,?_⟩) <;> conv=>whnf)|((refine ⟨zAC rfl,?_⟩) <;> conv=>whnf)|refine Rd (fun h=>⟨?_⟩) fun h=>⟨?_⟩|refine Rb ⟨?_⟩|fail
     exact Rf
theorem qZ (w:Wld) (p:Bs) (n:Int) (hnl:w.net.length≤1048576) (h0 h1 h2:List Hld) (f0 f1 f2:Int) (hf:w.floors=[f0,f1,f2]) (hln:h2.length≤1048575) (hu:h2.Pairwise fun a b=>a.path≠b.path):Con (E m) 152 8 [.bp 0 0,.k .i64 2,.s p,.k .i64 n] (bxI w [anH h0,anH h1,anH h2]) (.tup []) (bxJ { w with floors:=[f0,f1,max f2 n],net:=bZ w.net ⟨4,2,aZ p n⟩ } [anH h0,anH h1,anH (bP h2 p n)]):=by
 have e1:(h2.map Hld.c).length=h2.length:=zAA ..;have c1:=du (m:=m) h2 p (by omega);obtain ⟨o,clk,cnt,ls,hs,fl,nt,wt,op⟩:=w;simp only at hf hnl ⊢;subst hf;rcases eD (hb p) h2 with ⟨g1,g2⟩|⟨i,x,g1,g2,g3,g4⟩
 · rw [g1] at c1;rw [iI g2];have c9:=ew (m:=m) ⟨o,clk,cnt,ls,[h0,h1,h2],[f0,f1,max f2 n],nt,wt,op⟩ [anH h0,anH h1,anH (h2)] ⟨4,2,aZ p n⟩ hnl h0 h1 (h2) rfl;refine G0 Tryz.func152 ?_;refine mw [.openA 2 2] ?_
   conv=>whnf
   refine Cd.seqS ?_;repeat' first|refine Ra ⟨?_⟩|(refine ⟨[],_,_,_,_,0,⟨rfl,rfl,rfl,c1,rfl,rfl⟩,.inl ⟨[],trivial,rfl,.inl ⟨by simp [ay,aD,aj],by simp [aF,aG,aj,Ent.c,Mrk.c,Opn.c,Lse.c,Hld.c,Mes.c,az,anH]⟩,?_⟩⟩ <;> conv=>whnf)|((refine ⟨2,rfl,by simp,?_⟩) <;> conv=>whnf)|((refine ⟨aE.nm 8,rfl,?_⟩) <;> conv=>whnf)|refine Rd (fun h=>⟨?_⟩) fun h=>⟨?_⟩|refine Rb ⟨?_⟩|fail
   all_goals (try refine Stop.here ?_)
   refine Cd.seqS ?_;repeat' first|refine Ra ⟨?_⟩|((refine ⟨2,rfl,by simp,?_⟩) <;> conv=>whnf)|((refine ⟨aE.nm 8,rfl,?_⟩) <;> conv=>whnf)|((refine ⟨zAC rfl,?_⟩) <;> conv=>whnf)|refine Rd (fun h=>⟨?_⟩) fun h=>⟨?_⟩|refine Rb ⟨?_⟩|fail
   all_goals (try refine Stop.here ?_)
   refine mw [.close 2] ?_
   conv=>whnf
   repeat' first|refine Ra ⟨?_⟩|refine Rk [0,1,9,3,4,5,6,7] 4 c9 ⟨?_⟩|((refine ⟨2,rfl,by simp,?_⟩) <;> conv=>whnf)|((refine ⟨zAC rfl,?_⟩) <;> conv=>whnf)|refine Rd (fun h=>⟨?_⟩) fun h=>⟨?_⟩|refine Rb ⟨?_⟩|fail
   exact Rf
 · rw [g1] at c1;have hi:=(List.getElem?_eq_some_iff.1 g2).1;have g5:(h2.map Hld.c)[i]?=some x.c:=mg g2;have c2:=dC (m:=m) h2 i hi (by omega);by_cases hx:x.num≤n
   · skip
     rw [jK hu g2 g3 hx];have c9:=ew (m:=m) ⟨o,clk,cnt,ls,[h0,h1,h2.eraseIdx i],[f0,f1,max f2 n],nt,wt,op⟩ [anH h0,anH h1,anH (h2.eraseIdx i)] ⟨4,2,aZ p n⟩ hnl h0 h1 (h2.eraseIdx i) rfl;refine G0 Tryz.func152 ?_;refine mw [.openA 2 2] ?_
     conv=>whnf
     refine Cd.seqS ?_;repeat' first|refine Ra ⟨?_⟩|(refine ⟨[],_,_,_,_,0,⟨rfl,rfl,rfl,c1,rfl,rfl⟩,.inl ⟨[],trivial,rfl,.inl ⟨by simp [ay,aD,aj],by simp [aF,aG,aj,Ent.c,Mrk.c,Opn.c,Lse.c,Hld.c,Mes.c,az,anH]⟩,?_⟩⟩ <;> conv=>whnf)|refine Rk [8] 1 c2 ⟨?_⟩|((refine ⟨2,rfl,by simp,?_⟩) <;> conv=>whnf)|((refine ⟨aE.nm 8,rfl,?_⟩) <;> conv=>whnf)|((refine ⟨i,rfl,by omega,?_⟩) <;> conv=>whnf)|((refine ⟨_,g5,?_⟩) <;> conv=>whnf)|refine Rd (fun h=>⟨?_⟩) fun h=>⟨?_⟩|refine Rb ⟨?_⟩|fail
     all_goals (try refine Stop.here ?_)
     refine Cd.seqS ?_;repeat' first|refine Ra ⟨?_⟩|refine Rk [8] 1 c2 ⟨?_⟩|((refine ⟨2,rfl,by simp,?_⟩) <;> conv=>whnf)|((refine ⟨aE.nm 8,rfl,?_⟩) <;> conv=>whnf)|((refine ⟨i,rfl,by omega,?_⟩) <;> conv=>whnf)|((refine ⟨_,g5,?_⟩) <;> conv=>whnf)|((refine ⟨zAC rfl,?_⟩) <;> conv=>whnf)|refine Rd (fun h=>⟨?_⟩) fun h=>⟨?_⟩|refine Rb ⟨?_⟩|fail
     all_goals (try refine Stop.here ?_)
     refine mw [.close 2] ?_
     conv=>whnf
     repeat' first|refine Ra ⟨?_⟩|refine Rk [0,1,10,3,4,5,6,7] 4 c9 ⟨?_⟩|((refine ⟨2,rfl,by simp,?_⟩) <;> conv=>whnf)|((refine ⟨zAC rfl,?_⟩) <;> conv=>whnf)|refine Rd (fun h=>⟨?_⟩) fun h=>⟨?_⟩|refine Rb ⟨?_⟩|fail
     exact Rf
   · skip
     rw [iJ hu g2 g3 hx];have c9:=ew (m:=m) ⟨o,clk,cnt,ls,[h0,h1,h2],[f0,f1,max f2 n],nt,wt,op⟩ [anH h0,anH h1,anH (h2)] ⟨4,2,aZ p n⟩ hnl h0 h1 (h2) rfl;refine G0 Tryz.func152 ?_;refine mw [.openA 2 2] ?_
     conv=>whnf
     refine Cd.seqS ?_;repeat' first|refine Ra ⟨?_⟩|(refine ⟨[],_,_,_,_,0,⟨rfl,rfl,rfl,c1,rfl,rfl⟩,.inl ⟨[],trivial,rfl,.inl ⟨by simp [ay,aD,aj],by simp [aF,aG,aj,Ent.c,Mrk.c,Opn.c,Lse.c,Hld.c,Mes.c,az,anH]⟩,?_⟩⟩ <;> conv=>whnf)|((refine ⟨2,rfl,by simp,?_⟩) <;> conv=>whnf)|((refine ⟨aE.nm 8,rfl,?_⟩) <;> conv=>whnf)|refine Rd (fun h=>⟨?_⟩) fun h=>⟨?_⟩|refine Rb ⟨?_⟩|fail
     all_goals (try refine Stop.here ?_)
     refine Cd.seqS ?_;repeat' first|refine Ra ⟨?_⟩|((refine ⟨2,rfl,by simp,?_⟩) <;> conv=>whnf)|((refine ⟨aE.nm 8,rfl,?_⟩) <;> conv=>whnf)|((refine ⟨i,rfl,by omega,?_⟩) <;> conv=>whnf)|((refine ⟨_,g5,?_⟩) <;> conv=>whnf)|((refine ⟨zAC rfl,?_⟩) <;> conv=>whnf)|refine Rd (fun h=>⟨?_⟩) fun h=>⟨?_⟩|refine Rb ⟨?_⟩|fail
     all_goals (try refine Stop.here ?_)
     refine mw [.close 2] ?_
     conv=>whnf
     repeat' first|refine Ra ⟨?_⟩|refine Rk [0,1,9,3,4,5,6,7] 4 c9 ⟨?_⟩|((refine ⟨2,rfl,by simp,?_⟩) <;> conv=>whnf)|((refine ⟨zAC rfl,?_⟩) <;> conv=>whnf)|refine Rd (fun h=>⟨?_⟩) fun h=>⟨?_⟩|refine Rb ⟨?_⟩|fail
     exact Rf
end Go.Proofs.YtagejnomlkfndaaGreatDoor
