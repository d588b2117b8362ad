/- Texts of this claim, set close: lemmas and contracts. -/
import Derived.Test.YtagejnomlkfndaaGreatDoorYY39
import Derived.Test.YtagejnomlkfndaaGreatDoorYY40
set_option linter.unusedSimpArgs false
set_option linter.unusedVariables false
set_option maxHeartbeats 1000000
set_option maxRecDepth 10000
namespace Go.Proofs.YtagejnomlkfndaaGreatDoor
open Go Go.RowKit Go.Ab Go.Par
variable {m:Int}
theorem xg (w:Wld) (l:Lse) (L:List (List D)) (h0 h1 h2:List Hld):Con (E m) 148 6 [.agg l.c,.bp 0 0] (tkT w L [anH h0,anH h1,anH h2]) (.b (gone w.clock l)) (tkT w L [anH h0,anH h1,anH h2]):=by
 refine G0 Tryz.func148 ?_;repeat' first|refine Rx ⟨?_⟩|refine Rd (fun h=>⟨?_⟩) fun h=>⟨?_⟩|fail
 exact Rf
theorem uS (w:Wld) (ls:List Lse) (h0 h1 h2:List Hld) (hl:ls.length≤1048576):Con (E m) 211 6 [.own 0,.fn 148 [1]] (tkS w (ls.map Lse.c) [anH h0,anH h1,anH h2]) (.k .i64 (ixL (gone w.clock) ls)) (tkS w (ls.map Lse.c) [anH h0,anH h1,anH h2]):=by
 have e1:(ls.map Lse.c).length=ls.length:=zAA ..;refine G0 Tryz.func211 ?_;repeat' first|refine Rx ⟨?_⟩|refine Rd (fun h=>⟨?_⟩) fun h=>⟨?_⟩|fail
 refine Cd.loop2 (fun mq tm S nx=>∃ (i:Nat),mq=(ls.length - i)∧tm=[(0,.own 0),(1,.fn 148 [1]),(7,.k .i64 ((ls.map Lse.c).length:Int)),(8,.k .i64 i)]∧S=[(0,.own 132 (ls.map Lse.c)),(1,.box 180 [.bp 2 0]),(2,.box 55 (wcO w 0 3 4 5)),(3,.deep 121 68 [anH h0,anH h1,anH h2]),(4,.own 3 (ck w.floors)),(5,.own 70 (w.net.map Mes.c))]∧nx=6∧(i≤ls.length)∧((ls.take i).all (fun x=>!gone w.clock x)=true)) ?_ ?_
 · refine la [0,1,7,8] ?_
   conv=>whnf
   refine ⟨rfl,rfl,_,0,rfl,rfl,rfl,rfl,by omega,by simp⟩
 · rintro mq tm S nx ⟨i,hn,rfl,rfl,rfl,hi,ha⟩;by_cases hlt:i < ls.length
   · have g1:ls[i]?=some ls[i]:=zAB hlt;generalize ls[i]=x at g1;have g5:(ls.map Lse.c)[i]?=some x.c:=mg g1;have c1:=xg (m:=m) w x (ls.map Lse.c) h0 h1 h2;cases hx:gone w.clock x with
     | true=>
       rw [hx] at c1;rw [lZ ha g1 hx];repeat' first|refine Ra ⟨?_⟩|refine Rk [1,2,0,3,4,5] 0 c1 ⟨?_⟩|((refine ⟨i,rfl,by omega,?_⟩) <;> conv=>whnf)|((refine ⟨_,g5,?_⟩) <;> conv=>whnf)|refine Rd (fun h=>⟨?_⟩) fun h=>⟨?_⟩|refine Rb ⟨?_⟩|fail
       exact Rf
     | false=>
       rw [hx] at c1;repeat' first|refine Ra ⟨?_⟩|refine Rk [1,2,0,3,4,5] 0 c1 ⟨?_⟩|((refine ⟨i,rfl,by omega,?_⟩) <;> conv=>whnf)|((refine ⟨_,g5,?_⟩) <;> conv=>whnf)|refine Rd (fun h=>⟨?_⟩) fun h=>⟨?_⟩|refine Rb ⟨?_⟩|fail
       refine .here ⟨mq - 1,by omega,?_⟩;refine la [0,1,7,8] ?_
       conv=>whnf
       refine ⟨rfl,rfl,i+1,(by omega),rfl,rfl,rfl,by omega,bN ha g1 (by simp [hx])⟩
   · rw [qa2 ha (by omega)];repeat' first|refine Rx ⟨?_⟩|refine Rd (fun h=>⟨?_⟩) fun h=>⟨?_⟩|fail
     exact Rf
theorem Ba (w:Wld) (ls:List Lse) (h0 h1 h2:List Hld) (hl:ls.length≤1048576) (i0:Nat) (x0:Lse) (g1:ixL (gone w.clock) ls=(i0:Int)) (g2:ls[i0]?=some x0) (g3:gone w.clock x0=true) (g4:(ls.take i0).all (fun y=>!gone w.clock y)=true) :
   Con (E m) 147 6 [.own 0,.fn 148 [1]] (tkS w (ls.map Lse.c) [anH h0,anH h1,anH h2]) (.own 6) [(1,.box 180 [.bp 2 0]),(2,.box 55 (wcO w 0 3 4 5)),(3,.deep 121 68 [anH h0,anH h1,anH h2]),(4,.own 3 (ck w.floors)),(5,.own 70 (w.net.map Mes.c)),(6,.own 132 ((ls.filter (fun l=>!gone w.clock l)).map Lse.c))]:=by
 have e1:(ls.map Lse.c).length=ls.length:=zAA ..;have hi0:=(List.getElem?_eq_some_iff.1 g2).1;have c1:=cV (uS (m:=m) w ls h0 h1 h2 hl);rw [g1] at c1;refine cVE ?_;refine bK tF Ce Tryz.func147 rfl rfl rfl (zAC rfl) ?_;repeat' first|refine Ra ⟨?_⟩|refine Rk [0,1,2,3,4,5] 0 c1 ⟨?_⟩|refine Rd (fun h=>⟨?_⟩) fun h=>⟨?_⟩|refine Rb ⟨?_⟩|fail
 refine Cd.loop2 (fun mq tm S nx=>∃ (i:Nat) (j:Nat) (X:List Lse),mq=(ls.length - j)∧tm=[(0,.own 0),(1,.fn 148 [1]),(5,.k .i64 i),(6,.k .i64 j)]∧S=[(0,.own 132 (X.map Lse.c)),(1,.box 180 [.bp 2 0]),(2,.box 55 (wcO w 0 3 4 5)),(3,.deep 121 68 [anH h0,anH h1,anH h2]),(4,.own 3 (ck w.floors)),(5,.own 70 (w.net.map Mes.c))]∧nx=6∧(j≤ls.length)∧(i < j)∧(X.length=ls.length)∧(X.take i=(ls.take j).filter (fun l=>!gone w.clock l))∧(X.drop j=ls.drop j)) ?_ ?_
 · refine la [0,1,5,6] ?_
   conv=>whnf
   refine ⟨rfl,rfl,_,i0,i0+1,ls,rfl,rfl,rfl,rfl,by omega,by omega,rfl,(by rw [jJ g2,if_pos g3,List.append_nil,zBV.2 (zAs.1 g4)]),rfl⟩
 · rintro mq tm S nx ⟨i,j,X,hn,rfl,rfl,rfl,hj,hij,hX,hk,hd⟩;have e2:(X.map Lse.c).length=X.length:=zAA ..;by_cases hlt:j < ls.length
   · have p1:ls[j]?=some ls[j]:=zAB hlt;generalize ls[j]=x at p1;have p2:X[j]?=some x:=by
      have:(X.drop j)[0]?=(ls.drop j)[0]?:=by rw [hd]
      rw [zAi,zAi,Nat.add_zero] at this;rw [this,p1]
     have p5:(X.map Lse.c)[j]?=some x.c:=mg p2;have hdr:X.drop (j+1)=ls.drop (j+1):=by rw [← zBb,← zBb,hd]
     have c2:=cV (xg (m:=m) w x (X.map Lse.c) h0 h1 h2);have hiX:i < X.length:=by omega
     have p6:(X.map Lse.c)[i]?=some (X[i]).c:=mg (zAB hiX);cases hx:gone w.clock x with
     | true=>
       rw [hx] at c2;repeat' first|refine Ra ⟨?_⟩|refine Rk [1,2,0,3,4,5] 0 c2 ⟨?_⟩|((refine ⟨j,rfl,by omega,?_⟩) <;> conv=>whnf)|((refine ⟨_,p5,?_⟩) <;> conv=>whnf)|refine Rd (fun h=>⟨?_⟩) fun h=>⟨?_⟩|refine Rb ⟨?_⟩|fail
       refine .here ⟨mq - 1,by omega,?_⟩;refine la [0,1,5,6] ?_
       conv=>whnf
       refine ⟨rfl,rfl,i,j+1,X,(by omega),rfl,rfl,rfl,by omega,by omega,hX,(by rw [jJ p1,hx,hk]; simp),hdr⟩
     | false=>
       rw [hx] at c2;repeat' first|refine Ra ⟨?_⟩|refine Rk [1,2,0,3,4,5] 0 c2 ⟨?_⟩|((refine ⟨j,rfl,by omega,?_⟩) <;> conv=>whnf)|((refine ⟨i,rfl,by omega,?_⟩) <;> conv=>whnf)|((refine ⟨_,p5,?_⟩) <;> conv=>whnf)|((refine ⟨(rfl:kA _ _=false),_,p6,zAC rfl,?_⟩) <;> conv=>whnf)|refine Rd (fun h=>⟨?_⟩) fun h=>⟨?_⟩|refine Rb ⟨?_⟩|fail
       refine .here ⟨mq - 1,by omega,?_⟩;refine la [0,1,5,6] ?_
       conv=>whnf
       refine ⟨rfl,rfl,i+1,j+1,X.set i x,(by omega),rfl,?_,rfl,by omega,by omega,(by simpa using hX),(by rw [jJ p1,hx,← hk,zAY,List.getElem?_set_self hiX,List.take_set_of_le (zAL _)]; simp),(by rw [List.drop_set_of_lt (by omega),hdr])⟩;rw [List.map_set];rfl
   · have:j=ls.length:=by omega
     subst this;have hiX:i≤X.length:=by omega
     rw [zAP] at hk;rw [← hk,← A9 Lse.c X i hiX (cellsOf (.agg [.k .i64 0,.s [],.k .i64 0,.k .i64 0]))];repeat' first|refine Ra ⟨?_⟩|((refine ⟨i,rfl,by omega,zAL _,?_⟩) <;> conv=>whnf)|((refine ⟨by omega,zAL _,?_⟩) <;> conv=>whnf)|((refine ⟨i,rfl,zAG _,by simp; omega,?_⟩) <;> conv=>whnf)|refine Rd (fun h=>⟨?_⟩) fun h=>⟨?_⟩|refine Rb ⟨?_⟩|fail
     refine ak.here (fw [.trim 4] ?_)
     conv=>whnf
     exact ⟨rfl,rfl,rfl,rfl⟩
theorem y7 (w:Wld) (ls:List Lse) (h0 h1 h2:List Hld) (hl:ls.length≤1048576) (g1:ixL (gone w.clock) ls=-1) :
   Con (E m) 147 6 [.own 0,.fn 148 [1]] (tkS w (ls.map Lse.c) [anH h0,anH h1,anH h2]) (.own 0) (tkS w (ls.map Lse.c) [anH h0,anH h1,anH h2]):=by
 have c1:=cV (uS (m:=m) w ls h0 h1 h2 hl);rw [g1] at c1;refine cVE ?_;refine bK tF Ce Tryz.func147 rfl rfl rfl (zAC rfl) ?_;repeat' first|refine Ra ⟨?_⟩|refine Rk [0,1,2,3,4,5] 0 c1 ⟨?_⟩|refine Rd (fun h=>⟨?_⟩) fun h=>⟨?_⟩|refine Rb ⟨?_⟩|fail
 exact Rf
theorem Hn (w:Wld) (zs:List aE) (hc:0≤w.clock∧w.clock≤10000) (hll:w.leases.length≤1048576) (h0 h1 h2:List Hld) (hz:zs=[anH h0,anH h1,anH h2]):Con (E m) 78 5 [.bp 0 0] (bxT w 1 2 3 4 zs) (.tup []) (bxT (ix w) 5 6 7 8 zs):=by
 subst hz;have hclk:min (w.clock+1) 10000=eX w.clock:=by unfold eX; split <;> omega
 have hflt:w.leases.filter (fun l=>decide (eX w.clock < l.til))=w.leases.filter (fun l=>!gone (eX w.clock) l):=by
  congr 1
  funext l
  rw [zAK];simp only [decide_eq_true_eq,zAJ,decide_eq_false_iff_not];omega
 unfold ix;rw [hflt];rcases eD (gone (eX w.clock)) w.leases with ⟨g1,g2⟩|⟨i,x,g1,g2,g3,g4⟩
 · have c1:=y7 (m:=m) { w with clock:=eX w.clock } w.leases h0 h1 h2 hll g1
   rw [zBV.2 (fun l hl=>by rw [g2 l hl]; rfl)];rw [← hclk] at c1 ⊢;refine G0 Tryz.func78 ?_;repeat' first|refine Ra ⟨?_⟩|((refine ⟨[1,5,0,2,3,4],_,_,_,_,0,⟨rfl,rfl,rfl,c1,rfl,rfl⟩,.inl ⟨[5],⟨rfl,trivial⟩,rfl,.inr rfl,?_⟩⟩) <;> conv=>whnf)|refine Rd (fun h=>⟨?_⟩) fun h=>⟨?_⟩|refine Rb ⟨?_⟩|fail
   refine ak.here (fw [.anew 1,.close 2,.anew 3,.anew 4] ?_)
   conv=>whnf
   exact ⟨rfl,rfl,rfl,rfl⟩
 · have c1:=Ba (m:=m) { w with clock:=eX w.clock } w.leases h0 h1 h2 hll i x g1 g2 g3 g4
   rw [← hclk] at c1 ⊢;refine G0 Tryz.func78 ?_;repeat' first|refine Ra ⟨?_⟩|((refine ⟨[1,5,0,2,3,4],_,_,_,_,1,⟨rfl,rfl,rfl,c1,rfl,rfl⟩,.inl ⟨[5],⟨rfl,trivial⟩,rfl,.inr rfl,?_⟩⟩) <;> conv=>whnf)|refine Rd (fun h=>⟨?_⟩) fun h=>⟨?_⟩|refine Rb ⟨?_⟩|fail
   refine ak.here (fw [.close 2,.anew 3,.anew 4] ?_)
   conv=>whnf
   exact ⟨rfl,rfl,rfl,rfl⟩
variable {m:Int}
theorem uU (w:Wld) (g:Hld) (h0 h1 h2:List Hld) (f0 f1 f2:Int) (hf:w.floors=[f0,f1,f2]) (hln:h0.length≤1048575) (hu:h0.Pairwise fun a b=>a.path≠b.path) (hc:w.clock < g.til) (hn:f0 < g.num):Con (E m) 151 5 [.bp 0 0,.k .i64 0,.agg g.c] (bxT w 1 2 3 4 [anH h0,anH h1,anH h2]) (.tup []) (bxT w 5 6 7 8 [anH (cN h0 g),anH h1,anH h2]):=by
 have e1:(h0.map Hld.c).length=h0.length:=zAA ..;have c1:=du (m:=m) h0 g.path (by omega);obtain ⟨o,clk,cnt,ls,hs,fl,nt,wt,op⟩:=w;simp only at hf hc;subst hf;rcases eD (hb g.path) h0 with ⟨g1,g2⟩|⟨i,x,g1,g2,g3,g4⟩
 · rw [g1] at c1;rw [jL g2];refine G0 Tryz.func151 ?_;refine mw [.openA 2 0] ?_
   conv=>whnf
   repeat' first|refine Ra ⟨?_⟩|(refine ⟨[],_,_,_,_,0,⟨rfl,rfl,rfl,c1,rfl,rfl⟩,.inl ⟨[],trivial,rfl,.inl ⟨by simp [ay,aD,aj],by simp [aF,aG,aj,Ent.c,Mrk.c,Opn.c,Lse.c,Hld.c,Mes.c,az,anH]⟩,?_⟩⟩ <;> conv=>whnf)|((refine ⟨0,_,rfl,rfl,?_⟩) <;> conv=>whnf)|((refine ⟨0,rfl,by simp,?_⟩) <;> conv=>whnf)|((refine ⟨aE.nm 5,rfl,?_⟩) <;> conv=>whnf)|refine Rd (fun h=>⟨?_⟩) fun h=>⟨?_⟩|refine Rb ⟨?_⟩|fail
   refine ak.here (fw [.anew 1,.close 2,.anew 3,.anew 4] ?_)
   conv=>whnf
   refine ⟨rfl,rfl,rfl,?_⟩;unfold anH;rw [zAH];rfl
 · rw [g1] at c1;have hi:=(List.getElem?_eq_some_iff.1 g2).1;have g5:(h0.map Hld.c)[i]?=some x.c:=mg g2;by_cases hx:g.num≤x.num
   · rw [lC g2 g3 hx];refine G0 Tryz.func151 ?_;refine mw [.openA 2 0] ?_
     conv=>whnf
     repeat' first|refine Ra ⟨?_⟩|(refine ⟨[],_,_,_,_,0,⟨rfl,rfl,rfl,c1,rfl,rfl⟩,.inl ⟨[],trivial,rfl,.inl ⟨by simp [ay,aD,aj],by simp [aF,aG,aj,Ent.c,Mrk.c,Opn.c,Lse.c,Hld.c,Mes.c,az,anH]⟩,?_⟩⟩ <;> conv=>whnf)|((refine ⟨0,_,rfl,rfl,?_⟩) <;> conv=>whnf)|((refine ⟨0,rfl,by simp,?_⟩) <;> conv=>whnf)|((refine ⟨aE.nm 5,rfl,?_⟩) <;> conv=>whnf)|((refine ⟨i,rfl,by omega,?_⟩) <;> conv=>whnf)|((refine ⟨_,g5,?_⟩) <;> conv=>whnf)|refine Rd (fun h=>⟨?_⟩) fun h=>⟨?_⟩|refine Rb ⟨?_⟩|fail
     refine ak.here (fw [.anew 1,.close 2,.anew 3,.anew 4] ?_)
     conv=>whnf
     exact ⟨rfl,rfl,rfl,rfl⟩
   · rw [lD hu g2 g3 hx];have c2:=dC (m:=m) h0 i hi (by omega);have e2:((h0.eraseIdx i).map Hld.c).length=(h0.eraseIdx i).length:=zAA ..;have e3:(h0.eraseIdx i).length≤h0.length:=by rw [zAk]; split <;> omega
     refine G0 Tryz.func151 ?_;refine mw [.openA 2 0] ?_
     conv=>whnf
     repeat' first|refine Ra ⟨?_⟩|(refine ⟨[],_,_,_,_,0,⟨rfl,rfl,rfl,c1,rfl,rfl⟩,.inl ⟨[],trivial,rfl,.inl ⟨by simp [ay,aD,aj],by simp [aF,aG,aj,Ent.c,Mrk.c,Opn.c,Lse.c,Hld.c,Mes.c,az,anH]⟩,?_⟩⟩ <;> conv=>whnf)|refine Rk [5] 1 c2 ⟨?_⟩|((refine ⟨0,_,rfl,rfl,?_⟩) <;> conv=>whnf)|((refine ⟨0,rfl,by simp,?_⟩) <;> conv=>whnf)|((refine ⟨aE.nm 5,rfl,?_⟩) <;> conv=>whnf)|((refine ⟨i,rfl,by omega,?_⟩) <;> conv=>whnf)|((refine ⟨_,g5,?_⟩) <;> conv=>whnf)|refine Rd (fun h=>⟨?_⟩) fun h=>⟨?_⟩|refine Rb ⟨?_⟩|fail
     refine ak.here (fw [.anew 1,.close 2,.anew 3,.anew 4] ?_)
     conv=>whnf
     refine ⟨rfl,rfl,rfl,?_⟩;unfold anH;rw [zAH];rfl
theorem uV (w:Wld) (g:Hld) (h0 h1 h2:List Hld) (f0 f1 f2:Int) (hf:w.floors=[f0,f1,f2]) (hln:h1.length≤1048575) (hu:h1.Pairwise fun a b=>a.path≠b.path) (hc:w.clock < g.til) (hn:f1 < g.num):Con (E m) 151 5 [.bp 0 0,.k .i64 1,.agg g.c] (bxT w 1 2 3 4 [anH h0,anH h1,anH h2]) (.tup []) (bxT w 5 6 7 8 [anH h0,anH (cN h1 g),anH h2]):=by
 have e1:(h1.map Hld.c).length=h1.length:=zAA ..;have c1:=du (m:=m) h1 g.path (by omega);obtain ⟨o,clk,cnt,ls,hs,fl,nt,wt,op⟩:=w;simp only at hf hc;subst hf;rcases eD (hb g.path) h1 with ⟨g1,g2⟩|⟨i,x,g1,g2,g3,g4⟩
 · rw [g1] at c1;rw [jL g2];refine G0 Tryz.func151 ?_;refine mw [.openA 2 1] ?_
   conv=>whnf
   repeat' first|refine Ra ⟨?_⟩|(refine ⟨[],_,_,_,_,0,⟨rfl,rfl,rfl,c1,rfl,rfl⟩,.inl ⟨[],trivial,rfl,.inl ⟨by simp [ay,aD,aj],by simp [aF,aG,aj,Ent.c,Mrk.c,Opn.c,Lse.c,Hld.c,Mes.c,az,anH]⟩,?_⟩⟩ <;> conv=>whnf)|((refine ⟨1,_,rfl,rfl,?_⟩) <;> conv=>whnf)|((refine ⟨1,rfl,by simp,?_⟩) <;> conv=>whnf)|((refine ⟨aE.nm 5,rfl,?_⟩) <;> conv=>whnf)|refine Rd (fun h=>⟨?_⟩) fun h=>⟨?_⟩|refine Rb ⟨?_⟩|fail
   refine ak.here (fw [.anew 1,.close 2,.anew 3,.anew 4] ?_)
   conv=>whnf
   refine ⟨rfl,rfl,rfl,?_⟩;unfold anH;rw [zAH];rfl
 · rw [g1] at c1;have hi:=(List.getElem?_eq_some_iff.1 g2).1;have g5:(h1.map Hld.c)[i]?=some x.c:=mg g2;by_cases hx:g.num≤x.num
   · rw [lC g2 g3 hx];refine G0 Tryz.func151 ?_;refine mw [.openA 2 1] ?_
     conv=>whnf
     repeat' first|refine Ra ⟨?_⟩|(refine ⟨[],_,_,_,_,0,⟨rfl,rfl,rfl,c1,rfl,rfl⟩,.inl ⟨[],trivial,rfl,.inl ⟨by simp [ay,aD,aj],by simp [aF,aG,aj,Ent.c,Mrk.c,Opn.c,Lse.c,Hld.c,Mes.c,az,anH]⟩,?_⟩⟩ <;> conv=>whnf)|((refine ⟨1,_,rfl,rfl,?_⟩) <;> conv=>whnf)|((refine ⟨1,rfl,by simp,?_⟩) <;> conv=>whnf)|((refine ⟨aE.nm 5,rfl,?_⟩) <;> conv=>whnf)|((refine ⟨i,rfl,by omega,?_⟩) <;> conv=>whnf)|((refine ⟨_,g5,?_⟩) <;> conv=>whnf)|refine Rd (fun h=>⟨?_⟩) fun h=>⟨?_⟩|refine Rb ⟨?_⟩|fail
     refine ak.here (fw [.anew 1,.close 2,.anew 3,.anew 4] ?_)
     conv=>whnf
     exact ⟨rfl,rfl,rfl,rfl⟩
   · rw [lD hu g2 g3 hx];have c2:=dC (m:=m) h1 i hi (by omega);have e2:((h1.eraseIdx i).map Hld.c).length=(h1.eraseIdx i).length:=zAA ..;have e3:(h1.eraseIdx i).length≤h1.length:=by rw [zAk]; split <;> omega
     refine G0 Tryz.func151 ?_;refine mw [.openA 2 1] ?_
     conv=>whnf
     repeat' first|refine Ra ⟨?_⟩|(refine ⟨[],_,_,_,_,0,⟨rfl,rfl,rfl,c1,rfl,rfl⟩,.inl ⟨[],trivial,rfl,.inl ⟨by simp [ay,aD,aj],by simp [aF,aG,aj,Ent.c,Mrk.c,Opn.c,Lse.c,Hld.c,Mes.c,az,anH]⟩,?_⟩⟩ <;> conv=>whnf)|refine Rk [5] 1 c2 ⟨?_⟩|((refine ⟨1,_,rfl,rfl,?_⟩) <;> conv=>whnf)|((refine ⟨1,rfl,by simp,?_⟩) <;> conv=>whnf)|((refine ⟨aE.nm 5,rfl,?_⟩) <;> conv=>whnf)|((refine ⟨i,rfl,by omega,?_⟩) <;> conv=>whnf)|((refine ⟨_,g5,?_⟩) <;> conv=>whnf)|refine Rd (fun h=>⟨?_⟩) fun h=>⟨?_⟩|refine Rb ⟨?_⟩|fail
     refine ak.here (fw [.anew 1,.close 2,.anew 3,.anew 4] ?_)
     conv=>whnf
     refine ⟨rfl,rfl,rfl,?_⟩;unfold anH;rw [zAH];rfl
theorem uW (w:Wld) (g:Hld) (h0 h1 h2:List Hld) (f0 f1 f2:Int) (hf:w.floors=[f0,f1,f2]) (hln:h2.length≤1048575) (hu:h2.Pairwise fun a b=>a.path≠b.path) (hc:w.clock < g.til) (hn:f2 < g.num):Con (E m) 151 5 [.bp 0 0,.k .i64 2,.agg g.c] (bxT w 1 2 3 4 [anH h0,anH h1,anH h2]) (.tup []) (bxT w 5 6 7 8 [anH h0,anH h1,anH (cN h2 g)]):=by
 have e1:(h2.map Hld.c).length=h2.length:=zAA ..;have c1:=du (m:=m) h2 g.path (by omega);obtain ⟨o,clk,cnt,ls,hs,fl,nt,wt,op⟩:=w;simp only at hf hc;subst hf;rcases eD (hb g.path) h2 with ⟨g1,g2⟩|⟨i,x,g1,g2,g3,g4⟩
 · rw [g1] at c1;rw [jL g2];refine G0 Tryz.func151 ?_;refine mw [.openA 2 2] ?_
   conv=>whnf
   repeat' first|refine Ra ⟨?_⟩|(refine ⟨[],_,_,_,_,0,⟨rfl,rfl,rfl,c1,rfl,rfl⟩,.inl ⟨[],trivial,rfl,.inl ⟨by simp [ay,aD,aj],by simp [aF,aG,aj,Ent.c,Mrk.c,Opn.c,Lse.c,Hld.c,Mes.c,az,anH]⟩,?_⟩⟩ <;> conv=>whnf)|((refine ⟨2,_,rfl,rfl,?_⟩) <;> conv=>whnf)|((refine ⟨2,rfl,by simp,?_⟩) <;> conv=>whnf)|((refine ⟨aE.nm 5,rfl,?_⟩) <;> conv=>whnf)|refine Rd (fun h=>⟨?_⟩) fun h=>⟨?_⟩|refine Rb ⟨?_⟩|fail
   refine ak.here (fw [.anew 1,.close 2,.anew 3,.anew 4] ?_)
   conv=>whnf
   refine ⟨rfl,rfl,rfl,?_⟩;unfold anH;rw [zAH];rfl
 · rw [g1] at c1;have hi:=(List.getElem?_eq_some_iff.1 g2).1;have g5:(h2.map Hld.c)[i]?=some x.c:=mg g2;by_cases hx:g.num≤x.num
   · rw [lC g2 g3 hx];refine G0 Tryz.func151 ?_;refine mw [.openA 2 2] ?_
     conv=>whnf
     repeat' first|refine Ra ⟨?_⟩|(refine ⟨[],_,_,_,_,0,⟨rfl,rfl,rfl,c1,rfl,rfl⟩,.inl ⟨[],trivial,rfl,.inl ⟨by simp [ay,aD,aj],by simp [aF,aG,aj,Ent.c,Mrk.c,Opn.c,Lse.c,Hld.c,Mes.c,az,anH]⟩,?_⟩⟩ <;> conv=>whnf)|((refine ⟨2,_,rfl,rfl,?_⟩) <;> conv=>whnf)|((refine ⟨2,rfl,by simp,?_⟩) <;> conv=>whnf)|((refine ⟨aE.nm 5,rfl,?_⟩) <;> conv=>whnf)|((refine ⟨i,rfl,by omega,?_⟩) <;> conv=>whnf)|((refine ⟨_,g5,?_⟩) <;> conv=>whnf)|refine Rd (fun h=>⟨?_⟩) fun h=>⟨?_⟩|refine Rb ⟨?_⟩|fail
     refine ak.here (fw [.anew 1,.close 2,.anew 3,.anew 4] ?_)
     conv=>whnf
     exact ⟨rfl,rfl,rfl,rfl⟩
   · rw [lD hu g2 g3 hx];have c2:=dC (m:=m) h2 i hi (by omega);have e2:((h2.eraseIdx i).map Hld.c).length=(h2.eraseIdx i).length:=zAA ..;have e3:(h2.eraseIdx i).length≤h2.length:=by rw [zAk]; split <;> omega
     refine G0 Tryz.func151 ?_;refine mw [.openA 2 2] ?_
     conv=>whnf
     repeat' first|refine Ra ⟨?_⟩|(refine ⟨[],_,_,_,_,0,⟨rfl,rfl,rfl,c1,rfl,rfl⟩,.inl ⟨[],trivial,rfl,.inl ⟨by simp [ay,aD,aj],by simp [aF,aG,aj,Ent.c,Mrk.c,Opn.c,Lse.c,Hld.c,Mes.c,az,anH]⟩,?_⟩⟩ <;> conv=>whnf)|refine Rk [5] 1 c2 ⟨?_⟩|((refine ⟨2,_,rfl,rfl,?_⟩) <;> conv=>whnf)|((refine ⟨2,rfl,by simp,?_⟩) <;> conv=>whnf)|((refine ⟨aE.nm 5,rfl,?_⟩) <;> conv=>whnf)|((refine ⟨i,rfl,by omega,?_⟩) <;> conv=>whnf)|((refine ⟨_,g5,?_⟩) <;> conv=>whnf)|refine Rd (fun h=>⟨?_⟩) fun h=>⟨?_⟩|refine Rb ⟨?_⟩|fail
     refine ak.here (fw [.anew 1,.close 2,.anew 3,.anew 4] ?_)
     conv=>whnf
     refine ⟨rfl,rfl,rfl,?_⟩;unfold anH;rw [zAH];rfl
end Go.Proofs.YtagejnomlkfndaaGreatDoor
