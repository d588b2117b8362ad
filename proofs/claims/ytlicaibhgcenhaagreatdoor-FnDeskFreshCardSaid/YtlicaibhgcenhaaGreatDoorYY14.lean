/- Texts of this claim, set close: lemmas and contracts. -/
import Derived.Test.YtlicaibhgcenhaaGreatDoorYY13
set_option linter.unusedSimpArgs false
set_option linter.unusedVariables false
set_option maxHeartbeats 1000000
set_option maxRecDepth 10000
namespace Go.Proofs.YtlicaibhgcenhaaGreatDoor
open Go Go.RowKit Go.Ab Go.Par
variable {m:Int}
abbrev gone (clk:Int) (l:Lse):Bool:=decide (l.til≤clk)
abbrev tkS (w:Wld) (L:List (List D)) (zs:List br):ab:=[(0,.own 93 L),(1,.box 238 [.bp 2 0]),(2,.box 54 (wcO w 0 3 4 5)),(3,.deep 159 152 zs),(4,.own 3 (i7 w.floors)),(5,.own 154 (w.net.map Mes.c))]
abbrev tkT (w:Wld) (L:List (List D)) (zs:List br):ab:=[(0,.box 238 [.bp 1 0]),(1,.box 54 (wcO w 2 3 4 5)),(2,.own 93 L),(3,.deep 159 152 zs),(4,.own 3 (i7 w.floors)),(5,.own 154 (w.net.map Mes.c))]
theorem vX (w:Wld) (l:Lse) (L:List (List D)) (h0 h1 h2:List Hld):Con (E m) 212 6 [.agg l.c,.bp 0 0] (tkT w L [anH h0,anH h1,anH h2]) (.b (gone w.clock l)) (tkT w L [anH h0,anH h1,anH h2]):=by
 refine G0 Tryz.func212 ?_;repeat' first|refine Rx ⟨?_⟩|refine Rd (fun h=>⟨?_⟩) fun h=>⟨?_⟩|fail
 exact Rf
theorem tr (w:Wld) (ls:List Lse) (h0 h1 h2:List Hld) (hl:ls.length≤1048576):Con (E m) 232 6 [.own 0,.fn 212 [1]] (tkS w (ls.map Lse.c) [anH h0,anH h1,anH h2]) (.k .i64 (ixL (gone w.clock) ls)) (tkS w (ls.map Lse.c) [anH h0,anH h1,anH h2]):=by
 have e1:(ls.map Lse.c).length=ls.length:=zAA ..;refine G0 Tryz.func232 ?_;repeat' first|refine Rx ⟨?_⟩|refine Rd (fun h=>⟨?_⟩) fun h=>⟨?_⟩|fail
 refine Cd.loop2 (fun mq tm S nx=>∃ (i:Nat),mq=(ls.length - i)∧tm=[(0,.own 0),(1,.fn 212 [1]),(7,.k .i64 ((ls.map Lse.c).length:Int)),(8,.k .i64 i)]∧S=[(0,.own 93 (ls.map Lse.c)),(1,.box 238 [.bp 2 0]),(2,.box 54 (wcO w 0 3 4 5)),(3,.deep 159 152 [anH h0,anH h1,anH h2]),(4,.own 3 (i7 w.floors)),(5,.own 154 (w.net.map Mes.c))]∧nx=6∧(i≤ls.length)∧((ls.take i).all (fun x=>!gone w.clock x)=true)) ?_ ?_
 · refine la [0,1,7,8] ?_
   conv=>whnf
   refine ⟨rfl,rfl,_,0,rfl,rfl,rfl,rfl,by omega,by simp⟩
 · rintro mq tm S nx ⟨i,hn,rfl,rfl,rfl,hi,ha⟩;by_cases hlt:i < ls.length
   · have g1:ls[i]?=some ls[i]:=zAB hlt;generalize ls[i]=x at g1;have g5:(ls.map Lse.c)[i]?=some x.c:=mg g1;have c1:=vX (m:=m) w x (ls.map Lse.c) h0 h1 h2;cases hx:gone w.clock x with
     | true=>
       rw [hx] at c1;rw [mF ha g1 hx];repeat' first|refine Ra ⟨?_⟩|refine Rk [1,2,0,3,4,5] 0 c1 ⟨?_⟩|((refine ⟨i,rfl,by omega,?_⟩) <;> conv=>whnf)|((refine ⟨_,g5,?_⟩) <;> conv=>whnf)|refine Rd (fun h=>⟨?_⟩) fun h=>⟨?_⟩|refine Rb ⟨?_⟩|fail
       exact Rf
     | false=>
       rw [hx] at c1;repeat' first|refine Ra ⟨?_⟩|refine Rk [1,2,0,3,4,5] 0 c1 ⟨?_⟩|((refine ⟨i,rfl,by omega,?_⟩) <;> conv=>whnf)|((refine ⟨_,g5,?_⟩) <;> conv=>whnf)|refine Rd (fun h=>⟨?_⟩) fun h=>⟨?_⟩|refine Rb ⟨?_⟩|fail
       refine .here ⟨mq - 1,by omega,?_⟩;refine la [0,1,7,8] ?_
       conv=>whnf
       refine ⟨rfl,rfl,i+1,(by omega),rfl,rfl,rfl,by omega,bA ha g1 (by simp [hx])⟩
   · rw [oW ha (by omega)];repeat' first|refine Rx ⟨?_⟩|refine Rd (fun h=>⟨?_⟩) fun h=>⟨?_⟩|fail
     exact Rf
theorem pX {ls:List Lse} {clk:Int} {j:Nat} {x:Lse} (h:ls[j]?=some x):(ls.take (j+1)).filter (fun l=>!gone clk l)=(ls.take j).filter (fun l=>!gone clk l)++(if gone clk x then [] else [x]):=by
 rw [zAX,h,zAg];congr 1
 cases hg:gone clk x <;> simp [hg]
theorem Fd {α:Type} (f:α→List D) (X:List α) (i:Nat) (hi:i≤X.length) (z:List D):((X.map f).take i++List.replicate ((X.map f).length - i) z++(X.map f).drop (X.map f).length).take i=(X.take i).map f:=by
 have e1:((X.map f).take i).length=i:=by simp; omega
 rw [zAi,th _ _ _ e1,zBU]
theorem zc (w:Wld) (ls:List Lse) (h0 h1 h2:List Hld) (hl:ls.length≤1048576) (i0:Nat) (x0:Lse) (g1:ixL (gone w.clock) ls=(i0:Int)) (g2:ls[i0]?=some x0) (g3:gone w.clock x0=true) (g4:(ls.take i0).all (fun y=>!gone w.clock y)=true) :
   Con (E m) 211 6 [.own 0,.fn 212 [1]] (tkS w (ls.map Lse.c) [anH h0,anH h1,anH h2]) (.own 6) [(1,.box 238 [.bp 2 0]),(2,.box 54 (wcO w 0 3 4 5)),(3,.deep 159 152 [anH h0,anH h1,anH h2]),(4,.own 3 (i7 w.floors)),(5,.own 154 (w.net.map Mes.c)),(6,.own 93 ((ls.filter (fun l=>!gone w.clock l)).map Lse.c))]:=by
 have e1:(ls.map Lse.c).length=ls.length:=zAA ..;have hi0:=(List.getElem?_eq_some_iff.1 g2).1;have c1:=cV (tr (m:=m) w ls h0 h1 h2 hl);rw [g1] at c1;refine cVE ?_;refine dO yn EG Tryz.func211 rfl rfl rfl (zAF rfl) ?_;repeat' first|refine Ra ⟨?_⟩|refine Rk [0,1,2,3,4,5] 0 c1 ⟨?_⟩|refine Rd (fun h=>⟨?_⟩) fun h=>⟨?_⟩|refine Rb ⟨?_⟩|fail
 refine Cd.loop2 (fun mq tm S nx=>∃ (i:Nat) (j:Nat) (X:List Lse),mq=(ls.length - j)∧tm=[(0,.own 0),(1,.fn 212 [1]),(5,.k .i64 i),(6,.k .i64 j)]∧S=[(0,.own 93 (X.map Lse.c)),(1,.box 238 [.bp 2 0]),(2,.box 54 (wcO w 0 3 4 5)),(3,.deep 159 152 [anH h0,anH h1,anH h2]),(4,.own 3 (i7 w.floors)),(5,.own 154 (w.net.map Mes.c))]∧nx=6∧(j≤ls.length)∧(i < j)∧(X.length=ls.length)∧(X.take i=(ls.take j).filter (fun l=>!gone w.clock l))∧(X.drop j=ls.drop j)) ?_ ?_
 · refine la [0,1,5,6] ?_
   conv=>whnf
   refine ⟨rfl,rfl,_,i0,i0+1,ls,rfl,rfl,rfl,rfl,by omega,by omega,rfl,(by rw [pX g2,if_pos g3,List.append_nil,zBS.2 (zAr.1 g4)]),rfl⟩
 · rintro mq tm S nx ⟨i,j,X,hn,rfl,rfl,rfl,hj,hij,hX,hk,hd⟩;have e2:(X.map Lse.c).length=X.length:=zAA ..;by_cases hlt:j < ls.length
   · have p1:ls[j]?=some ls[j]:=zAB hlt;generalize ls[j]=x at p1;have p2:X[j]?=some x:=by
      have:(X.drop j)[0]?=(ls.drop j)[0]?:=by rw [hd]
      rw [zAj,zAj,Nat.add_zero] at this;rw [this,p1]
     have p5:(X.map Lse.c)[j]?=some x.c:=mg p2;have hdr:X.drop (j+1)=ls.drop (j+1):=by rw [← zBZ,← zBZ,hd]
     have c2:=cV (vX (m:=m) w x (X.map Lse.c) h0 h1 h2);have hiX:i < X.length:=by omega
     have p6:(X.map Lse.c)[i]?=some (X[i]).c:=mg (zAB hiX);cases hx:gone w.clock x with
     | true=>
       rw [hx] at c2;repeat' first|refine Ra ⟨?_⟩|refine Rk [1,2,0,3,4,5] 0 c2 ⟨?_⟩|((refine ⟨j,rfl,by omega,?_⟩) <;> conv=>whnf)|((refine ⟨_,p5,?_⟩) <;> conv=>whnf)|refine Rd (fun h=>⟨?_⟩) fun h=>⟨?_⟩|refine Rb ⟨?_⟩|fail
       refine .here ⟨mq - 1,by omega,?_⟩;refine la [0,1,5,6] ?_
       conv=>whnf
       refine ⟨rfl,rfl,i,j+1,X,(by omega),rfl,rfl,rfl,by omega,by omega,hX,(by rw [pX p1,hx,hk]; simp),hdr⟩
     | false=>
       rw [hx] at c2;repeat' first|refine Ra ⟨?_⟩|refine Rk [1,2,0,3,4,5] 0 c2 ⟨?_⟩|((refine ⟨j,rfl,by omega,?_⟩) <;> conv=>whnf)|((refine ⟨i,rfl,by omega,?_⟩) <;> conv=>whnf)|((refine ⟨_,p5,?_⟩) <;> conv=>whnf)|((refine ⟨(rfl:kq _ _=false),_,p6,zAF rfl,?_⟩) <;> conv=>whnf)|refine Rd (fun h=>⟨?_⟩) fun h=>⟨?_⟩|refine Rb ⟨?_⟩|fail
       refine .here ⟨mq - 1,by omega,?_⟩;refine la [0,1,5,6] ?_
       conv=>whnf
       refine ⟨rfl,rfl,i+1,j+1,X.set i x,(by omega),rfl,?_,rfl,by omega,by omega,(by simpa using hX),(by rw [pX p1,hx,← hk,zAX,List.getElem?_set_self hiX,List.take_set_of_le (zAM _)]; simp),(by rw [List.drop_set_of_lt (by omega),hdr])⟩;rw [List.map_set];rfl
   · have:j=ls.length:=by omega
     subst this;have hiX:i≤X.length:=by omega
     rw [zAN] at hk;rw [← hk,← Fd Lse.c X i hiX (cellsOf (.agg [.k .i64 0,.s [],.k .i64 0,.k .i64 0]))];repeat' first|refine Ra ⟨?_⟩|((refine ⟨i,rfl,by omega,zAM _,?_⟩) <;> conv=>whnf)|((refine ⟨by omega,zAM _,?_⟩) <;> conv=>whnf)|((refine ⟨i,rfl,zAG _,by simp; omega,?_⟩) <;> conv=>whnf)|refine Rd (fun h=>⟨?_⟩) fun h=>⟨?_⟩|refine Rb ⟨?_⟩|fail
     refine ai.here (fw [.trim 4] ?_)
     conv=>whnf
     exact ⟨rfl,rfl,rfl,rfl⟩
theorem xy (w:Wld) (ls:List Lse) (h0 h1 h2:List Hld) (hl:ls.length≤1048576) (g1:ixL (gone w.clock) ls=-1) :
   Con (E m) 211 6 [.own 0,.fn 212 [1]] (tkS w (ls.map Lse.c) [anH h0,anH h1,anH h2]) (.own 0) (tkS w (ls.map Lse.c) [anH h0,anH h1,anH h2]):=by
 have c1:=cV (tr (m:=m) w ls h0 h1 h2 hl);rw [g1] at c1;refine cVE ?_;refine dO yn EG Tryz.func211 rfl rfl rfl (zAF rfl) ?_;repeat' first|refine Ra ⟨?_⟩|refine Rk [0,1,2,3,4,5] 0 c1 ⟨?_⟩|refine Rd (fun h=>⟨?_⟩) fun h=>⟨?_⟩|refine Rb ⟨?_⟩|fail
 exact Rf
theorem Fe (w:Wld) (zs:List br) (hc:0≤w.clock∧w.clock≤10000) (hll:w.leases.length≤1048576) (h0 h1 h2:List Hld) (hz:zs=[anH h0,anH h1,anH h2]):Con (E m) 148 5 [.bp 0 0] (bxT w 1 2 3 4 zs) (.tup []) (bxT (lr w) 5 6 7 8 zs):=by
 subst hz;have hclk:min (w.clock+1) 10000=fE w.clock:=by unfold fE; split <;> omega
 have hflt:w.leases.filter (fun l=>decide (fE w.clock < l.til))=w.leases.filter (fun l=>!gone (fE w.clock) l):=by
  congr 1
  funext l
  rw [zAI];simp only [decide_eq_true_eq,zAJ,decide_eq_false_iff_not];omega
 unfold lr;rw [hflt];rcases fO (gone (fE w.clock)) w.leases with ⟨g1,g2⟩|⟨i,x,g1,g2,g3,g4⟩
 · have c1:=xy (m:=m) { w with clock:=fE w.clock } w.leases h0 h1 h2 hll g1
   rw [zBS.2 (fun l hl=>by rw [g2 l hl]; rfl)];rw [← hclk] at c1 ⊢;refine G0 Tryz.func148 ?_;repeat' first|refine Ra ⟨?_⟩|((refine ⟨[1,5,0,2,3,4],_,_,_,_,0,⟨rfl,rfl,rfl,c1,rfl,rfl⟩,.inl ⟨[5],⟨rfl,trivial⟩,rfl,.inr rfl,?_⟩⟩) <;> conv=>whnf)|refine Rd (fun h=>⟨?_⟩) fun h=>⟨?_⟩|refine Rb ⟨?_⟩|fail
   refine ai.here (fw [.anew 1,.close 2,.anew 3,.anew 4] ?_)
   conv=>whnf
   exact ⟨rfl,rfl,rfl,rfl⟩
 · have c1:=zc (m:=m) { w with clock:=fE w.clock } w.leases h0 h1 h2 hll i x g1 g2 g3 g4
   rw [← hclk] at c1 ⊢;refine G0 Tryz.func148 ?_;repeat' first|refine Ra ⟨?_⟩|((refine ⟨[1,5,0,2,3,4],_,_,_,_,1,⟨rfl,rfl,rfl,c1,rfl,rfl⟩,.inl ⟨[5],⟨rfl,trivial⟩,rfl,.inr rfl,?_⟩⟩) <;> conv=>whnf)|refine Rd (fun h=>⟨?_⟩) fun h=>⟨?_⟩|refine Rb ⟨?_⟩|fail
   refine ai.here (fw [.close 2,.anew 3,.anew 4] ?_)
   conv=>whnf
   exact ⟨rfl,rfl,rfl,rfl⟩
variable {m:Int}
theorem GD {l:List (List Hld)} (h:l.length=3):∃ a b c,l=[a,b,c]:=by
 match l,h with
 | [a,b,c],_=>exact ⟨a,b,c,rfl⟩
theorem Bl {l:List Int} (h:l.length=3):∃ a b c,l=[a,b,c]:=by
 match l,h with
 | [a,b,c],_=>exact ⟨a,b,c,rfl⟩
theorem kX {hs:List Hld} (hu:hs.Pairwise fun a b=>a.path≠b.path) {p:Bs} {i:Nat} {x:Hld} (h:hs[i]?=some x) (hx:hb p x=true) {j:Nat} {y:Hld} (hj:hs[j]?=some y) (hne:j≠i):hb p y=false:=by
 rw [zAz] at hu;obtain ⟨hi,rfl⟩:=List.getElem?_eq_some_iff.1 h;obtain ⟨hj',rfl⟩:=List.getElem?_eq_some_iff.1 hj;have hx:=of_decide_eq_true hx;refine decide_eq_false fun hy=>?_;rcases zBJ hne with g|g
 · exact hu j i hj' hi g (by rw [hy,hx])
 · exact hu i j hi hj' g (by rw [hy,hx])
theorem nI {hs:List Hld} {p:Bs} {n:Int} (h:∀ x∈hs,hb p x=false):bW hs p n=hs:=by
 unfold bW;rw [zBS];intro x hx
 have:=h x hx
 simp only [decide_eq_false_iff_not] at this;simp [this]
theorem pY {hs:List Hld} (hu:hs.Pairwise fun a b=>a.path≠b.path) {p:Bs} {n:Int} {i:Nat} {x:Hld} (h:hs[i]?=some x) (hx:hb p x=true) (hn:x.num≤n):bW hs p n=hs.eraseIdx i:=by
 unfold bW;refine fG h (by have:=of_decide_eq_true hx; simp [this,hn]) fun j y hj hne=>?_
 have:=kX hu h hx hj hne
 simp only [decide_eq_false_iff_not] at this;simp [this]
theorem nJ {hs:List Hld} (hu:hs.Pairwise fun a b=>a.path≠b.path) {p:Bs} {n:Int} {i:Nat} {x:Hld} (h:hs[i]?=some x) (hx:hb p x=true) (hn:¬ x.num≤n):bW hs p n=hs:=by
 unfold bW;rw [zBS];intro y hy;obtain ⟨j,hj⟩:=List.mem_iff_getElem?.1 hy;by_cases e:j=i
 · subst e;rw [h] at hj;cases hj;simp [hn]
 · have:=kX hu h hx hj e
   simp only [decide_eq_false_iff_not] at this;simp [this]
theorem pZ {hs:List Hld} {g:Hld} (h:∀ x∈hs,hb g.path x=false):cC hs g=hs++[g]:=by
 unfold cC;have h1:(hs.any fun x=>decide (x.path=g.path) && decide (g.num≤x.num))=false:=by
  rw [List.any_eq_false];intro x hx
  have:=h x hx
  simp only [decide_eq_false_iff_not] at this;simp [this]
 rw [h1,if_neg (by simp),zBS.2];intro x hx
 have:=h x hx
 simp only [decide_eq_false_iff_not] at this;simp [this]
theorem tu {hs:List Hld} {g:Hld} {i:Nat} {x:Hld} (h:hs[i]?=some x) (hx:hb g.path x=true) (hn:g.num≤x.num):cC hs g=hs:=by
 unfold cC;have h1:(hs.any fun x=>decide (x.path=g.path) && decide (g.num≤x.num))=true:=by
  rw [zAp];exact ⟨x,zAD h,by simp [of_decide_eq_true hx,hn]⟩
 rw [h1,if_pos rfl]
theorem tw {hs:List Hld} (hu:hs.Pairwise fun a b=>a.path≠b.path) {g:Hld} {i:Nat} {x:Hld} (h:hs[i]?=some x) (hx:hb g.path x=true) (hn:¬ g.num≤x.num):cC hs g=hs.eraseIdx i++[g]:=by
 unfold cC;have h1:(hs.any fun x=>decide (x.path=g.path) && decide (g.num≤x.num))=false:=by
  rw [List.any_eq_false];intro y hy;obtain ⟨j,hj⟩:=List.mem_iff_getElem?.1 hy;by_cases e:j=i
  · subst e;rw [h] at hj;cases hj;simp [hn]
  · have:=kX hu h hx hj e
    simp only [decide_eq_false_iff_not] at this;simp [this]
 rw [h1,if_neg (by simp)];congr 1
 refine fG h (by have:=of_decide_eq_true hx; simp [this]) fun j y hj hne=>?_
 have:=kX hu h hx hj hne
 simp only [decide_eq_false_iff_not] at this;simp [this]
theorem tx (w:Wld) (g:Hld) (h0 h1 h2:List Hld) (f0 f1 f2:Int) (hf:w.floors=[f0,f1,f2]) (hln:h0.length≤1048575) (hu:h0.Pairwise fun a b=>a.path≠b.path) (hc:w.clock < g.til) (hn:f0 < g.num):Con (E m) 215 5 [.bp 0 0,.k .i64 0,.agg g.c] (bxT w 1 2 3 4 [anH h0,anH h1,anH h2]) (.tup []) (bxT w 5 6 7 8 [anH (cC h0 g),anH h1,anH h2]):=by
 have e1:(h0.map Hld.c).length=h0.length:=zAA ..;have c1:=eo (m:=m) h0 g.path (by omega);obtain ⟨o,clk,cnt,ls,hs,fl,nt,wt,op⟩:=w;simp only at hf hc;subst hf;rcases fO (hb g.path) h0 with ⟨g1,g2⟩|⟨i,x,g1,g2,g3,g4⟩
 · rw [g1] at c1;rw [pZ g2];refine G0 Tryz.func215 ?_;refine mw [.openA 2 0] ?_
   conv=>whnf
   repeat' first|refine Ra ⟨?_⟩|(refine ⟨[],_,_,_,_,0,⟨rfl,rfl,rfl,c1,rfl,rfl⟩,.inl ⟨[],trivial,rfl,.inl ⟨by simp [bb,ba,aj],by simp [bg,bc,aj,Ent.c,Mrk.c,Opn.c,Lse.c,Hld.c,Mes.c,aX,anH]⟩,?_⟩⟩ <;> conv=>whnf)|((refine ⟨0,_,rfl,rfl,?_⟩) <;> conv=>whnf)|((refine ⟨0,rfl,by simp,?_⟩) <;> conv=>whnf)|((refine ⟨br.nm 5,rfl,?_⟩) <;> conv=>whnf)|refine Rd (fun h=>⟨?_⟩) fun h=>⟨?_⟩|refine Rb ⟨?_⟩|fail
   refine ai.here (fw [.anew 1,.close 2,.anew 3,.anew 4] ?_)
   conv=>whnf
   refine ⟨rfl,rfl,rfl,?_⟩;unfold anH;rw [zAK];rfl
 · rw [g1] at c1;have hi:=(List.getElem?_eq_some_iff.1 g2).1;have g5:(h0.map Hld.c)[i]?=some x.c:=mg g2;by_cases hx:g.num≤x.num
   · rw [tu g2 g3 hx];refine G0 Tryz.func215 ?_;refine mw [.openA 2 0] ?_
     conv=>whnf
     repeat' first|refine Ra ⟨?_⟩|(refine ⟨[],_,_,_,_,0,⟨rfl,rfl,rfl,c1,rfl,rfl⟩,.inl ⟨[],trivial,rfl,.inl ⟨by simp [bb,ba,aj],by simp [bg,bc,aj,Ent.c,Mrk.c,Opn.c,Lse.c,Hld.c,Mes.c,aX,anH]⟩,?_⟩⟩ <;> conv=>whnf)|((refine ⟨0,_,rfl,rfl,?_⟩) <;> conv=>whnf)|((refine ⟨0,rfl,by simp,?_⟩) <;> conv=>whnf)|((refine ⟨br.nm 5,rfl,?_⟩) <;> conv=>whnf)|((refine ⟨i,rfl,by omega,?_⟩) <;> conv=>whnf)|((refine ⟨_,g5,?_⟩) <;> conv=>whnf)|refine Rd (fun h=>⟨?_⟩) fun h=>⟨?_⟩|refine Rb ⟨?_⟩|fail
     refine ai.here (fw [.anew 1,.close 2,.anew 3,.anew 4] ?_)
     conv=>whnf
     exact ⟨rfl,rfl,rfl,rfl⟩
   · rw [tw hu g2 g3 hx];have c2:=fX (m:=m) h0 i hi (by omega);have e2:((h0.eraseIdx i).map Hld.c).length=(h0.eraseIdx i).length:=zAA ..;have e3:(h0.eraseIdx i).length≤h0.length:=by rw [zAu]; split <;> omega
     refine G0 Tryz.func215 ?_;refine mw [.openA 2 0] ?_
     conv=>whnf
     repeat' first|refine Ra ⟨?_⟩|(refine ⟨[],_,_,_,_,0,⟨rfl,rfl,rfl,c1,rfl,rfl⟩,.inl ⟨[],trivial,rfl,.inl ⟨by simp [bb,ba,aj],by simp [bg,bc,aj,Ent.c,Mrk.c,Opn.c,Lse.c,Hld.c,Mes.c,aX,anH]⟩,?_⟩⟩ <;> conv=>whnf)|refine Rk [5] 1 c2 ⟨?_⟩|((refine ⟨0,_,rfl,rfl,?_⟩) <;> conv=>whnf)|((refine ⟨0,rfl,by simp,?_⟩) <;> conv=>whnf)|((refine ⟨br.nm 5,rfl,?_⟩) <;> conv=>whnf)|((refine ⟨i,rfl,by omega,?_⟩) <;> conv=>whnf)|((refine ⟨_,g5,?_⟩) <;> conv=>whnf)|refine Rd (fun h=>⟨?_⟩) fun h=>⟨?_⟩|refine Rb ⟨?_⟩|fail
     refine ai.here (fw [.anew 1,.close 2,.anew 3,.anew 4] ?_)
     conv=>whnf
     refine ⟨rfl,rfl,rfl,?_⟩;unfold anH;rw [zAK];rfl
theorem tz (w:Wld) (g:Hld) (h0 h1 h2:List Hld) (f0 f1 f2:Int) (hf:w.floors=[f0,f1,f2]) (hln:h1.length≤1048575) (hu:h1.Pairwise fun a b=>a.path≠b.path) (hc:w.clock < g.til) (hn:f1 < g.num):Con (E m) 215 5 [.bp 0 0,.k .i64 1,.agg g.c] (bxT w 1 2 3 4 [anH h0,anH h1,anH h2]) (.tup []) (bxT w 5 6 7 8 [anH h0,anH (cC h1 g),anH h2]):=by
 have e1:(h1.map Hld.c).length=h1.length:=zAA ..;have c1:=eo (m:=m) h1 g.path (by omega);obtain ⟨o,clk,cnt,ls,hs,fl,nt,wt,op⟩:=w;simp only at hf hc;subst hf;rcases fO (hb g.path) h1 with ⟨g1,g2⟩|⟨i,x,g1,g2,g3,g4⟩
 · rw [g1] at c1;rw [pZ g2];refine G0 Tryz.func215 ?_;refine mw [.openA 2 1] ?_
   conv=>whnf
   repeat' first|refine Ra ⟨?_⟩|(refine ⟨[],_,_,_,_,0,⟨rfl,rfl,rfl,c1,rfl,rfl⟩,.inl ⟨[],trivial,rfl,.inl ⟨by simp [bb,ba,aj],by simp [bg,bc,aj,Ent.c,Mrk.c,Opn.c,Lse.c,Hld.c,Mes.c,aX,anH]⟩,?_⟩⟩ <;> conv=>whnf)|((refine ⟨1,_,rfl,rfl,?_⟩) <;> conv=>whnf)|((refine ⟨1,rfl,by simp,?_⟩) <;> conv=>whnf)|((refine ⟨br.nm 5,rfl,?_⟩) <;> conv=>whnf)|refine Rd (fun h=>⟨?_⟩) fun h=>⟨?_⟩|refine Rb ⟨?_⟩|fail
   refine ai.here (fw [.anew 1,.close 2,.anew 3,.anew 4] ?_)
   conv=>whnf
   refine ⟨rfl,rfl,rfl,?_⟩;unfold anH;rw [zAK];rfl
 · rw [g1] at c1;have hi:=(List.getElem?_eq_some_iff.1 g2).1;have g5:(h1.map Hld.c)[i]?=some x.c:=mg g2;by_cases hx:g.num≤x.num
   · rw [tu g2 g3 hx];refine G0 Tryz.func215 ?_;refine mw [.openA 2 1] ?_
     conv=>whnf
     repeat' first|refine Ra ⟨?_⟩|(refine ⟨[],_,_,_,_,0,⟨rfl,rfl,rfl,c1,rfl,rfl⟩,.inl ⟨[],trivial,rfl,.inl ⟨by simp [bb,ba,aj],by simp [bg,bc,aj,Ent.c,Mrk.c,Opn.c,Lse.c,Hld.c,Mes.c,aX,anH]⟩,?_⟩⟩ <;> conv=>whnf)|((refine ⟨1,_,rfl,rfl,?_⟩) <;> conv=>whnf)|((refine ⟨1,rfl,by simp,?_⟩) <;> conv=>whnf)|((refine ⟨br.nm 5,rfl,?_⟩) <;> conv=>whnf)|((refine ⟨i,rfl,by omega,?_⟩) <;> conv=>whnf)|((refine ⟨_,g5,?_⟩) <;> conv=>whnf)|refine Rd (fun h=>⟨?_⟩) fun h=>⟨?_⟩|refine Rb ⟨?_⟩|fail
     refine ai.here (fw [.anew 1,.close 2,.anew 3,.anew 4] ?_)
     conv=>whnf
     exact ⟨rfl,rfl,rfl,rfl⟩
   · rw [tw hu g2 g3 hx];have c2:=fX (m:=m) h1 i hi (by omega);have e2:((h1.eraseIdx i).map Hld.c).length=(h1.eraseIdx i).length:=zAA ..;have e3:(h1.eraseIdx i).length≤h1.length:=by rw [zAu]; split <;> omega
     refine G0 Tryz.func215 ?_;refine mw [.openA 2 1] ?_
     conv=>whnf
     repeat' first|refine Ra ⟨?_⟩|(refine ⟨[],_,_,_,_,0,⟨rfl,rfl,rfl,c1,rfl,rfl⟩,.inl ⟨[],trivial,rfl,.inl ⟨by simp [bb,ba,aj],by simp [bg,bc,aj,Ent.c,Mrk.c,Opn.c,Lse.c,Hld.c,Mes.c,aX,anH]⟩,?_⟩⟩ <;> conv=>whnf)|refine Rk [5] 1 c2 ⟨?_⟩|((refine ⟨1,_,rfl,rfl,?_⟩) <;> conv=>whnf)|((refine ⟨1,rfl,by simp,?_⟩) <;> conv=>whnf)|((refine ⟨br.nm 5,rfl,?_⟩) <;> conv=>whnf)|((refine ⟨i,rfl,by omega,?_⟩) <;> conv=>whnf)|((refine ⟨_,g5,?_⟩) <;> conv=>whnf)|refine Rd (fun h=>⟨?_⟩) fun h=>⟨?_⟩|refine Rb ⟨?_⟩|fail
     refine ai.here (fw [.anew 1,.close 2,.anew 3,.anew 4] ?_)
     conv=>whnf
     refine ⟨rfl,rfl,rfl,?_⟩;unfold anH;rw [zAK];rfl
theorem tA (w:Wld) (g:Hld) (h0 h1 h2:List Hld) (f0 f1 f2:Int) (hf:w.floors=[f0,f1,f2]) (hln:h2.length≤1048575) (hu:h2.Pairwise fun a b=>a.path≠b.path) (hc:w.clock < g.til) (hn:f2 < g.num):Con (E m) 215 5 [.bp 0 0,.k .i64 2,.agg g.c] (bxT w 1 2 3 4 [anH h0,anH h1,anH h2]) (.tup []) (bxT w 5 6 7 8 [anH h0,anH h1,anH (cC h2 g)]):=by
 have e1:(h2.map Hld.c).length=h2.length:=zAA ..;have c1:=eo (m:=m) h2 g.path (by omega);obtain ⟨o,clk,cnt,ls,hs,fl,nt,wt,op⟩:=w;simp only at hf hc;subst hf;rcases fO (hb g.path) h2 with ⟨g1,g2⟩|⟨i,x,g1,g2,g3,g4⟩
 · rw [g1] at c1;rw [pZ g2];refine G0 Tryz.func215 ?_;refine mw [.openA 2 2] ?_
   conv=>whnf
   repeat' first|refine Ra ⟨?_⟩|(refine ⟨[],_,_,_,_,0,⟨rfl,rfl,rfl,c1,rfl,rfl⟩,.inl ⟨[],trivial,rfl,.inl ⟨by simp [bb,ba,aj],by simp [bg,bc,aj,Ent.c,Mrk.c,Opn.c,Lse.c,Hld.c,Mes.c,aX,anH]⟩,?_⟩⟩ <;> conv=>whnf)|((refine ⟨2,_,rfl,rfl,?_⟩) <;> conv=>whnf)|((refine ⟨2,rfl,by simp,?_⟩) <;> conv=>whnf)|((refine ⟨br.nm 5,rfl,?_⟩) <;> conv=>whnf)|refine Rd (fun h=>⟨?_⟩) fun h=>⟨?_⟩|refine Rb ⟨?_⟩|fail
   refine ai.here (fw [.anew 1,.close 2,.anew 3,.anew 4] ?_)
   conv=>whnf
   refine ⟨rfl,rfl,rfl,?_⟩;unfold anH;rw [zAK];rfl
 · rw [g1] at c1;have hi:=(List.getElem?_eq_some_iff.1 g2).1;have g5:(h2.map Hld.c)[i]?=some x.c:=mg g2;by_cases hx:g.num≤x.num
   · rw [tu g2 g3 hx];refine G0 Tryz.func215 ?_;refine mw [.openA 2 2] ?_
     conv=>whnf
     repeat' first|refine Ra ⟨?_⟩|(refine ⟨[],_,_,_,_,0,⟨rfl,rfl,rfl,c1,rfl,rfl⟩,.inl ⟨[],trivial,rfl,.inl ⟨by simp [bb,ba,aj],by simp [bg,bc,aj,Ent.c,Mrk.c,Opn.c,Lse.c,Hld.c,Mes.c,aX,anH]⟩,?_⟩⟩ <;> conv=>whnf)|((refine ⟨2,_,rfl,rfl,?_⟩) <;> conv=>whnf)|((refine ⟨2,rfl,by simp,?_⟩) <;> conv=>whnf)|((refine ⟨br.nm 5,rfl,?_⟩) <;> conv=>whnf)|((refine ⟨i,rfl,by omega,?_⟩) <;> conv=>whnf)|((refine ⟨_,g5,?_⟩) <;> conv=>whnf)|refine Rd (fun h=>⟨?_⟩) fun h=>⟨?_⟩|refine Rb ⟨?_⟩|fail
     refine ai.here (fw [.anew 1,.close 2,.anew 3,.anew 4] ?_)
     conv=>whnf
     exact ⟨rfl,rfl,rfl,rfl⟩
   · rw [tw hu g2 g3 hx];have c2:=fX (m:=m) h2 i hi (by omega);have e2:((h2.eraseIdx i).map Hld.c).length=(h2.eraseIdx i).length:=zAA ..;have e3:(h2.eraseIdx i).length≤h2.length:=by rw [zAu]; split <;> omega
     refine G0 Tryz.func215 ?_;refine mw [.openA 2 2] ?_
     conv=>whnf
     repeat' first|refine Ra ⟨?_⟩|(refine ⟨[],_,_,_,_,0,⟨rfl,rfl,rfl,c1,rfl,rfl⟩,.inl ⟨[],trivial,rfl,.inl ⟨by simp [bb,ba,aj],by simp [bg,bc,aj,Ent.c,Mrk.c,Opn.c,Lse.c,Hld.c,Mes.c,aX,anH]⟩,?_⟩⟩ <;> conv=>whnf)|refine Rk [5] 1 c2 ⟨?_⟩|((refine ⟨2,_,rfl,rfl,?_⟩) <;> conv=>whnf)|((refine ⟨2,rfl,by simp,?_⟩) <;> conv=>whnf)|((refine ⟨br.nm 5,rfl,?_⟩) <;> conv=>whnf)|((refine ⟨i,rfl,by omega,?_⟩) <;> conv=>whnf)|((refine ⟨_,g5,?_⟩) <;> conv=>whnf)|refine Rd (fun h=>⟨?_⟩) fun h=>⟨?_⟩|refine Rb ⟨?_⟩|fail
     refine ai.here (fw [.anew 1,.close 2,.anew 3,.anew 4] ?_)
     conv=>whnf
     refine ⟨rfl,rfl,rfl,?_⟩;unfold anH;rw [zAK];rfl
variable {m:Int}
theorem xz (a b:List Ent) (ha:af a=true) (hb:af b=true):Con (E m) 166 0 [.sl (a.map Ent.c),.sl (b.map Ent.c)] [] (.own 0) [(0,.own 9 (strs (aS a b)))]:=by
 have hal:=az ha;have hbl:=az hb;have e1:(a.map Ent.c).length=a.length:=zAA ..;have e2:(b.map Ent.c).length=b.length:=zAA ..;have hx:aS a b=(aq (cb a b)).filter fun p=>decide (am a p≠am b p):=by rw [aS,ha,hb]; rfl
 refine G0 Tryz.func166 ?_;repeat' first|refine Rx ⟨?_⟩|refine Rd (fun h=>⟨?_⟩) fun h=>⟨?_⟩|fail
 refine Cd.loop2 (fun mq tm S nx=>∃ (i:Nat) (X:List Ent),mq=(b.length - i)∧tm=[(0,.sl (a.map Ent.c)),(1,.sl (b.map Ent.c)),(5,.sl (X.map Ent.c)),(6,.k .i64 i)]∧S=[]∧nx=0∧(i≤b.length)∧(X=cb a (b.take i))∧(X.length≤16+i)) ?_ ?_
 · refine li [5] [0,1,5,6] ?_
   conv=>whnf
   refine ⟨rfl,rfl,_,0,a,rfl,rfl,rfl,rfl,by omega,by simp [cb],by omega⟩
 · rintro mq tm S nx ⟨i,X,hn,rfl,rfl,rfl,hi,hX,hXl⟩;by_cases hlt:i < b.length
   · have g1:b[i]?=some b[i]:=zAB hlt;generalize b[i]=x at g1;have c1:=hZ (m:=m) X x (by omega);have hl:=(gd X x).2;repeat' first|refine Ra ⟨?_⟩|refine Rk [] 1 c1 ⟨?_⟩|refine Rd (fun h=>⟨?_⟩) fun h=>⟨?_⟩|refine Rb ⟨?_⟩|fail
     refine .here ⟨mq - 1,by omega,?_⟩;refine li [5] [0,1,5,6] ?_
     conv=>whnf
     refine ⟨rfl,rfl,i+1,dF X x,(by omega),rfl,rfl,rfl,by omega,(by rw [hX,qK g1]),by omega⟩
   · rw [zAf (by omega)] at hX;rw [← hX] at hx;have e3:(X.map Ent.c).length=X.length:=zAA ..;repeat' first|refine Rx ⟨?_⟩|refine Rd (fun h=>⟨?_⟩) fun h=>⟨?_⟩|fail
     refine Cd.loop2 (fun mq tm S nx=>∃ (k:Nat) (A:List Bs),mq=(X.length - k)∧tm=[(0,.sl (a.map Ent.c)),(1,.sl (b.map Ent.c)),(5,.sl (X.map Ent.c)),(7,.own 0),(8,.k .i64 k)]∧S=[(0,.own 9 (strs A))]∧nx=1∧(k≤X.length)∧(A=(aq (X.take k)).filter (fun p=>decide (am a p≠am b p)))∧(A.length≤k)) ?_ ?_
     · refine la [0,1,5,7,8] ?_
       conv=>whnf
       refine ⟨rfl,rfl,_,0,[],rfl,rfl,rfl,rfl,by omega,by simp,by simp⟩
     · rintro mq tm S nx ⟨k,A,hn,rfl,rfl,rfl,hk,hA,hAl⟩;have e4:(strs A).length=A.length:=zAA ..;by_cases hlt2:k < X.length
       · have g3:X[k]?=some X[k]:=zAB hlt2;generalize X[k]=x at g3;have c2:=dH (m:=m) a x.path (by omega);have c3:=dH (m:=m) b x.path (by omega);rw [xh] at c2 c3;have g4:=qJ g3;by_cases hq:am a x.path=am b x.path
         · have g5:A=(aq (X.take (k+1))).filter (fun p=>decide (am a p≠am b p)):=by rw [hA,g4,zAg]; simp [hq]
           rw [← hq] at c3;generalize am a x.path=O at c2 c3;have f1:=Gw (rfl:O=O);repeat' first|refine Ra ⟨?_⟩|refine R0 c2 ⟨?_⟩|refine R0 c3 ⟨?_⟩|refine Rd (fun h=>⟨?_⟩) fun h=>⟨?_⟩|refine Rb ⟨?_⟩|fail
           refine .here ⟨mq - 1,by omega,?_⟩;refine la [0,1,5,7,8] ?_
           conv=>whnf
           refine ⟨rfl,rfl,k+1,A,(by omega),rfl,rfl,rfl,by omega,g5,by omega⟩
         · have g5:A++[x.path]=(aq (X.take (k+1))).filter (fun p=>decide (am a p≠am b p)):=by rw [hA,g4,zAg]; simp [hq]
           have f1:=Gx hq;generalize am a x.path=O at c2 f1;generalize am b x.path=O2 at c3 f1;rcases f1 with f1|⟨f1,f2⟩
           · unfold fs at f1;repeat' first|refine Ra ⟨?_⟩|refine R0 c2 ⟨?_⟩|refine R0 c3 ⟨?_⟩|refine Rd (fun h=>⟨?_⟩) fun h=>⟨?_⟩|refine Rb ⟨?_⟩|fail
             refine .here ⟨mq - 1,by omega,?_⟩;refine la [0,1,5,7,8] ?_
             conv=>whnf
             refine ⟨rfl,rfl,k+1,A++[x.path],(by omega),rfl,?_,rfl,by omega,g5,(by simp; omega)⟩;rw [← e7];rfl
           · unfold fs at f1;repeat' first|refine Ra ⟨?_⟩|refine R0 c2 ⟨?_⟩|refine R0 c3 ⟨?_⟩|refine Rd (fun h=>⟨?_⟩) fun h=>⟨?_⟩|refine Rb ⟨?_⟩|fail
             refine .here ⟨mq - 1,by omega,?_⟩;refine la [0,1,5,7,8] ?_
             conv=>whnf
             refine ⟨rfl,rfl,k+1,A++[x.path],(by omega),rfl,?_,rfl,by omega,g5,(by simp; omega)⟩;rw [← e7];rfl
       · rw [zAf (by omega)] at hA;rw [hx,← hA];repeat' first|refine Rx ⟨?_⟩|refine Rd (fun h=>⟨?_⟩) fun h=>⟨?_⟩|fail
         exact Rf
theorem zd (w:Wld) (p:Opn) (hb:du w) (hp:nD 1073741823 p) {t v:List Ent} (ho:aQ w.over=some (t,v)):Con (E m) 93 0 [.agg w.c,.agg p.c] [] (.own 0) [(0,.own 9 (strs (bV v p)))]:=by
 have hv:=(bu ho).2.2.2;have hvl:=az hv;have c1:=fg (m:=m) w.over hb.over;have h2:gp w.over=some v:=by
  obtain ⟨g1,g2,g3⟩:=bJ.1 ho;rw [gp,g1];exact g2
 rw [h2] at c1;have c2:=ia (m:=m) v p (by omega) (o7 hv) hp.1 hp.2.1 hp.2.2;unfold bV;by_cases h:(ao v p).2=0
 · rw [if_pos h];have c3:=xz (m:=m) v (ao v p).1 hv (gM hv p);refine G0 Tryz.func93 ?_;repeat' first|refine Ra ⟨?_⟩|refine R0 c1 ⟨?_⟩|refine Rk [] 1 c2 ⟨?_⟩|refine Rk [] 1 c3 ⟨?_⟩|refine Rd (fun h=>⟨?_⟩) fun h=>⟨?_⟩|refine Rb ⟨?_⟩|fail
   exact Rf
 · rw [if_neg h];refine G0 Tryz.func93 ?_;repeat' first|refine Ra ⟨?_⟩|refine R0 c1 ⟨?_⟩|refine Rk [] 1 c2 ⟨?_⟩|refine Rd (fun h=>⟨?_⟩) fun h=>⟨?_⟩|refine Rb ⟨?_⟩|fail
   exact Rf
theorem Ff (w:Wld) (zs:List br) (hb:du w) {t v:List Ent} (ho:aQ w.over=some (t,v)) (h0 h1 h2:List Hld) (hh:w.holds=[h0,h1,h2]) (hz:zs=[anH h0,anH h1,anH h2]):Con (E m) 189 4 [.agg (wcO w 0 1 2 3)] (wlT w 0 1 2 3 zs) (.tup [.agg (wcO (gB w).1 4 5 6 7),.k .i64 (gB w).2]) (wlT (gB w).1 4 5 6 7 zs):=by
 have hll:=hb.ll;have hnl:=hb.nl;subst hz;have hs:Go.Par.seen w.over=v:=by rw [Go.Par.seen,ho]
 have c1:=vV (m:=m) w w.op hb hb.op ho;rw [Wld.c,hh] at c1;have c3:=qW (m:=m) w.over w.op hb.over hb.op;have hbl:=pW (v:=v) (clk:=w.clock) (ls:=w.leases) (p:=w.op);unfold gB;rw [hs];by_cases hwt:w.waits=false
 · rw [if_pos hwt];refine G0 Tryz.func189 ?_;repeat' first|refine Rx ⟨?_⟩|refine Rd (fun h=>⟨?_⟩) fun h=>⟨?_⟩|fail
   refine ai.here (fw [.anew 0,.close 1,.anew 2,.anew 3] ?_)
   conv=>whnf
   exact ⟨rfl,rfl,rfl,rfl⟩
 · rw [if_neg hwt];have hwt:w.waits=true:=by simpa using hwt
   by_cases hbr:dT v w.clock w.leases w.op=[]
   · rw [if_pos hbr];rw [hbr] at c1;refine G0 Tryz.func189 ?_;repeat' first|refine Ra ⟨?_⟩|(refine ⟨[],_,_,_,_,1,⟨rfl,rfl,rfl,c1,rfl,rfl⟩,.inl ⟨[],trivial,rfl,.inl ⟨by simp [bb,ba,aj],by simp [bg,bc,aj,Ent.c,Mrk.c,Opn.c,Lse.c,Hld.c,Mes.c,aX,anH]⟩,?_⟩⟩ <;> conv=>whnf)|refine R0 c3 ⟨?_⟩|refine Rd (fun h=>⟨?_⟩) fun h=>⟨?_⟩|refine Rb ⟨?_⟩|fail
     refine ai.here (fw [.anew 0,.close 1,.anew 2,.anew 3] ?_)
     conv=>whnf
     exact ⟨rfl,rfl,rfl,rfl⟩
   · rw [if_neg hbr];have hpos:0 < (dT v w.clock w.leases w.op).length:=List.length_pos_iff.2 hbr;generalize dT v w.clock w.leases w.op=B at c1 hbl hpos;have c2:=qX (m:=m) w [anH h0,anH h1,anH h2] B hnl (by omega) h0 h1 h2 rfl;have e2:(B.map Lse.c).length=B.length:=zAA ..;refine G0 Tryz.func189 ?_;repeat' first|refine Ra ⟨?_⟩|(refine ⟨[],_,_,_,_,1,⟨rfl,rfl,rfl,c1,rfl,rfl⟩,.inl ⟨[],trivial,rfl,.inl ⟨by simp [bb,ba,aj],by simp [bg,bc,aj,Ent.c,Mrk.c,Opn.c,Lse.c,Hld.c,Mes.c,aX,anH]⟩,?_⟩⟩ <;> conv=>whnf)|refine Rk [0,1,2,3] 4 c2 ⟨?_⟩|refine Rd (fun h=>⟨?_⟩) fun h=>⟨?_⟩|refine Rb ⟨?_⟩|fail
     exact Rf
theorem Bm (w:Wld) (zs:List br) (p:Opn) (hb:du w) (hp:nD 1073741823 p) {t v:List Ent} (ho:aQ w.over=some (t,v)) (h0 h1 h2:List Hld) (hh:w.holds=[h0,h1,h2]) (hz:zs=[anH h0,anH h1,anH h2]):Con (E m) 188 4 [.agg (wcO w 0 1 2 3),.agg p.c] (wlT w 0 1 2 3 zs) (.tup [.agg (wcO (cD w p).1 4 5 6 7),.k .i64 (cD w p).2]) (wlT (cD w p).1 4 5 6 7 zs):=by
 have hll:=hb.ll;have hnl:=hb.nl;subst hz;have hs:Go.Par.seen w.over=v:=by rw [Go.Par.seen,ho]
 have hv:=(bu ho).2.2.2;have hvl:=az hv;have c0:=fg (m:=m) w.over hb.over;have h2':gp w.over=some v:=by
  obtain ⟨g1,g2,g3⟩:=bJ.1 ho;rw [gp,g1];exact g2
 rw [h2'] at c0;have c4:=ia (m:=m) v p (by omega) (o7 hv) hp.1 hp.2.1 hp.2.2;have c1:=vV (m:=m) w p hb hp ho;rw [Wld.c,hh] at c1;have c3:=qW (m:=m) w.over p hb.over hp;have hbl:=pW (v:=v) (clk:=w.clock) (ls:=w.leases) (p:=p);unfold cD;rw [hs];by_cases hwt:w.waits=true
 · rw [if_pos hwt];refine G0 Tryz.func188 ?_;repeat' first|refine Ra ⟨?_⟩|refine R0 c0 ⟨?_⟩|refine Rk [] 1 c4 ⟨?_⟩|refine Rd (fun h=>⟨?_⟩) fun h=>⟨?_⟩|refine Rb ⟨?_⟩|fail
   refine ai.here (fw [.anew 0,.close 1,.anew 2,.anew 3] ?_)
   conv=>whnf
   exact ⟨rfl,rfl,rfl,rfl⟩
 · rw [if_neg hwt];have hwt:w.waits=false:=by simpa using hwt
   by_cases hd:(ao v p).2=0
   · rw [if_neg (by simp [hd])];by_cases hbr:dT v w.clock w.leases p=[]
     · rw [if_pos hbr];rw [hbr] at c1;refine G0 Tryz.func188 ?_;repeat' first|refine Ra ⟨?_⟩|refine R0 c0 ⟨?_⟩|refine Rk [] 1 c4 ⟨?_⟩|(refine ⟨[],_,_,_,_,1,⟨rfl,rfl,rfl,c1,rfl,rfl⟩,.inl ⟨[],trivial,rfl,.inl ⟨by simp [bb,ba,aj],by simp [bg,bc,aj,Ent.c,Mrk.c,Opn.c,Lse.c,Hld.c,Mes.c,aX,anH]⟩,?_⟩⟩ <;> conv=>whnf)|refine R0 c3 ⟨?_⟩|refine Rd (fun h=>⟨?_⟩) fun h=>⟨?_⟩|refine Rb ⟨?_⟩|fail
       refine ai.here (fw [.anew 0,.close 1,.anew 2,.anew 3] ?_)
       conv=>whnf
       exact ⟨rfl,rfl,rfl,rfl⟩
     · rw [if_neg hbr];have hpos:0 < (dT v w.clock w.leases p).length:=List.length_pos_iff.2 hbr;generalize dT v w.clock w.leases p=B at c1 hbl hpos;have c2:=qX (m:=m) { w with waits:=true,op:=p } [anH h0,anH h1,anH h2] B hnl (by omega) h0 h1 h2 rfl
       have e2:(B.map Lse.c).length=B.length:=zAA ..;refine G0 Tryz.func188 ?_;repeat' first|refine Ra ⟨?_⟩|refine R0 c0 ⟨?_⟩|refine Rk [] 1 c4 ⟨?_⟩|(refine ⟨[],_,_,_,_,1,⟨rfl,rfl,rfl,c1,rfl,rfl⟩,.inl ⟨[],trivial,rfl,.inl ⟨by simp [bb,ba,aj],by simp [bg,bc,aj,Ent.c,Mrk.c,Opn.c,Lse.c,Hld.c,Mes.c,aX,anH]⟩,?_⟩⟩ <;> conv=>whnf)|refine Rk [0,1,2,3] 4 c2 ⟨?_⟩|refine Rd (fun h=>⟨?_⟩) fun h=>⟨?_⟩|refine Rb ⟨?_⟩|fail
       exact Rf
   · rw [if_pos hd];refine G0 Tryz.func188 ?_;repeat' first|refine Ra ⟨?_⟩|refine R0 c0 ⟨?_⟩|refine Rk [] 1 c4 ⟨?_⟩|refine Rd (fun h=>⟨?_⟩) fun h=>⟨?_⟩|refine Rb ⟨?_⟩|fail
     refine ai.here (fw [.anew 0,.close 1,.anew 2,.anew 3] ?_)
     conv=>whnf
     exact ⟨rfl,rfl,rfl,rfl⟩
variable {m:Int}
theorem o8 (w:Wld) (g:Hld) (h0 h1 h2:List Hld) (f0 f1 f2:Int) (hf:w.floors=[f0,f1,f2]) (hc:¬ (w.clock < g.til∧f0 < g.num)):Con (E m) 215 5 [.bp 0 0,.k .i64 0,.agg g.c] (bxT w 1 2 3 4 [anH h0,anH h1,anH h2]) (.tup []) (bxT w 5 6 7 8 [anH h0,anH h1,anH h2]):=by
 obtain ⟨o,clk,cnt,ls,hs,fl,nt,wt,op⟩:=w;simp only at hf hc;subst hf;by_cases hc1:clk < g.til
 · have hc2:¬ f0 < g.num:=fun h=>hc ⟨hc1,h⟩;refine G0 Tryz.func215 ?_;repeat' first|refine Ra ⟨?_⟩|((refine ⟨0,rfl,by simp,?_⟩) <;> conv=>whnf)|refine Rd (fun h=>⟨?_⟩) fun h=>⟨?_⟩|refine Rb ⟨?_⟩|fail
   refine ai.here (fw [.anew 1,.close 2,.anew 3,.anew 4] ?_)
   conv=>whnf
   exact ⟨rfl,rfl,rfl,rfl⟩
 · refine G0 Tryz.func215 ?_;repeat' first|refine Ra ⟨?_⟩|((refine ⟨0,rfl,by simp,?_⟩) <;> conv=>whnf)|refine Rd (fun h=>⟨?_⟩) fun h=>⟨?_⟩|refine Rb ⟨?_⟩|fail
   refine ai.here (fw [.anew 1,.close 2,.anew 3,.anew 4] ?_)
   conv=>whnf
   exact ⟨rfl,rfl,rfl,rfl⟩
theorem o9 (w:Wld) (g:Hld) (h0 h1 h2:List Hld) (f0 f1 f2:Int) (hf:w.floors=[f0,f1,f2]) (hc:¬ (w.clock < g.til∧f1 < g.num)):Con (E m) 215 5 [.bp 0 0,.k .i64 1,.agg g.c] (bxT w 1 2 3 4 [anH h0,anH h1,anH h2]) (.tup []) (bxT w 5 6 7 8 [anH h0,anH h1,anH h2]):=by
 obtain ⟨o,clk,cnt,ls,hs,fl,nt,wt,op⟩:=w;simp only at hf hc;subst hf;by_cases hc1:clk < g.til
 · have hc2:¬ f1 < g.num:=fun h=>hc ⟨hc1,h⟩;refine G0 Tryz.func215 ?_;repeat' first|refine Ra ⟨?_⟩|((refine ⟨1,rfl,by simp,?_⟩) <;> conv=>whnf)|refine Rd (fun h=>⟨?_⟩) fun h=>⟨?_⟩|refine Rb ⟨?_⟩|fail
   refine ai.here (fw [.anew 1,.close 2,.anew 3,.anew 4] ?_)
   conv=>whnf
   exact ⟨rfl,rfl,rfl,rfl⟩
 · refine G0 Tryz.func215 ?_;repeat' first|refine Ra ⟨?_⟩|((refine ⟨1,rfl,by simp,?_⟩) <;> conv=>whnf)|refine Rd (fun h=>⟨?_⟩) fun h=>⟨?_⟩|refine Rb ⟨?_⟩|fail
   refine ai.here (fw [.anew 1,.close 2,.anew 3,.anew 4] ?_)
   conv=>whnf
   exact ⟨rfl,rfl,rfl,rfl⟩
theorem pb (w:Wld) (g:Hld) (h0 h1 h2:List Hld) (f0 f1 f2:Int) (hf:w.floors=[f0,f1,f2]) (hc:¬ (w.clock < g.til∧f2 < g.num)):Con (E m) 215 5 [.bp 0 0,.k .i64 2,.agg g.c] (bxT w 1 2 3 4 [anH h0,anH h1,anH h2]) (.tup []) (bxT w 5 6 7 8 [anH h0,anH h1,anH h2]):=by
 obtain ⟨o,clk,cnt,ls,hs,fl,nt,wt,op⟩:=w;simp only at hf hc;subst hf;by_cases hc1:clk < g.til
 · have hc2:¬ f2 < g.num:=fun h=>hc ⟨hc1,h⟩;refine G0 Tryz.func215 ?_;repeat' first|refine Ra ⟨?_⟩|((refine ⟨2,rfl,by simp,?_⟩) <;> conv=>whnf)|refine Rd (fun h=>⟨?_⟩) fun h=>⟨?_⟩|refine Rb ⟨?_⟩|fail
   refine ai.here (fw [.anew 1,.close 2,.anew 3,.anew 4] ?_)
   conv=>whnf
   exact ⟨rfl,rfl,rfl,rfl⟩
 · refine G0 Tryz.func215 ?_;repeat' first|refine Ra ⟨?_⟩|((refine ⟨2,rfl,by simp,?_⟩) <;> conv=>whnf)|refine Rd (fun h=>⟨?_⟩) fun h=>⟨?_⟩|refine Rb ⟨?_⟩|fail
   refine ai.here (fw [.anew 1,.close 2,.anew 3,.anew 4] ?_)
   conv=>whnf
   exact ⟨rfl,rfl,rfl,rfl⟩
theorem rg (w:Wld) (p:Bs) (n:Int) (hnl:w.net.length≤1048576) (h0 h1 h2:List Hld) (f0 f1 f2:Int) (hf:w.floors=[f0,f1,f2]) (hln:h0.length≤1048575) (hu:h0.Pairwise fun a b=>a.path≠b.path):Con (E m) 216 5 [.bp 0 0,.k .i64 0,.s p,.k .i64 n] (bxT w 1 2 3 4 [anH h0,anH h1,anH h2]) (.tup []) (bxT { w with floors:=[max f0 n,f1,f2],net:=cq w.net ⟨4,0,bE p n⟩ } 5 6 7 8 [anH (bW h0 p n),anH h1,anH h2]):=by
 have e1:(h0.map Hld.c).length=h0.length:=zAA ..;have c1:=eo (m:=m) h0 p (by omega);obtain ⟨o,clk,cnt,ls,hs,fl,nt,wt,op⟩:=w;simp only at hf hnl ⊢;subst hf;rcases fO (hb p) h0 with ⟨g1,g2⟩|⟨i,x,g1,g2,g3,g4⟩
 · rw [g1] at c1;rw [nI g2];have c9:=dW (m:=m) ⟨o,clk,cnt,ls,[h0,h1,h2],[max f0 n,f1,f2],nt,wt,op⟩ [anH (h0),anH h1,anH h2] ⟨4,0,bE p n⟩ hnl (h0) h1 h2 rfl;refine G0 Tryz.func216 ?_;refine mw [.openA 2 0] ?_
   conv=>whnf
   refine Cd.seqS ?_;repeat' first|refine Ra ⟨?_⟩|(refine ⟨[],_,_,_,_,0,⟨rfl,rfl,rfl,c1,rfl,rfl⟩,.inl ⟨[],trivial,rfl,.inl ⟨by simp [bb,ba,aj],by simp [bg,bc,aj,Ent.c,Mrk.c,Opn.c,Lse.c,Hld.c,Mes.c,aX,anH]⟩,?_⟩⟩ <;> conv=>whnf)|((refine ⟨0,rfl,by simp,?_⟩) <;> conv=>whnf)|((refine ⟨br.nm 5,rfl,?_⟩) <;> conv=>whnf)|refine Rd (fun h=>⟨?_⟩) fun h=>⟨?_⟩|refine Rb ⟨?_⟩|fail
   all_goals (try refine Stop.here ?_)
   refine Cd.seqS ?_;repeat' first|refine Ra ⟨?_⟩|((refine ⟨0,rfl,by simp,?_⟩) <;> conv=>whnf)|((refine ⟨br.nm 5,rfl,?_⟩) <;> conv=>whnf)|((refine ⟨zAF rfl,?_⟩) <;> conv=>whnf)|refine Rd (fun h=>⟨?_⟩) fun h=>⟨?_⟩|refine Rb ⟨?_⟩|fail
   all_goals (try refine Stop.here ?_)
   refine mw [.close 2] ?_
   conv=>whnf
   repeat' first|refine Ra ⟨?_⟩|refine Rk [0,1,6,3,4] 4 c9 ⟨?_⟩|((refine ⟨0,rfl,by simp,?_⟩) <;> conv=>whnf)|((refine ⟨zAF rfl,?_⟩) <;> conv=>whnf)|refine Rd (fun h=>⟨?_⟩) fun h=>⟨?_⟩|refine Rb ⟨?_⟩|fail
   exact Rf
 · rw [g1] at c1;have hi:=(List.getElem?_eq_some_iff.1 g2).1;have g5:(h0.map Hld.c)[i]?=some x.c:=mg g2;have c2:=fX (m:=m) h0 i hi (by omega);by_cases hx:x.num≤n
   · skip
     rw [pY hu g2 g3 hx];have c9:=dW (m:=m) ⟨o,clk,cnt,ls,[h0.eraseIdx i,h1,h2],[max f0 n,f1,f2],nt,wt,op⟩ [anH (h0.eraseIdx i),anH h1,anH h2] ⟨4,0,bE p n⟩ hnl (h0.eraseIdx i) h1 h2 rfl;refine G0 Tryz.func216 ?_;refine mw [.openA 2 0] ?_
     conv=>whnf
     refine Cd.seqS ?_;repeat' first|refine Ra ⟨?_⟩|(refine ⟨[],_,_,_,_,0,⟨rfl,rfl,rfl,c1,rfl,rfl⟩,.inl ⟨[],trivial,rfl,.inl ⟨by simp [bb,ba,aj],by simp [bg,bc,aj,Ent.c,Mrk.c,Opn.c,Lse.c,Hld.c,Mes.c,aX,anH]⟩,?_⟩⟩ <;> conv=>whnf)|refine Rk [5] 1 c2 ⟨?_⟩|((refine ⟨0,rfl,by simp,?_⟩) <;> conv=>whnf)|((refine ⟨br.nm 5,rfl,?_⟩) <;> conv=>whnf)|((refine ⟨i,rfl,by omega,?_⟩) <;> conv=>whnf)|((refine ⟨_,g5,?_⟩) <;> conv=>whnf)|refine Rd (fun h=>⟨?_⟩) fun h=>⟨?_⟩|refine Rb ⟨?_⟩|fail
     all_goals (try refine Stop.here ?_)
     refine Cd.seqS ?_;repeat' first|refine Ra ⟨?_⟩|refine Rk [5] 1 c2 ⟨?_⟩|((refine ⟨0,rfl,by simp,?_⟩) <;> conv=>whnf)|((refine ⟨br.nm 5,rfl,?_⟩) <;> conv=>whnf)|((refine ⟨i,rfl,by omega,?_⟩) <;> conv=>whnf)|((refine ⟨_,g5,?_⟩) <;> conv=>whnf)|((refine ⟨zAF rfl,?_⟩) <;> conv=>whnf)|refine Rd (fun h=>⟨?_⟩) fun h=>⟨?_⟩|refine Rb ⟨?_⟩|fail
     all_goals (try refine Stop.here ?_)
     refine mw [.close 2] ?_
     conv=>whnf
     repeat' first|refine Ra ⟨?_⟩|refine Rk [0,1,7,3,4] 4 c9 ⟨?_⟩|((refine ⟨0,rfl,by simp,?_⟩) <;> conv=>whnf)|((refine ⟨zAF rfl,?_⟩) <;> conv=>whnf)|refine Rd (fun h=>⟨?_⟩) fun h=>⟨?_⟩|refine Rb ⟨?_⟩|fail
     exact Rf
   · skip
     rw [nJ hu g2 g3 hx];have c9:=dW (m:=m) ⟨o,clk,cnt,ls,[h0,h1,h2],[max f0 n,f1,f2],nt,wt,op⟩ [anH (h0),anH h1,anH h2] ⟨4,0,bE p n⟩ hnl (h0) h1 h2 rfl;refine G0 Tryz.func216 ?_;refine mw [.openA 2 0] ?_
     conv=>whnf
     refine Cd.seqS ?_;repeat' first|refine Ra ⟨?_⟩|(refine ⟨[],_,_,_,_,0,⟨rfl,rfl,rfl,c1,rfl,rfl⟩,.inl ⟨[],trivial,rfl,.inl ⟨by simp [bb,ba,aj],by simp [bg,bc,aj,Ent.c,Mrk.c,Opn.c,Lse.c,Hld.c,Mes.c,aX,anH]⟩,?_⟩⟩ <;> conv=>whnf)|((refine ⟨0,rfl,by simp,?_⟩) <;> conv=>whnf)|((refine ⟨br.nm 5,rfl,?_⟩) <;> conv=>whnf)|refine Rd (fun h=>⟨?_⟩) fun h=>⟨?_⟩|refine Rb ⟨?_⟩|fail
     all_goals (try refine Stop.here ?_)
     refine Cd.seqS ?_;repeat' first|refine Ra ⟨?_⟩|((refine ⟨0,rfl,by simp,?_⟩) <;> conv=>whnf)|((refine ⟨br.nm 5,rfl,?_⟩) <;> conv=>whnf)|((refine ⟨i,rfl,by omega,?_⟩) <;> conv=>whnf)|((refine ⟨_,g5,?_⟩) <;> conv=>whnf)|((refine ⟨zAF rfl,?_⟩) <;> conv=>whnf)|refine Rd (fun h=>⟨?_⟩) fun h=>⟨?_⟩|refine Rb ⟨?_⟩|fail
     all_goals (try refine Stop.here ?_)
     refine mw [.close 2] ?_
     conv=>whnf
     repeat' first|refine Ra ⟨?_⟩|refine Rk [0,1,6,3,4] 4 c9 ⟨?_⟩|((refine ⟨0,rfl,by simp,?_⟩) <;> conv=>whnf)|((refine ⟨zAF rfl,?_⟩) <;> conv=>whnf)|refine Rd (fun h=>⟨?_⟩) fun h=>⟨?_⟩|refine Rb ⟨?_⟩|fail
     exact Rf
theorem rh (w:Wld) (p:Bs) (n:Int) (hnl:w.net.length≤1048576) (h0 h1 h2:List Hld) (f0 f1 f2:Int) (hf:w.floors=[f0,f1,f2]) (hln:h1.length≤1048575) (hu:h1.Pairwise fun a b=>a.path≠b.path):Con (E m) 216 5 [.bp 0 0,.k .i64 1,.s p,.k .i64 n] (bxT w 1 2 3 4 [anH h0,anH h1,anH h2]) (.tup []) (bxT { w with floors:=[f0,max f1 n,f2],net:=cq w.net ⟨4,1,bE p n⟩ } 5 6 7 8 [anH h0,anH (bW h1 p n),anH h2]):=by
 have e1:(h1.map Hld.c).length=h1.length:=zAA ..;have c1:=eo (m:=m) h1 p (by omega);obtain ⟨o,clk,cnt,ls,hs,fl,nt,wt,op⟩:=w;simp only at hf hnl ⊢;subst hf;rcases fO (hb p) h1 with ⟨g1,g2⟩|⟨i,x,g1,g2,g3,g4⟩
 · rw [g1] at c1;rw [nI g2];have c9:=dW (m:=m) ⟨o,clk,cnt,ls,[h0,h1,h2],[f0,max f1 n,f2],nt,wt,op⟩ [anH h0,anH (h1),anH h2] ⟨4,1,bE p n⟩ hnl h0 (h1) h2 rfl;refine G0 Tryz.func216 ?_;refine mw [.openA 2 1] ?_
   conv=>whnf
   refine Cd.seqS ?_;repeat' first|refine Ra ⟨?_⟩|(refine ⟨[],_,_,_,_,0,⟨rfl,rfl,rfl,c1,rfl,rfl⟩,.inl ⟨[],trivial,rfl,.inl ⟨by simp [bb,ba,aj],by simp [bg,bc,aj,Ent.c,Mrk.c,Opn.c,Lse.c,Hld.c,Mes.c,aX,anH]⟩,?_⟩⟩ <;> conv=>whnf)|((refine ⟨1,rfl,by simp,?_⟩) <;> conv=>whnf)|((refine ⟨br.nm 5,rfl,?_⟩) <;> conv=>whnf)|refine Rd (fun h=>⟨?_⟩) fun h=>⟨?_⟩|refine Rb ⟨?_⟩|fail
   all_goals (try refine Stop.here ?_)
   refine Cd.seqS ?_;repeat' first|refine Ra ⟨?_⟩|((refine ⟨1,rfl,by simp,?_⟩) <;> conv=>whnf)|((refine ⟨br.nm 5,rfl,?_⟩) <;> conv=>whnf)|((refine ⟨zAF rfl,?_⟩) <;> conv=>whnf)|refine Rd (fun h=>⟨?_⟩) fun h=>⟨?_⟩|refine Rb ⟨?_⟩|fail
   all_goals (try refine Stop.here ?_)
   refine mw [.close 2] ?_
   conv=>whnf
   repeat' first|refine Ra ⟨?_⟩|refine Rk [0,1,6,3,4] 4 c9 ⟨?_⟩|((refine ⟨1,rfl,by simp,?_⟩) <;> conv=>whnf)|((refine ⟨zAF rfl,?_⟩) <;> conv=>whnf)|refine Rd (fun h=>⟨?_⟩) fun h=>⟨?_⟩|refine Rb ⟨?_⟩|fail
   exact Rf
 · rw [g1] at c1;have hi:=(List.getElem?_eq_some_iff.1 g2).1;have g5:(h1.map Hld.c)[i]?=some x.c:=mg g2;have c2:=fX (m:=m) h1 i hi (by omega);by_cases hx:x.num≤n
   · skip
     rw [pY hu g2 g3 hx];have c9:=dW (m:=m) ⟨o,clk,cnt,ls,[h0,h1.eraseIdx i,h2],[f0,max f1 n,f2],nt,wt,op⟩ [anH h0,anH (h1.eraseIdx i),anH h2] ⟨4,1,bE p n⟩ hnl h0 (h1.eraseIdx i) h2 rfl;refine G0 Tryz.func216 ?_;refine mw [.openA 2 1] ?_
     conv=>whnf
     refine Cd.seqS ?_;repeat' first|refine Ra ⟨?_⟩|(refine ⟨[],_,_,_,_,0,⟨rfl,rfl,rfl,c1,rfl,rfl⟩,.inl ⟨[],trivial,rfl,.inl ⟨by simp [bb,ba,aj],by simp [bg,bc,aj,Ent.c,Mrk.c,Opn.c,Lse.c,Hld.c,Mes.c,aX,anH]⟩,?_⟩⟩ <;> conv=>whnf)|refine Rk [5] 1 c2 ⟨?_⟩|((refine ⟨1,rfl,by simp,?_⟩) <;> conv=>whnf)|((refine ⟨br.nm 5,rfl,?_⟩) <;> conv=>whnf)|((refine ⟨i,rfl,by omega,?_⟩) <;> conv=>whnf)|((refine ⟨_,g5,?_⟩) <;> conv=>whnf)|refine Rd (fun h=>⟨?_⟩) fun h=>⟨?_⟩|refine Rb ⟨?_⟩|fail
     all_goals (try refine Stop.here ?_)
     refine Cd.seqS ?_;repeat' first|refine Ra ⟨?_⟩|refine Rk [5] 1 c2 ⟨?_⟩|((refine ⟨1,rfl,by simp,?_⟩) <;> conv=>whnf)|((refine ⟨br.nm 5,rfl,?_⟩) <;> conv=>whnf)|((refine ⟨i,rfl,by omega,?_⟩) <;> conv=>whnf)|((refine ⟨_,g5,?_⟩) <;> conv=>whnf)|((refine ⟨zAF rfl,?_⟩) <;> conv=>whnf)|refine Rd (fun h=>⟨?_⟩) fun h=>⟨?_⟩|refine Rb ⟨?_⟩|fail
     all_goals (try refine Stop.here ?_)
     refine mw [.close 2] ?_
     conv=>whnf
     repeat' first|refine Ra ⟨?_⟩|refine Rk [0,1,7,3,4] 4 c9 ⟨?_⟩|((refine ⟨1,rfl,by simp,?_⟩) <;> conv=>whnf)|((refine ⟨zAF rfl,?_⟩) <;> conv=>whnf)|refine Rd (fun h=>⟨?_⟩) fun h=>⟨?_⟩|refine Rb ⟨?_⟩|fail
     exact Rf
   · skip
     rw [nJ hu g2 g3 hx];have c9:=dW (m:=m) ⟨o,clk,cnt,ls,[h0,h1,h2],[f0,max f1 n,f2],nt,wt,op⟩ [anH h0,anH (h1),anH h2] ⟨4,1,bE p n⟩ hnl h0 (h1) h2 rfl;refine G0 Tryz.func216 ?_;refine mw [.openA 2 1] ?_
     conv=>whnf
     refine Cd.seqS ?_;repeat' first|refine Ra ⟨?_⟩|(refine ⟨[],_,_,_,_,0,⟨rfl,rfl,rfl,c1,rfl,rfl⟩,.inl ⟨[],trivial,rfl,.inl ⟨by simp [bb,ba,aj],by simp [bg,bc,aj,Ent.c,Mrk.c,Opn.c,Lse.c,Hld.c,Mes.c,aX,anH]⟩,?_⟩⟩ <;> conv=>whnf)|((refine ⟨1,rfl,by simp,?_⟩) <;> conv=>whnf)|((refine ⟨br.nm 5,rfl,?_⟩) <;> conv=>whnf)|refine Rd (fun h=>⟨?_⟩) fun h=>⟨?_⟩|refine Rb ⟨?_⟩|fail
     all_goals (try refine Stop.here ?_)
     refine Cd.seqS ?_;repeat' first|refine Ra ⟨?_⟩|((refine ⟨1,rfl,by simp,?_⟩) <;> conv=>whnf)|((refine ⟨br.nm 5,rfl,?_⟩) <;> conv=>whnf)|((refine ⟨i,rfl,by omega,?_⟩) <;> conv=>whnf)|((refine ⟨_,g5,?_⟩) <;> conv=>whnf)|((refine ⟨zAF rfl,?_⟩) <;> conv=>whnf)|refine Rd (fun h=>⟨?_⟩) fun h=>⟨?_⟩|refine Rb ⟨?_⟩|fail
     all_goals (try refine Stop.here ?_)
     refine mw [.close 2] ?_
     conv=>whnf
     repeat' first|refine Ra ⟨?_⟩|refine Rk [0,1,6,3,4] 4 c9 ⟨?_⟩|((refine ⟨1,rfl,by simp,?_⟩) <;> conv=>whnf)|((refine ⟨zAF rfl,?_⟩) <;> conv=>whnf)|refine Rd (fun h=>⟨?_⟩) fun h=>⟨?_⟩|refine Rb ⟨?_⟩|fail
     exact Rf
theorem ri (w:Wld) (p:Bs) (n:Int) (hnl:w.net.length≤1048576) (h0 h1 h2:List Hld) (f0 f1 f2:Int) (hf:w.floors=[f0,f1,f2]) (hln:h2.length≤1048575) (hu:h2.Pairwise fun a b=>a.path≠b.path):Con (E m) 216 5 [.bp 0 0,.k .i64 2,.s p,.k .i64 n] (bxT w 1 2 3 4 [anH h0,anH h1,anH h2]) (.tup []) (bxT { w with floors:=[f0,f1,max f2 n],net:=cq w.net ⟨4,2,bE p n⟩ } 5 6 7 8 [anH h0,anH h1,anH (bW h2 p n)]):=by
 have e1:(h2.map Hld.c).length=h2.length:=zAA ..;have c1:=eo (m:=m) h2 p (by omega);obtain ⟨o,clk,cnt,ls,hs,fl,nt,wt,op⟩:=w;simp only at hf hnl ⊢;subst hf;rcases fO (hb p) h2 with ⟨g1,g2⟩|⟨i,x,g1,g2,g3,g4⟩
 · rw [g1] at c1;rw [nI g2];have c9:=dW (m:=m) ⟨o,clk,cnt,ls,[h0,h1,h2],[f0,f1,max f2 n],nt,wt,op⟩ [anH h0,anH h1,anH (h2)] ⟨4,2,bE p n⟩ hnl h0 h1 (h2) rfl;refine G0 Tryz.func216 ?_;refine mw [.openA 2 2] ?_
   conv=>whnf
   refine Cd.seqS ?_;repeat' first|refine Ra ⟨?_⟩|(refine ⟨[],_,_,_,_,0,⟨rfl,rfl,rfl,c1,rfl,rfl⟩,.inl ⟨[],trivial,rfl,.inl ⟨by simp [bb,ba,aj],by simp [bg,bc,aj,Ent.c,Mrk.c,Opn.c,Lse.c,Hld.c,Mes.c,aX,anH]⟩,?_⟩⟩ <;> conv=>whnf)|((refine ⟨2,rfl,by simp,?_⟩) <;> conv=>whnf)|((refine ⟨br.nm 5,rfl,?_⟩) <;> conv=>whnf)|refine Rd (fun h=>⟨?_⟩) fun h=>⟨?_⟩|refine Rb ⟨?_⟩|fail
   all_goals (try refine Stop.here ?_)
   refine Cd.seqS ?_;repeat' first|refine Ra ⟨?_⟩|((refine ⟨2,rfl,by simp,?_⟩) <;> conv=>whnf)|((refine ⟨br.nm 5,rfl,?_⟩) <;> conv=>whnf)|((refine ⟨zAF rfl,?_⟩) <;> conv=>whnf)|refine Rd (fun h=>⟨?_⟩) fun h=>⟨?_⟩|refine Rb ⟨?_⟩|fail
   all_goals (try refine Stop.here ?_)
   refine mw [.close 2] ?_
   conv=>whnf
   repeat' first|refine Ra ⟨?_⟩|refine Rk [0,1,6,3,4] 4 c9 ⟨?_⟩|((refine ⟨2,rfl,by simp,?_⟩) <;> conv=>whnf)|((refine ⟨zAF rfl,?_⟩) <;> conv=>whnf)|refine Rd (fun h=>⟨?_⟩) fun h=>⟨?_⟩|refine Rb ⟨?_⟩|fail
   exact Rf
 · rw [g1] at c1;have hi:=(List.getElem?_eq_some_iff.1 g2).1;have g5:(h2.map Hld.c)[i]?=some x.c:=mg g2;have c2:=fX (m:=m) h2 i hi (by omega);by_cases hx:x.num≤n
   · skip
     rw [pY hu g2 g3 hx];have c9:=dW (m:=m) ⟨o,clk,cnt,ls,[h0,h1,h2.eraseIdx i],[f0,f1,max f2 n],nt,wt,op⟩ [anH h0,anH h1,anH (h2.eraseIdx i)] ⟨4,2,bE p n⟩ hnl h0 h1 (h2.eraseIdx i) rfl;refine G0 Tryz.func216 ?_;refine mw [.openA 2 2] ?_
     conv=>whnf
     refine Cd.seqS ?_;repeat' first|refine Ra ⟨?_⟩|(refine ⟨[],_,_,_,_,0,⟨rfl,rfl,rfl,c1,rfl,rfl⟩,.inl ⟨[],trivial,rfl,.inl ⟨by simp [bb,ba,aj],by simp [bg,bc,aj,Ent.c,Mrk.c,Opn.c,Lse.c,Hld.c,Mes.c,aX,anH]⟩,?_⟩⟩ <;> conv=>whnf)|refine Rk [5] 1 c2 ⟨?_⟩|((refine ⟨2,rfl,by simp,?_⟩) <;> conv=>whnf)|((refine ⟨br.nm 5,rfl,?_⟩) <;> conv=>whnf)|((refine ⟨i,rfl,by omega,?_⟩) <;> conv=>whnf)|((refine ⟨_,g5,?_⟩) <;> conv=>whnf)|refine Rd (fun h=>⟨?_⟩) fun h=>⟨?_⟩|refine Rb ⟨?_⟩|fail
     all_goals (try refine Stop.here ?_)
     refine Cd.seqS ?_;repeat' first|refine Ra ⟨?_⟩|refine Rk [5] 1 c2 ⟨?_⟩|((refine ⟨2,rfl,by simp,?_⟩) <;> conv=>whnf)|((refine ⟨br.nm 5,rfl,?_⟩) <;> conv=>whnf)|((refine ⟨i,rfl,by omega,?_⟩) <;> conv=>whnf)|((refine ⟨_,g5,?_⟩) <;> conv=>whnf)|((refine ⟨zAF rfl,?_⟩) <;> conv=>whnf)|refine Rd (fun h=>⟨?_⟩) fun h=>⟨?_⟩|refine Rb ⟨?_⟩|fail
     all_goals (try refine Stop.here ?_)
     refine mw [.close 2] ?_
     conv=>whnf
     repeat' first|refine Ra ⟨?_⟩|refine Rk [0,1,7,3,4] 4 c9 ⟨?_⟩|((refine ⟨2,rfl,by simp,?_⟩) <;> conv=>whnf)|((refine ⟨zAF rfl,?_⟩) <;> conv=>whnf)|refine Rd (fun h=>⟨?_⟩) fun h=>⟨?_⟩|refine Rb ⟨?_⟩|fail
     exact Rf
   · skip
     rw [nJ hu g2 g3 hx];have c9:=dW (m:=m) ⟨o,clk,cnt,ls,[h0,h1,h2],[f0,f1,max f2 n],nt,wt,op⟩ [anH h0,anH h1,anH (h2)] ⟨4,2,bE p n⟩ hnl h0 h1 (h2) rfl;refine G0 Tryz.func216 ?_;refine mw [.openA 2 2] ?_
     conv=>whnf
     refine Cd.seqS ?_;repeat' first|refine Ra ⟨?_⟩|(refine ⟨[],_,_,_,_,0,⟨rfl,rfl,rfl,c1,rfl,rfl⟩,.inl ⟨[],trivial,rfl,.inl ⟨by simp [bb,ba,aj],by simp [bg,bc,aj,Ent.c,Mrk.c,Opn.c,Lse.c,Hld.c,Mes.c,aX,anH]⟩,?_⟩⟩ <;> conv=>whnf)|((refine ⟨2,rfl,by simp,?_⟩) <;> conv=>whnf)|((refine ⟨br.nm 5,rfl,?_⟩) <;> conv=>whnf)|refine Rd (fun h=>⟨?_⟩) fun h=>⟨?_⟩|refine Rb ⟨?_⟩|fail
     all_goals (try refine Stop.here ?_)
     refine Cd.seqS ?_;repeat' first|refine Ra ⟨?_⟩|((refine ⟨2,rfl,by simp,?_⟩) <;> conv=>whnf)|((refine ⟨br.nm 5,rfl,?_⟩) <;> conv=>whnf)|((refine ⟨i,rfl,by omega,?_⟩) <;> conv=>whnf)|((refine ⟨_,g5,?_⟩) <;> conv=>whnf)|((refine ⟨zAF rfl,?_⟩) <;> conv=>whnf)|refine Rd (fun h=>⟨?_⟩) fun h=>⟨?_⟩|refine Rb ⟨?_⟩|fail
     all_goals (try refine Stop.here ?_)
     refine mw [.close 2] ?_
     conv=>whnf
     repeat' first|refine Ra ⟨?_⟩|refine Rk [0,1,6,3,4] 4 c9 ⟨?_⟩|((refine ⟨2,rfl,by simp,?_⟩) <;> conv=>whnf)|((refine ⟨zAF rfl,?_⟩) <;> conv=>whnf)|refine Rd (fun h=>⟨?_⟩) fun h=>⟨?_⟩|refine Rb ⟨?_⟩|fail
     exact Rf
variable {m:Int}
theorem Bn (w:Wld) (a b c d:Nat) (zs:List br) (F N:List (List D)) (l:List Lse) (x:Lse):bxR w a b c d (l.map Lse.c++[x.c]) zs F N=bxR w a b c d ((l++[x]).map Lse.c) zs F N:=by rw [zAK]; rfl
theorem ze (w:Wld) (zs:List br) (who:Int) (p:Bs) (hb:du w) {t v:List Ent} (ho:aQ w.over=some (t,v)) (hcl:0≤w.clock∧w.clock≤10000) (hct:0≤w.count∧w.count≤10000)
   (hu:w.leases.Pairwise fun a b=>¬ (a.who=b.who∧a.path=b.path)) (hn:∀ l∈w.leases,l.num≤w.count) (h0 h1 h2:List Hld) (hh:w.holds=[h0,h1,h2]) (hz:zs=[anH h0,anH h1,anH h2]) :
   Con (E m) 214 5 [.bp 0 0,.k .i64 who,.s p] (bxT w 1 2 3 4 zs) (.tup []) (bxT (jI w who p) 5 6 7 8 zs):=by
 subst hz;have hll:=hb.ll;have hv:=(bu ho).2.2.2;have hs:Go.Par.seen w.over=v:=by rw [Go.Par.seen,ho]
 have c1:=qU (m:=m) w w.op hb hb.op ho;rw [Wld.c,hh] at c1;have htl:(bV v w.op).length≤1048576:=by
  unfold bV;split
  · have:=fJ v (ao v w.op).1
    omega
  · simp
 have c2:=oX (m:=m) (bV v w.op) p htl;have e1:(w.leases.map Lse.c).length=w.leases.length:=zAA ..;unfold jI;rw [hs];by_cases hc:w.count=10000
 · rw [if_pos (.inr (by omega))];refine G0 Tryz.func214 ?_;repeat' first|refine Rx ⟨?_⟩|refine Rd (fun h=>⟨?_⟩) fun h=>⟨?_⟩|fail
   refine ai.here (fw [.anew 1,.close 2,.anew 3,.anew 4] ?_)
   conv=>whnf
   exact ⟨rfl,rfl,rfl,rfl⟩
 · have hc':¬ 10000≤w.count:=by omega
   by_cases hbad:w.waits=true∧p∈bV v w.op
   · rw [if_pos (.inl hbad)];obtain ⟨hw,hp⟩:=hbad;rw [decide_eq_true hp] at c2;refine G0 Tryz.func214 ?_;repeat' first|refine Ra ⟨?_⟩|(refine ⟨[],_,_,_,_,1,⟨rfl,rfl,rfl,c1,rfl,rfl⟩,.inl ⟨[],trivial,rfl,.inl ⟨by simp [bb,ba,aj],by simp [bg,bc,aj,Ent.c,Mrk.c,Opn.c,Lse.c,Hld.c,Mes.c,aX,anH]⟩,?_⟩⟩ <;> conv=>whnf)|refine R0 c2 ⟨?_⟩|refine Rd (fun h=>⟨?_⟩) fun h=>⟨?_⟩|refine Rb ⟨?_⟩|fail
     refine ai.here (fw [.anew 1,.close 2,.anew 3,.anew 4] ?_)
     conv=>whnf
     exact ⟨rfl,rfl,rfl,rfl⟩
   · rw [if_neg (by rintro (h|h); exact hbad h; exact hc' h)];have hsml:∀ x∈w.leases,x.num≤w.count+1:=fun x hx=>by have:=hn x hx; omega
     have c3:=jy (m:=m) w.leases who p hll;have c5:=fD (m:=m) w.over hb.over;rw [ho] at c5;have c6:=oN (m:=m) v p (bE0 hv);rw [if_pos hv] at c6;obtain ⟨g,has,q1,q2,q3⟩:∃ (g:Ent) (has:Bool),nv (am v p)=.tup [.agg g.c,.b has]∧(am v p).isSome=has∧(am v p).getD eZ=g:=by
      cases hg:am v p with
      | none=>exact ⟨eZ,false,rfl,rfl,rfl⟩
      | some g=>exact ⟨g,true,rfl,rfl,rfl⟩
     rw [q1] at c6;rw [q2,q3];have c9:=fun (L:List Lse)=>dW (m:=m) { w with count:=w.count+1,leases:=L++[⟨who,p,w.count+1,w.clock+5⟩] } [anH h0,anH h1,anH h2] ⟨2,who,⟨p,has,g,w.count+1,w.clock+5⟩⟩ hb.nl h0 h1 h2 rfl
     simp only [bxT,← Bn] at c9 ⊢;rcases fO (aI who p) w.leases with ⟨g1,g2⟩|⟨i,x,g1,g2,g3,g4⟩
     · rw [g1] at c3;rw [zb g2];have c9:=c9 w.leases;by_cases hw:w.waits=true
       rotate_left
       · have hw:w.waits=false:=by simpa using hw
         refine G0 Tryz.func214 ?_;repeat' first|refine Ra ⟨?_⟩|(refine ⟨[],_,_,_,_,0,⟨rfl,rfl,rfl,c3,rfl,rfl⟩,.inl ⟨[],trivial,rfl,.inl ⟨by simp [bb,ba,aj],by simp [bg,bc,aj,Ent.c,Mrk.c,Opn.c,Lse.c,Hld.c,Mes.c,aX,anH]⟩,?_⟩⟩ <;> conv=>whnf)|refine R0 c5 ⟨?_⟩|refine R0 c6 ⟨?_⟩|refine Rk [0,6,2,3,4] 4 c9 ⟨?_⟩|refine Rd (fun h=>⟨?_⟩) fun h=>⟨?_⟩|refine Rb ⟨?_⟩|fail
         exact Rf
       · rw [decide_eq_false (fun hp=>hbad ⟨hw,hp⟩)] at c2;refine G0 Tryz.func214 ?_;repeat' first|refine Ra ⟨?_⟩|(refine ⟨[],_,_,_,_,1,⟨rfl,rfl,rfl,c1,rfl,rfl⟩,.inl ⟨[],trivial,rfl,.inl ⟨by simp [bb,ba,aj],by simp [bg,bc,aj,Ent.c,Mrk.c,Opn.c,Lse.c,Hld.c,Mes.c,aX,anH]⟩,?_⟩⟩ <;> conv=>whnf)|refine R0 c2 ⟨?_⟩|(refine ⟨[],_,_,_,_,0,⟨rfl,rfl,rfl,c3,rfl,rfl⟩,.inl ⟨[],trivial,rfl,.inl ⟨by simp [bb,ba,aj],by simp [bg,bc,aj,Ent.c,Mrk.c,Opn.c,Lse.c,Hld.c,Mes.c,aX,anH]⟩,?_⟩⟩ <;> conv=>whnf)|refine R0 c5 ⟨?_⟩|refine R0 c6 ⟨?_⟩|refine Rk [0,7,2,3,4] 4 c9 ⟨?_⟩|refine Rd (fun h=>⟨?_⟩) fun h=>⟨?_⟩|refine Rb ⟨?_⟩|fail
         exact Rf
     · rw [g1] at c3;have hi:=(List.getElem?_eq_some_iff.1 g2).1;rw [Cm hu g2 g3 (hsml x (zAD g2))];have c4:=oY (m:=m) w.leases i hi hll;have c9:=c9 (w.leases.eraseIdx i);have e2:((w.leases.eraseIdx i).map Lse.c).length=(w.leases.eraseIdx i).length:=zAA ..;have e3:(w.leases.eraseIdx i).length≤w.leases.length:=by rw [zAu]; split <;> omega
       by_cases hw:w.waits=true
       rotate_left
       · have hw:w.waits=false:=by simpa using hw
         refine G0 Tryz.func214 ?_;repeat' first|refine Ra ⟨?_⟩|(refine ⟨[],_,_,_,_,0,⟨rfl,rfl,rfl,c3,rfl,rfl⟩,.inl ⟨[],trivial,rfl,.inl ⟨by simp [bb,ba,aj],by simp [bg,bc,aj,Ent.c,Mrk.c,Opn.c,Lse.c,Hld.c,Mes.c,aX,anH]⟩,?_⟩⟩ <;> conv=>whnf)|refine Rk [1] 1 c4 ⟨?_⟩|refine R0 c5 ⟨?_⟩|refine R0 c6 ⟨?_⟩|refine Rk [0,7,2,3,4] 4 c9 ⟨?_⟩|refine Rd (fun h=>⟨?_⟩) fun h=>⟨?_⟩|refine Rb ⟨?_⟩|fail
         exact Rf
       · rw [decide_eq_false (fun hp=>hbad ⟨hw,hp⟩)] at c2;refine G0 Tryz.func214 ?_;repeat' first|refine Ra ⟨?_⟩|(refine ⟨[],_,_,_,_,1,⟨rfl,rfl,rfl,c1,rfl,rfl⟩,.inl ⟨[],trivial,rfl,.inl ⟨by simp [bb,ba,aj],by simp [bg,bc,aj,Ent.c,Mrk.c,Opn.c,Lse.c,Hld.c,Mes.c,aX,anH]⟩,?_⟩⟩ <;> conv=>whnf)|refine R0 c2 ⟨?_⟩|(refine ⟨[],_,_,_,_,0,⟨rfl,rfl,rfl,c3,rfl,rfl⟩,.inl ⟨[],trivial,rfl,.inl ⟨by simp [bb,ba,aj],by simp [bg,bc,aj,Ent.c,Mrk.c,Opn.c,Lse.c,Hld.c,Mes.c,aX,anH]⟩,?_⟩⟩ <;> conv=>whnf)|refine Rk [1] 1 c4 ⟨?_⟩|refine R0 c5 ⟨?_⟩|refine R0 c6 ⟨?_⟩|refine Rk [0,8,2,3,4] 4 c9 ⟨?_⟩|refine Rd (fun h=>⟨?_⟩) fun h=>⟨?_⟩|refine Rb ⟨?_⟩|fail
         exact Rf
end Go.Proofs.YtlicaibhgcenhaaGreatDoor
