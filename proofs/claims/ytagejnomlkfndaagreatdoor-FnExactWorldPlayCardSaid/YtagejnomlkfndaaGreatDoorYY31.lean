/- Texts of this claim, set close: lemmas and contracts. -/
import Derived.Test.YtagejnomlkfndaaGreatDoorYY27
set_option linter.unusedSimpArgs false
set_option linter.unusedVariables false
set_option maxHeartbeats 1000000
set_option maxRecDepth 10000
namespace Go.Proofs.YtagejnomlkfndaaGreatDoor
open Go Go.RowKit Go.Ab Go.Par
variable {m:Int}
variable {m:Int}
theorem kq (net:List Mes) (cnt:Int) (l:Lse) (r:List Lse):dg net cnt (l :: r)=dg (bX net ⟨3,l.who,ba l.path cnt⟩) cnt r:=rfl
theorem sw {net:List Mes} {x:Mes} {n:Nat} (h:net.length≤n) (hn:12≤n):(bX net x).length≤n:=by
 unfold bX;split
 · simp; omega
 · exact h
theorem lQ {v:List Ent} {clk:Int} {ls:List Lse} {p:Opn}:(cw v clk ls p).length≤ls.length:=zAf _ _
theorem oc {ls:List Lse} {who:Int} {p:Bs} {n:Int} (h:∀ x∈ls,aL who p x=false):iV ls who p n=ls:=by
 unfold iV;rw [zBN];intro x hx;simp [h x hx]
theorem fg {α:Type} {f:α→Bool}:∀ {l:List α} {i:Nat} {x:α},l[i]?=some x→f x=false→(∀ (j:Nat) y,l[j]?=some y→j≠i→f y=true)→l.filter f=l.eraseIdx i
 | [],i,x,h,_,_=>by simp at h
 | a :: r,0,x,h,hx,ho=>by
   simp at h;subst h;rw [List.filter_cons_of_neg (by simp [hx]),List.eraseIdx_cons_zero,zBN];intro y hy;obtain ⟨j,hj⟩:=List.mem_iff_getElem?.1 hy;exact ho (j+1) y (by simpa using hj) (by omega)
 | a :: r,i+1,x,h,hx,ho=>by
   rw [List.filter_cons_of_pos (ho 0 a rfl (by omega)),List.eraseIdx_cons_succ,fg (l:=r) (i:=i) (by simpa using h) hx fun j y hj hne=>ho (j+1) y (by simpa using hj) (by omega)]
theorem sx {ls:List Lse} (hu:ls.Pairwise fun a b=>¬ (a.who=b.who∧a.path=b.path)) {who:Int} {p:Bs} {i:Nat} {x:Lse} (h:ls[i]?=some x) (hx:aL who p x=true) {j:Nat} {y:Lse} (hj:ls[j]?=some y) (hne:j≠i):aL who p y=false:=by
 rw [zBB] at hu;obtain ⟨hi,rfl⟩:=List.getElem?_eq_some_iff.1 h;obtain ⟨hj',rfl⟩:=List.getElem?_eq_some_iff.1 hj;simp only [aL,zAE,decide_eq_true_eq] at hx;rw [← zAa];intro hy;simp only [aL,zAE,decide_eq_true_eq] at hy;rcases zBQ hne with g|g
 · exact hu j i hj' hi g ⟨by rw [hy.1,hx.1],by rw [hy.2,hx.2]⟩
 · exact hu i j hi hj' g ⟨by rw [hy.1,hx.1],by rw [hy.2,hx.2]⟩
theorem qH {ls:List Lse} (hu:ls.Pairwise fun a b=>¬ (a.who=b.who∧a.path=b.path)) {who:Int} {p:Bs} {n:Int} {i:Nat} {x:Lse} (h:ls[i]?=some x) (hx:aL who p x=true) (hn:x.num≤n):iV ls who p n=ls.eraseIdx i:=by
 unfold iV;refine fg h (by simp [hx,hn]) fun j y hj hne=>?_;simp [sx hu h hx hj hne]
theorem yv {ls:List Lse} (hu:ls.Pairwise fun a b=>¬ (a.who=b.who∧a.path=b.path)) {who:Int} {p:Bs} {n:Int} {i:Nat} {x:Lse} (h:ls[i]?=some x) (hx:aL who p x=true) (hn:¬ x.num≤n):iV ls who p n=ls:=by
 unfold iV;rw [zBN];intro y hy;obtain ⟨j,hj⟩:=List.mem_iff_getElem?.1 hy;by_cases e:j=i
 · subst e;rw [h] at hj;cases hj;simp [hn]
 · simp [sx hu h hx hj e]
variable {m:Int}
def wcG (w:Wld) (o1 o2 o3 a b c d:Nat):List D:=[.own o1,.own o2,.own o3,.k .i64 w.clock,.k .i64 w.count,.own a,.own b,.own c,.own d,.b w.waits,.k .i64 w.op.kind,.s w.op.path,.s w.op.to,.s w.op.data]
abbrev bxP (w:Wld) (L:List (List D)) (zs:List av) (F N:List (List D)):ab:=[(0,.box 55 (wcG w 5 6 7 1 2 3 4)),(1,.own 132 L),(2,.deep 121 68 zs),(3,.own 3 F),(4,.own 70 N),(5,.fr (w.over.base.map Ent.c)),(6,.fr (w.over.layers.map cv)),(7,.fr (w.over.upper.map Mrk.c))]
abbrev bxQ (w:Wld) (L:List (List D)) (zs:List av) (F N:List (List D)):ab:=[(0,.box 55 (wcG w 5 6 7 8 9 10 11)),(5,.fr (w.over.base.map Ent.c)),(6,.fr (w.over.layers.map cv)),(7,.fr (w.over.upper.map Mrk.c)),(8,.own 132 L),(9,.deep 121 68 zs),(10,.own 3 F),(11,.own 70 N)]
abbrev bxI (w:Wld) (zs:List av):ab:=bxP w (w.leases.map Lse.c) zs (bg w.floors) (w.net.map Mes.c)
abbrev bxJ (w:Wld) (zs:List av):ab:=bxQ w (w.leases.map Lse.c) zs (bg w.floors) (w.net.map Mes.c)
theorem dn (w:Wld) (zs:List av) (x:Mes) (hnl:w.net.length≤1048576) (h0 h1 h2:List Hld) (hz:zs=[anH h0,anH h1,anH h2]):Con (E m) 75 8 [.bp 0 0,.agg x.c] (bxI w zs) (.tup []) (bxJ { w with net:=bX w.net x } zs):=by
 have e4:(w.net.map Mes.c).length=w.net.length:=zAA ..;subst hz;by_cases h:w.net.length < 12
 · have hx:bX w.net x=w.net++[x]:=by rw [bX,if_pos h]
   rw [hx];refine G0 Tryz.func75 ?_;repeat' first|refine Rx ⟨?_⟩|refine Rd (fun h=>⟨?_⟩) fun h=>⟨?_⟩|fail
   refine af.here (fw [.anew 1,.close 2,.anew 3] ?_)
   conv=>whnf
   refine ⟨rfl,rfl,rfl,?_⟩;exact congrArg (bxQ w _ _ _) (zAM (f:=Mes.c) (l₁:=w.net) (l₂:=[x])).symm
 · have hx:bX w.net x=w.net:=by rw [bX,if_neg h]
   rw [hx];refine G0 Tryz.func75 ?_;repeat' first|refine Rx ⟨?_⟩|refine Rd (fun h=>⟨?_⟩) fun h=>⟨?_⟩|fail
   refine af.here (fw [.anew 1,.close 2,.anew 3,.anew 4] ?_)
   conv=>whnf
   exact ⟨rfl,rfl,rfl,rfl⟩
theorem yE (w:Wld) (zs:List av) (bars:List Lse) (hnl:w.net.length≤1048576) (hbl:bars.length≤1048576) (h0 h1 h2:List Hld) (hz:zs=[anH h0,anH h1,anH h2]):Con (E m) 146 8 [.bp 0 0,.sl (bars.map Lse.c)] (bxI w zs) (.tup []) (bxJ { w with net:=dg w.net w.count bars } zs):=by
 have e1:(bars.map Lse.c).length=bars.length:=zAA ..;subst hz;refine G0 Tryz.func146 ?_;repeat' first|refine Rx ⟨?_⟩|refine Rd (fun h=>⟨?_⟩) fun h=>⟨?_⟩|fail
 refine Cd.loop2 (fun mq tm S nx=>∃ (i:Nat) (N:List Mes),mq=(bars.length - i)∧tm=[(0,.bp 0 0),(6,.sl (bars.map Lse.c)),(7,.k .i64 ((bars.map Lse.c).length:Int)),(8,.k .i64 i)]∧S=[(0,.box 55 (wcG w 5 6 7 8 9 10 11)),(5,.fr (w.over.base.map Ent.c)),(6,.fr (w.over.layers.map cv)),(7,.fr (w.over.upper.map Mrk.c)),(8,.own 132 (w.leases.map Lse.c)),(9,.deep 121 68 [anH h0,anH h1,anH h2]),(10,.own 3 (bg w.floors)),(11,.own 70 (N.map Mes.c))]∧nx=12∧(i≤bars.length)∧(dg w.net w.count bars=dg N w.count (bars.drop i))∧(N.length≤1048576)) ?_ ?_
 · refine lw [.anew 1,.close 2,.anew 3,.anew 4] [0,6,7,8] ?_
   conv=>whnf
   refine ⟨rfl,rfl,_,0,w.net,rfl,rfl,rfl,rfl,zAG _,rfl,hnl⟩
 · rintro mq tm S nx ⟨i,N,hn,rfl,rfl,rfl,hi,ha,hN⟩;rcases (al bars i hi).symm with ⟨x,r,hx',hd,hr,hlt⟩|⟨rfl,hd⟩
   · rw [hd,kq] at ha;have c1:=dn (m:=m) { w with net:=N } [anH h0,anH h1,anH h2] ⟨3,x.who,ba x.path w.count⟩ hN h0 h1 h2 rfl
     repeat' first|refine Ra ⟨?_⟩|refine Rk [0,8,9,10,11,5,6,7] 4 c1 ⟨?_⟩|refine Rd (fun h=>⟨?_⟩) fun h=>⟨?_⟩|refine Rb ⟨?_⟩|fail
     refine .here ⟨mq - 1,by omega,?_⟩;refine la [0,6,7,8] ?_
     conv=>whnf
     refine ⟨rfl,rfl,i+1,bX N ⟨3,x.who,ba x.path w.count⟩,(by omega),rfl,rfl,rfl,by omega,(by rw [ha,hr]),sw hN (by omega)⟩
   · rw [hd] at ha;rw [ha];repeat' first|refine Rx ⟨?_⟩|refine Rd (fun h=>⟨?_⟩) fun h=>⟨?_⟩|fail
     exact Rf
theorem tu (w:Wld) (zs:List av) (who:Int) (p:Bs) (n:Int) (hll:w.leases.length≤1048576) (hu:w.leases.Pairwise fun a b=>¬ (a.who=b.who∧a.path=b.path)) (h0 h1 h2:List Hld) (hz:zs=[anH h0,anH h1,anH h2]):Con (E m) 153 8 [.bp 0 0,.k .i64 who,.s p,.k .i64 n] (bxI w zs) (.tup []) (bxJ (gO w who p n) zs):=by
 have c1:=fD (m:=m) w.leases who p hll;subst hz;unfold gO;rcases du (aL who p) w.leases with ⟨g1,g2⟩|⟨i,x,g1,g2,g3,g4⟩
 · rw [g1] at c1;rw [oc g2];refine G0 Tryz.func153 ?_;repeat' first|refine Ra ⟨?_⟩|(refine ⟨[],_,_,_,_,0,⟨rfl,rfl,rfl,c1,rfl,rfl⟩,.inl ⟨[],trivial,rfl,.inl ⟨by simp [ak,am,ac],by simp [ao,aw,ac,Ent.c,Mrk.c,Opn.c,Lse.c,Hld.c,Mes.c,au,anH]⟩,?_⟩⟩ <;> conv=>whnf)|refine Rd (fun h=>⟨?_⟩) fun h=>⟨?_⟩|refine Rb ⟨?_⟩|fail
   refine af.here (fw [.anew 1,.close 2,.anew 3,.anew 4] ?_)
   conv=>whnf
   exact ⟨rfl,rfl,rfl,rfl⟩
 · rw [g1] at c1;have hi:=(List.getElem?_eq_some_iff.1 g2).1;have e1:(w.leases.map Lse.c).length=w.leases.length:=zAA ..;have g5:(w.leases.map Lse.c)[i]?=some x.c:=mg g2;by_cases hn:x.num≤n
   · rw [qH hu g2 g3 hn];have c2:=ii (m:=m) w.leases i hi hll;refine G0 Tryz.func153 ?_;repeat' first|refine Ra ⟨?_⟩|(refine ⟨[],_,_,_,_,0,⟨rfl,rfl,rfl,c1,rfl,rfl⟩,.inl ⟨[],trivial,rfl,.inl ⟨by simp [ak,am,ac],by simp [ao,aw,ac,Ent.c,Mrk.c,Opn.c,Lse.c,Hld.c,Mes.c,au,anH]⟩,?_⟩⟩ <;> conv=>whnf)|refine Rk [1] 1 c2 ⟨?_⟩|((refine ⟨i,rfl,by omega,?_⟩) <;> conv=>whnf)|((refine ⟨_,g5,?_⟩) <;> conv=>whnf)|refine Rd (fun h=>⟨?_⟩) fun h=>⟨?_⟩|refine Rb ⟨?_⟩|fail
     refine af.here (fw [.close 2,.anew 3,.anew 4] ?_)
     conv=>whnf
     exact ⟨rfl,rfl,rfl,rfl⟩
   · rw [yv hu g2 g3 hn];refine G0 Tryz.func153 ?_;repeat' first|refine Ra ⟨?_⟩|(refine ⟨[],_,_,_,_,0,⟨rfl,rfl,rfl,c1,rfl,rfl⟩,.inl ⟨[],trivial,rfl,.inl ⟨by simp [ak,am,ac],by simp [ao,aw,ac,Ent.c,Mrk.c,Opn.c,Lse.c,Hld.c,Mes.c,au,anH]⟩,?_⟩⟩ <;> conv=>whnf)|((refine ⟨i,rfl,by omega,?_⟩) <;> conv=>whnf)|((refine ⟨_,g5,?_⟩) <;> conv=>whnf)|refine Rd (fun h=>⟨?_⟩) fun h=>⟨?_⟩|refine Rb ⟨?_⟩|fail
     refine af.here (fw [.anew 1,.close 2,.anew 3,.anew 4] ?_)
     conv=>whnf
     exact ⟨rfl,rfl,rfl,rfl⟩
variable {m:Int}
abbrev gone (clk:Int) (l:Lse):Bool:=decide (l.til≤clk)
theorem iv {ls:List Lse} {clk:Int} {j:Nat} {x:Lse} (h:ls[j]?=some x):(ls.take (j+1)).filter (fun l=>!gone clk l)=(ls.take j).filter (fun l=>!gone clk l)++(if gone clk x then [] else [x]):=by
 rw [zAX,h,zAl];congr 1
 cases hg:gone clk x <;> simp [hg]
theorem yw {α:Type} (f:α→List D) (X:List α) (i:Nat) (hi:i≤X.length) (z:List D):((X.map f).take i++List.replicate ((X.map f).length - i) z++(X.map f).drop (X.map f).length).take i=(X.take i).map f:=by
 have e1:((X.map f).take i).length=i:=by simp; omega
 rw [zAg,sa _ _ _ e1,zBd]
variable {m:Int}
theorem Em {l:List (List Hld)} (h:l.length=3):∃ a b c,l=[a,b,c]:=by
 match l,h with
 | [a,b,c],_=>exact ⟨a,b,c,rfl⟩
theorem sA {l:List Int} (h:l.length=3):∃ a b c,l=[a,b,c]:=by
 match l,h with
 | [a,b,c],_=>exact ⟨a,b,c,rfl⟩
theorem kr {hs:List Hld} (hu:hs.Pairwise fun a b=>a.path≠b.path) {p:Bs} {i:Nat} {x:Hld} (h:hs[i]?=some x) (hx:hb p x=true) {j:Nat} {y:Hld} (hj:hs[j]?=some y) (hne:j≠i):hb p y=false:=by
 rw [zBB] at hu;obtain ⟨hi,rfl⟩:=List.getElem?_eq_some_iff.1 h;obtain ⟨hj',rfl⟩:=List.getElem?_eq_some_iff.1 hj;have hx:=of_decide_eq_true hx;refine decide_eq_false fun hy=>?_;rcases zBQ hne with g|g
 · exact hu j i hj' hi g (by rw [hy,hx])
 · exact hu i j hi hj' g (by rw [hy,hx])
theorem gq {hs:List Hld} {p:Bs} {n:Int} (h:∀ x∈hs,hb p x=false):bz hs p n=hs:=by
 unfold bz;rw [zBN];intro x hx
 have:=h x hx
 simp only [decide_eq_false_iff_not] at this;simp [this]
theorem iw {hs:List Hld} (hu:hs.Pairwise fun a b=>a.path≠b.path) {p:Bs} {n:Int} {i:Nat} {x:Hld} (h:hs[i]?=some x) (hx:hb p x=true) (hn:x.num≤n):bz hs p n=hs.eraseIdx i:=by
 unfold bz;refine fg h (by have:=of_decide_eq_true hx; simp [this,hn]) fun j y hj hne=>?_
 have:=kr hu h hx hj hne
 simp only [decide_eq_false_iff_not] at this;simp [this]
theorem gt {hs:List Hld} (hu:hs.Pairwise fun a b=>a.path≠b.path) {p:Bs} {n:Int} {i:Nat} {x:Hld} (h:hs[i]?=some x) (hx:hb p x=true) (hn:¬ x.num≤n):bz hs p n=hs:=by
 unfold bz;rw [zBN];intro y hy;obtain ⟨j,hj⟩:=List.mem_iff_getElem?.1 hy;by_cases e:j=i
 · subst e;rw [h] at hj;cases hj;simp [hn]
 · have:=kr hu h hx hj e
   simp only [decide_eq_false_iff_not] at this;simp [this]
theorem ix {hs:List Hld} {g:Hld} (h:∀ x∈hs,hb g.path x=false):cg hs g=hs++[g]:=by
 unfold cg;have h1:(hs.any fun x=>decide (x.path=g.path) && decide (g.num≤x.num))=false:=by
  rw [List.any_eq_false];intro x hx
  have:=h x hx
  simp only [decide_eq_false_iff_not] at this;simp [this]
 rw [h1,if_neg (by simp),zBN.2];intro x hx
 have:=h x hx
 simp only [decide_eq_false_iff_not] at this;simp [this]
theorem jN {hs:List Hld} {g:Hld} {i:Nat} {x:Hld} (h:hs[i]?=some x) (hx:hb g.path x=true) (hn:g.num≤x.num):cg hs g=hs:=by
 unfold cg;have h1:(hs.any fun x=>decide (x.path=g.path) && decide (g.num≤x.num))=true:=by
  rw [zAr];exact ⟨x,zAD h,by simp [of_decide_eq_true hx,hn]⟩
 rw [h1,if_pos rfl]
theorem jO {hs:List Hld} (hu:hs.Pairwise fun a b=>a.path≠b.path) {g:Hld} {i:Nat} {x:Hld} (h:hs[i]?=some x) (hx:hb g.path x=true) (hn:¬ g.num≤x.num):cg hs g=hs.eraseIdx i++[g]:=by
 unfold cg;have h1:(hs.any fun x=>decide (x.path=g.path) && decide (g.num≤x.num))=false:=by
  rw [List.any_eq_false];intro y hy;obtain ⟨j,hj⟩:=List.mem_iff_getElem?.1 hy;by_cases e:j=i
  · subst e;rw [h] at hj;cases hj;simp [hn]
  · have:=kr hu h hx hj e
    simp only [decide_eq_false_iff_not] at this;simp [this]
 rw [h1,if_neg (by simp)];congr 1
 refine fg h (by have:=of_decide_eq_true hx; simp [this]) fun j y hj hne=>?_
 have:=kr hu h hx hj hne
 simp only [decide_eq_false_iff_not] at this;simp [this]
end Go.Proofs.YtagejnomlkfndaaGreatDoor
