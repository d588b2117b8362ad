/- Texts of this claim, set close: lemmas and contracts. -/
import Derived.Test.YtagejnomlkfndaaGreatDoorYY43
import Derived.Test.YtagejnomlkfndaaGreatDoorYY39
import Derived.Test.YtagejnomlkfndaaGreatDoorYY46
import Derived.Test.YtagejnomlkfndaaGreatDoorYY27
set_option linter.unusedSimpArgs false
set_option linter.unusedVariables false
set_option maxHeartbeats 1000000
set_option maxRecDepth 10000
namespace Go.Proofs.YtagejnomlkfndaaGreatDoor
open Go Go.RowKit Go.Ab Go.Par
variable {m:Int}
abbrev Ho (w:Wld) (L:List (List D)) (zs:List aE):ac:=[(0,.own 132 L),(1,.box 180 [.bp 2 0]),(2,.box 55 (wcG w 6 7 8 0 3 4 5)),(3,.deep 121 68 zs),(4,.own 3 (ck w.floors)),(5,.own 70 (w.net.map Mes.c)),(6,.fr (w.over.base.map Ent.c)),(7,.fr (w.over.layers.map cm)),(8,.fr (w.over.upper.map Mrk.c))]
abbrev JG (w:Wld) (L:List (List D)) (zs:List aE):ac:=[(0,.box 180 [.bp 1 0]),(1,.box 55 (wcG w 6 7 8 2 3 4 5)),(2,.own 132 L),(3,.deep 121 68 zs),(4,.own 3 (ck w.floors)),(5,.own 70 (w.net.map Mes.c)),(6,.fr (w.over.base.map Ent.c)),(7,.fr (w.over.layers.map cm)),(8,.fr (w.over.upper.map Mrk.c))]
theorem uX (w:Wld) (l:Lse) (L:List (List D)) (h0 h1 h2:List Hld):Con (E m) 148 9 [.agg l.c,.bp 0 0] (JG w L [anH h0,anH h1,anH h2]) (.b (gone w.clock l)) (JG w L [anH h0,anH h1,anH h2]):=by
 refine G0 Tryz.func148 ?_;repeat' first|refine Rx ⟨?_⟩|refine Rd (fun h=>⟨?_⟩) fun h=>⟨?_⟩|fail
 exact Rf
theorem rY (w:Wld) (ls:List Lse) (h0 h1 h2:List Hld) (hl:ls.length≤1048576):Con (E m) 211 9 [.own 0,.fn 148 [1]] (Ho w (ls.map Lse.c) [anH h0,anH h1,anH h2]) (.k .i64 (ixL (gone w.clock) ls)) (Ho w (ls.map Lse.c) [anH h0,anH h1,anH h2]):=by
 have e1:(ls.map Lse.c).length=ls.length:=zAA ..;refine G0 Tryz.func211 ?_;repeat' first|refine Rx ⟨?_⟩|refine Rd (fun h=>⟨?_⟩) fun h=>⟨?_⟩|fail
 refine Cd.loop2 (fun mq tm S nx=>∃ (i:Nat),mq=(ls.length - i)∧tm=[(0,.own 0),(1,.fn 148 [1]),(7,.k .i64 ((ls.map Lse.c).length:Int)),(8,.k .i64 i)]∧S=[(0,.own 132 (ls.map Lse.c)),(1,.box 180 [.bp 2 0]),(2,.box 55 (wcG w 6 7 8 0 3 4 5)),(3,.deep 121 68 [anH h0,anH h1,anH h2]),(4,.own 3 (ck w.floors)),(5,.own 70 (w.net.map Mes.c)),(6,.fr (w.over.base.map Ent.c)),(7,.fr (w.over.layers.map cm)),(8,.fr (w.over.upper.map Mrk.c))]∧nx=9∧(i≤ls.length)∧((ls.take i).all (fun x=>!gone w.clock x)=true)) ?_ ?_
 · refine la [0,1,7,8] ?_
   conv=>whnf
   refine ⟨rfl,rfl,_,0,rfl,rfl,rfl,rfl,by omega,by simp⟩
 · rintro mq tm S nx ⟨i,hn,rfl,rfl,rfl,hi,ha⟩;by_cases hlt:i < ls.length
   · have g1:ls[i]?=some ls[i]:=zAB hlt;generalize ls[i]=x at g1;have g5:(ls.map Lse.c)[i]?=some x.c:=mg g1;have c1:=uX (m:=m) w x (ls.map Lse.c) h0 h1 h2;cases hx:gone w.clock x with
     | true=>
       rw [hx] at c1;rw [lZ ha g1 hx];repeat' first|refine Ra ⟨?_⟩|refine Rk [1,2,0,3,4,5,6,7,8] 0 c1 ⟨?_⟩|((refine ⟨i,rfl,by omega,?_⟩) <;> conv=>whnf)|((refine ⟨_,g5,?_⟩) <;> conv=>whnf)|refine Rd (fun h=>⟨?_⟩) fun h=>⟨?_⟩|refine Rb ⟨?_⟩|fail
       exact Rf
     | false=>
       rw [hx] at c1;repeat' first|refine Ra ⟨?_⟩|refine Rk [1,2,0,3,4,5,6,7,8] 0 c1 ⟨?_⟩|((refine ⟨i,rfl,by omega,?_⟩) <;> conv=>whnf)|((refine ⟨_,g5,?_⟩) <;> conv=>whnf)|refine Rd (fun h=>⟨?_⟩) fun h=>⟨?_⟩|refine Rb ⟨?_⟩|fail
       refine .here ⟨mq - 1,by omega,?_⟩;refine la [0,1,7,8] ?_
       conv=>whnf
       refine ⟨rfl,rfl,i+1,(by omega),rfl,rfl,rfl,by omega,bN ha g1 (by simp [hx])⟩
   · rw [m4 ha (by omega)];repeat' first|refine Rx ⟨?_⟩|refine Rd (fun h=>⟨?_⟩) fun h=>⟨?_⟩|fail
     exact Rf
theorem za (w:Wld) (ls:List Lse) (h0 h1 h2:List Hld) (hl:ls.length≤1048576) (i0:Nat) (x0:Lse) (g1:ixL (gone w.clock) ls=(i0:Int)) (g2:ls[i0]?=some x0) (g3:gone w.clock x0=true) (g4:(ls.take i0).all (fun y=>!gone w.clock y)=true) :
   Con (E m) 147 9 [.own 0,.fn 148 [1]] (Ho w (ls.map Lse.c) [anH h0,anH h1,anH h2]) (.own 9) [(1,.box 180 [.bp 2 0]),(2,.box 55 (wcG w 6 7 8 0 3 4 5)),(3,.deep 121 68 [anH h0,anH h1,anH h2]),(4,.own 3 (ck w.floors)),(5,.own 70 (w.net.map Mes.c)),(6,.fr (w.over.base.map Ent.c)),(7,.fr (w.over.layers.map cm)),(8,.fr (w.over.upper.map Mrk.c)),(9,.own 132 ((ls.filter (fun l=>!gone w.clock l)).map Lse.c))]:=by
 have e1:(ls.map Lse.c).length=ls.length:=zAA ..;have hi0:=(List.getElem?_eq_some_iff.1 g2).1;have c1:=cV (rY (m:=m) w ls h0 h1 h2 hl);rw [g1] at c1;refine cVE ?_;refine bK tF Ce Tryz.func147 rfl rfl rfl (zAC rfl) ?_;repeat' first|refine Ra ⟨?_⟩|refine Rk [0,1,2,3,4,5,6,7,8] 0 c1 ⟨?_⟩|refine Rd (fun h=>⟨?_⟩) fun h=>⟨?_⟩|refine Rb ⟨?_⟩|fail
 refine Cd.loop2 (fun mq tm S nx=>∃ (i:Nat) (j:Nat) (X:List Lse),mq=(ls.length - j)∧tm=[(0,.own 0),(1,.fn 148 [1]),(5,.k .i64 i),(6,.k .i64 j)]∧S=[(0,.own 132 (X.map Lse.c)),(1,.box 180 [.bp 2 0]),(2,.box 55 (wcG w 6 7 8 0 3 4 5)),(3,.deep 121 68 [anH h0,anH h1,anH h2]),(4,.own 3 (ck w.floors)),(5,.own 70 (w.net.map Mes.c)),(6,.fr (w.over.base.map Ent.c)),(7,.fr (w.over.layers.map cm)),(8,.fr (w.over.upper.map Mrk.c))]∧nx=9∧(j≤ls.length)∧(i < j)∧(X.length=ls.length)∧(X.take i=(ls.take j).filter (fun l=>!gone w.clock l))∧(X.drop j=ls.drop j)) ?_ ?_
 · refine la [0,1,5,6] ?_
   conv=>whnf
   refine ⟨rfl,rfl,_,i0,i0+1,ls,rfl,rfl,rfl,rfl,by omega,by omega,rfl,(by rw [jJ g2,if_pos g3,List.append_nil,zBV.2 (zAs.1 g4)]),rfl⟩
 · rintro mq tm S nx ⟨i,j,X,hn,rfl,rfl,rfl,hj,hij,hX,hk,hd⟩;have e2:(X.map Lse.c).length=X.length:=zAA ..;by_cases hlt:j < ls.length
   · have p1:ls[j]?=some ls[j]:=zAB hlt;generalize ls[j]=x at p1;have p2:X[j]?=some x:=by
      have:(X.drop j)[0]?=(ls.drop j)[0]?:=by rw [hd]
      rw [zAi,zAi,Nat.add_zero] at this;rw [this,p1]
     have p5:(X.map Lse.c)[j]?=some x.c:=mg p2;have hdr:X.drop (j+1)=ls.drop (j+1):=by rw [← zBb,← zBb,hd]
     have c2:=cV (uX (m:=m) w x (X.map Lse.c) h0 h1 h2);have hiX:i < X.length:=by omega
     have p6:(X.map Lse.c)[i]?=some (X[i]).c:=mg (zAB hiX);cases hx:gone w.clock x with
     | true=>
       rw [hx] at c2;repeat' first|refine Ra ⟨?_⟩|refine Rk [1,2,0,3,4,5,6,7,8] 0 c2 ⟨?_⟩|((refine ⟨j,rfl,by omega,?_⟩) <;> conv=>whnf)|((refine ⟨_,p5,?_⟩) <;> conv=>whnf)|refine Rd (fun h=>⟨?_⟩) fun h=>⟨?_⟩|refine Rb ⟨?_⟩|fail
       refine .here ⟨mq - 1,by omega,?_⟩;refine la [0,1,5,6] ?_
       conv=>whnf
       refine ⟨rfl,rfl,i,j+1,X,(by omega),rfl,rfl,rfl,by omega,by omega,hX,(by rw [jJ p1,hx,hk]; simp),hdr⟩
     | false=>
       rw [hx] at c2;repeat' first|refine Ra ⟨?_⟩|refine Rk [1,2,0,3,4,5,6,7,8] 0 c2 ⟨?_⟩|((refine ⟨j,rfl,by omega,?_⟩) <;> conv=>whnf)|((refine ⟨i,rfl,by omega,?_⟩) <;> conv=>whnf)|((refine ⟨_,p5,?_⟩) <;> conv=>whnf)|((refine ⟨(rfl:kA _ _=false),_,p6,zAC rfl,?_⟩) <;> conv=>whnf)|refine Rd (fun h=>⟨?_⟩) fun h=>⟨?_⟩|refine Rb ⟨?_⟩|fail
       refine .here ⟨mq - 1,by omega,?_⟩;refine la [0,1,5,6] ?_
       conv=>whnf
       refine ⟨rfl,rfl,i+1,j+1,X.set i x,(by omega),rfl,?_,rfl,by omega,by omega,(by simpa using hX),(by rw [jJ p1,hx,← hk,zAY,List.getElem?_set_self hiX,List.take_set_of_le (zAL _)]; simp),(by rw [List.drop_set_of_lt (by omega),hdr])⟩;rw [List.map_set];rfl
   · have:j=ls.length:=by omega
     subst this;have hiX:i≤X.length:=by omega
     rw [zAP] at hk;rw [← hk,← A9 Lse.c X i hiX (cellsOf (.agg [.k .i64 0,.s [],.k .i64 0,.k .i64 0]))];repeat' first|refine Ra ⟨?_⟩|((refine ⟨i,rfl,by omega,zAL _,?_⟩) <;> conv=>whnf)|((refine ⟨by omega,zAL _,?_⟩) <;> conv=>whnf)|((refine ⟨i,rfl,zAG _,by simp; omega,?_⟩) <;> conv=>whnf)|refine Rd (fun h=>⟨?_⟩) fun h=>⟨?_⟩|refine Rb ⟨?_⟩|fail
     refine ak.here (fw [.trim 4] ?_)
     conv=>whnf
     exact ⟨rfl,rfl,rfl,rfl⟩
theorem vL (w:Wld) (ls:List Lse) (h0 h1 h2:List Hld) (hl:ls.length≤1048576) (g1:ixL (gone w.clock) ls=-1) :
   Con (E m) 147 9 [.own 0,.fn 148 [1]] (Ho w (ls.map Lse.c) [anH h0,anH h1,anH h2]) (.own 0) (Ho w (ls.map Lse.c) [anH h0,anH h1,anH h2]):=by
 have c1:=cV (rY (m:=m) w ls h0 h1 h2 hl);rw [g1] at c1;refine cVE ?_;refine bK tF Ce Tryz.func147 rfl rfl rfl (zAC rfl) ?_;repeat' first|refine Ra ⟨?_⟩|refine Rk [0,1,2,3,4,5,6,7,8] 0 c1 ⟨?_⟩|refine Rd (fun h=>⟨?_⟩) fun h=>⟨?_⟩|refine Rb ⟨?_⟩|fail
 exact Rf
theorem FF (w:Wld) (zs:List aE) (hc:0≤w.clock∧w.clock≤10000) (hll:w.leases.length≤1048576) (h0 h1 h2:List Hld) (hz:zs=[anH h0,anH h1,anH h2]):Con (E m) 78 8 [.bp 0 0] (bxI w zs) (.tup []) (bxJ (ix w) zs):=by
 subst hz;have hclk:min (w.clock+1) 10000=eX w.clock:=by unfold eX; split <;> omega
 have hflt:w.leases.filter (fun l=>decide (eX w.clock < l.til))=w.leases.filter (fun l=>!gone (eX w.clock) l):=by
  congr 1
  funext l
  rw [zAK];simp only [decide_eq_true_eq,zAJ,decide_eq_false_iff_not];omega
 unfold ix;rw [hflt];rcases eD (gone (eX w.clock)) w.leases with ⟨g1,g2⟩|⟨i,x,g1,g2,g3,g4⟩
 · have c1:=vL (m:=m) { w with clock:=eX w.clock } w.leases h0 h1 h2 hll g1
   rw [zBV.2 (fun l hl=>by rw [g2 l hl]; rfl)];rw [← hclk] at c1 ⊢;refine G0 Tryz.func78 ?_;repeat' first|refine Ra ⟨?_⟩|((refine ⟨[1,8,0,2,3,4,5,6,7],_,_,_,_,0,⟨rfl,rfl,rfl,c1,rfl,rfl⟩,.inl ⟨[8],⟨rfl,trivial⟩,rfl,.inr rfl,?_⟩⟩) <;> conv=>whnf)|refine Rd (fun h=>⟨?_⟩) fun h=>⟨?_⟩|refine Rb ⟨?_⟩|fail
   refine ak.here (fw [.anew 1,.close 2,.anew 3,.anew 4] ?_)
   conv=>whnf
   exact ⟨rfl,rfl,rfl,rfl⟩
 · have c1:=za (m:=m) { w with clock:=eX w.clock } w.leases h0 h1 h2 hll i x g1 g2 g3 g4
   rw [← hclk] at c1 ⊢;refine G0 Tryz.func78 ?_;repeat' first|refine Ra ⟨?_⟩|((refine ⟨[1,8,0,2,3,4,5,6,7],_,_,_,_,1,⟨rfl,rfl,rfl,c1,rfl,rfl⟩,.inl ⟨[8],⟨rfl,trivial⟩,rfl,.inr rfl,?_⟩⟩) <;> conv=>whnf)|refine Rd (fun h=>⟨?_⟩) fun h=>⟨?_⟩|refine Rb ⟨?_⟩|fail
   refine ak.here (fw [.close 2,.anew 3,.anew 4] ?_)
   conv=>whnf
   exact ⟨rfl,rfl,rfl,rfl⟩
variable {m:Int}
theorem bq {ns r:List Nat} {S q:ac} {n i:Nat} {b b':Blk} (h1:lk S n=some b) (h2:lE ns S b=some b') (h3:nz ns S r (i+1)=some q):nz ns S (n :: r) i=some ((i,b') :: q):=by simp only [nz,h1,h2,h3]
theorem l9 {ns:List Nat} {S:ac} {e e2:TypeId} {z:List aE} {ws:WsT} (h:z=anZ ws):lE ns S (.deep e e2 z)=some (.deep e e2 (anZ ws)):=by
 subst h;simp only [lE,kH]
theorem dK {S:ac} {n:Nat} {r l q:List Nat} {b:Blk} (h1:lk S n=some b) (h2:cz b=l) (h3:bV S r=q):bV S (n :: r)=l++q:=by simp only [bV,h1,h2,h3]
theorem uY {e e2:TypeId} {z:List aE} {ws:WsT} (h:z=anZ ws):cz (.deep e e2 z)=[]:=by
 subst h;exact eU ws
theorem oX {ns l:List Nat} {ds:List D} {S:ac} (h:bV S ns=l) (hm:kf ns (en ds++l)=[]):kD ns ds S=[]:=by
 unfold kD;rw [h];exact hm
theorem Dv {o:Ovr} {z:List aE} (h:z=anZ (o.layers.map fun l=>l.map Mrk.c)):([(0,.own 66 (o.base.map Ent.c)),(1,.deep 32 166 z),(2,.own 166 (o.upper.map Mrk.c))]:ac)=oT o 0 1 2:=by
 subst h;rfl
theorem Ie {c:Nat} {l:List Nat} {o:Ovr} (h:ltB c l=true):(ltB c l && kC c (oT o 0 1 2))=true:=Jh h
theorem Hp (o:Ovr):aF (oT o 0 1 2):=by
 intro p hp;simp only [oT,List.mem_cons,List.not_mem_nil,or_false] at hp;rcases hp with rfl|rfl|rfl
 · intro cs hcs d hd;obtain ⟨e,_,rfl⟩:=List.mem_map.1 hcs;simp only [Ent.c,List.mem_cons,List.not_mem_nil,or_false] at hd;rcases hd with rfl|rfl|rfl <;> trivial
 · intro z hz;obtain ⟨xs,hxs,rfl⟩:=List.mem_map.1 hz;obtain ⟨l,_,rfl⟩:=List.mem_map.1 hxs;intro cs hcs d hd;obtain ⟨e,_,rfl⟩:=List.mem_map.1 hcs;simp only [Mrk.c,List.mem_cons,List.not_mem_nil,or_false] at hd;rcases hd with rfl|rfl|rfl <;> trivial
 · intro cs hcs d hd;obtain ⟨e,_,rfl⟩:=List.mem_map.1 hcs;simp only [Mrk.c,List.mem_cons,List.not_mem_nil,or_false] at hd;rcases hd with rfl|rfl|rfl <;> trivial
theorem oa (o:Ovr) (hb:gM o):Con (E m) 52 0 [.agg o.c] [] (.agg [.own 0,.own 1,.own 2]) (oT o 0 1 2):=by
 have hbl:=hb.bl;have hll:=hb.ll;have hul:=hb.ul;have e1:(o.layers.map cm).length=o.layers.length:=zAA ..;have c1:=cD (lY (m:=m) o.base (by omega));have c2:=cD (n7 (m:=m) o.upper (by omega));refine cDE ?_;refine bK zU GE Tryz.func52 rfl rfl rfl (zAC rfl) ?_;repeat' first|refine Rx ⟨?_⟩|refine Rd (fun h=>⟨?_⟩) fun h=>⟨?_⟩|fail
 refine Cd.loop2 (fun mq tm S nx=>∃ (i:Nat) (ws:WsT),mq=(o.layers.length - i)∧tm=[(1,.bp 0 0),(2,.bp 1 0),(3,.own 2),(7,.sl (o.layers.map cm)),(8,.k .i64 ((o.layers.map cm).length:Int)),(9,.k .i64 i)]∧S=[(0,.box 34 o.c),(1,.box 34 [.nil,.nil,.nil]),(2,.deep 32 166 (anZ ws))]∧nx=3∧(i≤o.layers.length)∧(ws=(o.layers.take i).map fun l=>l.map Mrk.c)) ?_ ?_
 · refine ⟨[.thawT 3 32 166],[1,2,3,7,8,9],[0,1,2],?_⟩
   conv=>whnf
   refine ⟨rfl,rfl,_,0,[],rfl,rfl,rfl,rfl,zAG _,rfl⟩
 · rintro mq tm S nx ⟨i,ws,hn,rfl,rfl,rfl,hi,hA⟩;have hwl:ws.length=i:=by rw [hA]; simp; omega
   have hwz:(anZ ws).length=i:=by rw [lQ,hwl]
   rcases av o.layers i hi with ⟨rfl,hd⟩|⟨l,r,hl',hd,hr,hlt⟩
   · rw [zAP] at hA;subst hA;repeat' first|refine Ra ⟨?_⟩|refine Rk [] 1 c1 ⟨?_⟩|refine Rk [] 1 c2 ⟨?_⟩|refine Rd (fun h=>⟨?_⟩) fun h=>⟨?_⟩|refine Rb ⟨?_⟩|fail
     refine ak.here ⟨[],[3,2,4],?_⟩
     conv=>whnf
     refine ⟨rfl,rfl,rfl,?_⟩;exact Dv (co _ _)
   · have g1:o.layers.take (i+1)=o.layers.take i++[l]:=by rw [zAY,hl']; rfl
     have c3:=cD (n7 (m:=m) l (by have:=(hb.lay l (zAD hl')).2; omega));have hg:(o.layers.map cm)[i]?=some [.sl (l.map Mrk.c)]:=by rw [zAO,hl']; rfl
     repeat' first|refine Ra ⟨?_⟩|refine Rk [] 1 c3 ⟨?_⟩|(refine ⟨i,_,rfl,hg,rfl,?_⟩ <;> conv=>whnf)|refine Rd (fun h=>⟨?_⟩) fun h=>⟨?_⟩|refine Rb ⟨?_⟩|fail
     refine .here ⟨mq - 1,by omega,?_⟩;refine ⟨[],[1,2,3,7,8,9],[0,1,5],?_⟩
     conv=>whnf
     have key:(anZ ws++[aE.an (l.map Mrk.c)]).map (xn [0,1,5])=anZ (ws++[l.map Mrk.c]):=by simp [anZ,xn]
     refine ⟨rfl,rfl,i+1,ws++[l.map Mrk.c],(by omega),rfl,congrArg (fun z=>[(0,Blk.box _ _),(1,Blk.box _ _),(2,Blk.deep _ _ z)]) key,rfl,by omega,(by rw [hA,g1,zAH]; rfl)⟩
theorem zb (o:Ovr) (p:Opn) (hb:gM o) (hp:jc 1073741823 p):Con (E m) 53 0 [.agg o.c,.agg p.c] [] (.tup [.agg [.own 0,.own 1,.own 2],.k .i64 (dE o p).2]) (oT (dE o p).1 0 1 2):=by
 have c1:=j5 (m:=m) o hb;have c2:=oa (m:=m) o hb;unfold dE;cases h:bv o with
 | none=>
   rw [h] at c1;refine G0 Tryz.func53 ?_;repeat' first|refine Ra ⟨?_⟩|refine R0 c1 ⟨?_⟩|refine Rd (fun h=>⟨?_⟩) fun h=>⟨?_⟩|refine Rb ⟨?_⟩|fail
   refine ak.here (fw [.thawB 2 0 66,.thawD 2 1 32 166,.thawB 2 2 166] ?_)
   conv=>whnf
   exact ⟨rfl,rfl,rfl,rfl⟩
 | some x=>
   obtain ⟨t,v⟩:=x;rw [h] at c1;obtain ⟨_,_,k3,k4⟩:=ce h;have c3:=fY (m:=m) v p (bE0 k4) hp.1 hp.2.1 hp.2.2;have c4:=j0 (m:=m) t (aJ v p).1 k3 (gS k4 p);simp only;by_cases h0:(aJ v p).2=0
   · rw [if_pos h0];rw [h0] at c3 ⊢;generalize (aJ v p).1=y at c3 c4 ⊢;refine G0 Tryz.func53 ?_;repeat' first|refine Ra ⟨?_⟩|refine R0 c1 ⟨?_⟩|(refine Rc [] 3 rfl rfl c2 ?_ rfl rfl (Ie rfl) <;> conv=>whnf)|refine Rk [] 1 c3 ⟨?_⟩|refine Rk [] 1 c4 ⟨?_⟩|refine Rd (fun h=>⟨?_⟩) fun h=>⟨?_⟩|refine Rb ⟨?_⟩|fail
     refine ak.here ⟨[],[3,4,8],?_⟩
     conv=>whnf
     refine ⟨rfl,rfl,rfl,?_⟩;exact Dv (o:=⟨o.base,o.layers,eA t y⟩) (by rw [bi,co])
   · rw [if_neg h0];generalize aJ v p=Y at c3 c4 h0 ⊢;refine G0 Tryz.func53 ?_;repeat' first|refine Ra ⟨?_⟩|refine R0 c1 ⟨?_⟩|(refine Rc [] 3 rfl rfl c2 ?_ rfl rfl (Ie rfl) <;> conv=>whnf)|refine Rk [] 1 c3 ⟨?_⟩|refine Rd (fun h=>⟨?_⟩) fun h=>⟨?_⟩|refine Rb ⟨?_⟩|fail
     refine ak.here ⟨[],[3,4,5],?_⟩
     conv=>whnf
     refine ⟨rfl,rfl,rfl,?_⟩;exact Dv (by rw [bi,co])
end Go.Proofs.YtagejnomlkfndaaGreatDoor
