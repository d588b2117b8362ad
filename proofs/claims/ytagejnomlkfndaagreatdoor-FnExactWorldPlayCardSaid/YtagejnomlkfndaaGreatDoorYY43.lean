/- Texts of this claim, set close: lemmas and contracts. -/
import Derived.Test.YtagejnomlkfndaaGreatDoorYY38
import Derived.Test.YtagejnomlkfndaaGreatDoorYY13
set_option linter.unusedSimpArgs false
set_option linter.unusedVariables false
set_option maxHeartbeats 1000000
set_option maxRecDepth 10000
namespace Go.Proofs.YtagejnomlkfndaaGreatDoor
open Go Go.RowKit Go.Ab Go.Par
variable {m:Int}
theorem arO {S:ab} {a b c:Nat} {o:Ovr} {z:List av} {ta tb tb2 tc:TypeId} (h0:lk S a=some (.own ta (o.base.map Ent.c))) (h1:lk S b=some (.deep tb tb2 z)) (h2:lk S c=some (.own tc (o.upper.map Mrk.c))) (g:z=oZ o):ov [] S (.agg [.own a,.own b,.own c])=some (.agg o.c):=by
 subst g;have e1:(o.layers.map fun l=>l.map Mrk.c).map (fun xs=>[D.sl xs])=o.layers.map cv:=by rw [zAz]; rfl
 simp only [ov,iz,kE,eX,b8,h0,h1,h2,imB,ge,e1];rfl
theorem Ge {S:ab} {a b c:Nat} {o:Ovr} {z:List av} {ta tb tb2 tc:TypeId} {q':D} (h0:lk S a=some (.own ta (o.base.map Ent.c))) (h1:lk S b=some (.deep tb tb2 z)) (h2:lk S c=some (.own tc (o.upper.map Mrk.c))) (g:z=oZ o) (hq:ov [] S q'=some q'):gC [] S [.agg [.own a,.own b,.own c],q']=some [.agg o.c,q']:=by
 simp only [gC,arO h0 h1 h2 g,hq]
theorem Gf (a b c:Nat) (k:IntKind) (n:Int):ak (.tup [.agg [.own a,.own b,.own c],.k k n]):=by simp [ak,am,ac]
abbrev lgS (x:Ovr) (z:List av) (cs:List Int):ab:=[(0,.box 34 [.nil,.nil,.nil]),(1,.box 34 [.own 3,.own 4,.own 5]),(2,.own 3 (bg cs)),(3,.own 66 (x.base.map Ent.c)),(4,.deep 32 166 z),(5,.own 166 (x.upper.map Mrk.c))]
theorem Bg {x:Ovr} {z:List av} {cs:List Int} (h:z=oZ x):lgS x z cs=lgS x (oZ x) cs:=by rw [h]
abbrev lgR (x:Ovr) (z:List av) (cs:List Int):ab:=[(0,.own 66 (x.base.map Ent.c)),(1,.deep 32 166 z),(2,.own 166 (x.upper.map Mrk.c)),(3,.own 3 (bg cs))]
theorem Fa {x:Ovr} {z:List av} {cs:List Int} (h:z=oZ x):lgR x z cs=lgR x (oZ x) cs:=by rw [h]
theorem tj (o:Ovr) (ops:List Opn) (hb:eB o) (ho:∀ p∈ops,jK 1073741823 p) (hl:ops.length≤1048576) :
   Con (E m) 12 0 [.agg o.c,.sl (ops.map Opn.c)] [] (.tup [.agg [.own 0,.own 1,.own 2],.own 3]) (lgR (bO o ops).1 (oZ (bO o ops).1) (bO o ops).2):=by
 have e1:(ops.map Opn.c).length=ops.length:=zAA ..;have c1:=fC (m:=m) o hb;have c2:=gz (m:=m) o hb;rcases iQ o ops with ⟨t,v,hg,h1,h2,h3⟩|⟨hg,hbad⟩
 · have hx:bO o ops=bJ o ops:=by rw [bO,hg]; rfl
   rw [hx];rw [h1] at c1;refine G0 Tryz.func12 ?_;repeat' first|refine Ra ⟨?_⟩|refine R0 c1 ⟨?_⟩|(refine Rc [] 3 rfl rfl c2 ?_ rfl rfl (Ag rfl) <;> conv=>whnf)|refine Rd (fun h=>⟨?_⟩) fun h=>⟨?_⟩|refine Rb ⟨?_⟩|fail
   refine Cd.loop2 (fun mq tm S nx=>∃ (i:Nat) (x:Ovr) (v:List Ent) (cs:List Int),mq=(ops.length - i)∧tm=[(4,.bp 0 0),(6,.bp 1 0),(7,.own 2),(23,.sl (ops.map Opn.c)),(24,.k .i64 ((ops.map Opn.c).length:Int)),(25,.k .i64 i)]∧S=[(0,.box 34 [.nil,.nil,.nil]),(1,.box 34 [.own 3,.own 4,.own 5]),(2,.own 3 (bg cs)),(3,.own 66 (x.base.map Ent.c)),(4,.deep 32 166 (oZ x)),(5,.own 166 (x.upper.map Mrk.c))]∧nx=6∧(i≤ops.length)∧(bo x=some (t,v))∧(bJ o ops=((bJ x (ops.drop i)).1,cs++(bJ x (ops.drop i)).2))∧(cs.length=i)) ?_ ?_
   · refine ⟨[],[4,6,7,23,24,25],[1,6,7,3,4,5],?_⟩
     conv=>whnf
     refine ⟨rfl,rfl,_,0,o,v,[],rfl,rfl,Bg (x:=o) (cs:=[]) (by simp only [ax,bj]),rfl,zAG _,h2,by simp,by simp⟩
   · rintro mq tm S nx ⟨i,x,v,cs,hn,rfl,rfl,rfl,hi,hok,hrun,hcl⟩;have e2:(bg cs).length=cs.length:=zAA ..;rcases al ops i hi with ⟨rfl,hd⟩|⟨p,r,hp',hd,hr,hlt⟩
     · rw [hd] at hrun;have hq:bJ o ops=(x,cs):=by rw [hrun]; simp [bJ]
       rw [hq];repeat' first|refine Rx ⟨?_⟩|refine Rd (fun h=>⟨?_⟩) fun h=>⟨?_⟩|fail
       refine af.here ⟨[],[3,4,5,2],?_⟩
       conv=>whnf
       refine ⟨rfl,rfl,rfl,?_⟩;exact Fa (by simp only [ax,bj])
     · rw [hd,ib] at hrun;obtain ⟨d1,_,_,_⟩:=lN hok p;have c3:=n9 (m:=m) x p (vT hok) (ho p (zAD hp'));generalize cf x p=Y at c3 hrun d1;repeat' first|refine Ra ⟨?_⟩|(refine ⟨[],_,_,_,_,3,⟨rfl,Ge (o:=x) (q':=.agg p.c) rfl rfl rfl rfl rfl,rfl,c3,rfl,Ag rfl⟩,.inl ⟨[],trivial,rfl,.inl ⟨Gf _ _ _ _ _,lp _⟩,?_⟩⟩ <;> conv=>whnf)|refine Rd (fun h=>⟨?_⟩) fun h=>⟨?_⟩|refine Rb ⟨?_⟩|fail
       refine .here ⟨mq - 1,by omega,?_⟩;refine ⟨[],[4,6,7,23,24,25],[0,1,12,7,8,9],?_⟩
       conv=>whnf
       have ei:bg cs++[[.k .i64 Y.2]]=bg (cs++[Y.2]):=ir cs Y.2;refine ⟨rfl,rfl,i+1,Y.1,(aC v p).1,cs++[Y.2],by omega,rfl,Eq.trans ?_ (Bg (x:=Y.1) (z:=((oZ Y.1).map (yL (jp [] 7))).map (p8 [0,1,12,7,8,9])) (cs:=cs++[Y.2]) (by simp only [ax,bj])),rfl,by omega,d1,by (rw [hrun,hr]; simp),by (simp; omega)⟩;unfold lgS;rw [← ei];rfl
 · have hx:bO o ops=(ov0,[]):=by rw [bO,hg]; rfl
   rw [hx];rcases hbad with h1|⟨h1,h2⟩
   · rw [h1] at c1;refine G0 Tryz.func12 ?_;repeat' first|refine Ra ⟨?_⟩|refine R0 c1 ⟨?_⟩|refine Rd (fun h=>⟨?_⟩) fun h=>⟨?_⟩|refine Rb ⟨?_⟩|fail
     refine af.here (fw [.thawB 1 0 66,.thawD 1 1 32 166,.thawB 1 2 166] ?_)
     conv=>whnf
     exact ⟨rfl,rfl,rfl,rfl⟩
   · rw [h1] at c1;refine G0 Tryz.func12 ?_;repeat' first|refine Ra ⟨?_⟩|refine R0 c1 ⟨?_⟩|refine Rd (fun h=>⟨?_⟩) fun h=>⟨?_⟩|refine Rb ⟨?_⟩|fail
     refine af.here (fw [.thawB 1 0 66,.thawD 1 1 32 166,.thawB 1 2 166] ?_)
     conv=>whnf
     exact ⟨rfl,rfl,rfl,rfl⟩
variable {m:Int}
abbrev oT4 (o:Ovr) (t:TypeId) (xs:List (List D)):ab:=[(0,.own 66 (o.base.map Ent.c)),(1,.deep 32 166 (oZ o)),(2,.own 166 (o.upper.map Mrk.c)),(3,.own t xs)]
theorem Bk (o:Ovr) (t:TypeId) (xs:List (List D)):yj (oT4 o t xs) [.agg [.own 0,.own 1,.own 2],.own 3] [.agg o.c,.sl xs]:=by
 have e1:(o.layers.map fun l=>l.map Mrk.c).map (fun xs=>[D.sl xs])=o.layers.map cv:=by rw [zAz]; rfl
 have h0:lk (oT4 o t xs) 0=some (.own 66 (o.base.map Ent.c)):=rfl;have h1:lk (oT4 o t xs) 1=some (.deep 32 166 (oZ o)):=rfl;have h2:lk (oT4 o t xs) 2=some (.own 166 (o.upper.map Mrk.c)):=rfl;have h3:lk (oT4 o t xs) 3=some (.own t xs):=rfl;generalize oT4 o t xs=S at *;refine ⟨?_,?_,trivial⟩
 · simp only [ez,jo,b8,h0,h1,h2,imB,ge,e1];rfl
 · simp only [ez,b8,h3,imB]
section
variable {S:ab} {a b c d a' b' c':Nat} {o:Ovr} {z z':List av} {ta tb tb2 tc ta' tb' tb2' tc' t:TypeId} {xs:List (List D)}
theorem GC (h0:lk S a=some (.own ta (o.base.map Ent.c))) (h1:lk S b=some (.deep tb tb2 z)) (h2:lk S c=some (.own tc (o.upper.map Mrk.c))) (g:z=oZ o) (h3:lk S d=some (.own t xs)):gC [] S [.agg [.own a,.own b,.own c],.own d]=some [.agg o.c,.sl xs]:=by
 have hd:ov [] S (.own d)=some (.sl xs):=by simp only [ov,kE,eX,b8,h3,imB]
 simp only [gC,arO h0 h1 h2 g,hd]
theorem GD (h0:lk S a=some (.own ta (o.base.map Ent.c))) (h1:lk S b=some (.deep tb tb2 z)) (h2:lk S c=some (.own tc (o.upper.map Mrk.c))) (g:z=oZ o) (k0:lk S a'=some (.own ta' (o.base.map Ent.c))) (k1:lk S b'=some (.deep tb' tb2' z')) (k2:lk S c'=some (.own tc' (o.upper.map Mrk.c))) (k:z'=oZ o) :
   gC [] S [.agg [.own a,.own b,.own c],.agg [.own a',.own b',.own c']]=some [.agg o.c,.agg o.c]:=by
 simp only [gC,arO h0 h1 h2 g,arO k0 k1 k2 k]
theorem GE (h0:lk S a=some (.own ta (o.base.map Ent.c))) (h1:lk S b=some (.deep tb tb2 z)) (h2:lk S c=some (.own tc (o.upper.map Mrk.c))) (g:z=oZ o) (h3:lk S d=some (.own t xs)):kB [a,b,c,d] S [a,b,c,d] 0=some [(0,.own ta (o.base.map Ent.c)),(1,.deep tb tb2 (oZ o)),(2,.own tc (o.upper.map Mrk.c)),(3,.own t xs)]:=by
 subst g;simp only [kB,h0,h1,h2,h3,jr,ge]
theorem Ee {ds:List D} (h0:lk S a=some (.own ta (o.base.map Ent.c))) (h1:lk S b=some (.deep tb tb2 z)) (h2:lk S c=some (.own tc (o.upper.map Mrk.c))) (g:z=oZ o) (h3:lk S d=some (.own t xs)) (hm:iA [a,b,c,d] (df ds++[])=[]):iB [a,b,c,d] ds S=[]:=by
 subst g;unfold iB;simp only [bD,h0,h1,h2,h3,bK,dr,List.append_nil] at hm ⊢;exact hm
end
theorem Ef {α:Type} (f:α→List D) (l:List α) (h:∀ x,∀ d∈f x,ac d):∀ cs∈l.map f,∀ d∈cs,ac d:=by
 intro cs hcs d hd;obtain ⟨x,_,rfl⟩:=List.mem_map.1 hcs;exact h x d hd
theorem Gh (x:Ovr) (cs:List Int):ao (lgR x (oZ x) cs):=by
 intro p hp;simp only [lgR,List.mem_cons,List.not_mem_nil,or_false] at hp;rcases hp with rfl|rfl|rfl|rfl
 · exact lp x _ (by simp [oT])
 · exact lp x _ (by simp [oT])
 · exact lp x _ (by simp [oT])
 · exact Ef (fun n:Int=>[D.k .i64 n]) cs (by simp [ac])
theorem Fc {c:Nat} {l:List Nat} {x:Ovr} {cs:List Int} (h:ltB c l=true):(ltB c l && gQ c (lgR x (oZ x) cs))=true:=by
 simp only [h,gQ,bK,dr];rfl
theorem Gi (a b c d:Nat):ak (.tup [.agg [.own a,.own b,.own c],.own d]):=by simp [ak,am,ac]
end Go.Proofs.YtagejnomlkfndaaGreatDoor
