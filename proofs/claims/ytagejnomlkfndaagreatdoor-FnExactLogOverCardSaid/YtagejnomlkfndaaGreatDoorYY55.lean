/- Texts of this claim, set close: lemmas and contracts. -/
import Derived.Test.YtagejnomlkfndaaGreatDoorYY51
import Derived.Test.YtagejnomlkfndaaGreatDoorYY17
set_option linter.unusedSimpArgs false
set_option linter.unusedVariables false
set_option maxHeartbeats 1000000
set_option maxRecDepth 10000
namespace Go.Proofs.YtagejnomlkfndaaGreatDoor
open Go Go.RowKit Go.Ab Go.Par
variable {m:Int}
theorem arO {S:ac} {a b c:Nat} {o:Ovr} {z:List aE} {ta tb tb2 tc:TypeId} (h0:lk S a=some (.own ta (o.base.map Ent.c))) (h1:lk S b=some (.deep tb tb2 z)) (h2:lk S c=some (.own tc (o.upper.map Mrk.c))) (g:z=oZ o):zo [] S (.agg [.own a,.own b,.own c])=some (.agg o.c):=by
 subst g;have e1:(o.layers.map fun l=>l.map Mrk.c).map (fun xs=>[D.sl xs])=o.layers.map cm:=by rw [zBE]; rfl
 simp only [zo,ke,od,g7,cR,h0,h1,h2,imB,kH,e1];rfl
theorem arO2 {S:ac} {a b c:Nat} {o:Ovr} {z:List aE} {ta tb tb2 tc:TypeId} {q':D} (h0:lk S a=some (.own ta (o.base.map Ent.c))) (h1:lk S b=some (.deep tb tb2 z)) (h2:lk S c=some (.own tc (o.upper.map Mrk.c))) (g:z=oZ o) (hq:zo [] S q'=some q'):aDs [] S [.agg [.own a,.own b,.own c],q']=some [.agg o.c,q']:=by
 simp only [aDs,arO h0 h1 h2 g,hq]
theorem ni_ovD (a b c:Nat) (k:IntKind) (n:Int):ay (.tup [.agg [.own a,.own b,.own c],.k k n]):=by simp [ay,aD,aj]
abbrev lgS (x:Ovr) (z:List aE) (cs:List Int):ac:=[(0,.box 34 [.nil,.nil,.nil]),(1,.box 34 [.own 3,.own 4,.own 5]),(2,.own 3 (ck cs)),(3,.own 66 (x.base.map Ent.c)),(4,.deep 32 166 z),(5,.own 166 (x.upper.map Mrk.c))]
theorem lgS_key {x:Ovr} {z:List aE} {cs:List Int} (h:z=oZ x):lgS x z cs=lgS x (oZ x) cs:=by rw [h]
abbrev lgR (x:Ovr) (z:List aE) (cs:List Int):ac:=[(0,.own 66 (x.base.map Ent.c)),(1,.deep 32 166 z),(2,.own 166 (x.upper.map Mrk.c)),(3,.own 3 (ck cs))]
theorem lgR_key {x:Ovr} {z:List aE} {cs:List Int} (h:z=oZ x):lgR x z cs=lgR x (oZ x) cs:=by rw [h]
theorem iLogOverO_con (o:Ovr) (ops:List Opn) (hb:gM o) (ho:∀ p∈ops,jc 1073741823 p) (hl:ops.length≤1048576) :
   Con (E m) 12 0 [.agg o.c,.sl (ops.map Opn.c)] [] (.tup [.agg [.own 0,.own 1,.own 2],.own 3]) (lgR (logOver o ops).1 (oZ (logOver o ops).1) (logOver o ops).2):=by
 have e1:(ops.map Opn.c).length=ops.length:=zAA ..;have c1:=iOverOk_con (m:=m) o hb;have c2:=oa (m:=m) o hb;rcases over_cases o ops with ⟨t,v,hg,h1,h2,h3⟩|⟨hg,hbad⟩
 · have hx:logOver o ops=overRun o ops:=by rw [logOver,hg]; rfl
   rw [hx];rw [h1] at c1;refine G0 Tryz.func12 ?_;repeat' first|refine Ra ⟨?_⟩|refine R0 c1 ⟨?_⟩|(refine Rc [] 3 rfl rfl c2 ?_ rfl rfl (Ie rfl) <;> conv=>whnf)|refine Rd (fun h=>⟨?_⟩) fun h=>⟨?_⟩|refine Rb ⟨?_⟩|fail
   refine Cd.loop2 (fun mq tm S nx=>∃ (i:Nat) (x:Ovr) (v:List Ent) (cs:List Int),mq=(ops.length - i)∧tm=[(4,.bp 0 0),(6,.bp 1 0),(7,.own 2),(23,.sl (ops.map Opn.c)),(24,.k .i64 ((ops.map Opn.c).length:Int)),(25,.k .i64 i)]∧S=[(0,.box 34 [.nil,.nil,.nil]),(1,.box 34 [.own 3,.own 4,.own 5]),(2,.own 3 (ck cs)),(3,.own 66 (x.base.map Ent.c)),(4,.deep 32 166 (oZ x)),(5,.own 166 (x.upper.map Mrk.c))]∧nx=6∧(i≤ops.length)∧(bv x=some (t,v))∧(overRun o ops=((overRun x (ops.drop i)).1,cs++(overRun x (ops.drop i)).2))∧(cs.length=i)) ?_ ?_
   · refine ⟨[],[4,6,7,23,24,25],[1,6,7,3,4,5],?_⟩
     conv=>whnf
     refine ⟨rfl,rfl,_,0,o,v,[],rfl,rfl,lgS_key (x:=o) (cs:=[]) (by simp only [bi,co]),rfl,zAG _,h2,by simp,by simp⟩
   · rintro mq tm S nx ⟨i,x,v,cs,hn,rfl,rfl,rfl,hi,hok,hrun,hcl⟩;have e2:(ck cs).length=cs.length:=zAA ..;rcases av ops i hi with ⟨rfl,hd⟩|⟨p,r,hp',hd,hr,hlt⟩
     · rw [hd] at hrun;have hq:overRun o ops=(x,cs):=by rw [hrun]; simp [overRun]
       rw [hq];repeat' first|refine Rx ⟨?_⟩|refine Rd (fun h=>⟨?_⟩) fun h=>⟨?_⟩|fail
       refine ak.here ⟨[],[3,4,5,2],?_⟩
       conv=>whnf
       refine ⟨rfl,rfl,rfl,?_⟩;exact lgR_key (by simp only [bi,co])
     · rw [hd,overRun_cons] at hrun;obtain ⟨d1,_,_,_⟩:=yD hok p;have c3:=zb (m:=m) x p (Ei hok) (ho p (zAD hp'));generalize dE x p=Y at c3 hrun d1;repeat' first|refine Ra ⟨?_⟩|(refine ⟨[],_,_,_,_,3,⟨rfl,arO2 (o:=x) (q':=.agg p.c) rfl rfl rfl rfl rfl,rfl,c3,rfl,Ie rfl⟩,.inl ⟨[],trivial,rfl,.inl ⟨ni_ovD _ _ _ _ _,Hp _⟩,?_⟩⟩ <;> conv=>whnf)|refine Rd (fun h=>⟨?_⟩) fun h=>⟨?_⟩|refine Rb ⟨?_⟩|fail
       refine .here ⟨mq - 1,by omega,?_⟩;refine ⟨[],[4,6,7,23,24,25],[0,1,12,7,8,9],?_⟩
       conv=>whnf
       have ei:ck cs++[[.k .i64 Y.2]]=ck (cs++[Y.2]):=ints_snoc cs Y.2;refine ⟨rfl,rfl,i+1,Y.1,(aJ v p).1,cs++[Y.2],by omega,rfl,Eq.trans ?_ (lgS_key (x:=Y.1) (z:=((oZ Y.1).map (Hz (mr [] 7))).map (xn [0,1,12,7,8,9])) (cs:=cs++[Y.2]) (by simp only [bi,co])),rfl,by omega,d1,by (rw [hrun,hr]; simp),by (simp; omega)⟩;unfold lgS;rw [← ei];rfl
 · have hx:logOver o ops=(ov0,[]):=by rw [logOver,hg]; rfl
   rw [hx];rcases hbad with h1|⟨h1,h2⟩
   · rw [h1] at c1;refine G0 Tryz.func12 ?_;repeat' first|refine Ra ⟨?_⟩|refine R0 c1 ⟨?_⟩|refine Rd (fun h=>⟨?_⟩) fun h=>⟨?_⟩|refine Rb ⟨?_⟩|fail
     refine ak.here (fw [.thawB 1 0 66,.thawD 1 1 32 166,.thawB 1 2 166] ?_)
     conv=>whnf
     exact ⟨rfl,rfl,rfl,rfl⟩
   · rw [h1] at c1;refine G0 Tryz.func12 ?_;repeat' first|refine Ra ⟨?_⟩|refine R0 c1 ⟨?_⟩|refine Rd (fun h=>⟨?_⟩) fun h=>⟨?_⟩|refine Rb ⟨?_⟩|fail
     refine ak.here (fw [.thawB 1 0 66,.thawD 1 1 32 166,.thawB 1 2 166] ?_)
     conv=>whnf
     exact ⟨rfl,rfl,rfl,rfl⟩
variable {m:Int}
abbrev oT4 (o:Ovr) (t:TypeId) (xs:List (List D)):ac:=[(0,.own 66 (o.base.map Ent.c)),(1,.deep 32 166 (oZ o)),(2,.own 166 (o.upper.map Mrk.c)),(3,.own t xs)]
theorem imm_oT4 (o:Ovr) (t:TypeId) (xs:List (List D)):D3 (oT4 o t xs) [.agg [.own 0,.own 1,.own 2],.own 3] [.agg o.c,.sl xs]:=by
 have e1:(o.layers.map fun l=>l.map Mrk.c).map (fun xs=>[D.sl xs])=o.layers.map cm:=by rw [zBE]; rfl
 have h0:lk (oT4 o t xs) 0=some (.own 66 (o.base.map Ent.c)):=rfl;have h1:lk (oT4 o t xs) 1=some (.deep 32 166 (oZ o)):=rfl;have h2:lk (oT4 o t xs) 2=some (.own 166 (o.upper.map Mrk.c)):=rfl;have h3:lk (oT4 o t xs) 3=some (.own t xs):=rfl;generalize oT4 o t xs=S at *;refine ⟨?_,?_,trivial⟩
 · simp only [fJ,me,cR,h0,h1,h2,imB,kH,e1];rfl
 · simp only [fJ,cR,h3,imB]
section
variable {S:ac} {a b c d a' b' c':Nat} {o:Ovr} {z z':List aE} {ta tb tb2 tc ta' tb' tb2' tc' t:TypeId} {xs:List (List D)}
theorem arO3 (h0:lk S a=some (.own ta (o.base.map Ent.c))) (h1:lk S b=some (.deep tb tb2 z)) (h2:lk S c=some (.own tc (o.upper.map Mrk.c))) (g:z=oZ o) (h3:lk S d=some (.own t xs)):aDs [] S [.agg [.own a,.own b,.own c],.own d]=some [.agg o.c,.sl xs]:=by
 have hd:zo [] S (.own d)=some (.sl xs):=by simp only [zo,od,g7,cR,h3,imB]
 simp only [aDs,arO h0 h1 h2 g,hd]
theorem arOO (h0:lk S a=some (.own ta (o.base.map Ent.c))) (h1:lk S b=some (.deep tb tb2 z)) (h2:lk S c=some (.own tc (o.upper.map Mrk.c))) (g:z=oZ o) (k0:lk S a'=some (.own ta' (o.base.map Ent.c))) (k1:lk S b'=some (.deep tb' tb2' z')) (k2:lk S c'=some (.own tc' (o.upper.map Mrk.c))) (k:z'=oZ o) :
   aDs [] S [.agg [.own a,.own b,.own c],.agg [.own a',.own b',.own c']]=some [.agg o.c,.agg o.c]:=by
 simp only [aDs,arO h0 h1 h2 g,arO k0 k1 k2 k]
theorem stO4 (h0:lk S a=some (.own ta (o.base.map Ent.c))) (h1:lk S b=some (.deep tb tb2 z)) (h2:lk S c=some (.own tc (o.upper.map Mrk.c))) (g:z=oZ o) (h3:lk S d=some (.own t xs)):nz [a,b,c,d] S [a,b,c,d] 0=some [(0,.own ta (o.base.map Ent.c)),(1,.deep tb tb2 (oZ o)),(2,.own tc (o.upper.map Mrk.c)),(3,.own t xs)]:=by
 subst g;simp only [nz,h0,h1,h2,h3,lE,kH]
theorem lentO4 {ds:List D} (h0:lk S a=some (.own ta (o.base.map Ent.c))) (h1:lk S b=some (.deep tb tb2 z)) (h2:lk S c=some (.own tc (o.upper.map Mrk.c))) (g:z=oZ o) (h3:lk S d=some (.own t xs)) (hm:kf [a,b,c,d] (en ds++[])=[]):kD [a,b,c,d] ds S=[]:=by
 subst g;unfold kD;simp only [bV,h0,h1,h2,h3,cz,eU,List.append_nil] at hm ⊢;exact hm
end
theorem ni_rowsO {α:Type} (f:α→List D) (l:List α) (h:∀ x,∀ d∈f x,aj d):∀ cs∈l.map f,∀ d∈cs,aj d:=by
 intro cs hcs d hd;obtain ⟨x,_,rfl⟩:=List.mem_map.1 hcs;exact h x d hd
theorem ni_lgR (x:Ovr) (cs:List Int):aF (lgR x (oZ x) cs):=by
 intro p hp;simp only [lgR,List.mem_cons,List.not_mem_nil,or_false] at hp;rcases hp with rfl|rfl|rfl|rfl
 · exact Hp x _ (by simp [oT])
 · exact Hp x _ (by simp [oT])
 · exact Hp x _ (by simp [oT])
 · exact ni_rowsO (fun n:Int=>[D.k .i64 n]) cs (by simp [aj])
theorem dom_lgR {c:Nat} {l:List Nat} {x:Ovr} {cs:List Int} (h:ltB c l=true):(ltB c l && kC c (lgR x (oZ x) cs))=true:=by
 simp only [h,kC,cz,eU];rfl
theorem ni_ovT (a b c d:Nat):ay (.tup [.agg [.own a,.own b,.own c],.own d]):=by simp [ay,aD,aj]
end Go.Proofs.YtagejnomlkfndaaGreatDoor
