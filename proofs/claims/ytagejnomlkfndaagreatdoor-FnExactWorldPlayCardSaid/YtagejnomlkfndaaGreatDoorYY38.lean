/- Texts of this claim, set close: lemmas and contracts. -/
import Derived.Test.YtagejnomlkfndaaGreatDoorYY37
import Derived.Test.YtagejnomlkfndaaGreatDoorYY22
set_option linter.unusedSimpArgs false
set_option linter.unusedVariables false
set_option maxHeartbeats 1000000
set_option maxRecDepth 10000
namespace Go.Proofs.YtagejnomlkfndaaGreatDoor
open Go Go.RowKit Go.Ab Go.Par
variable {m:Int}
theorem aS {ns r:List Nat} {S q:ab} {n i:Nat} {b b':Blk} (h1:lk S n=some b) (h2:jr ns S b=some b') (h3:kB ns S r (i+1)=some q):kB ns S (n :: r) i=some ((i,b') :: q):=by simp only [kB,h1,h2,h3]
theorem ko {ns:List Nat} {S:ab} {e e2:TypeId} {z:List av} {ws:WsT} (h:z=anZ ws):jr ns S (.deep e e2 z)=some (.deep e e2 (anZ ws)):=by
 subst h;simp only [jr,ge]
theorem cR {S:ab} {n:Nat} {r l q:List Nat} {b:Blk} (h1:lk S n=some b) (h2:bK b=l) (h3:bD S r=q):bD S (n :: r)=l++q:=by simp only [bD,h1,h2,h3]
theorem sn {e e2:TypeId} {z:List av} {ws:WsT} (h:z=anZ ws):bK (.deep e e2 z)=[]:=by
 subst h;exact dr ws
theorem mX {ns l:List Nat} {ds:List D} {S:ab} (h:bD S ns=l) (hm:iA ns (df ds++l)=[]):iB ns ds S=[]:=by
 unfold iB;rw [h];exact hm
theorem Af {o:Ovr} {z:List av} (h:z=anZ (o.layers.map fun l=>l.map Mrk.c)):([(0,.own 66 (o.base.map Ent.c)),(1,.deep 32 166 z),(2,.own 166 (o.upper.map Mrk.c))]:ab)=oT o 0 1 2:=by
 subst h;rfl
theorem Ag {c:Nat} {l:List Nat} {o:Ovr} (h:ltB c l=true):(ltB c l && gQ c (oT o 0 1 2))=true:=yf h
theorem lp (o:Ovr):ao (oT o 0 1 2):=by
 intro p hp;simp only [oT,List.mem_cons,List.not_mem_nil,or_false] at hp;rcases hp with rfl|rfl|rfl
 · intro cs hcs d hd;obtain ⟨e,_,rfl⟩:=List.mem_map.1 hcs;simp only [Ent.c,List.mem_cons,List.not_mem_nil,or_false] at hd;rcases hd with rfl|rfl|rfl <;> trivial
 · intro z hz;obtain ⟨xs,hxs,rfl⟩:=List.mem_map.1 hz;obtain ⟨l,_,rfl⟩:=List.mem_map.1 hxs;intro cs hcs d hd;obtain ⟨e,_,rfl⟩:=List.mem_map.1 hcs;simp only [Mrk.c,List.mem_cons,List.not_mem_nil,or_false] at hd;rcases hd with rfl|rfl|rfl <;> trivial
 · intro cs hcs d hd;obtain ⟨e,_,rfl⟩:=List.mem_map.1 hcs;simp only [Mrk.c,List.mem_cons,List.not_mem_nil,or_false] at hd;rcases hd with rfl|rfl|rfl <;> trivial
theorem gz (o:Ovr) (hb:eB o):Con (E m) 52 0 [.agg o.c] [] (.agg [.own 0,.own 1,.own 2]) (oT o 0 1 2):=by
 have hbl:=hb.bl;have hll:=hb.ll;have hul:=hb.ul;have e1:(o.layers.map cv).length=o.layers.length:=zAA ..;have c1:=cD (kh (m:=m) o.base (by omega));have c2:=cD (me (m:=m) o.upper (by omega));refine cDE ?_;refine ck xn DG Tryz.func52 rfl rfl rfl (zAC rfl) ?_;repeat' first|refine Rx ⟨?_⟩|refine Rd (fun h=>⟨?_⟩) fun h=>⟨?_⟩|fail
 refine Cd.loop2 (fun mq tm S nx=>∃ (i:Nat) (ws:WsT),mq=(o.layers.length - i)∧tm=[(1,.bp 0 0),(2,.bp 1 0),(3,.own 2),(7,.sl (o.layers.map cv)),(8,.k .i64 ((o.layers.map cv).length:Int)),(9,.k .i64 i)]∧S=[(0,.box 34 o.c),(1,.box 34 [.nil,.nil,.nil]),(2,.deep 32 166 (anZ ws))]∧nx=3∧(i≤o.layers.length)∧(ws=(o.layers.take i).map fun l=>l.map Mrk.c)) ?_ ?_
 · refine ⟨[.thawT 3 32 166],[1,2,3,7,8,9],[0,1,2],?_⟩
   conv=>whnf
   refine ⟨rfl,rfl,_,0,[],rfl,rfl,rfl,rfl,zAG _,rfl⟩
 · rintro mq tm S nx ⟨i,ws,hn,rfl,rfl,rfl,hi,hA⟩;have hwl:ws.length=i:=by rw [hA]; simp; omega
   have hwz:(anZ ws).length=i:=by rw [j0,hwl]
   rcases al o.layers i hi with ⟨rfl,hd⟩|⟨l,r,hl',hd,hr,hlt⟩
   · rw [zAP] at hA;subst hA;repeat' first|refine Ra ⟨?_⟩|refine Rk [] 1 c1 ⟨?_⟩|refine Rk [] 1 c2 ⟨?_⟩|refine Rd (fun h=>⟨?_⟩) fun h=>⟨?_⟩|refine Rb ⟨?_⟩|fail
     refine af.here ⟨[],[3,2,4],?_⟩
     conv=>whnf
     refine ⟨rfl,rfl,rfl,?_⟩;exact Af (bj _ _)
   · have g1:o.layers.take (i+1)=o.layers.take i++[l]:=by rw [zAX,hl']; rfl
     have c3:=cD (me (m:=m) l (by have:=(hb.lay l (zAD hl')).2; omega));have hg:(o.layers.map cv)[i]?=some [.sl (l.map Mrk.c)]:=by rw [zAR,hl']; rfl
     repeat' first|refine Ra ⟨?_⟩|refine Rk [] 1 c3 ⟨?_⟩|(refine ⟨i,_,rfl,hg,rfl,?_⟩ <;> conv=>whnf)|refine Rd (fun h=>⟨?_⟩) fun h=>⟨?_⟩|refine Rb ⟨?_⟩|fail
     refine .here ⟨mq - 1,by omega,?_⟩;refine ⟨[],[1,2,3,7,8,9],[0,1,5],?_⟩
     conv=>whnf
     have key:(anZ ws++[av.an (l.map Mrk.c)]).map (p8 [0,1,5])=anZ (ws++[l.map Mrk.c]):=by simp [anZ,p8]
     refine ⟨rfl,rfl,i+1,ws++[l.map Mrk.c],(by omega),rfl,congrArg (fun z=>[(0,Blk.box _ _),(1,Blk.box _ _),(2,Blk.deep _ _ z)]) key,rfl,by omega,(by rw [hA,g1,zAM]; rfl)⟩
theorem n9 (o:Ovr) (p:Opn) (hb:eB o) (hp:jK 1073741823 p):Con (E m) 53 0 [.agg o.c,.agg p.c] [] (.tup [.agg [.own 0,.own 1,.own 2],.k .i64 (cf o p).2]) (oT (cf o p).1 0 1 2):=by
 have c1:=fY (m:=m) o hb;have c2:=gz (m:=m) o hb;unfold cf;cases h:bo o with
 | none=>
   rw [h] at c1;refine G0 Tryz.func53 ?_;repeat' first|refine Ra ⟨?_⟩|refine R0 c1 ⟨?_⟩|refine Rd (fun h=>⟨?_⟩) fun h=>⟨?_⟩|refine Rb ⟨?_⟩|fail
   refine af.here (fw [.thawB 2 0 66,.thawD 2 1 32 166,.thawB 2 2 166] ?_)
   conv=>whnf
   exact ⟨rfl,rfl,rfl,rfl⟩
 | some x=>
   obtain ⟨t,v⟩:=x;rw [h] at c1;obtain ⟨_,_,k3,k4⟩:=cm h;have c3:=eI (m:=m) v p (bE0 k4) hp.1 hp.2.1 hp.2.2;have c4:=iN (m:=m) t (aC v p).1 k3 (fy k4 p);simp only;by_cases h0:(aC v p).2=0
   · rw [if_pos h0];rw [h0] at c3 ⊢;generalize (aC v p).1=y at c3 c4 ⊢;refine G0 Tryz.func53 ?_;repeat' first|refine Ra ⟨?_⟩|refine R0 c1 ⟨?_⟩|(refine Rc [] 3 rfl rfl c2 ?_ rfl rfl (Ag rfl) <;> conv=>whnf)|refine Rk [] 1 c3 ⟨?_⟩|refine Rk [] 1 c4 ⟨?_⟩|refine Rd (fun h=>⟨?_⟩) fun h=>⟨?_⟩|refine Rb ⟨?_⟩|fail
     refine af.here ⟨[],[3,4,8],?_⟩
     conv=>whnf
     refine ⟨rfl,rfl,rfl,?_⟩;exact Af (o:=⟨o.base,o.layers,dE t y⟩) (by rw [ax,bj])
   · rw [if_neg h0];generalize aC v p=Y at c3 c4 h0 ⊢;refine G0 Tryz.func53 ?_;repeat' first|refine Ra ⟨?_⟩|refine R0 c1 ⟨?_⟩|(refine Rc [] 3 rfl rfl c2 ?_ rfl rfl (Ag rfl) <;> conv=>whnf)|refine Rk [] 1 c3 ⟨?_⟩|refine Rd (fun h=>⟨?_⟩) fun h=>⟨?_⟩|refine Rb ⟨?_⟩|fail
     refine af.here ⟨[],[3,4,5],?_⟩
     conv=>whnf
     refine ⟨rfl,rfl,rfl,?_⟩;exact Af (by rw [ax,bj])
variable {m:Int}
theorem Bl {α:Type} {c:Nat}:∀ (l:List (List α)),(∀ x∈l,x.length≤c)→tot l≤l.length * c
 | [],_=>by simp [tot]
 | x :: r,h=>by
   have h1:=h x (by simp);have h2:=Bl r fun y hy=>h y (by simp [hy]);rw [tot,List.length_cons,zAt,Nat.one_mul];omega
theorem wl {α:Type}:∀ (l:List (List α)) (x:List α),x∈l→x.length≤tot l
 | y :: r,x,h=>by
   rw [tot];rcases List.mem_cons.1 h with rfl|h
   · omega
   · have:=wl r x h
     omega
theorem wm {α:Type}:∀ (l:List (List α)) (i:Nat) (x:List α),tot (l.set i x)+(l.getD i []).length≤tot l+x.length
 | [],i,x=>by simp [tot]
 | y :: r,0,x=>by simp [tot]; omega
 | y :: r,i+1,x=>by
   have:=wm r i x
   simp [tot] at this ⊢;omega
theorem yk {o:Ovr} {t v:List Ent} (h:bo o=some (t,v)):CO o∧eT o≤200:=by
 obtain ⟨h1,h2,h3,h4⟩:=cm h;obtain ⟨g1,g2,g3⟩:=dV.1 h;obtain ⟨k1,k2,k3,k4⟩:=iP g1;have hu:=nX h3 h4;rw [← g3] at hu;have hul:=eS hu;have hbl:=aI h1;have hll:∀ l∈o.layers,l.length≤32:=fun l hl=>eS (ki _ k3 l hl);have ht:=Bl o.layers hll;have h128:o.layers.length * 32≤4 * 32:=zAe 32 h2;refine ⟨⟨by omega,by omega,fun l hl=>by have:=hll l hl; omega,by omega⟩,?_⟩;unfold eT;omega
theorem uE:CO ov0∧eT ov0≤200:=⟨⟨by simp [ov0],by simp [ov0],by simp [ov0],by simp [ov0]⟩,by simp [ov0,eT,tot]⟩
theorem yl (o:Ovr) (ops:List Opn):CO (bO o ops).1∧eT (bO o ops).1≤200:=by
 rcases iQ o ops with ⟨t,v,hg,h1,h2,h3⟩|⟨hg,hbad⟩
 · have hx:bO o ops=bJ o ops:=by rw [bO,hg]; rfl
   rw [hx];obtain ⟨r1,_⟩:=xZ ops h2;exact yk r1
 · have hx:bO o ops=(ov0,[]):=by rw [bO,hg]; rfl
   rw [hx];exact uE
theorem wn (o:Ovr) (ops:List Opn):(bO o ops).2.length≤30:=by
 rcases iQ o ops with ⟨t,v,hg,h1,h2,h3⟩|⟨hg,hbad⟩
 · have hx:bO o ops=bJ o ops:=by rw [bO,hg]; rfl
   rw [hx]
   have:∀ (ops:List Opn) (o:Ovr),(bJ o ops).2.length=ops.length:=by
    intro ops
    induction ops with
    | nil=>intro o; rfl
    | cons p r ih=>intro o; rw [ib]; simp [ih]
   rw [this];exact h3
 · have hx:bO o ops=(ov0,[]):=by rw [bO,hg]; rfl
   rw [hx]
   simp
theorem BO.v {o:Ovr} (h:BO o):eB o:=by
 refine ⟨fun e he=>?_,fun l hl=>⟨fun e he=>?_,(h.l l hl).1⟩,fun e he=>?_,h.bl,h.ll,h.ul⟩
 · have:=h.b e he; unfold bE1 at this; omega
 · have:=(h.l l hl).2 e he; unfold bM1 at this; omega
 · have:=h.u e he; unfold bM1 at this; omega
end Go.Proofs.YtagejnomlkfndaaGreatDoor
