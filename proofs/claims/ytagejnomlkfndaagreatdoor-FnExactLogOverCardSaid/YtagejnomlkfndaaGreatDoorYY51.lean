/- Texts of this claim, set close: lemmas and contracts. -/
import Derived.Test.YtagejnomlkfndaaGreatDoorYY45
import Derived.Test.YtagejnomlkfndaaGreatDoorYY27
import Derived.Test.YtagejnomlkfndaaGreatDoorYY35
set_option linter.unusedSimpArgs false
set_option linter.unusedVariables false
set_option maxHeartbeats 1000000
set_option maxRecDepth 10000
namespace Go.Proofs.YtagejnomlkfndaaGreatDoor
open Go Go.RowKit Go.Ab Go.Par
variable {m:Int}
theorem bq {ns r:List Nat} {S q:ac} {n i:Nat} {b b':Blk} (h1:lk S n=some b) (h2:lE ns S b=some b') (h3:nz ns S r (i+1)=some q):nz ns S (n :: r) i=some ((i,b') :: q):=by simp only [nz,h1,h2,h3]
theorem l9 {ns:List Nat} {S:ac} {e e2:TypeId} {z:List aE} {ws:WsT} (h:z=anZ ws):lE ns S (.deep e e2 z)=some (.deep e e2 (anZ ws)):=by
 subst h;simp only [lE,kH]
theorem dK {S:ac} {n:Nat} {r l q:List Nat} {b:Blk} (h1:lk S n=some b) (h2:cz b=l) (h3:bV S r=q):bV S (n :: r)=l++q:=by simp only [bV,h1,h2,h3]
theorem uY {e e2:TypeId} {z:List aE} {ws:WsT} (h:z=anZ ws):cz (.deep e e2 z)=[]:=by
 subst h;exact eU ws
theorem oX {ns l:List Nat} {ds:List D} {S:ac} (h:bV S ns=l) (hm:kf ns (en ds++l)=[]):kD ns ds S=[]:=by
 unfold kD;rw [h];exact hm
theorem Dv {o:Ovr} {z:List aE} (h:z=anZ (o.layers.map fun l=>l.map Mrk.c)):([(0,.own 66 (o.base.map Ent.c)),(1,.deep 32 166 z),(2,.own 166 (o.upper.map Mrk.c))]:ac)=oT o 0 1 2:=by
 subst h;rfl
theorem Ie {c:Nat} {l:List Nat} {o:Ovr} (h:ltB c l=true):(ltB c l && kC c (oT o 0 1 2))=true:=Jh h
theorem Hp (o:Ovr):aF (oT o 0 1 2):=by
 intro p hp;simp only [oT,List.mem_cons,List.not_mem_nil,or_false] at hp;rcases hp with rfl|rfl|rfl
 · intro cs hcs d hd;obtain ⟨e,_,rfl⟩:=List.mem_map.1 hcs;simp only [Ent.c,List.mem_cons,List.not_mem_nil,or_false] at hd;rcases hd with rfl|rfl|rfl <;> trivial
 · intro z hz;obtain ⟨xs,hxs,rfl⟩:=List.mem_map.1 hz;obtain ⟨l,_,rfl⟩:=List.mem_map.1 hxs;intro cs hcs d hd;obtain ⟨e,_,rfl⟩:=List.mem_map.1 hcs;simp only [Mrk.c,List.mem_cons,List.not_mem_nil,or_false] at hd;rcases hd with rfl|rfl|rfl <;> trivial
 · intro cs hcs d hd;obtain ⟨e,_,rfl⟩:=List.mem_map.1 hcs;simp only [Mrk.c,List.mem_cons,List.not_mem_nil,or_false] at hd;rcases hd with rfl|rfl|rfl <;> trivial
theorem oa (o:Ovr) (hb:gM o):Con (E m) 52 0 [.agg o.c] [] (.agg [.own 0,.own 1,.own 2]) (oT o 0 1 2):=by
 have hbl:=hb.bl;have hll:=hb.ll;have hul:=hb.ul;have e1:(o.layers.map cm).length=o.layers.length:=zAA ..;have c1:=cD (lY (m:=m) o.base (by omega));have c2:=cD (n7 (m:=m) o.upper (by omega));refine cDE ?_;refine bK zU GE Tryz.func52 rfl rfl rfl (zAC rfl) ?_;repeat' first|refine Rx ⟨?_⟩|refine Rd (fun h=>⟨?_⟩) fun h=>⟨?_⟩|fail
 refine Cd.loop2 (fun mq tm S nx=>∃ (i:Nat) (ws:WsT),mq=(o.layers.length - i)∧tm=[(1,.bp 0 0),(2,.bp 1 0),(3,.own 2),(7,.sl (o.layers.map cm)),(8,.k .i64 ((o.layers.map cm).length:Int)),(9,.k .i64 i)]∧S=[(0,.box 34 o.c),(1,.box 34 [.nil,.nil,.nil]),(2,.deep 32 166 (anZ ws))]∧nx=3∧(i≤o.layers.length)∧(ws=(o.layers.take i).map fun l=>l.map Mrk.c)) ?_ ?_
 · refine ⟨[.thawT 3 32 166],[1,2,3,7,8,9],[0,1,2],?_⟩
   conv=>whnf
   refine ⟨rfl,rfl,_,0,[],rfl,rfl,rfl,rfl,zAG _,rfl⟩
 · rintro mq tm S nx ⟨i,ws,hn,rfl,rfl,rfl,hi,hA⟩;have hwl:ws.length=i:=by rw [hA]; simp; omega
   have hwz:(anZ ws).length=i:=by rw [lQ,hwl]
   rcases av o.layers i hi with ⟨rfl,hd⟩|⟨l,r,hl',hd,hr,hlt⟩
   · rw [zAP] at hA;subst hA;repeat' first|refine Ra ⟨?_⟩|refine Rk [] 1 c1 ⟨?_⟩|refine Rk [] 1 c2 ⟨?_⟩|refine Rd (fun h=>⟨?_⟩) fun h=>⟨?_⟩|refine Rb ⟨?_⟩|fail
     refine ak.here ⟨[],[3,2,4],?_⟩
     conv=>whnf
     refine ⟨rfl,rfl,rfl,?_⟩;exact Dv (co _ _)
   · have g1:o.layers.take (i+1)=o.layers.take i++[l]:=by rw [zAY,hl']; rfl
     have c3:=cD (n7 (m:=m) l (by have:=(hb.lay l (zAD hl')).2; omega));have hg:(o.layers.map cm)[i]?=some [.sl (l.map Mrk.c)]:=by rw [zAO,hl']; rfl
     repeat' first|refine Ra ⟨?_⟩|refine Rk [] 1 c3 ⟨?_⟩|(refine ⟨i,_,rfl,hg,rfl,?_⟩ <;> conv=>whnf)|refine Rd (fun h=>⟨?_⟩) fun h=>⟨?_⟩|refine Rb ⟨?_⟩|fail
     refine .here ⟨mq - 1,by omega,?_⟩;refine ⟨[],[1,2,3,7,8,9],[0,1,5],?_⟩
     conv=>whnf
     have key:(anZ ws++[aE.an (l.map Mrk.c)]).map (xn [0,1,5])=anZ (ws++[l.map Mrk.c]):=by simp [anZ,xn]
     refine ⟨rfl,rfl,i+1,ws++[l.map Mrk.c],(by omega),rfl,congrArg (fun z=>[(0,Blk.box _ _),(1,Blk.box _ _),(2,Blk.deep _ _ z)]) key,rfl,by omega,(by rw [hA,g1,zAH]; rfl)⟩
theorem zb (o:Ovr) (p:Opn) (hb:gM o) (hp:jc 1073741823 p):Con (E m) 53 0 [.agg o.c,.agg p.c] [] (.tup [.agg [.own 0,.own 1,.own 2],.k .i64 (dE o p).2]) (oT (dE o p).1 0 1 2):=by
 have c1:=j5 (m:=m) o hb;have c2:=oa (m:=m) o hb;unfold dE;cases h:bv o with
 | none=>
   rw [h] at c1;refine G0 Tryz.func53 ?_;repeat' first|refine Ra ⟨?_⟩|refine R0 c1 ⟨?_⟩|refine Rd (fun h=>⟨?_⟩) fun h=>⟨?_⟩|refine Rb ⟨?_⟩|fail
   refine ak.here (fw [.thawB 2 0 66,.thawD 2 1 32 166,.thawB 2 2 166] ?_)
   conv=>whnf
   exact ⟨rfl,rfl,rfl,rfl⟩
 | some x=>
   obtain ⟨t,v⟩:=x;rw [h] at c1;obtain ⟨_,_,k3,k4⟩:=ce h;have c3:=fY (m:=m) v p (bE0 k4) hp.1 hp.2.1 hp.2.2;have c4:=j0 (m:=m) t (aJ v p).1 k3 (gS k4 p);simp only;by_cases h0:(aJ v p).2=0
   · rw [if_pos h0];rw [h0] at c3 ⊢;generalize (aJ v p).1=y at c3 c4 ⊢;refine G0 Tryz.func53 ?_;repeat' first|refine Ra ⟨?_⟩|refine R0 c1 ⟨?_⟩|(refine Rc [] 3 rfl rfl c2 ?_ rfl rfl (Ie rfl) <;> conv=>whnf)|refine Rk [] 1 c3 ⟨?_⟩|refine Rk [] 1 c4 ⟨?_⟩|refine Rd (fun h=>⟨?_⟩) fun h=>⟨?_⟩|refine Rb ⟨?_⟩|fail
     refine ak.here ⟨[],[3,4,8],?_⟩
     conv=>whnf
     refine ⟨rfl,rfl,rfl,?_⟩;exact Dv (o:=⟨o.base,o.layers,eA t y⟩) (by rw [bi,co])
   · rw [if_neg h0];generalize aJ v p=Y at c3 c4 h0 ⊢;refine G0 Tryz.func53 ?_;repeat' first|refine Ra ⟨?_⟩|refine R0 c1 ⟨?_⟩|(refine Rc [] 3 rfl rfl c2 ?_ rfl rfl (Ie rfl) <;> conv=>whnf)|refine Rk [] 1 c3 ⟨?_⟩|refine Rd (fun h=>⟨?_⟩) fun h=>⟨?_⟩|refine Rb ⟨?_⟩|fail
     refine ak.here ⟨[],[3,4,5],?_⟩
     conv=>whnf
     refine ⟨rfl,rfl,rfl,?_⟩;exact Dv (by rw [bi,co])
theorem Em {α:Type} {c:α→List D} {Q:α→Prop} {t:TypeId} (inv:∀ cs,Shp Tryz.prog t cs→∃ e,cs=c e∧Q e):∀ (xs:List (List D)),(∀ cs∈xs,Shp Tryz.prog t cs)→∃ es:List α,xs=es.map c∧∀ e∈es,Q e
 | [],_=>⟨[],rfl,by simp⟩
 | cs :: xs,h=>by
   obtain ⟨e,rfl,h1⟩:=inv cs (h cs (by simp));obtain ⟨es,rfl,h3⟩:=Em inv xs fun c hc=>h c (by simp [hc]);refine ⟨e :: es,rfl,fun x hx=>?_⟩;rcases List.mem_cons.1 hx with rfl|hx
   · exact h1
   · exact h3 x hx
theorem qj {α:Type} {c:α→List D} {Q:α→Prop} {s t:TypeId} (hu:Tryz.prog.underlying s=some (.slice t)) (inv:∀ cs,Shp Tryz.prog t cs→∃ e,cs=c e∧Q e) {ds:List D} (h:Shp Tryz.prog s ds):∃ es:List α,ds=[.sl (es.map c)]∧es.length≤9223372036854775807∧∀ e∈es,Q e:=by
 obtain ⟨xs,rfl,hl,hc⟩:=h.slice_inv hu;obtain ⟨es,rfl,he⟩:=Em inv xs hc;rw [zAA] at hl;exact ⟨es,rfl,hl,he⟩
theorem En (cs:List D) (h:Shp Tryz.prog 157 cs):∃ e:Ent,cs=Ent.c e∧wE e:=by
 have h2:qH Tryz.prog [9,4,9] cs:=h.struct_inv Tryz.underlying157;obtain ⟨a,_,rfl,ha,b,_,rfl,hb,c,_,rfl,hc,rfl⟩:=h2;obtain ⟨p,rfl,hp⟩:=ha.str_inv Tryz.underlying9;obtain ⟨q,rfl⟩:=hb.bool_inv Tryz.underlying4;obtain ⟨r,rfl,hr⟩:=hc.str_inv Tryz.underlying9;exact ⟨⟨p,q,r⟩,rfl,hp,hr⟩
theorem Bg (cs:List D) (h:Shp Tryz.prog 160 cs):∃ e:Mrk,cs=Mrk.c e∧wM1 e:=by
 have h2:qH Tryz.prog [9,3,9] cs:=h.struct_inv Tryz.underlying160;obtain ⟨a,_,rfl,ha,b,_,rfl,hb,c,_,rfl,hc,rfl⟩:=h2;obtain ⟨p,rfl,hp⟩:=ha.str_inv Tryz.underlying9;obtain ⟨q,rfl,_⟩:=hb.int_inv Tryz.underlying3;obtain ⟨r,rfl,hr⟩:=hc.str_inv Tryz.underlying9;exact ⟨⟨p,q,r⟩,rfl,hp,hr⟩
theorem FG (cs:List D) (h:Shp Tryz.prog 24 cs):∃ l:List Mrk,cs=cm l∧(l.length≤9223372036854775807∧∀ e∈l,wM1 e):=by
 obtain ⟨es,rfl,h1,h2⟩:=qj Tryz.underlying24 Bg h;exact ⟨es,rfl,h1,h2⟩
theorem Hq (cs:List D) (h:Shp Tryz.prog 26 cs):∃ o:Ovr,cs=Ovr.c o∧WO o:=by
 have h2:qH Tryz.prog [22,23,24] cs:=h.struct_inv Tryz.underlying26;obtain ⟨a,_,rfl,ha,b,_,rfl,hb,c,_,rfl,hc,rfl⟩:=h2;obtain ⟨x,rfl,x1,x2⟩:=qj Tryz.underlying22 En ha;obtain ⟨y,rfl,y1,y2⟩:=qj Tryz.underlying23 FG hb;obtain ⟨z,rfl,z1,z2⟩:=qj Tryz.underlying24 Bg hc;exact ⟨⟨x,y,z⟩,rfl,x1,x2,y1,y2,z1,z2⟩
theorem FH (cs:List D) (h:Shp Tryz.prog 200 cs):∃ e:Lse,cs=Lse.c e∧wL e:=by
 have h2:qH Tryz.prog [3,9,3,3] cs:=h.struct_inv Tryz.underlying200;obtain ⟨a,_,rfl,ha,b,_,rfl,hb,c,_,rfl,hc,d,_,rfl,hd,rfl⟩:=h2;obtain ⟨x,rfl,_⟩:=ha.int_inv Tryz.underlying3;obtain ⟨p,rfl,hp⟩:=hb.str_inv Tryz.underlying9;obtain ⟨y,rfl,_⟩:=hc.int_inv Tryz.underlying3;obtain ⟨z,rfl,_⟩:=hd.int_inv Tryz.underlying3;exact ⟨⟨x,p,y,z⟩,rfl,hp⟩
theorem Bk (cs:List D) (h:Shp Tryz.prog 205 cs):∃ e:Hld,cs=Hld.c e∧wH e:=by
 have h2:qH Tryz.prog [9,4,157,3,3] cs:=h.struct_inv Tryz.underlying205;obtain ⟨a,_,rfl,ha,b,_,rfl,hb,c,_,rfl,hc,d,_,rfl,hd,e,_,rfl,he,rfl⟩:=h2;obtain ⟨p,rfl,hp⟩:=ha.str_inv Tryz.underlying9;obtain ⟨q,rfl⟩:=hb.bool_inv Tryz.underlying4;obtain ⟨x,rfl,hx⟩:=En _ hc;obtain ⟨y,rfl,_⟩:=hd.int_inv Tryz.underlying3;obtain ⟨z,rfl,_⟩:=he.int_inv Tryz.underlying3;exact ⟨⟨p,q,x,y,z⟩,rfl,hp,hx.1,hx.2⟩
theorem FI (cs:List D) (h:Shp Tryz.prog 202 cs):∃ l:List Hld,cs=cy l∧(l.length≤9223372036854775807∧∀ e∈l,wH e):=by
 obtain ⟨es,rfl,h1,h2⟩:=qj Tryz.underlying202 Bk h;exact ⟨es,rfl,h1,h2⟩
theorem int_inv (cs:List D) (h:Shp Tryz.prog 3 cs):∃ n:Int,cs=[D.k .i64 n]∧True:=by
 obtain ⟨x,rfl,_⟩:=h.int_inv Tryz.underlying3;exact ⟨x,rfl,trivial⟩
theorem Ig (cs:List D) (h:Shp Tryz.prog 207 cs):∃ e:Mes,cs=Mes.c e∧wM e:=by
 have h2:qH Tryz.prog [3,3,205] cs:=h.struct_inv Tryz.underlying207;obtain ⟨a,_,rfl,ha,b,_,rfl,hb,c,_,rfl,hc,rfl⟩:=h2;obtain ⟨x,rfl,_⟩:=ha.int_inv Tryz.underlying3;obtain ⟨y,rfl,_⟩:=hb.int_inv Tryz.underlying3;obtain ⟨z,rfl,hz⟩:=Bk _ hc;exact ⟨⟨x,y,z⟩,rfl,hz⟩
theorem op_inv (cs:List D) (h:Shp Tryz.prog 85 cs):∃ o:Opn,cs=Opn.c o∧(o.path.length≤9223372036854775807∧o.tgt.length≤9223372036854775807∧o.data.length≤9223372036854775807):=by
 have h2:qH Tryz.prog [3,9,9,9] cs:=h.struct_inv Tryz.underlying85;obtain ⟨a,_,rfl,ha,b,_,rfl,hb,c,_,rfl,hc,d,_,rfl,hd,rfl⟩:=h2;obtain ⟨x,rfl,_⟩:=ha.int_inv Tryz.underlying3;obtain ⟨p,rfl,hp⟩:=hb.str_inv Tryz.underlying9;obtain ⟨q,rfl,hq⟩:=hc.str_inv Tryz.underlying9;obtain ⟨r,rfl,hr⟩:=hd.str_inv Tryz.underlying9;exact ⟨⟨x,p,q,r⟩,rfl,hp,hq,hr⟩
theorem Dw {d:D} (h:r8 Tryz.prog 87 d):∃ w:Wld,d=.agg w.c∧WW w:=by
 obtain ⟨ds,rfl,h1⟩:=h.struct Tryz.underlying87;have h2:qH Tryz.prog [26,3,3,82,83,35,84,4,85] ds:=h1;obtain ⟨a,_,rfl,ha,b,_,rfl,hb,c,_,rfl,hc,d,_,rfl,hd,e,_,rfl,he,f,_,rfl,hf,g,_,rfl,hg,i,_,rfl,hi,j,_,rfl,hj,rfl⟩:=h2;obtain ⟨o,rfl,ho⟩:=Hq _ ha;obtain ⟨x,rfl,_⟩:=hb.int_inv Tryz.underlying3;obtain ⟨y,rfl,_⟩:=hc.int_inv Tryz.underlying3;obtain ⟨ls,rfl,l1,l2⟩:=qj Tryz.underlying82 FH hd;obtain ⟨hs,rfl,k1,k2⟩:=qj Tryz.underlying83 FI he;obtain ⟨fl,rfl,f1,_⟩:=qj Tryz.underlying35 int_inv hf;obtain ⟨nt,rfl,n1,n2⟩:=qj Tryz.underlying84 Ig hg;obtain ⟨q,rfl⟩:=hi.bool_inv Tryz.underlying4;obtain ⟨p,rfl,hp⟩:=op_inv _ hj;exact ⟨⟨o,x,y,ls,hs,fl,nt,q,p⟩,rfl,ho,l1,l2,k1,k2,f1,n1,n2,hp⟩
theorem BW.w {w:Wld} (h:BW w):dO w:=by
 refine ⟨⟨fun e he=>?_,fun l hl=>⟨fun e he=>?_,(h.o.l l hl).1⟩,fun e he=>?_,h.o.bl,h.o.ll,h.o.ul⟩,fun l hl=>?_,h.ll,fun l hl=>⟨fun e he=>?_,(h.h l hl).1⟩,h.hl,h.fl,fun x hx=>?_,h.nl,?_⟩
 · have:=h.o.b e he; unfold bE1 at this; omega
 · have:=(h.o.l l hl).2 e he; unfold bM1 at this; omega
 · have:=h.o.u e he; unfold bM1 at this; omega
 · have:=h.l l hl; unfold bL at this; unfold C8; omega
 · have:=(h.h l hl).2 e he; unfold bH at this; unfold nE; omega
 · have:=h.n x hx; unfold bM bH at this; unfold nE; omega
 · have:=h.p; unfold jc; omega
theorem arW {S:ac} {a b c d e f g:Nat} {w:Wld} {z1 z2:List aE} {ta tb tb2 tc td te te2 tf tg:TypeId} (h0:lk S a=some (.own ta (w.over.base.map Ent.c))) (h1:lk S b=some (.deep tb tb2 z1)) (h2:lk S c=some (.own tc (w.over.upper.map Mrk.c))) (h3:lk S d=some (.own td (w.leases.map Lse.c))) (h4:lk S e=some (.deep te te2 z2)) (h5:lk S f=some (.own tf (ck w.floors))) (h6:lk S g=some (.own tg (w.net.map Mes.c))) (g1:z1=oZ w.over) (g2:z2=hZ w):zo [] S (.agg (wcT w a b c d e f g))=some (.agg w.c):=by
 subst g1 g2;have e1:(w.over.layers.map fun l=>l.map Mrk.c).map (fun xs=>[D.sl xs])=w.over.layers.map cm:=by rw [zBE]; rfl
 have e2:(w.holds.map fun l=>l.map Hld.c).map (fun xs=>[D.sl xs])=w.holds.map cy:=by rw [zBE]; rfl
 simp only [zo,wcT,ke,od,g7,cR,h0,h1,h2,h3,h4,h5,h6,imB,kH,e1,e2];rfl
theorem JT {S:ac} {a b c d e f g a' b' c' d' e' f' g':Nat} {w:Wld} {z1 z2 y1 y2:List aE} {ta tb tb2 tc td te te2 tf tg ta' tb' tb2' tc' td' te' te2' tf' tg':TypeId} (h0:lk S a=some (.own ta (w.over.base.map Ent.c))) (h1:lk S b=some (.deep tb tb2 z1)) (h2:lk S c=some (.own tc (w.over.upper.map Mrk.c))) (h3:lk S d=some (.own td (w.leases.map Lse.c))) (h4:lk S e=some (.deep te te2 z2)) (h5:lk S f=some (.own tf (ck w.floors))) (h6:lk S g=some (.own tg (w.net.map Mes.c))) (g1:z1=oZ w.over) (g2:z2=hZ w)
   (k0:lk S a'=some (.own ta' (w.over.base.map Ent.c))) (k1:lk S b'=some (.deep tb' tb2' y1)) (k2:lk S c'=some (.own tc' (w.over.upper.map Mrk.c))) (k3:lk S d'=some (.own td' (w.leases.map Lse.c))) (k4:lk S e'=some (.deep te' te2' y2)) (k5:lk S f'=some (.own tf' (ck w.floors))) (k6:lk S g'=some (.own tg' (w.net.map Mes.c))) (l1:y1=oZ w.over) (l2:y2=hZ w):aDs [] S [.agg (wcT w a b c d e f g),.agg (wcT w a' b' c' d' e' f' g')]=some [.agg w.c,.agg w.c]:=by
 simp only [aDs,arW h0 h1 h2 h3 h4 h5 h6 g1 g2,arW k0 k1 k2 k3 k4 k5 k6 l1 l2]
theorem Ih {c:Nat} {l:List Nat} {w:Wld} (h:ltB c l=true):(ltB c l && kC c (wT w))=true:=by
 simp only [h,kC,cz,eU];rfl
theorem st7 {S:ac} {a b c d e f g:Nat} {w:Wld} {z1 z2:List aE} {ta tb tb2 tc td te te2 tf tg:TypeId} (h0:lk S a=some (.own ta (w.over.base.map Ent.c))) (h1:lk S b=some (.deep tb tb2 z1)) (h2:lk S c=some (.own tc (w.over.upper.map Mrk.c))) (h3:lk S d=some (.own td (w.leases.map Lse.c))) (h4:lk S e=some (.deep te te2 z2)) (h5:lk S f=some (.own tf (ck w.floors))) (h6:lk S g=some (.own tg (w.net.map Mes.c))) (g1:z1=oZ w.over) (g2:z2=hZ w) :
   nz [a,b,c,d,e,f,g] S [a,b,c,d,e,f,g] 0=some [(0,.own ta (w.over.base.map Ent.c)),(1,.deep tb tb2 (oZ w.over)),(2,.own tc (w.over.upper.map Mrk.c)),(3,.own td (w.leases.map Lse.c)),(4,.deep te te2 (hZ w)),(5,.own tf (ck w.floors)),(6,.own tg (w.net.map Mes.c))]:=by
 subst g1 g2;simp only [nz,h0,h1,h2,h3,h4,h5,h6,lE,kH]
theorem Hr {S:ac} {ds:List D} {a b c d e f g:Nat} {w:Wld} {z1 z2:List aE} {ta tb tb2 tc td te te2 tf tg:TypeId} (h0:lk S a=some (.own ta (w.over.base.map Ent.c))) (h1:lk S b=some (.deep tb tb2 z1)) (h2:lk S c=some (.own tc (w.over.upper.map Mrk.c))) (h3:lk S d=some (.own td (w.leases.map Lse.c))) (h4:lk S e=some (.deep te te2 z2)) (h5:lk S f=some (.own tf (ck w.floors))) (h6:lk S g=some (.own tg (w.net.map Mes.c))) (g1:z1=oZ w.over) (g2:z2=hZ w) (hm:kf [a,b,c,d,e,f,g] (en ds++[])=[]) :
   kD [a,b,c,d,e,f,g] ds S=[]:=by
 subst g1 g2;unfold kD;simp only [bV,h0,h1,h2,h3,h4,h5,h6,cz,eU,List.append_nil] at hm ⊢;exact hm
variable {m:Int}
theorem Eo {α:Type} {c:Nat}:∀ (l:List (List α)),(∀ x∈l,x.length≤c)→tot l≤l.length * c
 | [],_=>by simp [tot]
 | x :: r,h=>by
   have h1:=h x (by simp);have h2:=Eo r fun y hy=>h y (by simp [hy]);rw [tot,List.length_cons,zAv,Nat.one_mul];omega
theorem zd {α:Type}:∀ (l:List (List α)) (x:List α),x∈l→x.length≤tot l
 | y :: r,x,h=>by
   rw [tot];rcases List.mem_cons.1 h with rfl|h
   · omega
   · have:=zd r x h
     omega
theorem ze {α:Type}:∀ (l:List (List α)) (i:Nat) (x:List α),tot (l.set i x)+(l.getD i []).length≤tot l+x.length
 | [],i,x=>by simp [tot]
 | y :: r,0,x=>by simp [tot]; omega
 | y :: r,i+1,x=>by
   have:=ze r i x
   simp [tot] at this ⊢;omega
theorem Hv {o:Ovr} {t v:List Ent} (h:bv o=some (t,v)):CO o∧ir o≤200:=by
 obtain ⟨h1,h2,h3,h4⟩:=ce h;obtain ⟨g1,g2,g3⟩:=dz.1 h;obtain ⟨k1,k2,k3,k4⟩:=gz g1;have hu:=nq h3 h4;rw [← g3] at hu;have hul:=dN hu;have hbl:=aN h1;have hll:∀ l∈o.layers,l.length≤32:=fun l hl=>dN (jx _ k3 l hl);have ht:=Eo o.layers hll;have h128:o.layers.length * 32≤4 * 32:=zAf 32 h2;refine ⟨⟨by omega,by omega,fun l hl=>by have:=hll l hl; omega,by omega⟩,?_⟩;unfold ir;omega
theorem FJ:CO ov0∧ir ov0≤200:=⟨⟨by simp [ov0],by simp [ov0],by simp [ov0],by simp [ov0]⟩,by simp [ov0,ir,tot]⟩
theorem logOver_cnt (o:Ovr) (ops:List Opn):CO (logOver o ops).1∧ir (logOver o ops).1≤200:=by
 rcases over_cases o ops with ⟨t,v,hg,h1,h2,h3⟩|⟨hg,hbad⟩
 · have hx:logOver o ops=overRun o ops:=by rw [logOver,hg]; rfl
   rw [hx];obtain ⟨r1,_⟩:=over_run ops h2;exact Hv r1
 · have hx:logOver o ops=(ov0,[]):=by rw [logOver,hg]; rfl
   rw [hx];exact FJ
theorem logOver_len2 (o:Ovr) (ops:List Opn):(logOver o ops).2.length≤30:=by
 rcases over_cases o ops with ⟨t,v,hg,h1,h2,h3⟩|⟨hg,hbad⟩
 · have hx:logOver o ops=overRun o ops:=by rw [logOver,hg]; rfl
   rw [hx]
   have:∀ (ops:List Opn) (o:Ovr),(overRun o ops).2.length=ops.length:=by
    intro ops
    induction ops with
    | nil=>intro o; rfl
    | cons p r ih=>intro o; rw [overRun_cons]; simp [ih]
   rw [this];exact h3
 · have hx:logOver o ops=(ov0,[]):=by rw [logOver,hg]; rfl
   rw [hx]
   simp
theorem BO.v {o:Ovr} (h:BO o):gM o:=by
 refine ⟨fun e he=>?_,fun l hl=>⟨fun e he=>?_,(h.l l hl).1⟩,fun e he=>?_,h.bl,h.ll,h.ul⟩
 · have:=h.b e he; unfold bE1 at this; omega
 · have:=(h.l l hl).2 e he; unfold bM1 at this; omega
 · have:=h.u e he; unfold bM1 at this; omega
end Go.Proofs.YtagejnomlkfndaaGreatDoor
