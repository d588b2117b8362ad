/- Texts of this claim, set close: lemmas and contracts. -/
import Derived.Test.YtagejnomlkfndaaGreatDoorYY37
import Derived.Test.YtagejnomlkfndaaGreatDoorYY27
set_option linter.unusedSimpArgs false
set_option linter.unusedVariables false
set_option maxHeartbeats 1000000
set_option maxRecDepth 10000
namespace Go.Proofs.YtagejnomlkfndaaGreatDoor
open Go Go.RowKit Go.Ab Go.Par
theorem Bm {α:Type} {c:α→List D} {Q:α→Prop} {t:TypeId} (inv:∀ cs,Shp Tryz.prog t cs→∃ e,cs=c e∧Q e):∀ (xs:List (List D)),(∀ cs∈xs,Shp Tryz.prog t cs)→∃ es:List α,xs=es.map c∧∀ e∈es,Q e
 | [],_=>⟨[],rfl,by simp⟩
 | cs :: xs,h=>by
   obtain ⟨e,rfl,h1⟩:=inv cs (h cs (by simp));obtain ⟨es,rfl,h3⟩:=Bm inv xs fun c hc=>h c (by simp [hc]);refine ⟨e :: es,rfl,fun x hx=>?_⟩;rcases List.mem_cons.1 hx with rfl|hx
   · exact h1
   · exact h3 x hx
theorem mh {α:Type} {c:α→List D} {Q:α→Prop} {s t:TypeId} (hu:Tryz.prog.underlying s=some (.slice t)) (inv:∀ cs,Shp Tryz.prog t cs→∃ e,cs=c e∧Q e) {ds:List D} (h:Shp Tryz.prog s ds):∃ es:List α,ds=[.sl (es.map c)]∧es.length≤9223372036854775807∧∀ e∈es,Q e:=by
 obtain ⟨xs,rfl,hl,hc⟩:=h.slice_inv hu;obtain ⟨es,rfl,he⟩:=Bm inv xs hc;rw [zAA] at hl;exact ⟨es,rfl,hl,he⟩
theorem Bn (cs:List D) (h:Shp Tryz.prog 157 cs):∃ e:Ent,cs=Ent.c e∧wE e:=by
 have h2:oK Tryz.prog [9,4,9] cs:=h.struct_inv Tryz.underlying157;obtain ⟨a,_,rfl,ha,b,_,rfl,hb,c,_,rfl,hc,rfl⟩:=h2;obtain ⟨p,rfl,hp⟩:=ha.str_inv Tryz.underlying9;obtain ⟨q,rfl⟩:=hb.bool_inv Tryz.underlying4;obtain ⟨r,rfl,hr⟩:=hc.str_inv Tryz.underlying9;exact ⟨⟨p,q,r⟩,rfl,hp,hr⟩
theorem yn (cs:List D) (h:Shp Tryz.prog 160 cs):∃ e:Mrk,cs=Mrk.c e∧wM1 e:=by
 have h2:oK Tryz.prog [9,3,9] cs:=h.struct_inv Tryz.underlying160;obtain ⟨a,_,rfl,ha,b,_,rfl,hb,c,_,rfl,hc,rfl⟩:=h2;obtain ⟨p,rfl,hp⟩:=ha.str_inv Tryz.underlying9;obtain ⟨q,rfl,_⟩:=hb.int_inv Tryz.underlying3;obtain ⟨r,rfl,hr⟩:=hc.str_inv Tryz.underlying9;exact ⟨⟨p,q,r⟩,rfl,hp,hr⟩
theorem CA (cs:List D) (h:Shp Tryz.prog 24 cs):∃ l:List Mrk,cs=cv l∧(l.length≤9223372036854775807∧∀ e∈l,wM1 e):=by
 obtain ⟨es,rfl,h1,h2⟩:=mh Tryz.underlying24 yn h;exact ⟨es,rfl,h1,h2⟩
theorem sq (cs:List D) (h:Shp Tryz.prog 26 cs):∃ o:Ovr,cs=Ovr.c o∧WO o:=by
 have h2:oK Tryz.prog [22,23,24] cs:=h.struct_inv Tryz.underlying26;obtain ⟨a,_,rfl,ha,b,_,rfl,hb,c,_,rfl,hc,rfl⟩:=h2;obtain ⟨x,rfl,x1,x2⟩:=mh Tryz.underlying22 Bn ha;obtain ⟨y,rfl,y1,y2⟩:=mh Tryz.underlying23 CA hb;obtain ⟨z,rfl,z1,z2⟩:=mh Tryz.underlying24 yn hc;exact ⟨⟨x,y,z⟩,rfl,x1,x2,y1,y2,z1,z2⟩
theorem CB (cs:List D) (h:Shp Tryz.prog 200 cs):∃ e:Lse,cs=Lse.c e∧wL e:=by
 have h2:oK Tryz.prog [3,9,3,3] cs:=h.struct_inv Tryz.underlying200;obtain ⟨a,_,rfl,ha,b,_,rfl,hb,c,_,rfl,hc,d,_,rfl,hd,rfl⟩:=h2;obtain ⟨x,rfl,_⟩:=ha.int_inv Tryz.underlying3;obtain ⟨p,rfl,hp⟩:=hb.str_inv Tryz.underlying9;obtain ⟨y,rfl,_⟩:=hc.int_inv Tryz.underlying3;obtain ⟨z,rfl,_⟩:=hd.int_inv Tryz.underlying3;exact ⟨⟨x,p,y,z⟩,rfl,hp⟩
theorem yo (cs:List D) (h:Shp Tryz.prog 205 cs):∃ e:Hld,cs=Hld.c e∧wH e:=by
 have h2:oK Tryz.prog [9,4,157,3,3] cs:=h.struct_inv Tryz.underlying205;obtain ⟨a,_,rfl,ha,b,_,rfl,hb,c,_,rfl,hc,d,_,rfl,hd,e,_,rfl,he,rfl⟩:=h2;obtain ⟨p,rfl,hp⟩:=ha.str_inv Tryz.underlying9;obtain ⟨q,rfl⟩:=hb.bool_inv Tryz.underlying4;obtain ⟨x,rfl,hx⟩:=Bn _ hc;obtain ⟨y,rfl,_⟩:=hd.int_inv Tryz.underlying3;obtain ⟨z,rfl,_⟩:=he.int_inv Tryz.underlying3;exact ⟨⟨p,q,x,y,z⟩,rfl,hp,hx.1,hx.2⟩
theorem CC (cs:List D) (h:Shp Tryz.prog 202 cs):∃ l:List Hld,cs=db l∧(l.length≤9223372036854775807∧∀ e∈l,wH e):=by
 obtain ⟨es,rfl,h1,h2⟩:=mh Tryz.underlying202 yo h;exact ⟨es,rfl,h1,h2⟩
theorem int_inv (cs:List D) (h:Shp Tryz.prog 3 cs):∃ n:Int,cs=[D.k .i64 n]∧True:=by
 obtain ⟨x,rfl,_⟩:=h.int_inv Tryz.underlying3;exact ⟨x,rfl,trivial⟩
theorem Fe (cs:List D) (h:Shp Tryz.prog 207 cs):∃ e:Mes,cs=Mes.c e∧wM e:=by
 have h2:oK Tryz.prog [3,3,205] cs:=h.struct_inv Tryz.underlying207;obtain ⟨a,_,rfl,ha,b,_,rfl,hb,c,_,rfl,hc,rfl⟩:=h2;obtain ⟨x,rfl,_⟩:=ha.int_inv Tryz.underlying3;obtain ⟨y,rfl,_⟩:=hb.int_inv Tryz.underlying3;obtain ⟨z,rfl,hz⟩:=yo _ hc;exact ⟨⟨x,y,z⟩,rfl,hz⟩
theorem op_inv (cs:List D) (h:Shp Tryz.prog 85 cs):∃ o:Opn,cs=Opn.c o∧(o.path.length≤9223372036854775807∧o.to.length≤9223372036854775807∧o.data.length≤9223372036854775807):=by
 have h2:oK Tryz.prog [3,9,9,9] cs:=h.struct_inv Tryz.underlying85;obtain ⟨a,_,rfl,ha,b,_,rfl,hb,c,_,rfl,hc,d,_,rfl,hd,rfl⟩:=h2;obtain ⟨x,rfl,_⟩:=ha.int_inv Tryz.underlying3;obtain ⟨p,rfl,hp⟩:=hb.str_inv Tryz.underlying9;obtain ⟨q,rfl,hq⟩:=hc.str_inv Tryz.underlying9;obtain ⟨r,rfl,hr⟩:=hd.str_inv Tryz.underlying9;exact ⟨⟨x,p,q,r⟩,rfl,hp,hq,hr⟩
theorem Al {d:D} (h:p9 Tryz.prog 87 d):∃ w:Wld,d=.agg w.c∧WW w:=by
 obtain ⟨ds,rfl,h1⟩:=h.struct Tryz.underlying87;have h2:oK Tryz.prog [26,3,3,82,83,35,84,4,85] ds:=h1;obtain ⟨a,_,rfl,ha,b,_,rfl,hb,c,_,rfl,hc,d,_,rfl,hd,e,_,rfl,he,f,_,rfl,hf,g,_,rfl,hg,i,_,rfl,hi,j,_,rfl,hj,rfl⟩:=h2;obtain ⟨o,rfl,ho⟩:=sq _ ha;obtain ⟨x,rfl,_⟩:=hb.int_inv Tryz.underlying3;obtain ⟨y,rfl,_⟩:=hc.int_inv Tryz.underlying3;obtain ⟨ls,rfl,l1,l2⟩:=mh Tryz.underlying82 CB hd;obtain ⟨hs,rfl,k1,k2⟩:=mh Tryz.underlying83 CC he;obtain ⟨fl,rfl,f1,_⟩:=mh Tryz.underlying35 int_inv hf;obtain ⟨nt,rfl,n1,n2⟩:=mh Tryz.underlying84 Fe hg;obtain ⟨q,rfl⟩:=hi.bool_inv Tryz.underlying4;obtain ⟨p,rfl,hp⟩:=op_inv _ hj;exact ⟨⟨o,x,y,ls,hs,fl,nt,q,p⟩,rfl,ho,l1,l2,k1,k2,f1,n1,n2,hp⟩
theorem BW.w {w:Wld} (h:BW w):dh w:=by
 refine ⟨⟨fun e he=>?_,fun l hl=>⟨fun e he=>?_,(h.o.l l hl).1⟩,fun e he=>?_,h.o.bl,h.o.ll,h.o.ul⟩,fun l hl=>?_,h.ll,fun l hl=>⟨fun e he=>?_,(h.h l hl).1⟩,h.hl,h.fl,fun x hx=>?_,h.nl,?_⟩
 · have:=h.o.b e he; unfold bE1 at this; omega
 · have:=(h.o.l l hl).2 e he; unfold bM1 at this; omega
 · have:=h.o.u e he; unfold bM1 at this; omega
 · have:=h.l l hl; unfold bL at this; unfold E6; omega
 · have:=(h.h l hl).2 e he; unfold bH at this; unfold Ea; omega
 · have:=h.n x hx; unfold bM bH at this; unfold Ea; omega
 · have:=h.p; unfold jK; omega
theorem arW {S:ab} {a b c d e f g:Nat} {w:Wld} {z1 z2:List av} {ta tb tb2 tc td te te2 tf tg:TypeId} (h0:lk S a=some (.own ta (w.over.base.map Ent.c))) (h1:lk S b=some (.deep tb tb2 z1)) (h2:lk S c=some (.own tc (w.over.upper.map Mrk.c))) (h3:lk S d=some (.own td (w.leases.map Lse.c))) (h4:lk S e=some (.deep te te2 z2)) (h5:lk S f=some (.own tf (bg w.floors))) (h6:lk S g=some (.own tg (w.net.map Mes.c))) (g1:z1=oZ w.over) (g2:z2=hZ w):ov [] S (.agg (wcT w a b c d e f g))=some (.agg w.c):=by
 subst g1 g2;have e1:(w.over.layers.map fun l=>l.map Mrk.c).map (fun xs=>[D.sl xs])=w.over.layers.map cv:=by rw [zAz]; rfl
 have e2:(w.holds.map fun l=>l.map Hld.c).map (fun xs=>[D.sl xs])=w.holds.map db:=by rw [zAz]; rfl
 simp only [ov,wcT,iz,kE,eX,b8,h0,h1,h2,h3,h4,h5,h6,imB,ge,e1,e2];rfl
theorem GU {S:ab} {a b c d e f g a' b' c' d' e' f' g':Nat} {w:Wld} {z1 z2 y1 y2:List av} {ta tb tb2 tc td te te2 tf tg ta' tb' tb2' tc' td' te' te2' tf' tg':TypeId} (h0:lk S a=some (.own ta (w.over.base.map Ent.c))) (h1:lk S b=some (.deep tb tb2 z1)) (h2:lk S c=some (.own tc (w.over.upper.map Mrk.c))) (h3:lk S d=some (.own td (w.leases.map Lse.c))) (h4:lk S e=some (.deep te te2 z2)) (h5:lk S f=some (.own tf (bg w.floors))) (h6:lk S g=some (.own tg (w.net.map Mes.c))) (g1:z1=oZ w.over) (g2:z2=hZ w)
   (k0:lk S a'=some (.own ta' (w.over.base.map Ent.c))) (k1:lk S b'=some (.deep tb' tb2' y1)) (k2:lk S c'=some (.own tc' (w.over.upper.map Mrk.c))) (k3:lk S d'=some (.own td' (w.leases.map Lse.c))) (k4:lk S e'=some (.deep te' te2' y2)) (k5:lk S f'=some (.own tf' (bg w.floors))) (k6:lk S g'=some (.own tg' (w.net.map Mes.c))) (l1:y1=oZ w.over) (l2:y2=hZ w):gC [] S [.agg (wcT w a b c d e f g),.agg (wcT w a' b' c' d' e' f' g')]=some [.agg w.c,.agg w.c]:=by
 simp only [gC,arW h0 h1 h2 h3 h4 h5 h6 g1 g2,arW k0 k1 k2 k3 k4 k5 k6 l1 l2]
theorem Am {c:Nat} {l:List Nat} {w:Wld} (h:ltB c l=true):(ltB c l && gQ c (wT w))=true:=by
 simp only [h,gQ,bK,dr];rfl
theorem st7 {S:ab} {a b c d e f g:Nat} {w:Wld} {z1 z2:List av} {ta tb tb2 tc td te te2 tf tg:TypeId} (h0:lk S a=some (.own ta (w.over.base.map Ent.c))) (h1:lk S b=some (.deep tb tb2 z1)) (h2:lk S c=some (.own tc (w.over.upper.map Mrk.c))) (h3:lk S d=some (.own td (w.leases.map Lse.c))) (h4:lk S e=some (.deep te te2 z2)) (h5:lk S f=some (.own tf (bg w.floors))) (h6:lk S g=some (.own tg (w.net.map Mes.c))) (g1:z1=oZ w.over) (g2:z2=hZ w) :
   kB [a,b,c,d,e,f,g] S [a,b,c,d,e,f,g] 0=some [(0,.own ta (w.over.base.map Ent.c)),(1,.deep tb tb2 (oZ w.over)),(2,.own tc (w.over.upper.map Mrk.c)),(3,.own td (w.leases.map Lse.c)),(4,.deep te te2 (hZ w)),(5,.own tf (bg w.floors)),(6,.own tg (w.net.map Mes.c))]:=by
 subst g1 g2;simp only [kB,h0,h1,h2,h3,h4,h5,h6,jr,ge]
theorem Bo {S:ab} {ds:List D} {a b c d e f g:Nat} {w:Wld} {z1 z2:List av} {ta tb tb2 tc td te te2 tf tg:TypeId} (h0:lk S a=some (.own ta (w.over.base.map Ent.c))) (h1:lk S b=some (.deep tb tb2 z1)) (h2:lk S c=some (.own tc (w.over.upper.map Mrk.c))) (h3:lk S d=some (.own td (w.leases.map Lse.c))) (h4:lk S e=some (.deep te te2 z2)) (h5:lk S f=some (.own tf (bg w.floors))) (h6:lk S g=some (.own tg (w.net.map Mes.c))) (g1:z1=oZ w.over) (g2:z2=hZ w) (hm:iA [a,b,c,d,e,f,g] (df ds++[])=[]) :
   iB [a,b,c,d,e,f,g] ds S=[]:=by
 subst g1 g2;unfold iB;simp only [bD,h0,h1,h2,h3,h4,h5,h6,bK,dr,List.append_nil] at hm ⊢;exact hm
end Go.Proofs.YtagejnomlkfndaaGreatDoor
