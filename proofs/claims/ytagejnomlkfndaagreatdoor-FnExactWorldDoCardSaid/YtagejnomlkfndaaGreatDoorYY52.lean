/- Texts of this claim, set close: lemmas and contracts. -/
import Derived.Test.YtagejnomlkfndaaGreatDoorYY46
import Derived.Test.YtagejnomlkfndaaGreatDoorYY34
import Derived.Test.YtagejnomlkfndaaGreatDoorYY27
set_option linter.unusedSimpArgs false
set_option linter.unusedVariables false
set_option maxHeartbeats 1000000
set_option maxRecDepth 10000
namespace Go.Proofs.YtagejnomlkfndaaGreatDoor
open Go Go.RowKit Go.Ab Go.Par
theorem Em {α:Type} {c:α→List D} {Q:α→Prop} {t:TypeId} (inv:∀ cs,Shp Tryz.prog t cs→∃ e,cs=c e∧Q e):∀ (xs:List (List D)),(∀ cs∈xs,Shp Tryz.prog t cs)→∃ es:List α,xs=es.map c∧∀ e∈es,Q e
 | [],_=>⟨[],rfl,by simp⟩
 | cs :: xs,h=>by
   obtain ⟨e,rfl,h1⟩:=inv cs (h cs (by simp));obtain ⟨es,rfl,h3⟩:=Em inv xs fun c hc=>h c (by simp [hc]);refine ⟨e :: es,rfl,fun x hx=>?_⟩;rcases List.mem_cons.1 hx with rfl|hx
   · exact h1
   · exact h3 x hx
theorem qj {α:Type} {c:α→List D} {Q:α→Prop} {s t:TypeId} (hu:Tryz.prog.underlying s=some (.slice t)) (inv:∀ cs,Shp Tryz.prog t cs→∃ e,cs=c e∧Q e) {ds:List D} (h:Shp Tryz.prog s ds):∃ es:List α,ds=[.sl (es.map c)]∧es.length≤9223372036854775807∧∀ e∈es,Q e:=by
 obtain ⟨xs,rfl,hl,hc⟩:=h.slice_inv hu;obtain ⟨es,rfl,he⟩:=Em inv xs hc;rw [zAA] at hl;exact ⟨es,rfl,hl,he⟩
theorem En (cs:List D) (h:Shp Tryz.prog 157 cs):∃ e:Ent,cs=Ent.c e∧wE e:=by
 have h2:qH Tryz.prog [9,4,9] cs:=h.struct_inv Tryz.underlying157;obtain ⟨a,_,rfl,ha,b,_,rfl,hb,c,_,rfl,hc,rfl⟩:=h2;obtain ⟨p,rfl,hp⟩:=ha.str_inv Tryz.underlying9;obtain ⟨q,rfl⟩:=hb.bool_inv Tryz.underlying4;obtain ⟨r,rfl,hr⟩:=hc.str_inv Tryz.underlying9;exact ⟨⟨p,q,r⟩,rfl,hp,hr⟩
theorem Bg (cs:List D) (h:Shp Tryz.prog 160 cs):∃ e:Mrk,cs=Mrk.c e∧wM1 e:=by
 have h2:qH Tryz.prog [9,3,9] cs:=h.struct_inv Tryz.underlying160;obtain ⟨a,_,rfl,ha,b,_,rfl,hb,c,_,rfl,hc,rfl⟩:=h2;obtain ⟨p,rfl,hp⟩:=ha.str_inv Tryz.underlying9;obtain ⟨q,rfl,_⟩:=hb.int_inv Tryz.underlying3;obtain ⟨r,rfl,hr⟩:=hc.str_inv Tryz.underlying9;exact ⟨⟨p,q,r⟩,rfl,hp,hr⟩
theorem FG (cs:List D) (h:Shp Tryz.prog 24 cs):∃ l:List Mrk,cs=cm l∧(l.length≤9223372036854775807∧∀ e∈l,wM1 e):=by
 obtain ⟨es,rfl,h1,h2⟩:=qj Tryz.underlying24 Bg h;exact ⟨es,rfl,h1,h2⟩
theorem Hq (cs:List D) (h:Shp Tryz.prog 26 cs):∃ o:Ovr,cs=Ovr.c o∧WO o:=by
 have h2:qH Tryz.prog [22,23,24] cs:=h.struct_inv Tryz.underlying26;obtain ⟨a,_,rfl,ha,b,_,rfl,hb,c,_,rfl,hc,rfl⟩:=h2;obtain ⟨x,rfl,x1,x2⟩:=qj Tryz.underlying22 En ha;obtain ⟨y,rfl,y1,y2⟩:=qj Tryz.underlying23 FG hb;obtain ⟨z,rfl,z1,z2⟩:=qj Tryz.underlying24 Bg hc;exact ⟨⟨x,y,z⟩,rfl,x1,x2,y1,y2,z1,z2⟩
theorem FH (cs:List D) (h:Shp Tryz.prog 200 cs):∃ e:Lse,cs=Lse.c e∧wL e:=by
 have h2:qH Tryz.prog [3,9,3,3] cs:=h.struct_inv Tryz.underlying200;obtain ⟨a,_,rfl,ha,b,_,rfl,hb,c,_,rfl,hc,d,_,rfl,hd,rfl⟩:=h2;obtain ⟨x,rfl,_⟩:=ha.int_inv Tryz.underlying3;obtain ⟨p,rfl,hp⟩:=hb.str_inv Tryz.underlying9;obtain ⟨y,rfl,_⟩:=hc.int_inv Tryz.underlying3;obtain ⟨z,rfl,_⟩:=hd.int_inv Tryz.underlying3;exact ⟨⟨x,p,y,z⟩,rfl,hp⟩
theorem Bk (cs:List D) (h:Shp Tryz.prog 205 cs):∃ e:Hld,cs=Hld.c e∧wH e:=by
 have h2:qH Tryz.prog [9,4,157,3,3] cs:=h.struct_inv Tryz.underlying205;obtain ⟨a,_,rfl,ha,b,_,rfl,hb,c,_,rfl,hc,d,_,rfl,hd,e,_,rfl,he,rfl⟩:=h2;obtain ⟨p,rfl,hp⟩:=ha.str_inv Tryz.underlying9;obtain ⟨q,rfl⟩:=hb.bool_inv Tryz.underlying4;obtain ⟨x,rfl,hx⟩:=En _ hc;obtain ⟨y,rfl,_⟩:=hd.int_inv Tryz.underlying3;obtain ⟨z,rfl,_⟩:=he.int_inv Tryz.underlying3;exact ⟨⟨p,q,x,y,z⟩,rfl,hp,hx.1,hx.2⟩
theorem FI (cs:List D) (h:Shp Tryz.prog 202 cs):∃ l:List Hld,cs=cy l∧(l.length≤9223372036854775807∧∀ e∈l,wH e):=by
 obtain ⟨es,rfl,h1,h2⟩:=qj Tryz.underlying202 Bk h;exact ⟨es,rfl,h1,h2⟩
theorem int_inv (cs:List D) (h:Shp Tryz.prog 3 cs):∃ n:Int,cs=[D.k .i64 n]∧True:=by
 obtain ⟨x,rfl,_⟩:=h.int_inv Tryz.underlying3;exact ⟨x,rfl,trivial⟩
theorem Ig (cs:List D) (h:Shp Tryz.prog 207 cs):∃ e:Mes,cs=Mes.c e∧wM e:=by
 have h2:qH Tryz.prog [3,3,205] cs:=h.struct_inv Tryz.underlying207;obtain ⟨a,_,rfl,ha,b,_,rfl,hb,c,_,rfl,hc,rfl⟩:=h2;obtain ⟨x,rfl,_⟩:=ha.int_inv Tryz.underlying3;obtain ⟨y,rfl,_⟩:=hb.int_inv Tryz.underlying3;obtain ⟨z,rfl,hz⟩:=Bk _ hc;exact ⟨⟨x,y,z⟩,rfl,hz⟩
theorem op_inv (cs:List D) (h:Shp Tryz.prog 85 cs):∃ o:Opn,cs=Opn.c o∧(o.path.length≤9223372036854775807∧o.to.length≤9223372036854775807∧o.data.length≤9223372036854775807):=by
 have h2:qH Tryz.prog [3,9,9,9] cs:=h.struct_inv Tryz.underlying85;obtain ⟨a,_,rfl,ha,b,_,rfl,hb,c,_,rfl,hc,d,_,rfl,hd,rfl⟩:=h2;obtain ⟨x,rfl,_⟩:=ha.int_inv Tryz.underlying3;obtain ⟨p,rfl,hp⟩:=hb.str_inv Tryz.underlying9;obtain ⟨q,rfl,hq⟩:=hc.str_inv Tryz.underlying9;obtain ⟨r,rfl,hr⟩:=hd.str_inv Tryz.underlying9;exact ⟨⟨x,p,q,r⟩,rfl,hp,hq,hr⟩
theorem Dw {d:D} (h:r8 Tryz.prog 87 d):∃ w:Wld,d=.agg w.c∧WW w:=by
 obtain ⟨ds,rfl,h1⟩:=h.struct Tryz.underlying87;have h2:qH Tryz.prog [26,3,3,82,83,35,84,4,85] ds:=h1;obtain ⟨a,_,rfl,ha,b,_,rfl,hb,c,_,rfl,hc,d,_,rfl,hd,e,_,rfl,he,f,_,rfl,hf,g,_,rfl,hg,i,_,rfl,hi,j,_,rfl,hj,rfl⟩:=h2;obtain ⟨o,rfl,ho⟩:=Hq _ ha;obtain ⟨x,rfl,_⟩:=hb.int_inv Tryz.underlying3;obtain ⟨y,rfl,_⟩:=hc.int_inv Tryz.underlying3;obtain ⟨ls,rfl,l1,l2⟩:=qj Tryz.underlying82 FH hd;obtain ⟨hs,rfl,k1,k2⟩:=qj Tryz.underlying83 FI he;obtain ⟨fl,rfl,f1,_⟩:=qj Tryz.underlying35 int_inv hf;obtain ⟨nt,rfl,n1,n2⟩:=qj Tryz.underlying84 Ig hg;obtain ⟨q,rfl⟩:=hi.bool_inv Tryz.underlying4;obtain ⟨p,rfl,hp⟩:=op_inv _ hj;exact ⟨⟨o,x,y,ls,hs,fl,nt,q,p⟩,rfl,ho,l1,l2,k1,k2,f1,n1,n2,hp⟩
theorem BW.w {w:Wld} (h:BW w):dO w:=by
 refine ⟨⟨fun e he=>?_,fun l hl=>⟨fun e he=>?_,(h.o.l l hl).1⟩,fun e he=>?_,h.o.bl,h.o.ll,h.o.ul⟩,fun l hl=>?_,h.ll,fun l hl=>⟨fun e he=>?_,(h.h l hl).1⟩,h.hl,h.fl,fun x hx=>?_,h.nl,?_⟩
 · have:=h.o.b e he; unfold bE1 at this; omega
 · have:=(h.o.l l hl).2 e he; unfold bM1 at this; omega
 · have:=h.o.u e he; unfold bM1 at this; omega
 · have:=h.l l hl; unfold bL at this; unfold C8; omega
 · have:=(h.h l hl).2 e he; unfold bH at this; unfold nE; omega
 · have:=h.n x hx; unfold bM bH at this; unfold nE; omega
 · have:=h.p; unfold jc; omega
theorem arW {S:ac} {a b c d e f g:Nat} {w:Wld} {z1 z2:List aE} {ta tb tb2 tc td te te2 tf tg:TypeId} (h0:lk S a=some (.own ta (w.over.base.map Ent.c))) (h1:lk S b=some (.deep tb tb2 z1)) (h2:lk S c=some (.own tc (w.over.upper.map Mrk.c))) (h3:lk S d=some (.own td (w.leases.map Lse.c))) (h4:lk S e=some (.deep te te2 z2)) (h5:lk S f=some (.own tf (ck w.floors))) (h6:lk S g=some (.own tg (w.net.map Mes.c))) (g1:z1=oZ w.over) (g2:z2=hZ w):zo [] S (.agg (wcT w a b c d e f g))=some (.agg w.c):=by
 subst g1 g2;have e1:(w.over.layers.map fun l=>l.map Mrk.c).map (fun xs=>[D.sl xs])=w.over.layers.map cm:=by rw [zBE]; rfl
 have e2:(w.holds.map fun l=>l.map Hld.c).map (fun xs=>[D.sl xs])=w.holds.map cy:=by rw [zBE]; rfl
 simp only [zo,wcT,ke,od,g7,cR,h0,h1,h2,h3,h4,h5,h6,imB,kH,e1,e2];rfl
theorem JT {S:ac} {a b c d e f g a' b' c' d' e' f' g':Nat} {w:Wld} {z1 z2 y1 y2:List aE} {ta tb tb2 tc td te te2 tf tg ta' tb' tb2' tc' td' te' te2' tf' tg':TypeId} (h0:lk S a=some (.own ta (w.over.base.map Ent.c))) (h1:lk S b=some (.deep tb tb2 z1)) (h2:lk S c=some (.own tc (w.over.upper.map Mrk.c))) (h3:lk S d=some (.own td (w.leases.map Lse.c))) (h4:lk S e=some (.deep te te2 z2)) (h5:lk S f=some (.own tf (ck w.floors))) (h6:lk S g=some (.own tg (w.net.map Mes.c))) (g1:z1=oZ w.over) (g2:z2=hZ w)
   (k0:lk S a'=some (.own ta' (w.over.base.map Ent.c))) (k1:lk S b'=some (.deep tb' tb2' y1)) (k2:lk S c'=some (.own tc' (w.over.upper.map Mrk.c))) (k3:lk S d'=some (.own td' (w.leases.map Lse.c))) (k4:lk S e'=some (.deep te' te2' y2)) (k5:lk S f'=some (.own tf' (ck w.floors))) (k6:lk S g'=some (.own tg' (w.net.map Mes.c))) (l1:y1=oZ w.over) (l2:y2=hZ w):aDs [] S [.agg (wcT w a b c d e f g),.agg (wcT w a' b' c' d' e' f' g')]=some [.agg w.c,.agg w.c]:=by
 simp only [aDs,arW h0 h1 h2 h3 h4 h5 h6 g1 g2,arW k0 k1 k2 k3 k4 k5 k6 l1 l2]
theorem Ih {c:Nat} {l:List Nat} {w:Wld} (h:ltB c l=true):(ltB c l && kC c (wT w))=true:=by
 simp only [h,kC,cz,eU];rfl
theorem st7 {S:ac} {a b c d e f g:Nat} {w:Wld} {z1 z2:List aE} {ta tb tb2 tc td te te2 tf tg:TypeId} (h0:lk S a=some (.own ta (w.over.base.map Ent.c))) (h1:lk S b=some (.deep tb tb2 z1)) (h2:lk S c=some (.own tc (w.over.upper.map Mrk.c))) (h3:lk S d=some (.own td (w.leases.map Lse.c))) (h4:lk S e=some (.deep te te2 z2)) (h5:lk S f=some (.own tf (ck w.floors))) (h6:lk S g=some (.own tg (w.net.map Mes.c))) (g1:z1=oZ w.over) (g2:z2=hZ w) :
   nz [a,b,c,d,e,f,g] S [a,b,c,d,e,f,g] 0=some [(0,.own ta (w.over.base.map Ent.c)),(1,.deep tb tb2 (oZ w.over)),(2,.own tc (w.over.upper.map Mrk.c)),(3,.own td (w.leases.map Lse.c)),(4,.deep te te2 (hZ w)),(5,.own tf (ck w.floors)),(6,.own tg (w.net.map Mes.c))]:=by
 subst g1 g2;simp only [nz,h0,h1,h2,h3,h4,h5,h6,lE,kH]
theorem Hr {S:ac} {ds:List D} {a b c d e f g:Nat} {w:Wld} {z1 z2:List aE} {ta tb tb2 tc td te te2 tf tg:TypeId} (h0:lk S a=some (.own ta (w.over.base.map Ent.c))) (h1:lk S b=some (.deep tb tb2 z1)) (h2:lk S c=some (.own tc (w.over.upper.map Mrk.c))) (h3:lk S d=some (.own td (w.leases.map Lse.c))) (h4:lk S e=some (.deep te te2 z2)) (h5:lk S f=some (.own tf (ck w.floors))) (h6:lk S g=some (.own tg (w.net.map Mes.c))) (g1:z1=oZ w.over) (g2:z2=hZ w) (hm:kf [a,b,c,d,e,f,g] (en ds++[])=[]) :
   kD [a,b,c,d,e,f,g] ds S=[]:=by
 subst g1 g2;unfold kD;simp only [bV,h0,h1,h2,h3,h4,h5,h6,cz,eU,List.append_nil] at hm ⊢;exact hm
variable {m:Int}
def bEv (e:Evn):Prop:=e.path.length≤1048576∧e.op.path.length≤1048576∧e.op.to.length≤1048576∧e.op.data.length≤1048576
def wEv (e:Evn):Prop:=e.path.length≤9223372036854775807∧e.op.path.length≤9223372036854775807∧e.op.to.length≤9223372036854775807∧e.op.data.length≤9223372036854775807
theorem Ht (e:Evn):Con (E m) 39 0 [.agg e.c] [] (.agg e.c) []:=by
 have c1:=Am (m:=m) e.op;refine G0 Tryz.func39 ?_;repeat' first|refine Ra ⟨?_⟩|refine R0 c1 ⟨?_⟩|refine Rd (fun h=>⟨?_⟩) fun h=>⟨?_⟩|refine Rb ⟨?_⟩|fail
 exact Rf
theorem Hu (e:Evn) (n:Int) (hn:0≤n∧n≤1048576) (h:wEv e):∃ r:Int,Con (E m) 37 0 [.agg e.c,.k .i64 n] [] (.k .i64 r) []∧(r=-1∨(0≤r∧r≤n∧bEv e)):=by
 obtain ⟨w1,w2,w3,w4⟩:=h;by_cases h0:n - e.path.length < 0
 · refine ⟨-1,?_,.inl rfl⟩;refine G0 Tryz.func37 ?_;repeat' first|refine Rx ⟨?_⟩|refine Rd (fun h=>⟨?_⟩) fun h=>⟨?_⟩|fail
   exact Rf
 · have c1:=An (m:=m) e.op (n - e.path.length) ⟨by omega,by omega⟩ w2 w3 w4;have hr:=z8 (n - e.path.length) e.op.path.length e.op.to.length e.op.data.length;generalize mL (n - e.path.length) e.op.path.length e.op.to.length e.op.data.length=r at c1 hr;by_cases h1:r < 0
   · refine ⟨-1,?_,.inl rfl⟩;refine G0 Tryz.func37 ?_;repeat' first|refine Ra ⟨?_⟩|refine R0 c1 ⟨?_⟩|refine Rd (fun h=>⟨?_⟩) fun h=>⟨?_⟩|refine Rb ⟨?_⟩|fail
     exact Rf
   · refine ⟨r,?_,.inr ⟨by omega,by omega,by unfold bEv; omega⟩⟩;refine G0 Tryz.func37 ?_;repeat' first|refine Ra ⟨?_⟩|refine R0 c1 ⟨?_⟩|refine Rd (fun h=>⟨?_⟩) fun h=>⟨?_⟩|refine Rb ⟨?_⟩|fail
     exact Rf
variable {m:Int}
theorem Eo {α:Type} {c:Nat}:∀ (l:List (List α)),(∀ x∈l,x.length≤c)→tot l≤l.length * c
 | [],_=>by simp [tot]
 | x :: r,h=>by
   have h1:=h x (by simp);have h2:=Eo r fun y hy=>h y (by simp [hy]);rw [tot,List.length_cons,zAv,Nat.one_mul];omega
theorem zd {α:Type}:∀ (l:List (List α)) (x:List α),x∈l→x.length≤tot l
 | y :: r,x,h=>by
   rw [tot];rcases List.mem_cons.1 h with rfl|h
   · omega
   · have:=zd r x h
     omega
theorem ze {α:Type}:∀ (l:List (List α)) (i:Nat) (x:List α),tot (l.set i x)+(l.getD i []).length≤tot l+x.length
 | [],i,x=>by simp [tot]
 | y :: r,0,x=>by simp [tot]; omega
 | y :: r,i+1,x=>by
   have:=ze r i x
   simp [tot] at this ⊢;omega
theorem Hv {o:Ovr} {t v:List Ent} (h:bv o=some (t,v)):CO o∧ir o≤200:=by
 obtain ⟨h1,h2,h3,h4⟩:=ce h;obtain ⟨g1,g2,g3⟩:=dz.1 h;obtain ⟨k1,k2,k3,k4⟩:=gz g1;have hu:=nq h3 h4;rw [← g3] at hu;have hul:=dN hu;have hbl:=aN h1;have hll:∀ l∈o.layers,l.length≤32:=fun l hl=>dN (jx _ k3 l hl);have ht:=Eo o.layers hll;have h128:o.layers.length * 32≤4 * 32:=zAf 32 h2;refine ⟨⟨by omega,by omega,fun l hl=>by have:=hll l hl; omega,by omega⟩,?_⟩;unfold ir;omega
theorem FJ:CO ov0∧ir ov0≤200:=⟨⟨by simp [ov0],by simp [ov0],by simp [ov0],by simp [ov0]⟩,by simp [ov0,ir,tot]⟩
theorem BO.v {o:Ovr} (h:BO o):gM o:=by
 refine ⟨fun e he=>?_,fun l hl=>⟨fun e he=>?_,(h.l l hl).1⟩,fun e he=>?_,h.bl,h.ll,h.ul⟩
 · have:=h.b e he; unfold bE1 at this; omega
 · have:=(h.l l hl).2 e he; unfold bM1 at this; omega
 · have:=h.u e he; unfold bM1 at this; omega
end Go.Proofs.YtagejnomlkfndaaGreatDoor
