/- Texts of this claim, set close: lemmas and contracts. -/
import Derived.Test.YtlicaibhgcenhaaGreatDoorYY9
import Derived.Test.YtlicaibhgcenhaaGreatDoorYY7
set_option linter.unusedSimpArgs false
set_option linter.unusedVariables false
set_option maxHeartbeats 1000000
set_option maxRecDepth 10000
namespace Go.Par
open Go.Ab
structure Ovr where
 base:List Ent
 layers:List (List Mrk)
 upper:List Mrk
 deriving DecidableEq
def ov0:Ovr:=⟨[],[],[]⟩
def cQ:List Ent→List (List Mrk)→Option (List Ent)
 | t,[]=>some t
 | t,l :: r=>match aP l t with
   | some u=>cQ u r
   | none=>none
def dr (o:Ovr):Option (List Ent):=if af o.base=true∧o.layers.length≤4 then cQ o.base o.layers else none
def gp (o:Ovr):Option (List Ent):=match dr o with
 | some t=>aP o.upper t
 | none=>none
def aQ (o:Ovr):Option (List Ent × List Ent):=match dr o with
 | some t=>match aP o.upper t with
   | some v=>if o.upper=dB t v then some (t,v) else none
   | none=>none
 | none=>none
def fk (o:Ovr):Bool:=(aQ o).isSome
def eG (o:Ovr) (p:Opn):Ovr × Int:=match aQ o with
 | some (t,v)=>(if (ao v p).2=0 then ⟨o.base,o.layers,dB t (ao v p).1⟩ else o,(ao v p).2)
 | none=>(ov0,1)
def ey (o:Ovr):Ovr × Bool:=match aQ o with
 | some _=>if o.layers.length=4 then (o,false) else (⟨o.base,o.layers++[o.upper],[]⟩,true)
 | none=>(ov0,false)
def jv:List Mrk→List (List Mrk)→Option (List Mrk)
 | one,[]=>some one
 | one,l :: r=>match bD l one with
   | some j=>jv j r
   | none=>none
def oS (ls:List (List Mrk)):Option (List Mrk):=match ls with
 | l :: k :: r=>jv l (k :: r)
 | _=>none
def ez (o:Ovr):Ovr × Bool:=match aQ o with
 | some _=>match oS o.layers with
   | some one=>(⟨o.base,[one],o.upper⟩,true)
   | none=>(o,false)
 | none=>(ov0,false)
def fC (o:Ovr):Ovr:=match aQ o with
 | some (t,_)=>⟨t,[],o.upper⟩
 | none=>ov0
theorem y0:∀ (ls:List (List Mrk)) {t u:List Ent},af t=true→cQ t ls=some u→af u=true
 | [],t,u,ht,h=>by cases h; exact ht
 | l :: r,t,u,ht,h=>by
   unfold cQ at h;cases hl:aP l t with
   | none=>rw [hl] at h; cases h
   | some x=>
     rw [hl] at h;exact y0 r (co hl).2.2.1 h
theorem tf:∀ (ls:List (List Mrk)) (l:List Mrk) {t u:List Ent},cQ t ls=some u→cQ t (ls++[l])=aP l u
 | [],l,t,u,h=>by
   cases h;show (match aP l t with|some u=>cQ u []|none=>none)=_
   cases aP l t <;> rfl
 | k :: r,l,t,u,h=>by
   unfold cQ at h;rw [zAm];unfold cQ;cases hl:aP k t with
   | none=>rw [hl] at h; cases h
   | some x=>
     rw [hl] at h;exact tf r l h
theorem ie {o:Ovr} {t:List Ent} (h:dr o=some t):af o.base=true∧o.layers.length≤4∧cQ o.base o.layers=some t∧af t=true:=by
 unfold dr at h;split at h
 · rename_i hc;exact ⟨hc.1,hc.2,h,y0 _ hc.1 h⟩
 · cases h
theorem bJ {o:Ovr} {t v:List Ent}:aQ o=some (t,v)↔dr o=some t∧aP o.upper t=some v∧o.upper=dB t v:=by
 unfold aQ;constructor
 · intro h;cases hl:dr o with
   | none=>rw [hl] at h; cases h
   | some x=>
     rw [hl] at h;simp only at h;cases hv:aP o.upper x with
     | none=>rw [hv] at h; cases h
     | some y=>
       rw [hv] at h;simp only at h;split at h
       · rename_i hd;cases h;exact ⟨rfl,hv,hd⟩
       · cases h
 · rintro ⟨h1,h2,h3⟩;rw [h1];simp only;rw [h2];simp only;rw [if_pos h3]
theorem bu {o:Ovr} {t v:List Ent} (h:aQ o=some (t,v)):af o.base=true∧o.layers.length≤4∧af t=true∧af v=true:=by
 obtain ⟨h1,h2,_⟩:=bJ.1 h;obtain ⟨g1,g2,_,g4⟩:=ie h1;exact ⟨g1,g2,g4,(co h2).2.2.1⟩
theorem y1 {o:Ovr} {t v:List Ent} (h1:dr o=some t) (hv:af v=true) (h2:o.upper=dB t v):aQ o=some (t,v):=
 bJ.2 ⟨h1,by rw [h2]; exact F1 (ie h1).2.2.2 hv,h2⟩
theorem xl {o:Ovr} {t v:List Ent} (h:aQ o=some (t,v)) (p:Opn):aQ (eG o p).1=some (t,(ao v p).1)∧(eG o p).2=(ao v p).2∧(eG o p).1.base=o.base∧(eG o p).1.layers=o.layers:=by
 obtain ⟨_,_,h3,h4⟩:=bu h;obtain ⟨h1,_,_⟩:=bJ.1 h;unfold eG;rw [h];simp only;by_cases hc:(ao v p).2=0
 · rw [if_pos hc];exact ⟨y1 (o:=⟨o.base,o.layers,dB t (ao v p).1⟩) h1 (gM h4 p) rfl,by simp⟩
 · rw [if_neg hc,Ho h4 hc];exact ⟨h,by simp⟩
theorem Dk {o:Ovr} {t v:List Ent} (h:aQ o=some (t,v)):∃ t',aQ (ey o).1=some (t',v):=by
 obtain ⟨_,h2,h3,h4⟩:=bu h;obtain ⟨k1,k2,_⟩:=bJ.1 h;obtain ⟨g1,g2,g3,_⟩:=ie k1;unfold ey;rw [h];simp only;split
 · exact ⟨t,h⟩
 · rename_i hc;refine ⟨v,y1 (o:=⟨o.base,o.layers++[o.upper],[]⟩) ?_ h4 (Dg h4).symm⟩;unfold dr;simp only;rw [if_pos ⟨g1,by simp; omega⟩,tf _ _ g3,k2]
theorem Cg:∀ (r:List (List Mrk)) {one j:List Mrk} {t u v:List Ent},jv one r=some j→aP one t=some u→cQ u r=some v→aP j t=some v
 | [],one,j,t,u,v,h,hu,hv=>by cases h; cases hv; exact hu
 | l :: r,one,j,t,u,v,h,hu,hv=>by
   unfold jv at h;cases hj:bD l one with
   | none=>rw [hj] at h; cases h
   | some x=>
     rw [hj] at h;unfold cQ at hv;cases hl:aP l u with
     | none=>rw [hl] at hv; cases hv
     | some y=>
       rw [hl] at hv;exact Cg r h (xk hj hu hl) hv
theorem Dl {o:Ovr} {t v:List Ent} (h:aQ o=some (t,v)):aQ (ez o).1=some (t,v):=by
 obtain ⟨_,h2,h3,h4⟩:=bu h;obtain ⟨k1,k2,k3⟩:=bJ.1 h;obtain ⟨g1,g2,g3,_⟩:=ie k1;unfold ez;rw [h];simp only;cases hf:oS o.layers with
 | none=>exact h
 | some one=>
   simp only;refine bJ.2 ⟨?_,k2,k3⟩;unfold dr;simp only;rw [if_pos ⟨g1,by simp⟩];unfold oS at hf;split at hf
   · rename_i l k r hl;rw [hl] at g3;unfold cQ at g3;cases h1:aP l o.base with
     | none=>rw [h1] at g3; cases g3
     | some u=>
       rw [h1] at g3
       have:=Cg (k :: r) hf h1 g3
       show (match aP one o.base with|some u=>cQ u []|none=>none)=_
       rw [this];rfl
   · cases hf
theorem Dm {o:Ovr} {t v:List Ent} (h:aQ o=some (t,v)):aQ (fC o)=some (t,v):=by
 obtain ⟨_,h2,h3,h4⟩:=bu h;obtain ⟨k1,k2,k3⟩:=bJ.1 h;unfold fC;rw [h];simp only;refine bJ.2 ⟨?_,k2,k3⟩;unfold dr;simp only;rw [if_pos ⟨h3,by simp⟩];rfl
end Go.Par
namespace Go.Proofs.YtlicaibhgcenhaaGreatDoor
open Go Go.RowKit Go.Ab Go.Par
variable {m:Int}
def c8 (l:List Mrk):List D:=[.sl (l.map Mrk.c)]
end Go.Proofs.YtlicaibhgcenhaaGreatDoor
namespace Go.Par
open Go.Ab Go.Proofs.YtlicaibhgcenhaaGreatDoor
def Ovr.c (o:Ovr):List D:=[.sl (o.base.map Ent.c),.sl (o.layers.map c8),.sl (o.upper.map Mrk.c)]
end Go.Par
namespace Go.Proofs.YtlicaibhgcenhaaGreatDoor
open Go Go.RowKit Go.Ab Go.Par
variable {m:Int}
structure gq (o:Ovr):Prop where
 base:∀ e∈o.base,e.path.length≤1073741823∧e.data.length≤1073741823
 lay:∀ l∈o.layers,(∀ e∈l,e.path.length≤1073741823∧e.data.length≤1073741823)∧l.length≤1048576
 upper:∀ e∈o.upper,e.path.length≤1073741823∧e.data.length≤1073741823
 bl:o.base.length≤1048576
 ll:o.layers.length≤1048576
 ul:o.upper.length≤1048576
theorem gq.b4 {o:Ovr} (h:gq o):∀ e∈o.base,e.path.length≤1073741824∧e.data.length≤1073741824:=fun e he=>by have:=h.base e he; omega
def trD:Option (List Ent × List Ent)→D
 | some x=>.tup [.sl (x.1.map Ent.c),.sl (x.2.map Ent.c),.b true]
 | none=>.tup [.sl [],.sl [],.b false]
theorem nF (t:List Ent) (l:List Mrk) (r:List (List Mrk)):cQ t (l :: r)=match aP l t with|some u=>cQ u r|none=>none:=rfl
theorem gt (o:Ovr) (hb:gq o):Con (E m) 170 0 [.agg o.c] [] (trD (aQ o)) []:=by
 have hbl:=hb.bl;have hll:=hb.ll;have hul:=hb.ul;have e1:(o.layers.map c8).length=o.layers.length:=zAA ..;have c1:=dX (m:=m) o.base hb.b4;have c2:=oM (m:=m) o.base (by omega);cases h1:af o.base with
 | false=>
   rw [h1] at c1;have hx:aQ o=none:=by simp [aQ,dr,h1]
   rw [hx];refine G0 Tryz.func170 ?_;repeat' first|refine Ra ⟨?_⟩|refine R0 c1 ⟨?_⟩|refine Rd (fun h=>⟨?_⟩) fun h=>⟨?_⟩|refine Rb ⟨?_⟩|fail
   exact Rz
 | true=>
   rw [h1] at c1;by_cases h2:o.layers.length≤4
   · have hx:aQ o=match cQ o.base o.layers with|some t=>(match aP o.upper t with|some v=>if o.upper=dB t v then some (t,v) else none|none=>none)|none=>none:=by
       unfold aQ dr;rw [if_pos ⟨h1,h2⟩] <;> cases cQ o.base o.layers <;> rfl
     refine G0 Tryz.func170 ?_;repeat' first|refine Ra ⟨?_⟩|refine R0 c1 ⟨?_⟩|refine Rk [] 1 c2 ⟨?_⟩|refine Rd (fun h=>⟨?_⟩) fun h=>⟨?_⟩|refine Rb ⟨?_⟩|fail
     refine Cd.loop2 (fun mq tm S nx=>∃ (i:Nat) (now:List Ent),mq=(o.layers.length - i)∧tm=[(1,.bp 0 0),(5,.sl (now.map Ent.c)),(26,.sl (o.layers.map c8)),(27,.k .i64 ((o.layers.map c8).length:Int)),(28,.k .i64 i)]∧S=[(0,.box 49 o.c)]∧nx=1∧(i≤o.layers.length)∧(cQ o.base o.layers=cQ now (o.layers.drop i))∧(af now=true)) ?_ ?_
     · refine li [5] [1,5,26,27,28] ?_
       conv=>whnf
       refine ⟨rfl,rfl,_,0,o.base,rfl,rfl,rfl,rfl,by omega,rfl,h1⟩
     · rintro mq tm S nx ⟨i,now,hn,rfl,rfl,rfl,hi,hS,hok⟩;have hnl:=az hok;rcases au o.layers i hi with ⟨rfl,hd⟩|⟨l,r,hl',hd,hr,hlt⟩
       · rw [hd] at hS;have c3:=oO (m:=m) o.upper now hb.upper (bE0 hok);rw [hx,hS];simp only [cQ];cases hv:aP o.upper now with
         | none=>
           rw [hv] at c3;simp only [Option.getD_none,Option.isSome_none] at c3;repeat' first|refine Ra ⟨?_⟩|refine Rk [] 1 c3 ⟨?_⟩|refine Rd (fun h=>⟨?_⟩) fun h=>⟨?_⟩|refine Rb ⟨?_⟩|fail
           exact Rz
         | some v=>
           rw [hv] at c3;simp only [Option.getD_some,Option.isSome_some] at c3;have k1:=co hv;have c4:=lX (m:=m) now v hok k1.2.2.1;have kd:=cJ (rI hok k1.2.2.1);have c5:=uj (m:=m) o.upper (dB now v) hul (by omega);by_cases hu:o.upper=dB now v
           · rw [decide_eq_true hu] at c5;simp only [if_pos hu];repeat' first|refine Ra ⟨?_⟩|refine Rk [] 1 c3 ⟨?_⟩|refine Rk [] 1 c4 ⟨?_⟩|refine R0 c5 ⟨?_⟩|refine Rd (fun h=>⟨?_⟩) fun h=>⟨?_⟩|refine Rb ⟨?_⟩|fail
             exact Rz
           · rw [decide_eq_false hu] at c5;simp only [if_neg hu];repeat' first|refine Ra ⟨?_⟩|refine Rk [] 1 c3 ⟨?_⟩|refine Rk [] 1 c4 ⟨?_⟩|refine R0 c5 ⟨?_⟩|refine Rd (fun h=>⟨?_⟩) fun h=>⟨?_⟩|refine Rb ⟨?_⟩|fail
             exact Rz
       · rw [hd,nF] at hS;have c3:=oO (m:=m) l now (hb.lay l (zAD hl')).1 (bE0 hok);cases hv:aP l now with
         | none=>
           rw [hv] at c3 hS;simp only [Option.getD_none,Option.isSome_none] at c3;simp only at hS;rw [hx,hS];repeat' first|refine Ra ⟨?_⟩|refine Rk [] 1 c3 ⟨?_⟩|refine Rd (fun h=>⟨?_⟩) fun h=>⟨?_⟩|refine Rb ⟨?_⟩|fail
           exact Rz
         | some v=>
           rw [hv] at c3 hS;simp only [Option.getD_some,Option.isSome_some] at c3;simp only at hS;have k1:=co hv;repeat' first|refine Ra ⟨?_⟩|refine Rk [] 1 c3 ⟨?_⟩|refine Rd (fun h=>⟨?_⟩) fun h=>⟨?_⟩|refine Rb ⟨?_⟩|fail
           refine .here ⟨mq - 1,by omega,?_⟩;refine li [5] [1,5,26,27,28] ?_
           conv=>whnf
           refine ⟨rfl,rfl,i+1,v,(by omega),rfl,rfl,rfl,by omega,(by rw [hS,hr]),k1.2.2.1⟩
   · have hx:aQ o=none:=by simp [aQ,dr,h2]
     rw [hx];refine G0 Tryz.func170 ?_;repeat' first|refine Ra ⟨?_⟩|refine R0 c1 ⟨?_⟩|refine Rd (fun h=>⟨?_⟩) fun h=>⟨?_⟩|refine Rb ⟨?_⟩|fail
     exact Rz
theorem dS (t:List Mrk) (ht:t.length≤1073741824):Con (E m) 135 0 [.sl (t.map Mrk.c)] [] (.sl (t.map Mrk.c)) []:=by
 have e1:(t.map Mrk.c).length=t.length:=zAA ..;refine G0 Tryz.func135 ?_;repeat' first|refine Rx ⟨?_⟩|refine Rd (fun h=>⟨?_⟩) fun h=>⟨?_⟩|fail
 exact Rz
theorem m5 (t:List Ent) (ht:t.length≤1073741824):Con (E m) 136 0 [.sl (t.map Ent.c)] [] (.sl (t.map Ent.c)) []:=by
 have e1:(t.map Ent.c).length=t.length:=zAA ..;refine G0 Tryz.func136 ?_;repeat' first|refine Rx ⟨?_⟩|refine Rd (fun h=>⟨?_⟩) fun h=>⟨?_⟩|fail
 exact Rz
theorem gu (o:Ovr) (hb:gq o):Con (E m) 71 0 [.agg o.c] [] (.agg o.c) []:=by
 have hbl:=hb.bl;have hll:=hb.ll;have hul:=hb.ul;have e1:(o.layers.map c8).length=o.layers.length:=zAA ..;have c1:=m5 (m:=m) o.base (by omega);have c2:=dS (m:=m) o.upper (by omega);refine G0 Tryz.func71 ?_;repeat' first|refine Rx ⟨?_⟩|refine Rd (fun h=>⟨?_⟩) fun h=>⟨?_⟩|fail
 refine Cd.loop2 (fun mq tm S nx=>∃ (i:Nat) (A:List (List Mrk)),mq=(o.layers.length - i)∧tm=[(1,.bp 0 0),(2,.bp 1 0),(3,.own 2),(7,.sl (o.layers.map c8)),(8,.k .i64 ((o.layers.map c8).length:Int)),(9,.k .i64 i)]∧S=[(0,.box 49 o.c),(1,.box 49 [.nil,.nil,.nil]),(2,.own 47 (A.map c8))]∧nx=3∧(i≤o.layers.length)∧(A=o.layers.take i)∧(A.length≤i)) ?_ ?_
 · refine la [1,2,3,7,8,9] ?_
   conv=>whnf
   refine ⟨rfl,rfl,_,0,[],rfl,rfl,rfl,rfl,by omega,(by simp),by simp⟩
 · rintro mq tm S nx ⟨i,A,hn,rfl,rfl,rfl,hi,hA,hAl⟩;have e2:(A.map c8).length=A.length:=zAA ..;rcases au o.layers i hi with ⟨rfl,hd⟩|⟨l,r,hl',hd,hr,hlt⟩
   · rw [zAN] at hA;subst hA;repeat' first|refine Ra ⟨?_⟩|refine R0 c1 ⟨?_⟩|refine R0 c2 ⟨?_⟩|refine Rd (fun h=>⟨?_⟩) fun h=>⟨?_⟩|refine Rb ⟨?_⟩|fail
     exact Rz
   · have g1:o.layers.take (i+1)=o.layers.take i++[l]:=by rw [zAX,hl']; rfl
     have c3:=dS (m:=m) l (by have:=(hb.lay l (zAD hl')).2; omega);repeat' first|refine Ra ⟨?_⟩|refine R0 c3 ⟨?_⟩|refine Rd (fun h=>⟨?_⟩) fun h=>⟨?_⟩|refine Rb ⟨?_⟩|fail
     refine .here ⟨mq - 1,by omega,?_⟩;refine la [1,2,3,7,8,9] ?_
     conv=>whnf
     refine ⟨rfl,rfl,i+1,A++[l],(by omega),rfl,?_,rfl,by omega,(by rw [hA,g1]),(by simp; omega)⟩;rw [zAK];rfl
theorem uq (o:Ovr) (hb:gq o):Con (E m) 71 0 [.agg o.c] [] (.agg [.sl (o.base.map Ent.c),.own 0,.sl (o.upper.map Mrk.c)]) [(0,.own 47 (o.layers.map c8))]:=by
 have hbl:=hb.bl;have hll:=hb.ll;have hul:=hb.ul;have e1:(o.layers.map c8).length=o.layers.length:=zAA ..;have c1:=m5 (m:=m) o.base (by omega);have c2:=dS (m:=m) o.upper (by omega);refine G0 Tryz.func71 ?_;repeat' first|refine Rx ⟨?_⟩|refine Rd (fun h=>⟨?_⟩) fun h=>⟨?_⟩|fail
 refine Cd.loop2 (fun mq tm S nx=>∃ (i:Nat) (A:List (List Mrk)),mq=(o.layers.length - i)∧tm=[(1,.bp 0 0),(2,.bp 1 0),(3,.own 2),(7,.sl (o.layers.map c8)),(8,.k .i64 ((o.layers.map c8).length:Int)),(9,.k .i64 i)]∧S=[(0,.box 49 o.c),(1,.box 49 [.nil,.nil,.nil]),(2,.own 47 (A.map c8))]∧nx=3∧(i≤o.layers.length)∧(A=o.layers.take i)∧(A.length≤i)) ?_ ?_
 · refine la [1,2,3,7,8,9] ?_
   conv=>whnf
   refine ⟨rfl,rfl,_,0,[],rfl,rfl,rfl,rfl,by omega,(by simp),by simp⟩
 · rintro mq tm S nx ⟨i,A,hn,rfl,rfl,rfl,hi,hA,hAl⟩;have e2:(A.map c8).length=A.length:=zAA ..;rcases au o.layers i hi with ⟨rfl,hd⟩|⟨l,r,hl',hd,hr,hlt⟩
   · rw [zAN] at hA;subst hA;repeat' first|refine Ra ⟨?_⟩|refine R0 c1 ⟨?_⟩|refine R0 c2 ⟨?_⟩|refine Rd (fun h=>⟨?_⟩) fun h=>⟨?_⟩|refine Rb ⟨?_⟩|fail
     exact Rf
   · have g1:o.layers.take (i+1)=o.layers.take i++[l]:=by rw [zAX,hl']; rfl
     have c3:=dS (m:=m) l (by have:=(hb.lay l (zAD hl')).2; omega);repeat' first|refine Ra ⟨?_⟩|refine R0 c3 ⟨?_⟩|refine Rd (fun h=>⟨?_⟩) fun h=>⟨?_⟩|refine Rb ⟨?_⟩|fail
     refine .here ⟨mq - 1,by omega,?_⟩;refine la [1,2,3,7,8,9] ?_
     conv=>whnf
     refine ⟨rfl,rfl,i+1,A++[l],(by omega),rfl,?_,rfl,by omega,(by rw [hA,g1]),(by simp; omega)⟩;rw [zAK];rfl
theorem qP (o:Ovr) (hb:gq o):Con (E m) 221 0 [.agg o.c] [] (.b (fk o)) []:=by
 have c1:=gt (m:=m) o hb;unfold fk;cases h:aQ o;all_goals
  rw [h] at c1;refine G0 Tryz.func221 ?_;repeat' first|refine Ra ⟨?_⟩|refine R0 c1 ⟨?_⟩|refine Rd (fun h=>⟨?_⟩) fun h=>⟨?_⟩|refine Rb ⟨?_⟩|fail
  exact Rf
def vwD:Option (List Ent × List Ent)→D
 | some x=>.tup [.sl (x.2.map Ent.c),.b true]
 | none=>.tup [.sl [],.b false]
theorem fD (o:Ovr) (hb:gq o):Con (E m) 101 0 [.agg o.c] [] (vwD (aQ o)) []:=by
 have c1:=gt (m:=m) o hb;cases h:aQ o;all_goals
  rw [h] at c1;refine G0 Tryz.func101 ?_;repeat' first|refine Ra ⟨?_⟩|refine R0 c1 ⟨?_⟩|refine Rd (fun h=>⟨?_⟩) fun h=>⟨?_⟩|refine Rb ⟨?_⟩|fail
  exact Rf
theorem ur (o:Ovr) (hb:gq o):Con (E m) 157 0 [.agg o.c] [] (.agg (fC o).c) []:=by
 have hul:=hb.ul;have c1:=gt (m:=m) o hb;have c2:=dS (m:=m) o.upper (by omega);unfold fC;cases h:aQ o;all_goals
  rw [h] at c1;refine G0 Tryz.func157 ?_;repeat' first|refine Ra ⟨?_⟩|refine R0 c1 ⟨?_⟩|refine R0 c2 ⟨?_⟩|refine Rd (fun h=>⟨?_⟩) fun h=>⟨?_⟩|refine Rb ⟨?_⟩|fail
  exact Rz
theorem ut (o:Ovr) (hb:gq o):Con (E m) 155 0 [.agg o.c] [] (.tup [.agg (ey o).1.c,.b (ey o).2]) []:=by
 have c1:=qP (m:=m) o hb;have c2:=gu (m:=m) o hb;have c3:=uq (m:=m) o hb;have e1:(o.layers.map c8).length=o.layers.length:=zAA ..;unfold fk at c1;unfold ey;cases h:aQ o with
 | none=>
   rw [h] at c1;refine G0 Tryz.func155 ?_;repeat' first|refine Ra ⟨?_⟩|refine R0 c1 ⟨?_⟩|refine Rd (fun h=>⟨?_⟩) fun h=>⟨?_⟩|refine Rb ⟨?_⟩|fail
   exact Rz
 | some x=>
   rw [h] at c1;have hl:=(bu (t:=x.1) (v:=x.2) h).2.1;simp only;by_cases h4:o.layers.length=4
   · rw [if_pos h4];refine G0 Tryz.func155 ?_;repeat' first|refine Ra ⟨?_⟩|refine R0 c1 ⟨?_⟩|refine R0 c2 ⟨?_⟩|refine Rd (fun h=>⟨?_⟩) fun h=>⟨?_⟩|refine Rb ⟨?_⟩|fail
     exact Rz
   · rw [if_neg h4];have g1:(o.layers++[o.upper]).map c8=o.layers.map c8++[[.sl (o.upper.map Mrk.c)]]:=by rw [zAK]; rfl
     unfold Ovr.c;rw [g1];refine G0 Tryz.func155 ?_;repeat' first|refine Ra ⟨?_⟩|refine R0 c1 ⟨?_⟩|refine Rk [] 1 c3 ⟨?_⟩|refine Rd (fun h=>⟨?_⟩) fun h=>⟨?_⟩|refine Rb ⟨?_⟩|fail
     exact Rz
theorem y2 (o:Ovr) (p:Opn) (hb:gq o) (hp:nD 1073741823 p):Con (E m) 210 0 [.agg o.c,.agg p.c] [] (.tup [.agg (eG o p).1.c,.k .i64 (eG o p).2]) []:=by
 have c1:=gt (m:=m) o hb;have c2:=gu (m:=m) o hb;unfold eG;cases h:aQ o with
 | none=>
   rw [h] at c1;refine G0 Tryz.func210 ?_;repeat' first|refine Ra ⟨?_⟩|refine R0 c1 ⟨?_⟩|refine Rd (fun h=>⟨?_⟩) fun h=>⟨?_⟩|refine Rb ⟨?_⟩|fail
   exact Rz
 | some x=>
   obtain ⟨t,v⟩:=x;rw [h] at c1;obtain ⟨_,_,k3,k4⟩:=bu h;have c3:=ju (m:=m) v p (bE0 k4) hp.1 hp.2.1 hp.2.2;have c4:=lX (m:=m) t (ao v p).1 k3 (gM k4 p);simp only;by_cases h0:(ao v p).2=0
   · rw [if_pos h0];rw [h0] at c3 ⊢;generalize (ao v p).1=y at c3 c4 ⊢;refine G0 Tryz.func210 ?_;repeat' first|refine Ra ⟨?_⟩|refine R0 c1 ⟨?_⟩|refine R0 c2 ⟨?_⟩|refine Rk [] 1 c3 ⟨?_⟩|refine Rk [] 1 c4 ⟨?_⟩|refine Rd (fun h=>⟨?_⟩) fun h=>⟨?_⟩|refine Rb ⟨?_⟩|fail
     exact Rz
   · rw [if_neg h0];generalize ao v p=Y at c3 c4 h0 ⊢;refine G0 Tryz.func210 ?_;repeat' first|refine Ra ⟨?_⟩|refine R0 c1 ⟨?_⟩|refine R0 c2 ⟨?_⟩|refine Rk [] 1 c3 ⟨?_⟩|refine Rd (fun h=>⟨?_⟩) fun h=>⟨?_⟩|refine Rb ⟨?_⟩|fail
     exact Rz
variable {m:Int}
theorem oT:∀ (ls:List (List Mrk)) {t u:List Ent},cQ t ls=some u→∀ l∈ls,ax l=true
 | [],t,u,h=>by simp
 | k :: r,t,u,h=>by
   rw [nF] at h;cases hl:aP k t with
   | none=>rw [hl] at h; cases h
   | some x=>
     rw [hl] at h;intro l hm;rcases List.mem_cons.1 hm with rfl|hm
     · exact (co hl).1
     · exact oT r h l hm
theorem xm {o:Ovr} {t v:List Ent} (h:aQ o=some (t,v)):gq o:=by
 obtain ⟨h1,h2,h3,h4⟩:=bu h;obtain ⟨g1,g2,g3⟩:=bJ.1 h;obtain ⟨k1,k2,k3,k4⟩:=ie g1;have hu:=rI h3 h4;rw [← g3] at hu;refine ⟨fun e he=>by have:=eE (dm h1 e he); omega,fun l hl=>?_,fun e he=>by have:=e8 hu e he; omega,by have:=az h1; omega,by omega,by have:=cJ hu; omega⟩;have hk:=oT _ k3 l hl;exact ⟨fun e he=>by have:=e8 hk e he; omega,by have:=cJ hk; omega⟩
theorem xn:gq ov0:=⟨by simp [ov0],by simp [ov0],by simp [ov0],by simp [ov0],by simp [ov0],by simp [ov0]⟩
end Go.Proofs.YtlicaibhgcenhaaGreatDoor
namespace Go.Par
open Go.Ab
structure Lse where
 who:Int
 path:Bs
 num:Int
 til:Int
 deriving DecidableEq
structure Hld where
 path:Bs
 has:Bool
 ent:Ent
 num:Int
 til:Int
 deriving DecidableEq
structure Mes where
 kind:Int
 who:Int
 hold:Hld
 deriving DecidableEq
structure Wld where
 over:Ovr
 clock:Int
 count:Int
 leases:List Lse
 holds:List (List Hld)
 floors:List Int
 net:List Mes
 waits:Bool
 op:Opn
 deriving DecidableEq
structure Evn where
 kind:Int
 who:Int
 path:Bs
 op:Opn
 pos:Int
 deriving DecidableEq
def w0:Wld:=⟨ov0,0,0,[],[],[],[],false,op0⟩
def av (o:Ovr):Wld:=⟨o,0,0,[],[[],[],[]],[0,0,0],[],false,op0⟩
def dA (n:Int):Bool:=decide (0≤n) && decide (n≤2)
def aI (who:Int) (p:Bs) (l:Lse):Bool:=decide (l.who=who) && decide (l.path=p)
def dw (ls:List Lse) (who:Int) (p:Bs):Option Lse:=ls.find? (aI who p)
def bE (p:Bs) (n:Int):Hld:=⟨p,false,eZ,n,0⟩
def bq (fl:List Int) (who:Int):Int:=fl.getD who.toNat 0
def aJ (hs:List (List Hld)) (who:Int):List Hld:=hs.getD who.toNat []
def l5 (clk:Int) (ls:List Lse) (who:Int) (h:Hld):Bool:=match dw ls who h.path with
 | some l=>decide (clk < l.til) && decide (h.num≤l.num) && decide (h.til≤l.til)
 | none=>false
def gw (v:List Ent) (h:Hld):Bool:=decide ((am v h.path).isSome=h.has) && decide ((am v h.path).getD eZ=h.ent)
def soV (v:List Ent) (clk:Int) (ls:List Lse) (who:Int) (h:Hld):Bool:=decide (h.til≤clk) || (gw v h && l5 clk ls who h)
def l6 (cnt clk:Int) (ls:List Lse) (i:Nat):Bool:=match ls[i]? with
 | some l=>dA l.who && ac l.path && decide (1≤l.num) && decide (l.num≤cnt) && decide (l.til≤clk+5) && (ls.take i).all fun k=>!aI l.who l.path k
 | none=>true
def uu (cnt clk:Int) (ls:List Lse):Bool:=(List.range ls.length).all (l6 cnt clk ls)
def uv (cnt:Int) (hs:List Hld) (i:Nat):Bool:=match hs[i]? with
 | some h=>ac h.path && decide (0≤h.num) && decide (h.num≤cnt) && (hs.take i).all fun k=>!decide (k.path=h.path)
 | none=>true
def nG (cnt:Int) (hs:List Hld):Bool:=(List.range hs.length).all (uv cnt hs)
def d7 (cnt:Int) (m:Mes):Bool:=decide (1≤m.kind) && decide (m.kind≤4) && dA m.who && ac m.hold.path && decide (0≤m.hold.num) && decide (m.hold.num≤cnt) && (decide (m.kind=2) || decide (m.hold=bE m.hold.path m.hold.num))
def iE (v:List Ent) (w:Wld) (m:Mes):Bool:=!decide (m.kind=2) || decide (m.hold.num≤bq w.floors m.who) || soV v w.clock w.leases m.who m.hold
def ly (w:Wld) (m:Mes):Bool:=!decide (m.kind=4) || (decide (m.hold.num≤bq w.floors m.who) && (aJ w.holds m.who).all fun h=>!(decide (h.path=m.hold.path) && decide (h.num≤m.hold.num)))
def ip (w:Wld):Bool:=decide (0≤w.clock) && decide (w.clock≤10000) && decide (0≤w.count) && decide (w.count≤10000) && decide (w.holds.length=3) && decide (w.floors.length=3) && decide (w.net.length≤12) &&
 w.floors.all fun f=>decide (0≤f) && decide (f≤w.count)
def jH (v:List Ent) (w:Wld):Bool:=if w.waits then decide ((ao v w.op).2=0) else decide (w.op=op0)
def lq (v:List Ent) (w:Wld) (i:Nat):Bool:=nG w.count (aJ w.holds i) && (aJ w.holds i).all (soV v w.clock w.leases i)
def db (v:List Ent) (w:Wld):Bool:=ip w && uu w.count w.clock w.leases && jH v w && (List.range 3).all (lq v w) && w.net.all fun m=>d7 w.count m && iE v w m && ly w m
def aL (w:Wld):Bool:=match aQ w.over with
 | some x=>db x.2 w
 | none=>false
def seen (o:Ovr):List Ent:=match aQ o with
 | some x=>x.2
 | none=>[]
def cq (net:List Mes) (m:Mes):List Mes:=if net.length < 12 then net++[m] else net
def dz (net:List Mes) (cnt:Int) (bars:List Lse):List Mes:=bars.foldl (fun n l=>cq n ⟨3,l.who,bE l.path cnt⟩) net
def bV (v:List Ent) (p:Opn):List Bs:=if (ao v p).2=0 then aS v (ao v p).1 else []
def dT (v:List Ent) (clk:Int) (ls:List Lse) (p:Opn):List Lse:=ls.filter fun l=>decide (clk < l.til) && decide (l.path∈bV v p)
def jc (ls:List Lse) (who:Int) (p:Bs) (num:Int):List Lse:=ls.filter fun l=>!(aI who p l && decide (l.num≤num))
def cC (l:List Hld) (h:Hld):List Hld:=if l.any (fun x=>decide (x.path=h.path) && decide (h.num≤x.num)) then l else l.filter (fun x=>!decide (x.path=h.path))++[h]
def bW (l:List Hld) (p:Bs) (n:Int):List Hld:=l.filter fun x=>!(decide (x.path=p) && decide (x.num≤n))
def cD (w:Wld) (p:Opn):Wld × Int:=
 if w.waits then (w,21) else if (ao (seen w.over) p).2≠0 then (w,(ao (seen w.over) p).2)
 else if dT (seen w.over) w.clock w.leases p=[] then ({ w with over:=(eG w.over p).1 },0)
 else ({ w with net:=dz w.net w.count (dT (seen w.over) w.clock w.leases p),waits:=true,op:=p },20)
def gB (w:Wld):Wld × Int:=
 if w.waits=false then (w,22)
 else if dT (seen w.over) w.clock w.leases w.op=[] then ({ w with over:=(eG w.over w.op).1,waits:=false,op:=op0 },0)
 else ({ w with net:=dz w.net w.count (dT (seen w.over) w.clock w.leases w.op) },20)
def fE (c:Int):Int:=if c < 10000 then c+1 else c
def lr (w:Wld):Wld:={ w with clock:=fE w.clock,leases:=w.leases.filter (fun l=>decide (fE w.clock < l.til)) }
def jI (w:Wld) (who:Int) (p:Bs):Wld:=
 if (w.waits=true∧p∈bV (seen w.over) w.op)∨10000≤w.count then w
 else { w with count:=w.count+1,leases:=jc w.leases who p (w.count+1)++[⟨who,p,w.count+1,w.clock+5⟩],net:=cq w.net ⟨2,who,⟨p,(am (seen w.over) p).isSome,(am (seen w.over) p).getD eZ,w.count+1,w.clock+5⟩⟩ }
def gx (w:Wld) (who:Int) (h:Hld):Wld:=
 if w.clock < h.til∧bq w.floors who < h.num then { w with holds:=w.holds.set who.toNat (cC (aJ w.holds who) h) } else w
def fd (w:Wld) (who:Int) (p:Bs) (n:Int):Wld:=
 { w with holds:=w.holds.set who.toNat (bW (aJ w.holds who) p n),floors:=w.floors.set who.toNat (max (bq w.floors who) n),net:=cq w.net ⟨4,who,bE p n⟩ }
def lx (w:Wld) (who:Int) (p:Bs) (n:Int):Wld:={ w with leases:=jc w.leases who p n }
def dU (w:Wld) (m:Mes):Wld:=
 if m.kind=1 then jI w m.who m.hold.path else if m.kind=2 then gx w m.who m.hold else if m.kind=3 then fd w m.who m.hold.path m.hold.num
 else if m.kind=4 then lx w m.who m.hold.path m.hold.num else w
def ki (w:Wld) (k pos:Int):Wld × Int:=if pos < 0 then (w,22) else match w.net[pos.toNat]? with
 | none=>(w,22)
 | some m=>if k=7 then ({ w with net:=cq w.net m },0) else if k=5 then (dU { w with net:=w.net.eraseIdx pos.toNat } m,0) else ({ w with net:=w.net.eraseIdx pos.toNat },0)
def wDo (w:Wld) (e:Evn):Wld × Int:=
 if e.kind=1 then (if dA e.who && ac e.path then ({ w with net:=cq w.net ⟨1,e.who,bE e.path 0⟩ },0) else (w,1))
 else if e.kind=2 then cD w e.op else if e.kind=3 then gB w else if e.kind=4 then (lr w,0)
 else if e.kind=5∨e.kind=6∨e.kind=7 then ki w e.kind e.pos else (w,1)
def jw (w:Wld) (e:Evn):Wld × Int:=if aL w then wDo w e else (w0,1)
def gO (w:Wld) (p:Opn):List Lse:=if aL w then dT (seen w.over) w.clock w.leases p else []
def bK (w:Wld) (who:Int) (p:Bs):Option Hld:=if aL w && dA who then (aJ w.holds who).find? fun h=>decide (h.path=p) && decide (w.clock < h.til) else none
def So (v:List Ent) (w:Wld) (who:Int) (h:Hld):Prop:=h.til≤w.clock∨((am v h.path).isSome=h.has∧(am v h.path).getD eZ=h.ent∧∃ l∈w.leases,l.who=who∧l.path=h.path∧w.clock < l.til∧h.num≤l.num∧h.til≤l.til)
structure OkW (v:List Ent) (w:Wld):Prop where
 clk:0≤w.clock∧w.clock≤10000
 cnt:0≤w.count∧w.count≤10000
 hl:w.holds.length=3
 fl:w.floors.length=3
 nl:w.net.length≤12
 fb:∀ f∈w.floors,0≤f∧f≤w.count
 ls:∀ l∈w.leases,(0≤l.who∧l.who≤2)∧ac l.path=true∧1≤l.num∧l.num≤w.count∧l.til≤w.clock+5
 lu:w.leases.Pairwise fun a b=>¬ (a.who=b.who∧a.path=b.path)
 hs:∀ l∈w.holds,∀ h∈l,ac h.path=true∧0≤h.num∧h.num≤w.count
 hu:∀ l∈w.holds,l.Pairwise fun a b=>a.path≠b.path
 so:∀ (i:Nat) l,w.holds[i]?=some l→∀ h∈l,So v w i h
 nt:∀ m∈w.net,(1≤m.kind∧m.kind≤4)∧(0≤m.who∧m.who≤2)∧ac m.hold.path=true∧0≤m.hold.num∧m.hold.num≤w.count∧(m.kind=2∨m.hold=bE m.hold.path m.hold.num)
 gr:∀ m∈w.net,m.kind=2→bq w.floors m.who < m.hold.num→So v w m.who m.hold
 bk:∀ m∈w.net,m.kind=4→m.hold.num≤bq w.floors m.who∧∀ h∈aJ w.holds m.who,h.path=m.hold.path→m.hold.num < h.num
 wt:if w.waits=true then (ao v w.op).2=0 else w.op=op0
theorem vT {α:Type} {R:α→α→Prop} {l:List α}:(∀ (i:Nat) x,l[i]?=some x→∀ y∈l.take i,R y x)↔l.Pairwise R:=by
 rw [zAz];constructor
 · intro h i j hi hj hij;exact h j l[j] (zAB hj) l[i] (List.mem_take_iff_getElem.2 ⟨i,by omega,rfl⟩)
 · intro h i x hx y hy;obtain ⟨hi,rfl⟩:=List.getElem?_eq_some_iff.1 hx;obtain ⟨j,hj,rfl⟩:=List.mem_take_iff_getElem.1 hy;exact h j i (by omega) hi (by omega)
theorem E4 {cnt clk:Int} {ls:List Lse}:uu cnt clk ls=true↔(∀ l∈ls,(0≤l.who∧l.who≤2)∧ac l.path=true∧1≤l.num∧l.num≤cnt∧l.til≤clk+5)∧ls.Pairwise fun a b=>¬ (a.who=b.who∧a.path=b.path):=by
 rw [← vT];unfold uu;rw [bN];constructor
 · intro h;have key:∀ (i:Nat) x,ls[i]?=some x→_:=fun i x hx=>by
    have:=h i (List.getElem?_eq_some_iff.1 hx).1
    rw [l6,hx] at this;exact this
   refine ⟨fun l hl=>?_,fun i x hx y hy=>?_⟩
   · obtain ⟨i,hi⟩:=List.mem_iff_getElem?.1 hl
     have:=key i l hi
     simp only [dA,zAC,decide_eq_true_eq] at this;exact ⟨this.1.1.1.1.1,this.1.1.1.1.2,this.1.1.1.2,this.1.1.2,this.1.2⟩
   · have:=key i x hx
     simp only [zAC] at this
     have:=zAr.1 this.2 y hy
     simp only [aI,zAJ,zAq,decide_eq_false_iff_not] at this;rintro ⟨h1,h2⟩;rcases this with h|h
     · exact h h1
     · exact h h2
 · rintro ⟨h1,h2⟩ i hi;have hx:ls[i]?=some ls[i]:=zAB hi;rw [l6,hx];obtain ⟨a,b,c,d,e⟩:=h1 _ (zAb hi);simp only [dA,zAC,decide_eq_true_eq];refine ⟨⟨⟨⟨⟨a,b⟩,c⟩,d⟩,e⟩,zAr.2 fun y hy=>?_⟩
   have:=h2 i _ hx y hy
   simp only [aI,zAJ,zAq,decide_eq_false_iff_not];by_cases h3:y.who=ls[i].who
   · exact .inr fun h4=>this ⟨h3,h4⟩
   · exact .inl h3
theorem oU {cnt:Int} {hs:List Hld}:nG cnt hs=true↔(∀ h∈hs,ac h.path=true∧0≤h.num∧h.num≤cnt)∧hs.Pairwise fun a b=>a.path≠b.path:=by
 rw [← vT];unfold nG;rw [bN];constructor
 · intro h;have key:∀ (i:Nat) x,hs[i]?=some x→_:=fun i x hx=>by
    have:=h i (List.getElem?_eq_some_iff.1 hx).1
    rw [uv,hx] at this;exact this
   refine ⟨fun l hl=>?_,fun i x hx y hy=>?_⟩
   · obtain ⟨i,hi⟩:=List.mem_iff_getElem?.1 hl
     have:=key i l hi
     simp only [zAC,decide_eq_true_eq] at this;exact ⟨this.1.1.1,this.1.1.2,this.1.2⟩
   · have:=key i x hx
     simp only [zAC] at this
     have:=zAr.1 this.2 y hy
     simpa using this
 · rintro ⟨h1,h2⟩ i hi;have hx:hs[i]?=some hs[i]:=zAB hi;rw [uv,hx];obtain ⟨a,b,c⟩:=h1 _ (zAb hi);simp only [zAC,decide_eq_true_eq];refine ⟨⟨⟨a,b⟩,c⟩,zAr.2 fun y hy=>?_⟩
   have:=h2 i _ hx y hy
   simpa using this
theorem xo {ls:List Lse} {who:Int} {p:Bs} {l:Lse} (h:dw ls who p=some l):l∈ls∧l.who=who∧l.path=p:=by
 have h1:=List.mem_of_find?_eq_some h;have h2:=List.find?_some h;simp only [aI,zAC,decide_eq_true_eq] at h2;exact ⟨h1,h2⟩
theorem AY {ls:List Lse} {who:Int} {p:Bs} {l:Lse} (hu:ls.Pairwise fun a b=>¬ (a.who=b.who∧a.path=b.path)) (h:l∈ls) (h1:l.who=who) (h2:l.path=p):dw ls who p=some l:=by
 induction ls with
 | nil=>cases h
 | cons x r ih=>
   rw [List.pairwise_cons] at hu;unfold dw;rw [List.find?_cons];rcases List.mem_cons.1 h with rfl|h
   · have:aI who p l=true:=by simp [aI,h1,h2]
     rw [this]
   · have:aI who p x=false:=by
       have:=hu.1 l h
       rw [h1,h2] at this;simp only [aI,zAq,decide_eq_false_iff_not];by_cases hx:x.who=who
       · exact .inr fun h=>this ⟨hx,h⟩
       · exact .inl hx
     rw [this];exact ih hu.2 h
theorem rJ {v:List Ent} {w:Wld} (hu:w.leases.Pairwise fun a b=>¬ (a.who=b.who∧a.path=b.path)) {who:Int} {h:Hld}:soV v w.clock w.leases who h=true↔So v w who h:=by
 unfold soV So gw l5;simp only [zAe,zAC,decide_eq_true_eq,and_assoc];refine or_congr Iff.rfl (and_congr Iff.rfl (and_congr Iff.rfl ?_));constructor
 · intro h1;cases hl:dw w.leases who h.path with
   | none=>rw [hl] at h1; cases h1
   | some l=>
     rw [hl] at h1;obtain ⟨g1,g2,g3⟩:=xo hl;simp only [zAC,decide_eq_true_eq] at h1;exact ⟨l,g1,g2,g3,h1.1.1,h1.1.2,h1.2⟩
 · rintro ⟨l,g1,g2,g3,g4,g5,g6⟩;rw [AY hu g1 g2 g3];simp only [zAC,decide_eq_true_eq];exact ⟨⟨g4,g5⟩,g6⟩
theorem qQ {hs:List (List Hld)} {i:Nat} (h:i < hs.length):hs[i]?=some (aJ hs i):=by
 simp [aJ,List.getD,zAB h]
theorem xp {v:List Ent} {w:Wld}:db v w=true↔OkW v w:=by
 unfold db;simp only [zAC,E4,bN,zAr];constructor
 · rintro ⟨⟨⟨⟨h1,h2,h3⟩,h4⟩,h5⟩,h6⟩;simp only [ip,zAC,decide_eq_true_eq,zAr] at h1;obtain ⟨⟨⟨⟨⟨⟨⟨a1,a2⟩,a3⟩,a4⟩,a5⟩,a6⟩,a7⟩,a8⟩:=h1;have hh:∀ (i:Nat) l,w.holds[i]?=some l→nG w.count l=true∧l.all (soV v w.clock w.leases i)=true:=by
    intro i l hl;have hi:=(List.getElem?_eq_some_iff.1 hl).1
    have:=h5 i (by rw [List.mem_range]; omega)
    have e:=qQ hi;rw [hl] at e;cases e;simpa only [lq,zAC] using this
   have hm:∀ l∈w.holds,nG w.count l=true:=fun l hl=>by
    obtain ⟨i,hi⟩:=List.mem_iff_getElem?.1 hl;exact (hh i l hi).1
   refine ⟨⟨a1,a2⟩,⟨a3,a4⟩,a5,a6,a7,a8,h2,h3,fun l hl=>(oU.1 (hm l hl)).1,fun l hl=>(oU.1 (hm l hl)).2,fun i l hl h hx=>?_,fun m hmm=>?_,fun m hmm hk hf=>?_,fun m hmm hk=>?_,?_⟩
   · exact (rJ h3).1 (zAr.1 (hh i l hl).2 h hx)
   · have:=(h6 m hmm).1.1
     simp only [d7,dA,zAC,zAe,decide_eq_true_eq] at this;obtain ⟨⟨⟨⟨⟨⟨b1,b2⟩,b3⟩,b4⟩,b5⟩,b6⟩,b7⟩:=this;exact ⟨⟨b1,b2⟩,b3,b4,b5,b6,b7⟩
   · have:=(h6 m hmm).1.2
     simp only [iE,hk,zAe,decide_eq_true_eq,zAJ,decide_true,zAO,false_or] at this;rcases this with h|h
     · omega
     · exact (rJ h3).1 h
   · have:=(h6 m hmm).2
     simp only [ly,hk,zAe,zAC,decide_eq_true_eq,zAJ,decide_true,zAO,false_or,zAr] at this;refine ⟨this.1,fun h hx hp=>?_⟩
     have:=this.2 h hx
     simp only [hp,decide_true,zBA,decide_eq_false_iff_not] at this;omega
   · unfold jH at h4;split at h4
     · rename_i hw; rw [if_pos hw]; simpa using h4
     · rename_i hw; rw [if_neg hw]; simpa using h4
 · intro h;refine ⟨⟨⟨⟨?_,h.ls,h.lu⟩,?_⟩,fun i hi=>?_⟩,fun m hm=>⟨⟨?_,?_⟩,?_⟩⟩
   · simp only [ip,zAC,decide_eq_true_eq,zAr];exact ⟨⟨⟨⟨⟨⟨⟨h.clk.1,h.clk.2⟩,h.cnt.1⟩,h.cnt.2⟩,h.hl⟩,h.fl⟩,h.nl⟩,h.fb⟩
   · have:=h.wt
     unfold jH;split at this
     · rename_i hw; rw [if_pos hw]; simpa using this
     · rename_i hw; rw [if_neg hw]; simpa using this
   · have hg:=qQ (hs:=w.holds) (i:=i) (by rw [h.hl]; exact List.mem_range.1 hi);have hmem:=zAD hg;simp only [lq,zAC,oU,zAr];exact ⟨⟨h.hs _ hmem,h.hu _ hmem⟩,fun x hx=>(rJ h.lu).2 (h.so i _ hg x hx)⟩
   · obtain ⟨⟨b1,b2⟩,b3,b4,b5,b6,b7⟩:=h.nt m hm;simp only [d7,dA,zAC,zAe,decide_eq_true_eq];exact ⟨⟨⟨⟨⟨⟨b1,b2⟩,b3⟩,b4⟩,b5⟩,b6⟩,b7⟩
   · simp only [iE,zAe,zAJ,decide_eq_false_iff_not,decide_eq_true_eq];by_cases hk:m.kind=2
     · by_cases hf:m.hold.num≤bq w.floors m.who
       · exact .inl (.inr hf)
       · exact .inr ((rJ h.lu).2 (h.gr m hm hk (by omega)))
     · exact .inl (.inl hk)
   · simp only [ly,zAe,zAC,zAJ,decide_eq_false_iff_not,decide_eq_true_eq,zAr];by_cases hk:m.kind=4
     · obtain ⟨c1,c2⟩:=h.bk m hm hk;refine .inr ⟨c1,fun x hx=>?_⟩;by_cases hp:x.path=m.hold.path
       · have:=c2 x hx hp
         simp [hp]; omega
       · simp [hp]
     · exact .inl hk
theorem bi {w:Wld} (h:aL w=true):∃ t v,aQ w.over=some (t,v)∧OkW v w∧seen w.over=v:=by
 unfold aL at h;cases ho:aQ w.over with
 | none=>rw [ho] at h; cases h
 | some x=>
   rw [ho] at h;exact ⟨x.1,x.2,rfl,xp.1 h,by rw [seen,ho]⟩
theorem kS {w:Wld} {t v:List Ent} (ho:aQ w.over=some (t,v)) (h:OkW v w):aL w=true:=by
 rw [aL,ho];exact xp.2 h
theorem eF {net:List Mes} {x m:Mes} (h:m∈cq net x):m∈net∨m=x:=by
 unfold cq at h;split at h
 · rcases zAt.1 h with h|h
   · exact .inl h
   · exact .inr (List.mem_singleton.1 h)
 · exact .inl h
theorem kj {net:List Mes} {x:Mes} (h:net.length≤12):(cq net x).length≤12:=by
 unfold cq;split
 · rw [zAL,zAw]; omega
 · exact h
theorem l7 {cnt:Int}:∀ {bars:List Lse} {net:List Mes} {m:Mes},m∈dz net cnt bars→m∈net∨∃ l∈bars,m=⟨3,l.who,bE l.path cnt⟩
 | [],net,m,h=>.inl h
 | l :: r,net,m,h=>by
   rcases l7 (bars:=r) (net:=cq net ⟨3,l.who,bE l.path cnt⟩) h with h|⟨k,hk,e⟩
   · rcases eF h with h|h
     · exact .inl h
     · exact .inr ⟨l,by simp,h⟩
   · exact .inr ⟨k,by simp [hk],e⟩
theorem l8 {cnt:Int}:∀ {bars:List Lse} {net:List Mes},net.length≤12→(dz net cnt bars).length≤12
 | [],net,h=>h
 | l :: r,net,h=>l8 (bars:=r) (kj h)
theorem y3 {fl:List Int} {who:Int} (h:who.toNat < fl.length):bq fl who=fl[who.toNat]:=by
 simp [bq,List.getD,zAB h]
theorem qR {fl:List Int} {i who:Int} {x:Int} (hi:0≤i∧i.toNat < fl.length) (hw:0≤who):bq (fl.set i.toNat x) who=if who=i then x else bq fl who:=by
 unfold bq List.getD;rw [zAn];by_cases h:who=i
 · subst h; simp [hi.2]
 · have:¬ i.toNat=who.toNat:=by omega
   simp [this,h]
theorem qS {hs:List (List Hld)} {i who:Int} {x:List Hld} (hi:0≤i∧i.toNat < hs.length) (hw:0≤who):aJ (hs.set i.toNat x) who=if who=i then x else aJ hs who:=by
 unfold aJ List.getD;rw [zAn];by_cases h:who=i
 · subst h; simp [hi.2]
 · have:¬ i.toNat=who.toNat:=by omega
   simp [this,h]
theorem holdsOf_mem {hs:List (List Hld)} {who:Int} (h:who.toNat < hs.length):hs[who.toNat]?=some (aJ hs who):=by
 simp [aJ,List.getD,zAB h]
section
variable {v:List Ent} {w:Wld}
theorem OkW.net (h:OkW v w) {net:List Mes} (hl:net.length≤12) (hm:∀ m∈net,m∈w.net∨((m.kind=1∨m.kind=3)∧(0≤m.who∧m.who≤2)∧ac m.hold.path=true∧0≤m.hold.num∧m.hold.num≤w.count∧m.hold=bE m.hold.path m.hold.num)):OkW v { w with net:=net }:=
 ⟨h.clk,h.cnt,h.hl,h.fl,hl,h.fb,h.ls,h.lu,h.hs,h.hu,h.so,fun m hmm=>by
  rcases hm m hmm with h1|⟨a,b,c,d,e,f⟩
  · exact h.nt m h1
  · exact ⟨by omega,b,c,d,e,.inr f⟩,fun m hmm hk=>by
  rcases hm m hmm with h1|⟨a,_⟩
  · exact h.gr m h1 hk
  · omega,fun m hmm hk=>by
  rcases hm m hmm with h1|⟨a,_⟩
  · exact h.bk m h1 hk
  · omega,h.wt⟩
theorem OkW.less (h:OkW v w) {net:List Mes} (hl:net.length≤12) (hm:∀ m∈net,m∈w.net):OkW v { w with net:=net }:=h.net hl fun m hmm=>.inl (hm m hmm)
theorem So.view {v':List Ent} (hv:∀ l∈w.leases,w.clock < l.til→am v' l.path=am v l.path) {who:Int} {h:Hld} (k:So v w who h):So v' w who h:=by
 rcases k with k|⟨a,b,l,c,d,e,f,g⟩
 · exact .inl k
 · have:=hv l c f
   rw [e] at this;rw [← this] at a b;exact .inr ⟨a,b,l,c,d,e,f,g⟩
theorem OkW.turn (h:OkW v w) {v':List Ent} (hv:∀ l∈w.leases,w.clock < l.til→am v' l.path=am v l.path) (o:Ovr):OkW v' { w with over:=o,waits:=false,op:=op0 }:=
 ⟨h.clk,h.cnt,h.hl,h.fl,h.nl,h.fb,h.ls,h.lu,h.hs,h.hu,fun i l hl x hx=>(h.so i l hl x hx).view hv,h.nt,fun m hm hk hf=>(h.gr m hm hk hf).view hv,h.bk,rfl⟩
theorem Ch {ls:List Lse} {clk:Int} {p:Opn} (hv:af v=true) (hc:(ao v p).2=0) (hb:dT v clk ls p=[]):∀ l∈ls,clk < l.til→am (ao v p).1 l.path=am v l.path:=by
 intro l hl ht;have h1:=List.filter_eq_nil_iff.1 hb l hl;simp only [bV,if_pos hc,ht,decide_true,zBA,decide_eq_true_eq] at h1;rw [fI hv (gM hv p)] at h1;have h2:=Decidable.not_not.1 h1;unfold am;rw [h2]
theorem OkW.waitsOn (h:OkW v w) {p:Opn} (hp:(ao v p).2=0) {net:List Mes} (hl:net.length≤12) (hm:∀ m∈net,m∈w.net∨∃ l∈w.leases,m=⟨3,l.who,bE l.path w.count⟩):OkW v { w with net:=net,waits:=true,op:=p }:=by
 have k:=h.net hl fun m hmm=>by
  rcases hm m hmm with h1|⟨l,h1,rfl⟩
  · exact .inl h1
  · obtain ⟨a,b,c,d,_⟩:=h.ls l h1;refine .inr ⟨.inr rfl,a,b,?_,?_,rfl⟩
    · show 0≤w.count
      omega
    · show w.count≤w.count
      omega
 exact ⟨k.clk,k.cnt,k.hl,k.fl,k.nl,k.fb,k.ls,k.lu,k.hs,k.hu,k.so,k.nt,k.gr,k.bk,hp⟩
theorem y4 {ls:List Lse} {clk:Int} {p:Opn} {l:Lse} (h:l∈dT v clk ls p):l∈ls:=(List.mem_filter.1 h).1
theorem tg {bars:List Lse} (hb:∀ l∈bars,l∈w.leases):∀ m∈dz w.net w.count bars,m∈w.net∨∃ l∈w.leases,m=⟨3,l.who,bE l.path w.count⟩:=fun m hm=>by
 rcases l7 hm with h|⟨l,h1,h2⟩
 · exact .inl h
 · exact .inr ⟨l,hb l h1,h2⟩
theorem OkW.write {t:List Ent} (ho:aQ w.over=some (t,v)) (h:OkW v w) (p:Opn):∃ v',aQ (cD w p).1.over=some (t,v')∧OkW v' (cD w p).1:=by
 have hs:seen w.over=v:=by rw [seen,ho]
 obtain ⟨_,_,_,hv⟩:=bu ho;unfold cD;rw [hs];split
 · exact ⟨v,ho,h⟩
 · rename_i hw;split
   · exact ⟨v,ho,h⟩
   · rename_i hc;have hc:(ao v p).2=0:=Decidable.not_not.1 hc;split
     · rename_i hb;have hop:w.op=op0:=by have:=h.wt; rwa [if_neg hw] at this
       have hwf:w.waits=false:=by simpa using hw
       have k:=h.turn (Ch hv hc hb) (eG w.over p).1;refine ⟨_,(xl ho p).1,?_⟩;have e:({ w with over:=(eG w.over p).1 }:Wld)={ w with over:=(eG w.over p).1,waits:=false,op:=op0 }:=by rw [← hop,← hwf]
       rw [e];exact k
     · exact ⟨v,ho,h.waitsOn hc (l8 h.nl) (tg fun l hl=>y4 hl)⟩
theorem OkW.try_ {t:List Ent} (ho:aQ w.over=some (t,v)) (h:OkW v w):∃ v',aQ (gB w).1.over=some (t,v')∧OkW v' (gB w).1:=by
 have hs:seen w.over=v:=by rw [seen,ho]
 obtain ⟨_,_,_,hv⟩:=bu ho;unfold gB;rw [hs];split
 · exact ⟨v,ho,h⟩
 · rename_i hw;have hw:w.waits=true:=by simpa using hw
   have hc:(ao v w.op).2=0:=by have:=h.wt; rwa [if_pos hw] at this
   split
   · rename_i hb;exact ⟨_,(xl ho w.op).1,h.turn (Ch hv hc hb) (eG w.over w.op).1⟩
   · refine ⟨v,ho,?_⟩;have k:=h.waitsOn hc (l8 h.nl) (tg (bars:=dT v w.clock w.leases w.op) fun l hl=>y4 hl);rw [← hw] at k;exact k
theorem OkW.tick (h:OkW v w):OkW v (lr w):=by
 have hc:=h.clk;have ht:0≤fE w.clock∧fE w.clock≤10000∧w.clock≤fE w.clock:=by unfold fE; split <;> omega
 have so:∀ {who:Int} {x:Hld},So v w who x→So v (lr w) who x:=by
  intro who x k;by_cases hx:x.til≤fE w.clock
  · exact .inl hx
  · rcases k with k|⟨a,b,l,c,d,e,f,g,i⟩
    · omega
    · refine .inr ⟨a,b,l,List.mem_filter.2 ⟨c,?_⟩,d,e,?_,g,i⟩
      · simp only [decide_eq_true_eq]; omega
      · show fE w.clock < l.til
        omega
 exact ⟨⟨ht.1,ht.2.1⟩,h.cnt,h.hl,h.fl,h.nl,h.fb,fun l hl=>by
  obtain ⟨a,b,c,d,e⟩:=h.ls l (List.mem_filter.1 hl).1;refine ⟨a,b,c,d,?_⟩;show l.til≤fE w.clock+5
  omega,h.lu.sublist zBR,h.hs,h.hu,fun i l hl x hx=>so (h.so i l hl x hx),h.nt,fun m hm hk hf=>so (h.gr m hm hk hf),h.bk,h.wt⟩
theorem OkW.ask (h:OkW v w) (hs:seen w.over=v) {who:Int} {p:Bs} (hw:0≤who∧who≤2) (hp:ac p=true):OkW v (jI w who p):=by
 unfold jI;rw [hs];split
 · exact h
 · rename_i hn;have hcn:w.count < 10000:=by
    have:=fun h=>hn (.inr h)
    omega
   have hc:=h.cnt;have lse:∀ l∈jc w.leases who p (w.count+1)++[(⟨who,p,w.count+1,w.clock+5⟩:Lse)],(l∈w.leases∧¬ (l.who=who∧l.path=p))∨l=⟨who,p,w.count+1,w.clock+5⟩:=by
    intro l hl;rcases zAt.1 hl with hl|hl
    · obtain ⟨h1,h2⟩:=List.mem_filter.1 hl;have hln:=(h.ls l h1).2.2.2.1;have h3:decide (l.num≤w.count+1)=true:=decide_eq_true (by omega);refine .inl ⟨h1,fun hx=>?_⟩;simp [aI,hx.1,hx.2,h3] at h2
    · exact .inr (List.mem_singleton.1 hl)
   have so:∀ {i:Int} {x:Hld},x.num≤w.count→So v w i x→So v { w with count:=w.count+1,leases:=jc w.leases who p (w.count+1)++[(⟨who,p,w.count+1,w.clock+5⟩:Lse)],net:=cq w.net ⟨2,who,⟨p,(am v p).isSome,(am v p).getD eZ,w.count+1,w.clock+5⟩⟩ } i x:=by
    intro i x hxn k;rcases k with k|⟨a,b,l,c,d,e,f,g,j⟩
    · exact .inl k
    · by_cases hx:l.who=who∧l.path=p
      · have:=(h.ls l c).2.2.2.2
        refine .inr ⟨a,b,⟨who,p,w.count+1,w.clock+5⟩,by simp,by rw [← d]; exact hx.1.symm,by rw [← e]; exact hx.2.symm,?_,?_,?_⟩
        · show w.clock < w.clock+5
          omega
        · show x.num≤w.count+1
          omega
        · show x.til≤w.clock+5
          omega
      · refine .inr ⟨a,b,l,List.mem_append_left _ (List.mem_filter.2 ⟨c,?_⟩),d,e,f,g,j⟩
        have:aI who p l=false:=by
         simp only [aI,zAq,decide_eq_false_iff_not];by_cases h1:l.who=who
         · exact .inr fun h2=>hx ⟨h1,h2⟩
         · exact .inl h1
        simp [this]
   refine ⟨h.clk,⟨by show 0≤w.count+1; omega,by show w.count+1≤10000; omega⟩,h.hl,h.fl,kj h.nl,fun f hf=>?_,fun l hl=>?_,?_,fun l hl x hx=>?_,h.hu,fun i l hl x hx=>so (h.hs l (zAD hl) x hx).2.2 (h.so i l hl x hx),fun m hm=>?_,fun m hm hk hf=>?_,fun m hm hk=>?_,h.wt⟩
   · have:=h.fb f hf
     refine ⟨this.1,?_⟩;show f≤w.count+1
     omega
   · rcases lse l hl with ⟨h1,_⟩|rfl
     · obtain ⟨a,b,c,d,e⟩:=h.ls l h1;refine ⟨a,b,c,?_,e⟩;show l.num≤w.count+1
       omega
     · refine ⟨hw,hp,?_,?_,?_⟩
       · show 1≤w.count+1
         omega
       · show w.count+1≤w.count+1
         omega
       · show w.clock+5≤w.clock+5
         omega
   · rw [List.pairwise_append];refine ⟨h.lu.sublist zBR,by simp,fun a ha b hb=>?_⟩;rw [List.mem_singleton] at hb;subst hb;rcases lse a (List.mem_append_left _ ha) with ⟨_,h2⟩|h2
     · exact h2
     · subst h2
       have:=(h.ls _ (List.mem_filter.1 ha).1).2.2.2.1
       simp only at this;omega
   · obtain ⟨a,b,c⟩:=h.hs l hl x hx;refine ⟨a,b,?_⟩;show x.num≤w.count+1
     omega
   · rcases eF hm with h1|rfl
     · obtain ⟨a,b,c,d,e,f⟩:=h.nt m h1;refine ⟨a,b,c,d,?_,f⟩;show m.hold.num≤w.count+1
       omega
     · refine ⟨by simp,hw,hp,?_,?_,.inl rfl⟩
       · show 0≤w.count+1
         omega
       · show w.count+1≤w.count+1
         omega
   · rcases eF hm with h1|rfl
     · exact so (h.nt m h1).2.2.2.2.1 (h.gr m h1 hk hf)
     · refine .inr ⟨rfl,rfl,⟨who,p,w.count+1,w.clock+5⟩,by simp,rfl,rfl,?_,?_,?_⟩
       · show w.clock < w.clock+5
         omega
       · show w.count+1≤w.count+1
         omega
       · show w.clock+5≤w.clock+5
         omega
   · rcases eF hm with h1|rfl
     · exact h.bk m h1 hk
     · simp at hk
theorem oV {α:Type} {l:List α} {i:Nat} {x y:α} (h:y∈l.set i x):y=x∨y∈l:=by
 rcases zBC h with h|h
 · exact .inr h
 · exact .inl h
theorem takeH_mem {l:List Hld} {h x:Hld} (k:x∈cC l h):x∈l∨(x=h∧l.any (fun y=>decide (y.path=h.path) && decide (h.num≤y.num))=false):=by
 unfold cC at k;split at k
 · exact .inl k
 · rename_i hn;rcases zAt.1 k with k|k
   · exact .inl (List.mem_filter.1 k).1
   · exact .inr ⟨List.mem_singleton.1 k,by simpa using hn⟩
theorem AZ {l:List Hld} {h:Hld} (k:l.Pairwise fun a b=>a.path≠b.path):(cC l h).Pairwise fun a b=>a.path≠b.path:=by
 unfold cC;split
 · exact k
 · rw [List.pairwise_append];refine ⟨k.sublist zBR,by simp,fun a ha b hb=>?_⟩;rw [List.mem_singleton] at hb;subst hb
   have:=(List.mem_filter.1 ha).2
   simpa using this
theorem OkW.grant (h:OkW v w) {m:Mes} (hm:m∈w.net) (hk:m.kind=2) {net:List Mes} (hl:net.length≤12) (hn:∀ x∈net,x∈w.net):OkW v (gx { w with net:=net } m.who m.hold):=by
 unfold gx;split
 · rename_i hc;obtain ⟨_,hw,hp,h0,h1,_⟩:=h.nt m hm;have hlt:m.who.toNat < w.holds.length:=by rw [h.hl]; omega
   have hget:=holdsOf_mem (hs:=w.holds) hlt;have hmem:=zAD hget;have hS:=h.gr m hm hk hc.2;refine ⟨h.clk,h.cnt,by show (w.holds.set _ _).length=3; rw [zAd]; exact h.hl,h.fl,hl,h.fb,h.ls,h.lu,fun l hl x hx=>?_,fun l hl=>?_,fun i l hl x hx=>?_,fun x hx=>h.nt x (hn x hx),fun x hx=>h.gr x (hn x hx),fun x hx hk4=>?_,h.wt⟩
   · rcases oV hl with rfl|hl
     · rcases takeH_mem hx with hx|⟨rfl,_⟩
       · exact h.hs _ hmem x hx
       · exact ⟨hp,h0,h1⟩
     · exact h.hs l hl x hx
   · rcases oV hl with rfl|hl
     · exact AZ (h.hu _ hmem)
     · exact h.hu l hl
   · have hl':(w.holds.set m.who.toNat (cC (aJ w.holds m.who) m.hold))[i]?=some l:=hl;rw [zAn] at hl';split at hl'
     · rename_i hi;subst hi;simp only [hlt,if_true,zAZ] at hl';subst hl';have e:((m.who.toNat:Nat):Int)=m.who:=Int.toNat_of_nonneg hw.1;rcases takeH_mem hx with hx|⟨rfl,_⟩
       · exact h.so _ _ hget x hx
       · rw [e]; exact hS
     · exact h.so i l hl' x hx
   · obtain ⟨c1,c2⟩:=h.bk x (hn x hx) hk4;have hxw:=(h.nt x (hn x hx)).2.1;refine ⟨c1,fun y hy hyp=>?_⟩;have hy':y∈aJ (w.holds.set m.who.toNat (cC (aJ w.holds m.who) m.hold)) x.who:=hy;rw [qS ⟨hw.1,hlt⟩ hxw.1] at hy';split at hy'
     · rename_i he;rcases takeH_mem hy' with hy'|⟨rfl,_⟩
       · rw [← he] at hy';exact c2 y hy' hyp
       · have hc2:bq w.floors m.who < m.hold.num:=hc.2;rw [he] at c1;omega
     · exact c2 y hy' hyp
 · exact h.less hl hn
theorem OkW.recall (h:OkW v w) {m:Mes} (hm:m∈w.net) {net:List Mes} (hl:net.length≤12) (hn:∀ x∈net,x∈w.net):OkW v (fd { w with net:=net } m.who m.hold.path m.hold.num):=by
 obtain ⟨_,hw,hp,h0,h1,_⟩:=h.nt m hm;have hlt:m.who.toNat < w.holds.length:=by rw [h.hl]; omega
 have hlf:m.who.toNat < w.floors.length:=by rw [h.fl]; omega
 have hget:=holdsOf_mem (hs:=w.holds) hlt;have hmem:=zAD hget;have hf0:bq w.floors m.who∈w.floors:=by rw [y3 hlf]; exact zAb _
 have lv:∀ {x:Hld},x∈bW (aJ w.holds m.who) m.hold.path m.hold.num→x∈aJ w.holds m.who∧(x.path=m.hold.path→m.hold.num < x.num):=by
  intro x hx;obtain ⟨a,b⟩:=List.mem_filter.1 hx;refine ⟨a,fun e=>?_⟩;simp [e] at b;exact b
 have fl2:∀ {i:Int},0≤i→bq w.floors i≤bq (w.floors.set m.who.toNat (max (bq w.floors m.who) m.hold.num)) i:=by
  intro i hi;rw [qR ⟨hw.1,hlf⟩ hi];split
  · rename_i e; subst e; omega
  · omega
 have nm:∀ {x:Mes},x∈(fd { w with net:=net } m.who m.hold.path m.hold.num).net→x∈w.net∨x=⟨4,m.who,bE m.hold.path m.hold.num⟩:=by
  intro x hx;rcases eF hx with hx|hx
  · exact .inl (hn x hx)
  · exact .inr hx
 refine ⟨h.clk,h.cnt,by show (w.holds.set _ _).length=3; rw [zAd]; exact h.hl,by show (w.floors.set _ _).length=3; rw [zAd]; exact h.fl,kj hl,fun f hf=>?_,h.ls,h.lu,fun l hl x hx=>?_,fun l hl=>?_,fun i l hl x hx=>?_,fun x hx=>?_,fun x hx hk hf=>?_,fun x hx hk=>?_,h.wt⟩
 · have hf':f∈w.floors.set m.who.toNat (max (bq w.floors m.who) m.hold.num):=hf
   have:=h.fb _ hf0
   rcases oV hf' with rfl|hf'
   · show 0≤max (bq w.floors m.who) m.hold.num∧max (bq w.floors m.who) m.hold.num≤w.count
     omega
   · exact h.fb f hf'
 · rcases oV hl with rfl|hl
   · exact h.hs _ hmem x (lv hx).1
   · exact h.hs l hl x hx
 · rcases oV hl with rfl|hl
   · exact (h.hu _ hmem).sublist zBR
   · exact h.hu l hl
 · have hl':(w.holds.set m.who.toNat (bW (aJ w.holds m.who) m.hold.path m.hold.num))[i]?=some l:=hl;rw [zAn] at hl';split at hl'
   · rename_i hi;subst hi;simp only [hlt,if_true,zAZ] at hl';subst hl';exact h.so _ _ hget x (lv hx).1
   · exact h.so i l hl' x hx
 · rcases nm hx with hx|rfl
   · exact h.nt x hx
   · exact ⟨by simp,hw,hp,h0,h1,.inr rfl⟩
 · rcases nm hx with hx|rfl
   · exact h.gr x hx hk (Int.lt_of_le_of_lt (fl2 (h.nt x hx).2.1.1) hf)
   · simp at hk
 · have set:aJ (fd { w with net:=net } m.who m.hold.path m.hold.num).holds x.who=if x.who=m.who then bW (aJ w.holds m.who) m.hold.path m.hold.num else aJ w.holds x.who:=by
     refine qS ⟨hw.1,hlt⟩ ?_;rcases nm hx with hx|rfl
     · exact (h.nt x hx).2.1.1
     · exact hw.1
   rw [set];rcases nm hx with hx|rfl
   · obtain ⟨c1,c2⟩:=h.bk x hx hk;refine ⟨Int.le_trans c1 (fl2 (h.nt x hx).2.1.1),fun y hy hyp=>?_⟩;split at hy
     · rename_i e;refine c2 y ?_ hyp;rw [e];exact (lv hy).1
     · exact c2 y hy hyp
   · refine ⟨?_,fun y hy hyp=>?_⟩
     · show m.hold.num≤bq (w.floors.set m.who.toNat (max (bq w.floors m.who) m.hold.num)) m.who
       rw [qR ⟨hw.1,hlf⟩ hw.1,if_pos rfl];omega
     · simp only [if_true] at hy;exact (lv hy).2 hyp
theorem OkW.back (h:OkW v w) {m:Mes} (hm:m∈w.net) (hk:m.kind=4) {net:List Mes} (hl:net.length≤12) (hn:∀ x∈net,x∈w.net):OkW v (lx { w with net:=net } m.who m.hold.path m.hold.num):=by
 obtain ⟨_,hw,_⟩:=h.nt m hm;obtain ⟨c1,c2⟩:=h.bk m hm hk;have so:∀ {i:Int} {x:Hld},(i=m.who→x.path=m.hold.path→m.hold.num < x.num)→So v w i x→So v (lx { w with net:=net } m.who m.hold.path m.hold.num) i x:=by
  intro i x hx k;rcases k with k|⟨a,b,l,c,d,e,f,g,j⟩
  · exact .inl k
  · refine .inr ⟨a,b,l,List.mem_filter.2 ⟨c,?_⟩,d,e,f,g,j⟩;by_cases hq:l.who=m.who∧l.path=m.hold.path
    · have:=hx (by rw [← d]; exact hq.1) (by rw [← e]; exact hq.2)
      have h2:¬ l.num≤m.hold.num:=by omega
      simp [h2]
    · have:aI m.who m.hold.path l=false:=by
        simp only [aI,zAq,decide_eq_false_iff_not];by_cases h1:l.who=m.who
        · exact .inr fun h2=>hq ⟨h1,h2⟩
        · exact .inl h1
      simp [this]
 refine ⟨h.clk,h.cnt,h.hl,h.fl,hl,h.fb,fun l hl=>h.ls l (List.mem_filter.1 hl).1,h.lu.sublist zBR,h.hs,h.hu,fun i l hl x hx=>?_,fun x hx=>h.nt x (hn x hx),fun x hx hk2 hf=>?_,fun x hx=>h.bk x (hn x hx),h.wt⟩
 · refine so (fun hi hp=>?_) (h.so i l hl x hx);refine c2 x ?_ hp
   have:m.who.toNat=i:=by omega
   have hget:=holdsOf_mem (hs:=w.holds) (who:=m.who) (by rw [h.hl]; omega);rw [this] at hget
   have:=zAY (hget.symm.trans hl)
   rw [this];exact hx
 · refine so (fun hi hp=>?_) (h.gr x (hn x hx) hk2 hf);have hf':bq w.floors x.who < x.hold.num:=hf;rw [hi] at hf';omega
theorem OkW.copy (h:OkW v w) {m:Mes} (hm:m∈w.net):OkW v { w with net:=cq w.net m }:=h.less (kj h.nl) fun x hx=>by
 rcases eF hx with hx|rfl
 · exact hx
 · exact hm
theorem OkW.come {t:List Ent} (ho:aQ w.over=some (t,v)) (h:OkW v w) {m:Mes} (hm:m∈w.net) {net:List Mes} (hl:net.length≤12) (hn:∀ x∈net,x∈w.net) :
   (dU { w with net:=net } m).over=w.over∧OkW v (dU { w with net:=net } m):=by
 have k:=h.less hl hn;have hs:seen w.over=v:=by rw [seen,ho]
 obtain ⟨_,hw,hp,_⟩:=h.nt m hm;unfold dU;split
 · refine ⟨?_,k.ask hs hw hp⟩;unfold jI;split <;> rfl
 · split
   · rename_i hk;refine ⟨?_,h.grant hm hk hl hn⟩;unfold gx;split <;> rfl
   · split
     · exact ⟨rfl,h.recall hm hl hn⟩
     · split
       · rename_i hk;exact ⟨rfl,h.back hm hk hl hn⟩
       · exact ⟨rfl,k⟩
theorem OkW.netD {t:List Ent} (ho:aQ w.over=some (t,v)) (h:OkW v w) (k pos:Int):(ki w k pos).1.over=w.over∧OkW v (ki w k pos).1:=by
 unfold ki;split
 · exact ⟨rfl,h⟩
 · split
   · exact ⟨rfl,h⟩
   · rename_i m hm;have hmem:=zAD hm;have hl:(w.net.eraseIdx pos.toNat).length≤12:=by
      have:=h.nl
      rw [zAu];split <;> omega
     have hn:∀ x∈w.net.eraseIdx pos.toNat,x∈w.net:=fun x hx=>List.mem_of_mem_eraseIdx hx;split
     · exact ⟨rfl,h.copy hmem⟩
     · split
       · exact h.come ho hmem hl hn
       · exact ⟨rfl,h.less hl hn⟩
theorem OkW.do_ {t:List Ent} (ho:aQ w.over=some (t,v)) (h:OkW v w) (e:Evn):∃ v',aQ (wDo w e).1.over=some (t,v')∧OkW v' (wDo w e).1:=by
 unfold wDo;split
 · split
   · rename_i hb;simp only [dA,zAC,decide_eq_true_eq] at hb;refine ⟨v,ho,h.net (kj h.nl) fun m hm=>?_⟩;rcases eF hm with hm|rfl
     · exact .inl hm
     · refine .inr ⟨.inl rfl,hb.1,hb.2,?_,?_,rfl⟩
       · exact Int.le_refl _
       · exact h.cnt.1
   · exact ⟨v,ho,h⟩
 · split
   · exact h.write ho e.op
   · split
     · exact h.try_ ho
     · split
       · exact ⟨v,ho,h.tick⟩
       · split
         · obtain ⟨a,b⟩:=h.netD ho e.kind e.pos;exact ⟨v,by rw [a]; exact ho,b⟩
         · exact ⟨v,ho,h⟩
end
theorem F4 {o:Ovr} {t v:List Ent} (ho:aQ o=some (t,v)):OkW v (av o):=by
 refine ⟨by simp [av],by simp [av],rfl,rfl,by simp [av],?_,by simp [av],by simp [av],?_,?_,?_,by simp [av],by simp [av],by simp [av],rfl⟩
 · intro f hf;simp [av] at hf;subst hf;simp [av]
 · intro l hl;simp [av] at hl;subst hl
   simp
 · intro l hl;simp [av] at hl;subst hl
   simp
 · intro i l hl x hx
   have:l∈(av o).holds:=zAD hl
   simp [av] at this;subst this;simp at hx
theorem A2 {w:Wld} (h:aL w=true) (e:Evn):aL (wDo w e).1=true:=by
 obtain ⟨t,v,h1,h2,_⟩:=bi h;obtain ⟨v',h3,h4⟩:=h2.do_ h1 e;exact kS h3 h4
theorem jx {o:Ovr} (h:fk o=true):aL (av o)=true:=by
 unfold fk at h;cases ho:aQ o with
 | none=>rw [ho] at h; cases h
 | some x=>exact kS (t:=x.1) (v:=x.2) ho (F4 ho)
end Go.Par
