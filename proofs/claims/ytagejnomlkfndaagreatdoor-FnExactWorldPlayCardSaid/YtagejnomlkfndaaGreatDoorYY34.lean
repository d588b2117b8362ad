/- Texts of this claim, set close: lemmas and contracts. -/
import Derived.Test.YtagejnomlkfndaaGreatDoorYY31
set_option linter.unusedSimpArgs false
set_option linter.unusedVariables false
set_option maxHeartbeats 1000000
set_option maxRecDepth 10000
namespace Go.Proofs.YtagejnomlkfndaaGreatDoor
open Go Go.RowKit Go.Ab Go.Par
variable {m:Int}
theorem Fs (o:Ovr) (t x:List Ent) (hb:gM o) (ht:eC o=some t) (hx:aq x=true):Con (E m) 123 0 [.agg o.c,.sl (x.map Ent.c)] [] (.agg (⟨o.base,o.layers,eA t x⟩:Ovr).c) []:=by
 have c1:=oV (m:=m) o hb;rw [ht] at c1;have c2:=xb (m:=m) t x (gz ht).2.2.2 hx;refine G0 Tryz.func123 ?_;repeat' first|refine Ra ⟨?_⟩|refine R0 c1 ⟨?_⟩|refine R0 c2 ⟨?_⟩|refine Rd (fun h=>⟨?_⟩) fun h=>⟨?_⟩|refine Rb ⟨?_⟩|fail
 exact Rz
theorem kw (o:Ovr) (p:Opn) (hb:gM o) (hp:jc 1073741823 p):Con (E m) 46 0 [.agg o.c,.agg p.c] [] (.tup [.agg (dE o p).1.c,.k .i64 (dE o p).2]) []:=by
 have c1:=gY (m:=m) o hb;have c2:=fD (m:=m) o hb;have c3:=jI (m:=m) o hb;unfold dE;unfold fF at c1;cases h:bv o with
 | none=>
   rw [h] at c1;refine G0 Tryz.func46 ?_;repeat' first|refine Ra ⟨?_⟩|refine R0 c1 ⟨?_⟩|refine Rd (fun h=>⟨?_⟩) fun h=>⟨?_⟩|refine Rb ⟨?_⟩|fail
   exact Rz
 | some x=>
   obtain ⟨t,v⟩:=x;rw [h] at c1;obtain ⟨_,_,k3,k4⟩:=ce h;obtain ⟨g1,g2,_⟩:=dz.1 h;have hv:gi o=some v:=by unfold gi; rw [g1]; exact g2
   rw [hv] at c2;have hvl:=aN k4;have c4:=fT (m:=m) v p (by omega) (fun e he=>by have:=jF (gE k4 e he); omega) hp.1 hp.2.1 hp.2.2;have c5:=Fs (m:=m) o t (aJ v p).1 hb g1 (gS k4 p);simp only;by_cases h0:(aJ v p).2=0
   · rw [if_pos h0];rw [h0] at c4 ⊢;generalize (aJ v p).1=y at c4 c5 ⊢;refine G0 Tryz.func46 ?_;repeat' first|refine Ra ⟨?_⟩|refine R0 c1 ⟨?_⟩|refine R0 c2 ⟨?_⟩|refine R0 c3 ⟨?_⟩|refine Rk [] 1 c4 ⟨?_⟩|refine R0 c5 ⟨?_⟩|refine Rd (fun h=>⟨?_⟩) fun h=>⟨?_⟩|refine Rb ⟨?_⟩|fail
     exact Rz
   · rw [if_neg h0];generalize aJ v p=Y at c4 h0 ⊢;refine G0 Tryz.func46 ?_;repeat' first|refine Ra ⟨?_⟩|refine R0 c1 ⟨?_⟩|refine R0 c2 ⟨?_⟩|refine R0 c3 ⟨?_⟩|refine Rk [] 1 c4 ⟨?_⟩|refine Rd (fun h=>⟨?_⟩) fun h=>⟨?_⟩|refine Rb ⟨?_⟩|fail
     exact Rz
theorem sLogOver_con (o:Ovr) (ops:List Opn) (hb:gM o) (ho:∀ p∈ops,jc 1073741823 p) (hl:ops.length≤1048576) :
   Con (E m) 9 0 [.agg o.c,.sl (ops.map Opn.c)] [] (.tup [.agg (logOver o ops).1.c,.sl (ck (logOver o ops).2)]) []:=by
 have e1:(ops.map Opn.c).length=ops.length:=zAA ..;have c1:=gY (m:=m) o hb;have c2:=jI (m:=m) o hb;rcases over_cases o ops with ⟨t,v,hg,h1,h2,h3⟩|⟨hg,hbad⟩
 · have hx:logOver o ops=overRun o ops:=by rw [logOver,hg]; rfl
   rw [hx];rw [h1] at c1;refine G0 Tryz.func9 ?_;repeat' first|refine Ra ⟨?_⟩|refine R0 c1 ⟨?_⟩|refine R0 c2 ⟨?_⟩|refine Rd (fun h=>⟨?_⟩) fun h=>⟨?_⟩|refine Rb ⟨?_⟩|fail
   refine Cd.loop2 (fun mq tm S nx=>∃ (i:Nat) (x:Ovr) (v:List Ent) (cs:List Int),mq=(ops.length - i)∧tm=[(1,.sl (ops.map Opn.c)),(4,.bp 0 0),(6,.own 1),(7,.bp 2 0),(8,.k .i64 i)]∧S=[(0,.box 34 [.nil,.nil,.nil]),(1,.own 3 (ck cs)),(2,.box 34 x.c)]∧nx=3∧(i≤ops.length)∧(bv x=some (t,v))∧(overRun o ops=((overRun x (ops.drop i)).1,cs++(overRun x (ops.drop i)).2))∧(cs.length=i)) ?_ ?_
   · refine la [1,4,6,7,8] ?_
     conv=>whnf
     refine ⟨rfl,rfl,_,0,o,v,[],rfl,rfl,rfl,rfl,by omega,h2,(by simp),by simp⟩
   · rintro mq tm S nx ⟨i,x,v,cs,hn,rfl,rfl,rfl,hi,hok,hrun,hcl⟩;have e2:(ck cs).length=cs.length:=zAA ..;rcases av ops i hi with ⟨rfl,hd⟩|⟨p,r,hp',hd,hr,hlt⟩
     · rw [hd] at hrun;have hq:overRun o ops=(x,cs):=by rw [hrun]; simp [overRun]
       rw [hq];repeat' first|refine Rx ⟨?_⟩|refine Rd (fun h=>⟨?_⟩) fun h=>⟨?_⟩|fail
       exact Rz
     · rw [hd,overRun_cons] at hrun;obtain ⟨d1,_,_,_⟩:=yD hok p;have c3:=kw (m:=m) x p (Ei hok) (ho p (zAD hp'));generalize dE x p=Y at c3 hrun d1;repeat' first|refine Ra ⟨?_⟩|refine R0 c3 ⟨?_⟩|refine Rd (fun h=>⟨?_⟩) fun h=>⟨?_⟩|refine Rb ⟨?_⟩|fail
       refine .here ⟨mq - 1,by omega,?_⟩;refine la [1,4,6,7,8] ?_
       conv=>whnf
       refine ⟨rfl,rfl,i+1,Y.1,(aJ v p).1,cs++[Y.2],(by omega),rfl,?_,rfl,by omega,d1,(by rw [hrun,hr]; simp),(by simp; omega)⟩;rw [← ints_snoc];rfl
 · have hx:logOver o ops=(ov0,[]):=by rw [logOver,hg]; rfl
   rw [hx];rcases hbad with h1|⟨h1,h2⟩
   · rw [h1] at c1;refine G0 Tryz.func9 ?_;repeat' first|refine Ra ⟨?_⟩|refine R0 c1 ⟨?_⟩|refine Rd (fun h=>⟨?_⟩) fun h=>⟨?_⟩|refine Rb ⟨?_⟩|fail
     exact Rz
   · rw [h1] at c1;refine G0 Tryz.func9 ?_;repeat' first|refine Ra ⟨?_⟩|refine R0 c1 ⟨?_⟩|refine Rd (fun h=>⟨?_⟩) fun h=>⟨?_⟩|refine Rb ⟨?_⟩|fail
     exact Rz
end Go.Proofs.YtagejnomlkfndaaGreatDoor
