/- Texts of this claim, set close: lemmas and contracts. -/
import Derived.Test.YtagejnomlkfndaaGreatDoorYY39
import Derived.Test.YtagejnomlkfndaaGreatDoorYY53
set_option linter.unusedSimpArgs false
set_option linter.unusedVariables false
set_option maxHeartbeats 1000000
set_option maxRecDepth 10000
namespace Go.Proofs.YtagejnomlkfndaaGreatDoor
open Go Go.RowKit Go.Ab Go.Par
variable {m:Int}
theorem zh (w:Wld) (e:Evn) (hb:dO w) (hl:∀ l∈w.holds,l.length≤1048575) (he:ql e):Con (E m) 22 0 [.agg w.c,.agg e.c] [] (.tup [.agg (bX w e).1.c,.k .i64 (bX w e).2]) []:=by
 have c1:=l5 (m:=m) w hb;by_cases hok:ba w=true
 rotate_left
 · have hok:ba w=false:=by simpa using hok
   rw [hok] at c1;have hx:bX w e=(w0,1):=by rw [bX,hok]; rfl
   rw [hx];refine G0 Tryz.func22 ?_;repeat' first|refine Ra ⟨?_⟩|refine R0 c1 ⟨?_⟩|refine Rd (fun h=>⟨?_⟩) fun h=>⟨?_⟩|refine Rb ⟨?_⟩|fail
   exact Rz
 · rw [hok] at c1;have hx:bX w e=wDo w e:=by rw [bX,if_pos hok]
   rw [hx];obtain ⟨t,v,ho,hw,hs⟩:=bB hok;obtain ⟨h0,h1,h2,hh⟩:=Bb hw.hl;have c2:=vG (m:=m) w hb h0 h1 h2 hh;have hep:=he.path;obtain ⟨kind,who,p,op,pos⟩:=e;simp only at hep;unfold wDo;by_cases k1:kind=1
   · simp only [if_pos k1];subst k1;have c4:=nv (m:=m) who;have c5:=cu (m:=m) p (by omega);by_cases hwp:dJ who=true∧ah p=true
     · rw [hwp.1] at c4;rw [hwp.2] at c5;have q:(dJ who && ah p)=true:=by rw [hwp.1,hwp.2]; rfl
       simp only [q,if_true];have c3:=fc (m:=m) w [anH h0,anH h1,anH h2] ⟨1,who,aZ p 0⟩ hb.nl h0 h1 h2 rfl;rw [dV (w:={ w with net:=bZ w.net ⟨1,who,aZ p 0⟩ }) hh]
       refine G0 Tryz.func22 ?_;repeat' first|refine Ra ⟨?_⟩|refine R0 c1 ⟨?_⟩|refine Rk [] 4 c2 ⟨?_⟩|refine R0 c4 ⟨?_⟩|refine R0 c5 ⟨?_⟩|refine Rk [7,3,4,5,6] 4 c3 ⟨?_⟩|refine Rd (fun h=>⟨?_⟩) fun h=>⟨?_⟩|refine Rb ⟨?_⟩|fail
       exact Rz
     · have q:(dJ who && ah p)=false:=by rw [← zAZ]; simpa using hwp
       rw [q];simp only [zAF,if_false];rw [dV hh] at c1 c2 ⊢;by_cases hw1:dJ who=true
       · have hp1:ah p=false:=by rw [← zAZ]; exact fun h=>hwp ⟨hw1,h⟩
         rw [hw1] at c4;rw [hp1] at c5;refine G0 Tryz.func22 ?_;repeat' first|refine Ra ⟨?_⟩|refine R0 c1 ⟨?_⟩|refine Rk [] 4 c2 ⟨?_⟩|refine R0 c4 ⟨?_⟩|refine R0 c5 ⟨?_⟩|refine Rd (fun h=>⟨?_⟩) fun h=>⟨?_⟩|refine Rb ⟨?_⟩|fail
         exact Rz
       · have hw1:dJ who=false:=by simpa using hw1
         rw [hw1] at c4;refine G0 Tryz.func22 ?_;repeat' first|refine Ra ⟨?_⟩|refine R0 c1 ⟨?_⟩|refine Rk [] 4 c2 ⟨?_⟩|refine R0 c4 ⟨?_⟩|refine Rd (fun h=>⟨?_⟩) fun h=>⟨?_⟩|refine Rb ⟨?_⟩|fail
         exact Rz
   · rw [if_neg k1];by_cases k2:kind=2
     · simp only [if_pos k2];subst k2;have c3:=FC (m:=m) w [anH h0,anH h1,anH h2] op hb he.op hok h0 h1 h2 hh rfl;have hW:(bQ w op).1.holds=[h0,h1,h2]:=(jA w op).trans hh;rw [dV hW];generalize bQ w op=W at c3;refine G0 Tryz.func22 ?_;repeat' first|refine Ra ⟨?_⟩|refine R0 c1 ⟨?_⟩|refine Rk [] 4 c2 ⟨?_⟩|refine Rk [7,3,4,5,6] 4 c3 ⟨?_⟩|refine Rd (fun h=>⟨?_⟩) fun h=>⟨?_⟩|refine Rb ⟨?_⟩|fail
       exact Rz
     · rw [if_neg k2];by_cases k3:kind=3
       · simp only [if_pos k3];subst k3;have c3:=Ej (m:=m) w [anH h0,anH h1,anH h2] hb hok h0 h1 h2 hh rfl;have hW:(eI w).1.holds=[h0,h1,h2]:=(mc w).trans hh;rw [dV hW];generalize eI w=W at c3;refine G0 Tryz.func22 ?_;repeat' first|refine Ra ⟨?_⟩|refine R0 c1 ⟨?_⟩|refine Rk [] 4 c2 ⟨?_⟩|refine Rk [7,3,4,5,6] 4 c3 ⟨?_⟩|refine Rd (fun h=>⟨?_⟩) fun h=>⟨?_⟩|refine Rb ⟨?_⟩|fail
         exact Rz
       · rw [if_neg k3];by_cases k4:kind=4
         · simp only [if_pos k4];subst k4;have c3:=Hn (m:=m) w [anH h0,anH h1,anH h2] hw.clk hb.ll h0 h1 h2 rfl;have hW:(ix w).holds=[h0,h1,h2]:=hh;rw [dV hW];generalize ix w=W at c3;refine G0 Tryz.func22 ?_;repeat' first|refine Ra ⟨?_⟩|refine R0 c1 ⟨?_⟩|refine Rk [] 4 c2 ⟨?_⟩|refine Rk [7,3,4,5,6] 4 c3 ⟨?_⟩|refine Rd (fun h=>⟨?_⟩) fun h=>⟨?_⟩|refine Rb ⟨?_⟩|fail
           exact Rz
         · rw [if_neg k4];by_cases k5:kind=5∨kind=6∨kind=7
           · simp only [if_pos k5];obtain ⟨g0,g1,g2,hW,c3⟩:=Bp (m:=m) w kind pos hb hok k5 hl h0 h1 h2 hh;rw [dV hW];generalize jb w kind pos=W at c3;obtain rfl|rfl|rfl:=k5
             · refine G0 Tryz.func22 ?_;repeat' first|refine Ra ⟨?_⟩|refine R0 c1 ⟨?_⟩|refine Rk [] 4 c2 ⟨?_⟩|refine Rk [7,3,4,5,6] 4 c3 ⟨?_⟩|refine Rd (fun h=>⟨?_⟩) fun h=>⟨?_⟩|refine Rb ⟨?_⟩|fail
               exact Rz
             · refine G0 Tryz.func22 ?_;repeat' first|refine Ra ⟨?_⟩|refine R0 c1 ⟨?_⟩|refine Rk [] 4 c2 ⟨?_⟩|refine Rk [7,3,4,5,6] 4 c3 ⟨?_⟩|refine Rd (fun h=>⟨?_⟩) fun h=>⟨?_⟩|refine Rb ⟨?_⟩|fail
               exact Rz
             · refine G0 Tryz.func22 ?_;repeat' first|refine Ra ⟨?_⟩|refine R0 c1 ⟨?_⟩|refine Rk [] 4 c2 ⟨?_⟩|refine Rk [7,3,4,5,6] 4 c3 ⟨?_⟩|refine Rd (fun h=>⟨?_⟩) fun h=>⟨?_⟩|refine Rb ⟨?_⟩|fail
               exact Rz
           · simp only [if_neg k5];have k6:¬ kind=5:=fun h=>k5 (.inl h);have k7:¬ kind=6:=fun h=>k5 (.inr (.inl h));have k8:¬ kind=7:=fun h=>k5 (.inr (.inr h));rw [dV hh] at c1 c2 ⊢;refine G0 Tryz.func22 ?_;repeat' first|refine Ra ⟨?_⟩|refine R0 c1 ⟨?_⟩|refine Rk [] 4 c2 ⟨?_⟩|refine Rd (fun h=>⟨?_⟩) fun h=>⟨?_⟩|refine Rb ⟨?_⟩|fail
             exact Rz
end Go.Proofs.YtagejnomlkfndaaGreatDoor
