/- Texts of this claim, set close: lemmas and contracts. -/
import Derived.Test.YtagejnomlkfndaaGreatDoorYY28
import Derived.Test.YtagejnomlkfndaaGreatDoorYY9
set_option linter.unusedSimpArgs false
set_option linter.unusedVariables false
set_option maxHeartbeats 1000000
set_option maxRecDepth 10000
namespace Go.Proofs.YtagejnomlkfndaaGreatDoor
open Go Go.RowKit Go.Ab Go.Par
variable {m:Int}
def szAllO:List Opn→Int→Int
 | [],n=>n
 | e :: r,n=>if mL n e.path.length e.tgt.length e.data.length < 0 then -1 else szAllO r (mL n e.path.length e.tgt.length e.data.length)
def szOps (es:List Opn) (n:Int):Int:=if n - es.length < 0 then -1 else szAllO es (n - es.length)
theorem less3_le (n:Int) (p t d:Nat) (h:0≤n):mL n p t d≤n:=by
 rcases z8 n p t d with h'|h' <;> omega
theorem szAllO_or:∀ (es:List Opn) (n:Int),szAllO es n < 0∨∀ e∈es,(e.path.length:Int)+e.tgt.length+e.data.length≤n
 | [],n=>.inr (by simp)
 | e :: r,n=>by
   unfold szAllO;split
   · left; omega
   · rename_i h;rcases z8 n e.path.length e.tgt.length e.data.length with h1|⟨h1,h2⟩
     · exact absurd h1 h
     · rcases szAllO_or r (mL n e.path.length e.tgt.length e.data.length) with h3|h3
       · exact .inl h3
       · refine .inr fun x hx=>?_;rcases List.mem_cons.1 hx with rfl|hx
         · omega
         · have:=h3 x hx
           omega
theorem szAllO_le:∀ (es:List Opn) (n:Int),0≤n→szAllO es n≤n
 | [],n,_=>Int.le_refl n
 | e :: r,n,h=>by
   unfold szAllO;split
   · omega
   · have h1:=less3_le n e.path.length e.tgt.length e.data.length h;have h2:=szAllO_le r (mL n e.path.length e.tgt.length e.data.length) (by omega);omega
abbrev bigO (es:List Opn):Prop:=es.length≤9223372036854775807∧∀ e∈es,e.path.length≤9223372036854775807∧e.tgt.length≤9223372036854775807∧e.data.length≤9223372036854775807
theorem szOpS_con (es:List Opn) (n:Int) (hn:0≤n∧n≤1048576) (h:bigO es) :
   Con (E m) 8 0 [.sl (es.map Opn.c),.k .i64 n] [] (.k .i64 (szOps es n)) []:=by
 have hl:=h.1;have hb:=h.2;have e1:(es.map Opn.c).length=es.length:=zAA ..;unfold szOps;by_cases h0:n - (es.length:Int) < 0
 · rw [if_pos h0];refine G0 Tryz.func8 ?_;repeat' first|refine Rx ⟨?_⟩|refine Rd (fun h=>⟨?_⟩) fun h=>⟨?_⟩|fail
   exact Rf
 · rw [if_neg h0];refine G0 Tryz.func8 ?_;repeat' first|refine Rx ⟨?_⟩|refine Rd (fun h=>⟨?_⟩) fun h=>⟨?_⟩|fail
   refine Cd.loop2 (fun mq tm S nx=>∃ (i:Nat) (l:Int),mq=(es.length - i)∧tm=[(0,.sl (es.map Opn.c)),(1,.k .i64 l),(5,.k .i64 i)]∧S=[]∧nx=0∧(i≤es.length)∧(0≤l∧l≤1048576)∧(szAllO es (n - es.length)=szAllO (es.drop i) l)) ?_ ?_
   · refine la [0,1,5] ?_
     conv=>whnf
     refine ⟨rfl,rfl,_,0,n - ((es.map Opn.c).length:Int),rfl,rfl,rfl,rfl,by omega,by omega,(by rw [e1]; rfl)⟩
   · rintro mq tm S nx ⟨i,l,hn,rfl,rfl,rfl,hi,h1,ha⟩;rcases av es i hi with ⟨rfl,hd⟩|⟨x,r,hx',hd,hr,hlt⟩
     · rw [hd] at ha;rw [ha];repeat' first|refine Rx ⟨?_⟩|refine Rd (fun h=>⟨?_⟩) fun h=>⟨?_⟩|fail
       exact Rf
     · have hbe:=hb x (zAD hx');rw [hd,szAllO] at ha;have hle:=less3_le l x.path.length x.tgt.length x.data.length h1.1;have c1:=An (m:=m) x l h1 hbe.1 hbe.2.1 hbe.2.2;by_cases hz:mL l x.path.length x.tgt.length x.data.length < 0
       · rw [if_pos hz] at ha;rw [ha];repeat' first|refine Ra ⟨?_⟩|refine R0 c1 ⟨?_⟩|refine Rd (fun h=>⟨?_⟩) fun h=>⟨?_⟩|refine Rb ⟨?_⟩|fail
         exact Rf
       · rw [if_neg hz,← hr] at ha;repeat' first|refine Ra ⟨?_⟩|refine R0 c1 ⟨?_⟩|refine Rd (fun h=>⟨?_⟩) fun h=>⟨?_⟩|refine Rb ⟨?_⟩|fail
         refine .here ⟨mq - 1,by omega,?_⟩;refine la [0,1,5] ?_
         conv=>whnf
         refine ⟨rfl,rfl,i+1,_,(by omega),rfl,rfl,rfl,by omega,by omega,ha⟩
theorem szO_con (es:List Opn) (n:Int) (hn:0≤n∧n≤1048576) (h:bigO es):∃ r:Int,Con (E m) 8 0 [.sl (es.map Opn.c),.k .i64 n] [] (.k .i64 r) []∧(r < 0∨(r≤n∧(es.length:Int)≤n∧∀ e∈es,jc 1073741823 e)):=by
 refine ⟨_,szOpS_con (m:=m) es n hn h,?_⟩;unfold szOps;by_cases h0:n - (es.length:Int) < 0
 · rw [if_pos h0]; left; omega
 · rw [if_neg h0];rcases szAllO_or es (n - es.length) with h1|h1
   · exact .inl h1
   · refine .inr ⟨?_,by omega,fun e he=>?_⟩
     · have:=szAllO_le es (n - es.length) (by omega)
       omega
     · have:=h1 e he
       exact ⟨by omega,by omega,by omega⟩
theorem toOpS_con (es:List Opn) (hl:es.length≤1048576):Con (E m) 11 0 [.sl (es.map Opn.c)] [] (.own 0) [(0,.own 53 (es.map Opn.c))]:=by
 have e1:(es.map Opn.c).length=es.length:=zAA ..;refine G0 Tryz.func11 ?_;repeat' first|refine Ra ⟨?_⟩|((refine ⟨es.length,by simp only [zAA],by simp only [zAA],(by unfold eN; omega),zAC rfl,?_⟩) <;> conv=>whnf)|refine Rd (fun h=>⟨?_⟩) fun h=>⟨?_⟩|refine Rb ⟨?_⟩|fail
 refine Cd.loop2 (fun mq tm S nx=>∃ (i:Nat) (xs:List (List D)),mq=(es.length - i)∧tm=[(0,.sl (es.map Opn.c)),(3,.own 0),(4,.k .i64 i)]∧S=[(0,.own 53 xs)]∧nx=1∧(i≤es.length)∧(xs=(es.take i).map Opn.c++List.replicate (es.length - i) [.k .i64 0,.s [],.s [],.s []])) ?_ ?_
 · refine la [0,3,4] ?_
   conv=>whnf
   refine ⟨rfl,rfl,_,0,_,rfl,rfl,rfl,rfl,by omega,rfl⟩
 · rintro mq tm S nx ⟨i,xs,hn,rfl,rfl,rfl,hi,hxs⟩;have hxl:xs.length=es.length:=by rw [hxs]; simp; omega
   by_cases hlt:i < es.length
   · have hg:xs[i]?=some [.k .i64 0,.s [],.s [],.s []]:=by rw [hxs]; exact kX hlt
     have g1:es[i]?=some es[i]:=zAB hlt;have g2:=jS (f:=Opn.c) (z:=[D.k .i64 0,.s [],.s [],.s []]) hlt;rw [← hxs] at g2;generalize es[i]=x at g1 g2;have c1:=Am (m:=m) x;repeat' first|refine Ra ⟨?_⟩|refine R0 c1 ⟨?_⟩|(refine ⟨_,hg,zAC rfl,?_⟩ <;> conv=>whnf)|refine Rd (fun h=>⟨?_⟩) fun h=>⟨?_⟩|refine Rb ⟨?_⟩|fail
     refine .here ⟨mq - 1,by omega,?_⟩;refine la [0,3,4] ?_
     conv=>whnf
     refine ⟨rfl,rfl,i+1,_,(by omega),rfl,rfl,rfl,by omega,g2⟩
   · have hx:xs=es.map Opn.c:=by
       rw [hxs,zAc (by omega)]
       have:es.length - i=0:=by omega
       simp [this]
     subst hx;repeat' first|refine Rx ⟨?_⟩|refine Rd (fun h=>⟨?_⟩) fun h=>⟨?_⟩|fail
     exact Rf
theorem eqOpS_con (t:List Opn) (hl:t.length≤1048576):Con (E m) 15 0 [.sl (t.map Opn.c),.sl (t.map Opn.c)] [] (.b true) []:=by
 have e1:(t.map Opn.c).length=t.length:=zAA ..;refine G0 Tryz.func15 ?_;repeat' first|refine Rx ⟨?_⟩|refine Rd (fun h=>⟨?_⟩) fun h=>⟨?_⟩|fail
 refine Cd.loop2 (fun mq tm S nx=>∃ (i:Nat),mq=(t.length - i)∧tm=[(0,.sl (t.map Opn.c)),(1,.sl (t.map Opn.c)),(5,.k .i64 i)]∧S=[]∧nx=0∧(i≤t.length)) ?_ ?_
 · refine la [0,1,5] ?_
   conv=>whnf
   refine ⟨rfl,rfl,_,0,rfl,rfl,rfl,rfl,by omega⟩
 · rintro mq tm S nx ⟨i,hn,rfl,rfl,rfl,hi⟩;by_cases hlt:i < t.length
   · have g1:t[i]?=some t[i]:=zAB hlt;generalize t[i]=x at g1;have c1:=GO (m:=m) x x;rw [GH] at c1;repeat' first|refine Ra ⟨?_⟩|refine R0 c1 ⟨?_⟩|refine Rd (fun h=>⟨?_⟩) fun h=>⟨?_⟩|refine Rb ⟨?_⟩|fail
     refine .here ⟨mq - 1,by omega,?_⟩;refine la [0,1,5] ?_
     conv=>whnf
     refine ⟨rfl,rfl,i+1,(by omega),rfl,rfl,rfl,by omega⟩
   · repeat' first|refine Rx ⟨?_⟩|refine Rd (fun h=>⟨?_⟩) fun h=>⟨?_⟩|fail
     exact Rf
theorem CZ (t:List Int) (hl:t.length≤1048576):Con (E m) 14 0 [.sl (ck t),.sl (ck t)] [] (.b true) []:=by
 have e1:(ck t).length=t.length:=zAA ..;refine G0 Tryz.func14 ?_;repeat' first|refine Rx ⟨?_⟩|refine Rd (fun h=>⟨?_⟩) fun h=>⟨?_⟩|fail
 refine Cd.loop2 (fun mq tm S nx=>∃ (i:Nat),mq=(t.length - i)∧tm=[(0,.sl (ck t)),(1,.sl (ck t)),(5,.k .i64 i)]∧S=[]∧nx=0∧(i≤t.length)) ?_ ?_
 · refine la [0,1,5] ?_
   conv=>whnf
   refine ⟨rfl,rfl,_,0,rfl,rfl,rfl,rfl,by omega⟩
 · rintro mq tm S nx ⟨i,hn,rfl,rfl,rfl,hi⟩;by_cases hlt:i < t.length
   · have g1:t[i]?=some t[i]:=zAB hlt;generalize t[i]=x at g1;repeat' first|refine Rx ⟨?_⟩|refine Rd (fun h=>⟨?_⟩) fun h=>⟨?_⟩|fail
     refine .here ⟨mq - 1,by omega,?_⟩;refine la [0,1,5] ?_
     conv=>whnf
     refine ⟨rfl,rfl,i+1,(by omega),rfl,rfl,rfl,by omega⟩
   · repeat' first|refine Rx ⟨?_⟩|refine Rd (fun h=>⟨?_⟩) fun h=>⟨?_⟩|fail
     exact Rf
theorem lOp_cells' {cs:List D} (h:Shp Tryz.prog 85 cs):∃ o:Opn,cs=o.c∧o.path.length≤9223372036854775807∧o.tgt.length≤9223372036854775807∧o.data.length≤9223372036854775807:=by
 have h1:=h.struct_inv Tryz.underlying85;have h2:qH Tryz.prog [3,9,9,9] cs:=h1;obtain ⟨a,_,rfl,ha,b,_,rfl,hb,c,_,rfl,hc,d,_,rfl,hd,rfl⟩:=h2;obtain ⟨x,rfl,_⟩:=ha.int_inv Tryz.underlying3;obtain ⟨p,rfl,hp⟩:=hb.str_inv Tryz.underlying9;obtain ⟨q,rfl,hq⟩:=hc.str_inv Tryz.underlying9;obtain ⟨r,rfl,hr⟩:=hd.str_inv Tryz.underlying9;exact ⟨⟨x,p,q,r⟩,rfl,hp,hq,hr⟩
theorem lOps_cells:∀ (xs:List (List D)),(∀ cs∈xs,Shp Tryz.prog 85 cs)→∃ es:List Opn,xs=es.map Opn.c∧∀ e∈es,e.path.length≤9223372036854775807∧e.tgt.length≤9223372036854775807∧e.data.length≤9223372036854775807
 | [],_=>⟨[],rfl,by simp⟩
 | cs :: xs,h=>by
   obtain ⟨e,rfl,h1⟩:=lOp_cells' (h cs (by simp));obtain ⟨es,rfl,h3⟩:=lOps_cells xs fun c hc=>h c (by simp [hc]);refine ⟨e :: es,rfl,fun x hx=>?_⟩;rcases List.mem_cons.1 hx with rfl|hx
   · exact h1
   · exact h3 x hx
theorem lOps_shp {d:D} (h:r8 Tryz.prog 27 d):∃ es:List Opn,d=.sl (es.map Opn.c)∧bigO es:=by
 have h1:=h.one (fun fs=>by rw [Tryz.underlying27]; simp);obtain ⟨xs,hx,hl,hc⟩:=h1.slice_inv Tryz.underlying27;obtain ⟨es,rfl,he⟩:=lOps_cells xs hc;cases hx;rw [zAA] at hl;exact ⟨es,rfl,hl,he⟩
end Go.Proofs.YtagejnomlkfndaaGreatDoor
