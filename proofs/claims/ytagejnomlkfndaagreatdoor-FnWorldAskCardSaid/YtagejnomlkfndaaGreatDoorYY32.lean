/- Texts of this claim, set close: lemmas and contracts. -/
import Derived.Test.YtagejnomlkfndaaGreatDoorYY27
import Derived.Test.YtagejnomlkfndaaGreatDoorYY23
import Derived.Test.YtagejnomlkfndaaGreatDoorYY25
set_option linter.unusedSimpArgs false
set_option linter.unusedVariables false
set_option maxHeartbeats 1000000
set_option maxRecDepth 10000
namespace Go.Proofs.YtagejnomlkfndaaGreatDoor
open Go Go.RowKit Go.Ab Go.Par
variable {m:Int}
theorem mZ (t:List Mrk) (ht:t.length≤1073741824):Con (E m) 127 0 [.sl (t.map Mrk.c)] [] (.sl (t.map Mrk.c)) []:=by
 have e1:(t.map Mrk.c).length=t.length:=zAA ..;refine G0 Tryz.func127 ?_;repeat' first|refine Rx ⟨?_⟩|refine Rd (fun h=>⟨?_⟩) fun h=>⟨?_⟩|fail
 exact Rz
theorem vA (t:List Ent) (ht:t.length≤1073741824):Con (E m) 128 0 [.sl (t.map Ent.c)] [] (.sl (t.map Ent.c)) []:=by
 have e1:(t.map Ent.c).length=t.length:=zAA ..;refine G0 Tryz.func128 ?_;repeat' first|refine Rx ⟨?_⟩|refine Rd (fun h=>⟨?_⟩) fun h=>⟨?_⟩|fail
 exact Rz
theorem qa (o:Ovr) (hb:gM o):Con (E m) 52 0 [.agg o.c] [] (.agg o.c) []:=by
 have hbl:=hb.bl;have hll:=hb.ll;have hul:=hb.ul;have e1:(o.layers.map cm).length=o.layers.length:=zAA ..;have c1:=vA (m:=m) o.base (by omega);have c2:=mZ (m:=m) o.upper (by omega);refine G0 Tryz.func52 ?_;repeat' first|refine Rx ⟨?_⟩|refine Rd (fun h=>⟨?_⟩) fun h=>⟨?_⟩|fail
 refine Cd.loop2 (fun mq tm S nx=>∃ (i:Nat) (A:List (List Mrk)),mq=(o.layers.length - i)∧tm=[(1,.bp 0 0),(2,.bp 1 0),(3,.own 2),(7,.sl (o.layers.map cm)),(8,.k .i64 ((o.layers.map cm).length:Int)),(9,.k .i64 i)]∧S=[(0,.box 34 o.c),(1,.box 34 [.nil,.nil,.nil]),(2,.own 32 (A.map cm))]∧nx=3∧(i≤o.layers.length)∧(A=o.layers.take i)∧(A.length≤i)) ?_ ?_
 · refine la [1,2,3,7,8,9] ?_
   conv=>whnf
   refine ⟨rfl,rfl,_,0,[],rfl,rfl,rfl,rfl,by omega,(by simp),by simp⟩
 · rintro mq tm S nx ⟨i,A,hn,rfl,rfl,rfl,hi,hA,hAl⟩;have e2:(A.map cm).length=A.length:=zAA ..;rcases av o.layers i hi with ⟨rfl,hd⟩|⟨l,r,hl',hd,hr,hlt⟩
   · rw [zAP] at hA;subst hA;repeat' first|refine Ra ⟨?_⟩|refine R0 c1 ⟨?_⟩|refine R0 c2 ⟨?_⟩|refine Rd (fun h=>⟨?_⟩) fun h=>⟨?_⟩|refine Rb ⟨?_⟩|fail
     exact Rz
   · have g1:o.layers.take (i+1)=o.layers.take i++[l]:=by rw [zAY,hl']; rfl
     have c3:=mZ (m:=m) l (by have:=(hb.lay l (zAD hl')).2; omega);repeat' first|refine Ra ⟨?_⟩|refine R0 c3 ⟨?_⟩|refine Rd (fun h=>⟨?_⟩) fun h=>⟨?_⟩|refine Rb ⟨?_⟩|fail
     refine .here ⟨mq - 1,by omega,?_⟩;refine la [1,2,3,7,8,9] ?_
     conv=>whnf
     refine ⟨rfl,rfl,i+1,A++[l],(by omega),rfl,?_,rfl,by omega,(by rw [hA,g1]),(by simp; omega)⟩;rw [zAH];rfl
theorem AN (o:Ovr) (p:Opn) (hb:gM o) (hp:jc 1073741823 p):Con (E m) 53 0 [.agg o.c,.agg p.c] [] (.tup [.agg (dE o p).1.c,.k .i64 (dE o p).2]) []:=by
 have c1:=j5 (m:=m) o hb;have c2:=qa (m:=m) o hb;unfold dE;cases h:bv o with
 | none=>
   rw [h] at c1;refine G0 Tryz.func53 ?_;repeat' first|refine Ra ⟨?_⟩|refine R0 c1 ⟨?_⟩|refine Rd (fun h=>⟨?_⟩) fun h=>⟨?_⟩|refine Rb ⟨?_⟩|fail
   exact Rz
 | some x=>
   obtain ⟨t,v⟩:=x;rw [h] at c1;obtain ⟨_,_,k3,k4⟩:=ce h;have c3:=fY (m:=m) v p (bE0 k4) hp.1 hp.2.1 hp.2.2;have c4:=j0 (m:=m) t (aJ v p).1 k3 (gS k4 p);simp only;by_cases h0:(aJ v p).2=0
   · rw [if_pos h0];rw [h0] at c3 ⊢;generalize (aJ v p).1=y at c3 c4 ⊢;refine G0 Tryz.func53 ?_;repeat' first|refine Ra ⟨?_⟩|refine R0 c1 ⟨?_⟩|refine R0 c2 ⟨?_⟩|refine Rk [] 1 c3 ⟨?_⟩|refine Rk [] 1 c4 ⟨?_⟩|refine Rd (fun h=>⟨?_⟩) fun h=>⟨?_⟩|refine Rb ⟨?_⟩|fail
     exact Rz
   · rw [if_neg h0];generalize aJ v p=Y at c3 c4 h0 ⊢;refine G0 Tryz.func53 ?_;repeat' first|refine Ra ⟨?_⟩|refine R0 c1 ⟨?_⟩|refine R0 c2 ⟨?_⟩|refine Rk [] 1 c3 ⟨?_⟩|refine Rd (fun h=>⟨?_⟩) fun h=>⟨?_⟩|refine Rb ⟨?_⟩|fail
     exact Rz
variable {m:Int}
theorem Hb:gM ov0:=⟨by simp [ov0],by simp [ov0],by simp [ov0],by simp [ov0],by simp [ov0],by simp [ov0]⟩
theorem C1 (A B:List (List Mrk)) (hA:∀ l∈A,l.length≤1048576) (hB:∀ l∈B,l.length≤1048576) (lA:A.length≤1048576) (lB:B.length≤1048576) :
   Con (E m) 161 0 [.sl (A.map cm),.sl (B.map cm),.fn 162 []] [] (.b (decide (A=B))) []:=by
 have e1:(A.map cm).length=A.length:=zAA ..;have e2:(B.map cm).length=B.length:=zAA ..;by_cases hl:A.length=B.length
 · refine G0 Tryz.func161 ?_;repeat' first|refine Rx ⟨?_⟩|refine Rd (fun h=>⟨?_⟩) fun h=>⟨?_⟩|fail
   refine Cd.loop2 (fun mq tm S nx=>∃ (i:Nat),mq=(A.length - i)∧tm=[(1,.sl (B.map cm)),(2,.fn 162 []),(15,.sl (A.map cm)),(16,.k .i64 ((A.map cm).length:Int)),(17,.k .i64 i)]∧S=[]∧nx=0∧(i≤A.length)∧(A.take i=B.take i)) ?_ ?_
   · refine la [1,2,15,16,17] ?_
     conv=>whnf
     refine ⟨rfl,rfl,_,0,rfl,rfl,rfl,rfl,by omega,rfl⟩
   · rintro mq tm S nx ⟨i,hn,rfl,rfl,rfl,hi,ha⟩;by_cases hlt:i < A.length
     · have g1:A[i]?=some A[i]:=zAB hlt;have g2:B[i]?=some (B[i]'(by omega)):=zAB (by omega);have h1:=hA _ (zAX hlt);have h2:=hB _ (zAX (by omega:i < B.length));generalize A[i]=x at g1 h1;generalize B[i]'(by omega)=y at g2 h2;have c1:=kJ (m:=m) x y h1 h2;by_cases hxy:x=y
       · subst hxy;rw [decide_eq_true rfl] at c1;repeat' first|refine Ra ⟨?_⟩|refine R0 c1 ⟨?_⟩|refine Rd (fun h=>⟨?_⟩) fun h=>⟨?_⟩|refine Rb ⟨?_⟩|fail
         refine .here ⟨mq - 1,by omega,?_⟩;refine la [1,2,15,16,17] ?_
         conv=>whnf
         refine ⟨rfl,rfl,i+1,(by omega),rfl,rfl,rfl,by omega,ge g1 g2 ha⟩
       · have e4:decide (A=B)=false:=decide_eq_false (pW g1 g2 hxy);rw [e4];rw [decide_eq_false hxy] at c1;repeat' first|refine Ra ⟨?_⟩|refine R0 c1 ⟨?_⟩|refine Rd (fun h=>⟨?_⟩) fun h=>⟨?_⟩|refine Rb ⟨?_⟩|fail
         exact Rf
     · have e4:decide (A=B)=true:=decide_eq_true (ik hl (by omega) ha);rw [e4];repeat' first|refine Rx ⟨?_⟩|refine Rd (fun h=>⟨?_⟩) fun h=>⟨?_⟩|fail
       exact Rf
 · have e4:decide (A=B)=false:=decide_eq_false (fun h=>hl (by rw [h]));rw [e4];refine G0 Tryz.func161 ?_;repeat' first|refine Rx ⟨?_⟩|refine Rd (fun h=>⟨?_⟩) fun h=>⟨?_⟩|fail
   exact Rf
theorem C2 {a b:Ovr}:a=b↔a.base=b.base∧a.layers=b.layers∧a.upper=b.upper:=by
 cases a; cases b; simp
theorem yG (a b:Ovr) (ha:gM a) (hb:gM b):Con (E m) 84 0 [.agg a.c,.agg b.c] [] (.b (decide (a=b))) []:=by
 have c1:=yx (m:=m) a.base b.base ha.bl hb.bl;have c2:=C1 (m:=m) a.layers b.layers (fun l h=>(ha.lay l h).2) (fun l h=>(hb.lay l h).2) ha.ll hb.ll;have c3:=kJ (m:=m) a.upper b.upper ha.ul hb.ul;by_cases h1:a.base=b.base
 · rw [decide_eq_true h1] at c1;by_cases h2:a.layers=b.layers
   · rw [decide_eq_true h2] at c2;have hx:decide (a=b)=decide (a.upper=b.upper):=by rw [zAK,decide_eq_true_eq,decide_eq_true_eq,C2]; simp [h1,h2]
     rw [hx];refine G0 Tryz.func84 ?_;repeat' first|refine Ra ⟨?_⟩|refine R0 c1 ⟨?_⟩|refine R0 c2 ⟨?_⟩|refine R0 c3 ⟨?_⟩|refine Rd (fun h=>⟨?_⟩) fun h=>⟨?_⟩|refine Rb ⟨?_⟩|fail
     exact Rf
   · rw [decide_eq_false h2] at c2;have hx:decide (a=b)=false:=decide_eq_false fun h=>h2 (C2.1 h).2.1;rw [hx];refine G0 Tryz.func84 ?_;repeat' first|refine Ra ⟨?_⟩|refine R0 c1 ⟨?_⟩|refine R0 c2 ⟨?_⟩|refine Rd (fun h=>⟨?_⟩) fun h=>⟨?_⟩|refine Rb ⟨?_⟩|fail
     exact Rf
 · rw [decide_eq_false h1] at c1;have hx:decide (a=b)=false:=decide_eq_false fun h=>h1 (C2.1 h).1;rw [hx];refine G0 Tryz.func84 ?_;repeat' first|refine Ra ⟨?_⟩|refine R0 c1 ⟨?_⟩|refine Rd (fun h=>⟨?_⟩) fun h=>⟨?_⟩|refine Rb ⟨?_⟩|fail
   exact Rf
variable {m:Int}
theorem JA (x:Lse):el x x=true:=by simp [el]
theorem JB {x y:Lse} (h:x≠y):el x y=false:=by
 rw [← zAZ];intro hf;apply h;obtain ⟨a,b,c,d⟩:=x;obtain ⟨a',b',c',d'⟩:=y;simp [el] at hf;simp [hf]
theorem IE (x:Mes):es x x=true:=by simp [es]
theorem JC {x y:Mes} (h:x≠y):es x y=false:=by
 rw [← zAZ];intro hf;apply h;obtain ⟨k,w,⟨a,b,⟨c,d,e⟩,f,g⟩⟩:=x;obtain ⟨k',w',⟨a',b',⟨c',d',e'⟩,f',g'⟩⟩:=y;simp [es] at hf;simp [hf]
theorem yH (t u:List Lse) (ht:t.length≤1048576) (hu:u.length≤1048576):Con (E m) 85 0 [.sl (t.map Lse.c),.sl (u.map Lse.c)] [] (.b (decide (t=u))) []:=by
 have e1:(t.map Lse.c).length=t.length:=zAA ..;have e2:(u.map Lse.c).length=u.length:=zAA ..;by_cases hl:t.length=u.length
 · refine G0 Tryz.func85 ?_;repeat' first|refine Rx ⟨?_⟩|refine Rd (fun h=>⟨?_⟩) fun h=>⟨?_⟩|fail
   refine Cd.loop2 (fun mq tm S nx=>∃ (i:Nat),mq=(t.length - i)∧tm=[(0,.sl (t.map Lse.c)),(1,.sl (u.map Lse.c)),(12,.k .i64 ((t.map Lse.c).length:Int)),(13,.k .i64 i)]∧S=[]∧nx=0∧(i≤t.length)∧(t.take i=u.take i)) ?_ ?_
   · refine la [0,1,12,13] ?_
     conv=>whnf
     refine ⟨rfl,rfl,_,0,rfl,rfl,rfl,rfl,by omega,rfl⟩
   · rintro mq tm S nx ⟨i,hn,rfl,rfl,rfl,hi,ha⟩;by_cases hlt:i < t.length
     · have g1:t[i]?=some t[i]:=zAB hlt;have g2:u[i]?=some (u[i]'(by omega)):=zAB (by omega);generalize t[i]=x at g1;generalize u[i]'(by omega)=y at g2;by_cases hxy:x=y
       · subst hxy;have e3:=JA x;repeat' first|refine Rx ⟨?_⟩|refine Rd (fun h=>⟨?_⟩) fun h=>⟨?_⟩|fail
         refine .here ⟨mq - 1,by omega,?_⟩;refine la [0,1,12,13] ?_
         conv=>whnf
         refine ⟨rfl,rfl,i+1,(by omega),rfl,rfl,rfl,by omega,ge g1 g2 ha⟩
       · have e3:=JB hxy;have e4:decide (t=u)=false:=decide_eq_false (pW g1 g2 hxy);rw [e4];repeat' first|refine Rx ⟨?_⟩|refine Rd (fun h=>⟨?_⟩) fun h=>⟨?_⟩|fail
         exact Rf
     · have e4:decide (t=u)=true:=decide_eq_true (ik hl (by omega) ha);rw [e4];repeat' first|refine Rx ⟨?_⟩|refine Rd (fun h=>⟨?_⟩) fun h=>⟨?_⟩|fail
       exact Rf
 · have e4:decide (t=u)=false:=decide_eq_false (fun h=>hl (by rw [h]));rw [e4];refine G0 Tryz.func85 ?_;repeat' first|refine Rx ⟨?_⟩|refine Rd (fun h=>⟨?_⟩) fun h=>⟨?_⟩|fail
   exact Rf
theorem AO (t u:List Hld) (ht:t.length≤1048576) (hu:u.length≤1048576):Con (E m) 83 0 [.sl (t.map Hld.c),.sl (u.map Hld.c)] [] (.b (decide (t=u))) []:=by
 have e1:(t.map Hld.c).length=t.length:=zAA ..;have e2:(u.map Hld.c).length=u.length:=zAA ..;by_cases hl:t.length=u.length
 · refine G0 Tryz.func83 ?_;repeat' first|refine Rx ⟨?_⟩|refine Rd (fun h=>⟨?_⟩) fun h=>⟨?_⟩|fail
   refine Cd.loop2 (fun mq tm S nx=>∃ (i:Nat),mq=(t.length - i)∧tm=[(0,.sl (t.map Hld.c)),(1,.sl (u.map Hld.c)),(12,.k .i64 ((t.map Hld.c).length:Int)),(13,.k .i64 i)]∧S=[]∧nx=0∧(i≤t.length)∧(t.take i=u.take i)) ?_ ?_
   · refine la [0,1,12,13] ?_
     conv=>whnf
     refine ⟨rfl,rfl,_,0,rfl,rfl,rfl,rfl,by omega,rfl⟩
   · rintro mq tm S nx ⟨i,hn,rfl,rfl,rfl,hi,ha⟩;by_cases hlt:i < t.length
     · have g1:t[i]?=some t[i]:=zAB hlt;have g2:u[i]?=some (u[i]'(by omega)):=zAB (by omega);generalize t[i]=x at g1;generalize u[i]'(by omega)=y at g2;by_cases hxy:x=y
       · subst hxy;have e3:=Hc x;repeat' first|refine Rx ⟨?_⟩|refine Rd (fun h=>⟨?_⟩) fun h=>⟨?_⟩|fail
         refine .here ⟨mq - 1,by omega,?_⟩;refine la [0,1,12,13] ?_
         conv=>whnf
         refine ⟨rfl,rfl,i+1,(by omega),rfl,rfl,rfl,by omega,ge g1 g2 ha⟩
       · have e3:=ID hxy;have e4:decide (t=u)=false:=decide_eq_false (pW g1 g2 hxy);rw [e4];repeat' first|refine Rx ⟨?_⟩|refine Rd (fun h=>⟨?_⟩) fun h=>⟨?_⟩|fail
         exact Rf
     · have e4:decide (t=u)=true:=decide_eq_true (ik hl (by omega) ha);rw [e4];repeat' first|refine Rx ⟨?_⟩|refine Rd (fun h=>⟨?_⟩) fun h=>⟨?_⟩|fail
       exact Rf
 · have e4:decide (t=u)=false:=decide_eq_false (fun h=>hl (by rw [h]));rw [e4];refine G0 Tryz.func83 ?_;repeat' first|refine Rx ⟨?_⟩|refine Rd (fun h=>⟨?_⟩) fun h=>⟨?_⟩|fail
   exact Rf
theorem C3 (t u:List Mes) (ht:t.length≤1048576) (hu:u.length≤1048576):Con (E m) 88 0 [.sl (t.map Mes.c),.sl (u.map Mes.c)] [] (.b (decide (t=u))) []:=by
 have e1:(t.map Mes.c).length=t.length:=zAA ..;have e2:(u.map Mes.c).length=u.length:=zAA ..;by_cases hl:t.length=u.length
 · refine G0 Tryz.func88 ?_;repeat' first|refine Rx ⟨?_⟩|refine Rd (fun h=>⟨?_⟩) fun h=>⟨?_⟩|fail
   refine Cd.loop2 (fun mq tm S nx=>∃ (i:Nat),mq=(t.length - i)∧tm=[(0,.sl (t.map Mes.c)),(1,.sl (u.map Mes.c)),(12,.k .i64 ((t.map Mes.c).length:Int)),(13,.k .i64 i)]∧S=[]∧nx=0∧(i≤t.length)∧(t.take i=u.take i)) ?_ ?_
   · refine la [0,1,12,13] ?_
     conv=>whnf
     refine ⟨rfl,rfl,_,0,rfl,rfl,rfl,rfl,by omega,rfl⟩
   · rintro mq tm S nx ⟨i,hn,rfl,rfl,rfl,hi,ha⟩;by_cases hlt:i < t.length
     · have g1:t[i]?=some t[i]:=zAB hlt;have g2:u[i]?=some (u[i]'(by omega)):=zAB (by omega);generalize t[i]=x at g1;generalize u[i]'(by omega)=y at g2;by_cases hxy:x=y
       · subst hxy;have e3:=IE x;repeat' first|refine Rx ⟨?_⟩|refine Rd (fun h=>⟨?_⟩) fun h=>⟨?_⟩|fail
         refine .here ⟨mq - 1,by omega,?_⟩;refine la [0,1,12,13] ?_
         conv=>whnf
         refine ⟨rfl,rfl,i+1,(by omega),rfl,rfl,rfl,by omega,ge g1 g2 ha⟩
       · have e3:=JC hxy;have e4:decide (t=u)=false:=decide_eq_false (pW g1 g2 hxy);rw [e4];repeat' first|refine Rx ⟨?_⟩|refine Rd (fun h=>⟨?_⟩) fun h=>⟨?_⟩|fail
         exact Rf
     · have e4:decide (t=u)=true:=decide_eq_true (ik hl (by omega) ha);rw [e4];repeat' first|refine Rx ⟨?_⟩|refine Rd (fun h=>⟨?_⟩) fun h=>⟨?_⟩|fail
       exact Rf
 · have e4:decide (t=u)=false:=decide_eq_false (fun h=>hl (by rw [h]));rw [e4];refine G0 Tryz.func88 ?_;repeat' first|refine Rx ⟨?_⟩|refine Rd (fun h=>⟨?_⟩) fun h=>⟨?_⟩|fail
   exact Rf
theorem C4 (t u:List Int) (ht:t.length≤1048576) (hu:u.length≤1048576):Con (E m) 87 0 [.sl (ck t),.sl (ck u)] [] (.b (decide (t=u))) []:=by
 have e1:(ck t).length=t.length:=zAA ..;have e2:(ck u).length=u.length:=zAA ..;by_cases hl:t.length=u.length
 · refine G0 Tryz.func87 ?_;repeat' first|refine Rx ⟨?_⟩|refine Rd (fun h=>⟨?_⟩) fun h=>⟨?_⟩|fail
   refine Cd.loop2 (fun mq tm S nx=>∃ (i:Nat),mq=(t.length - i)∧tm=[(0,.sl (ck t)),(1,.sl (ck u)),(12,.k .i64 ((ck t).length:Int)),(13,.k .i64 i)]∧S=[]∧nx=0∧(i≤t.length)∧(t.take i=u.take i)) ?_ ?_
   · refine la [0,1,12,13] ?_
     conv=>whnf
     refine ⟨rfl,rfl,_,0,rfl,rfl,rfl,rfl,by omega,rfl⟩
   · rintro mq tm S nx ⟨i,hn,rfl,rfl,rfl,hi,ha⟩;by_cases hlt:i < t.length
     · have g1:t[i]?=some t[i]:=zAB hlt;have g2:u[i]?=some (u[i]'(by omega)):=zAB (by omega);generalize t[i]=x at g1;generalize u[i]'(by omega)=y at g2;by_cases hxy:x=y
       · subst hxy;repeat' first|refine Rx ⟨?_⟩|refine Rd (fun h=>⟨?_⟩) fun h=>⟨?_⟩|fail
         refine .here ⟨mq - 1,by omega,?_⟩;refine la [0,1,12,13] ?_
         conv=>whnf
         refine ⟨rfl,rfl,i+1,(by omega),rfl,rfl,rfl,by omega,ge g1 g2 ha⟩
       · have e4:decide (t=u)=false:=decide_eq_false (pW g1 g2 hxy);rw [e4];repeat' first|refine Rx ⟨?_⟩|refine Rd (fun h=>⟨?_⟩) fun h=>⟨?_⟩|fail
         exact Rf
     · have e4:decide (t=u)=true:=decide_eq_true (ik hl (by omega) ha);rw [e4];repeat' first|refine Rx ⟨?_⟩|refine Rd (fun h=>⟨?_⟩) fun h=>⟨?_⟩|fail
       exact Rf
 · have e4:decide (t=u)=false:=decide_eq_false (fun h=>hl (by rw [h]));rw [e4];refine G0 Tryz.func87 ?_;repeat' first|refine Rx ⟨?_⟩|refine Rd (fun h=>⟨?_⟩) fun h=>⟨?_⟩|fail
   exact Rf
end Go.Proofs.YtagejnomlkfndaaGreatDoor
