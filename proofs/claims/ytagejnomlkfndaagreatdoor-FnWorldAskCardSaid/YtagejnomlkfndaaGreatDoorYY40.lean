/- Texts of this claim, set close: lemmas and contracts. -/
import Derived.Test.YtagejnomlkfndaaGreatDoorYY39
import Derived.Test.YtagejnomlkfndaaGreatDoorYY32
set_option linter.unusedSimpArgs false
set_option linter.unusedVariables false
set_option maxHeartbeats 1000000
set_option maxRecDepth 10000
namespace Go.Proofs.YtagejnomlkfndaaGreatDoor
open Go Go.RowKit Go.Ab Go.Par
variable {m:Int}
theorem JD (x:Opn):eo x x=true:=by simp [eo]
theorem JE {x y:Opn} (h:x≠y):eo x y=false:=by
 rw [← zAZ];intro hf;apply h;obtain ⟨a,b,c,d⟩:=x;obtain ⟨a',b',c',d'⟩:=y;simp [eo] at hf;simp [hf]
theorem Ic {a b:Wld} (h0:a.over=b.over) (h1:a.clock=b.clock) (h2:a.count=b.count) (h3:a.leases=b.leases) (h4:a.holds=b.holds) (h5:a.floors=b.floors) (h6:a.net=b.net) (h7:a.waits=b.waits) (h8:a.op=b.op):a=b:=by
 cases a; cases b; simp at *; simp [*]
theorem vF (t u:List Hld) (ht:t.length≤1048576) (hu:u.length≤1048576):Con (E m) 82 0 [.sl (t.map Hld.c),.sl (u.map Hld.c)] [] (.b (decide (t=u))) []:=by
 have c1:=AO (m:=m) t u ht hu;refine G0 Tryz.func82 ?_;repeat' first|refine Ra ⟨?_⟩|refine R0 c1 ⟨?_⟩|refine Rd (fun h=>⟨?_⟩) fun h=>⟨?_⟩|refine Rb ⟨?_⟩|fail
 exact Rf
theorem A5 (A B:List (List Hld)) (hA:∀ l∈A,l.length≤1048576) (hB:∀ l∈B,l.length≤1048576) (lA:A.length≤1048576) (lB:B.length≤1048576) :
   Con (E m) 86 0 [.sl (A.map cy),.sl (B.map cy),.fn 82 []] [] (.b (decide (A=B))) []:=by
 have e1:(A.map cy).length=A.length:=zAA ..;have e2:(B.map cy).length=B.length:=zAA ..;by_cases hl:A.length=B.length
 · refine G0 Tryz.func86 ?_;repeat' first|refine Rx ⟨?_⟩|refine Rd (fun h=>⟨?_⟩) fun h=>⟨?_⟩|fail
   refine Cd.loop2 (fun mq tm S nx=>∃ (i:Nat),mq=(A.length - i)∧tm=[(1,.sl (B.map cy)),(2,.fn 82 []),(15,.sl (A.map cy)),(16,.k .i64 ((A.map cy).length:Int)),(17,.k .i64 i)]∧S=[]∧nx=0∧(i≤A.length)∧(A.take i=B.take i)) ?_ ?_
   · refine la [1,2,15,16,17] ?_
     conv=>whnf
     refine ⟨rfl,rfl,_,0,rfl,rfl,rfl,rfl,by omega,rfl⟩
   · rintro mq tm S nx ⟨i,hn,rfl,rfl,rfl,hi,ha⟩;by_cases hlt:i < A.length
     · have g1:A[i]?=some A[i]:=zAB hlt;have g2:B[i]?=some (B[i]'(by omega)):=zAB (by omega);have h1:=hA _ (zAX hlt);have h2:=hB _ (zAX (by omega:i < B.length));generalize A[i]=x at g1 h1;generalize B[i]'(by omega)=y at g2 h2;have c1:=vF (m:=m) x y h1 h2;by_cases hxy:x=y
       · subst hxy;rw [decide_eq_true rfl] at c1;repeat' first|refine Ra ⟨?_⟩|refine R0 c1 ⟨?_⟩|refine Rd (fun h=>⟨?_⟩) fun h=>⟨?_⟩|refine Rb ⟨?_⟩|fail
         refine .here ⟨mq - 1,by omega,?_⟩;refine la [1,2,15,16,17] ?_
         conv=>whnf
         refine ⟨rfl,rfl,i+1,(by omega),rfl,rfl,rfl,by omega,ge g1 g2 ha⟩
       · have e4:decide (A=B)=false:=decide_eq_false (pW g1 g2 hxy);rw [e4];rw [decide_eq_false hxy] at c1;repeat' first|refine Ra ⟨?_⟩|refine R0 c1 ⟨?_⟩|refine Rd (fun h=>⟨?_⟩) fun h=>⟨?_⟩|refine Rb ⟨?_⟩|fail
         exact Rf
     · have e4:decide (A=B)=true:=decide_eq_true (ik hl (by omega) ha);rw [e4];repeat' first|refine Rx ⟨?_⟩|refine Rd (fun h=>⟨?_⟩) fun h=>⟨?_⟩|fail
       exact Rf
 · have e4:decide (A=B)=false:=decide_eq_false (fun h=>hl (by rw [h]));rw [e4];refine G0 Tryz.func86 ?_;repeat' first|refine Rx ⟨?_⟩|refine Rd (fun h=>⟨?_⟩) fun h=>⟨?_⟩|fail
   exact Rf
theorem m7 (a b:Wld) (ha:dO a) (hb:dO b):Con (E m) 24 0 [.agg a.c,.agg b.c] [] (.b (decide (a=b))) []:=by
 have c1:=yG (m:=m) a.over b.over ha.over hb.over;have c2:=yH (m:=m) a.leases b.leases ha.ll hb.ll;have c3:=A5 (m:=m) a.holds b.holds (fun l h=>(ha.hs l h).2) (fun l h=>(hb.hs l h).2) ha.hl hb.hl;have c4:=C4 (m:=m) a.floors b.floors ha.fl hb.fl;have c5:=C3 (m:=m) a.net b.net ha.nl hb.nl;by_cases h0:a.over=b.over
 · rw [decide_eq_true h0] at c1;by_cases h1:a.clock=b.clock
   · skip
     by_cases h2:a.count=b.count
     · skip
       by_cases h3:a.leases=b.leases
       · rw [decide_eq_true h3] at c2;by_cases h4:a.holds=b.holds
         · rw [decide_eq_true h4] at c3;by_cases h5:a.floors=b.floors
           · rw [decide_eq_true h5] at c4;by_cases h6:a.net=b.net
             · rw [decide_eq_true h6] at c5;by_cases h7:a.waits=b.waits
               · have q7:(a.waits == b.waits)=true:=by simpa using h7
                 by_cases h8:a.op=b.op
                 · have q8:eo a.op b.op=true:=by rw [h8]; exact JD _
                   have hx:decide (a=b)=true:=decide_eq_true (Ic h0 h1 h2 h3 h4 h5 h6 h7 h8);rw [hx];refine G0 Tryz.func24 ?_;repeat' first|refine Ra ⟨?_⟩|refine R0 c1 ⟨?_⟩|refine R0 c2 ⟨?_⟩|refine R0 c3 ⟨?_⟩|refine R0 c4 ⟨?_⟩|refine R0 c5 ⟨?_⟩|refine Rd (fun h=>⟨?_⟩) fun h=>⟨?_⟩|refine Rb ⟨?_⟩|fail
                   exact Rf
                 · have hx:decide (a=b)=false:=decide_eq_false fun e=>h8 (by rw [e]);rw [hx];have q8:eo a.op b.op=false:=JE h8;refine G0 Tryz.func24 ?_;repeat' first|refine Ra ⟨?_⟩|refine R0 c1 ⟨?_⟩|refine R0 c2 ⟨?_⟩|refine R0 c3 ⟨?_⟩|refine R0 c4 ⟨?_⟩|refine R0 c5 ⟨?_⟩|refine Rd (fun h=>⟨?_⟩) fun h=>⟨?_⟩|refine Rb ⟨?_⟩|fail
                   exact Rf
               · have hx:decide (a=b)=false:=decide_eq_false fun e=>h7 (by rw [e]);rw [hx];have q7:(a.waits == b.waits)=false:=by simpa using h7
                 refine G0 Tryz.func24 ?_;repeat' first|refine Ra ⟨?_⟩|refine R0 c1 ⟨?_⟩|refine R0 c2 ⟨?_⟩|refine R0 c3 ⟨?_⟩|refine R0 c4 ⟨?_⟩|refine R0 c5 ⟨?_⟩|refine Rd (fun h=>⟨?_⟩) fun h=>⟨?_⟩|refine Rb ⟨?_⟩|fail
                 exact Rf
             · have hx:decide (a=b)=false:=decide_eq_false fun e=>h6 (by rw [e]);rw [hx];rw [decide_eq_false h6] at c5;refine G0 Tryz.func24 ?_;repeat' first|refine Ra ⟨?_⟩|refine R0 c1 ⟨?_⟩|refine R0 c2 ⟨?_⟩|refine R0 c3 ⟨?_⟩|refine R0 c4 ⟨?_⟩|refine R0 c5 ⟨?_⟩|refine Rd (fun h=>⟨?_⟩) fun h=>⟨?_⟩|refine Rb ⟨?_⟩|fail
               exact Rf
           · have hx:decide (a=b)=false:=decide_eq_false fun e=>h5 (by rw [e]);rw [hx];rw [decide_eq_false h5] at c4;refine G0 Tryz.func24 ?_;repeat' first|refine Ra ⟨?_⟩|refine R0 c1 ⟨?_⟩|refine R0 c2 ⟨?_⟩|refine R0 c3 ⟨?_⟩|refine R0 c4 ⟨?_⟩|refine Rd (fun h=>⟨?_⟩) fun h=>⟨?_⟩|refine Rb ⟨?_⟩|fail
             exact Rf
         · have hx:decide (a=b)=false:=decide_eq_false fun e=>h4 (by rw [e]);rw [hx];rw [decide_eq_false h4] at c3;refine G0 Tryz.func24 ?_;repeat' first|refine Ra ⟨?_⟩|refine R0 c1 ⟨?_⟩|refine R0 c2 ⟨?_⟩|refine R0 c3 ⟨?_⟩|refine Rd (fun h=>⟨?_⟩) fun h=>⟨?_⟩|refine Rb ⟨?_⟩|fail
           exact Rf
       · have hx:decide (a=b)=false:=decide_eq_false fun e=>h3 (by rw [e]);rw [hx];rw [decide_eq_false h3] at c2;refine G0 Tryz.func24 ?_;repeat' first|refine Ra ⟨?_⟩|refine R0 c1 ⟨?_⟩|refine R0 c2 ⟨?_⟩|refine Rd (fun h=>⟨?_⟩) fun h=>⟨?_⟩|refine Rb ⟨?_⟩|fail
         exact Rf
     · have hx:decide (a=b)=false:=decide_eq_false fun e=>h2 (by rw [e]);rw [hx];refine G0 Tryz.func24 ?_;repeat' first|refine Ra ⟨?_⟩|refine R0 c1 ⟨?_⟩|refine Rd (fun h=>⟨?_⟩) fun h=>⟨?_⟩|refine Rb ⟨?_⟩|fail
       exact Rf
   · have hx:decide (a=b)=false:=decide_eq_false fun e=>h1 (by rw [e]);rw [hx];refine G0 Tryz.func24 ?_;repeat' first|refine Ra ⟨?_⟩|refine R0 c1 ⟨?_⟩|refine Rd (fun h=>⟨?_⟩) fun h=>⟨?_⟩|refine Rb ⟨?_⟩|fail
     exact Rf
 · have hx:decide (a=b)=false:=decide_eq_false fun e=>h0 (by rw [e]);rw [hx];rw [decide_eq_false h0] at c1;refine G0 Tryz.func24 ?_;repeat' first|refine Ra ⟨?_⟩|refine R0 c1 ⟨?_⟩|refine Rd (fun h=>⟨?_⟩) fun h=>⟨?_⟩|refine Rb ⟨?_⟩|fail
   exact Rf
theorem vG (w:Wld) (hb:dO w) (h0 h1 h2:List Hld) (hh:w.holds=[h0,h1,h2]):Con (E m) 73 0 [.agg w.c] [] (.agg (wcO w 0 1 2 3)) [(0,.own 132 (w.leases.map Lse.c)),(1,.deep 121 68 [anH h0,anH h1,anH h2]),(2,.own 3 (ck w.floors)),(3,.own 70 (w.net.map Mes.c))]:=by
 have hll:=hb.ll;have hfl:=hb.fl;have hnl:=hb.nl;have l0:=(hb.hs h0 (by rw [hh]; simp)).2;have l1:=(hb.hs h1 (by rw [hh]; simp)).2;have l2:=(hb.hs h2 (by rw [hh]; simp)).2;have e2:(w.leases.map Lse.c).length=w.leases.length:=zAA ..;have e3:(ck w.floors).length=w.floors.length:=zAA ..;have e4:(w.net.map Mes.c).length=w.net.length:=zAA ..;have m0:(h0.map Hld.c).length=h0.length:=zAA ..;have m1:(h1.map Hld.c).length=h1.length:=zAA ..;have m2:(h2.map Hld.c).length=h2.length:=zAA ..;have c1:=cH (qa (m:=m) w.over hb.over);clear hb;obtain ⟨o,clk,cnt,ls,hs,fl,nt,wt,op⟩:=w;simp only at hh hll hfl hnl e2 e3 e4 c1;subst hh;refine cE ?_;refine bK DS HW Tryz.func73 rfl rfl rfl (zAC rfl) ?_;repeat' first|refine Ra ⟨?_⟩|refine R0 c1 ⟨?_⟩|refine Rd (fun h=>⟨?_⟩) fun h=>⟨?_⟩|refine Rb ⟨?_⟩|fail
 refine Cd.loop2 (fun mq tm S nx=>∃ (i:Nat) (zs:List aE),mq=(3 - i)∧tm=[(1,.bp 0 0),(2,.bp 1 0),(3,.bp 2 0),(17,.sl [cy h0,cy h1,cy h2]),(18,.k .i64 (([cy h0,cy h1,cy h2]:List (List D)).length:Int)),(19,.k .i64 i)]∧S=[(0,.box 55 (Wld.c ⟨o,clk,cnt,ls,[h0,h1,h2],fl,nt,wt,op⟩)),(1,.box 55 [.nil,.nil,.nil,.k .i64 0,.k .i64 0,.nil,.nil,.nil,.nil,.b false,.k .i64 0,.s [],.s [],.s []]),(2,.box 55 [.sl (o.base.map Ent.c),.sl (o.layers.map cm),.sl (o.upper.map Mrk.c),.k .i64 clk,.k .i64 cnt,.own 3,.own 4,.sl (ck fl),.sl (nt.map Mes.c),.b wt,.k .i64 op.kind,.s op.path,.s op.tgt,.s op.data]),(3,.own 132 (ls.map Lse.c)),(4,.deep 121 68 zs)]∧nx=5∧(i≤3)∧(zs=[anH h0,anH h1,anH h2].take i)) ?_ ?_
 · refine lw [.thawD 2 6 121 68] [1,2,3,17,18,19] ?_
   conv=>whnf
   refine ⟨rfl,rfl,_,0,[],rfl,rfl,rfl,rfl,by omega,rfl⟩
 · rintro mq tm S nx ⟨i,zs,hn,rfl,rfl,rfl,hi,hz⟩;obtain rfl|rfl|rfl|rfl:i=0∨i=1∨i=2∨i=3:=by omega
   · have hz:zs=[]:=hz;subst hz;repeat' first|refine Rx ⟨?_⟩|refine Rd (fun h=>⟨?_⟩) fun h=>⟨?_⟩|fail
     refine .here ⟨mq - 1,by omega,?_⟩;refine la [1,2,3,17,18,19] ?_
     conv=>whnf
     refine ⟨rfl,rfl,1,[anH h0],(by omega),rfl,rfl,rfl,by omega,rfl⟩
   · have hz:zs=[anH h0]:=hz;subst hz;repeat' first|refine Ra ⟨?_⟩|((refine ⟨1,_,rfl,rfl,rfl,?_⟩) <;> conv=>whnf)|refine Rd (fun h=>⟨?_⟩) fun h=>⟨?_⟩|refine Rb ⟨?_⟩|fail
     refine .here ⟨mq - 1,by omega,?_⟩;refine la [1,2,3,17,18,19] ?_
     conv=>whnf
     refine ⟨rfl,rfl,2,[anH h0,anH h1],(by omega),rfl,rfl,rfl,by omega,rfl⟩
   · have hz:zs=[anH h0,anH h1]:=hz;subst hz;repeat' first|refine Ra ⟨?_⟩|((refine ⟨2,_,rfl,rfl,rfl,?_⟩) <;> conv=>whnf)|refine Rd (fun h=>⟨?_⟩) fun h=>⟨?_⟩|refine Rb ⟨?_⟩|fail
     refine .here ⟨mq - 1,by omega,?_⟩;refine la [1,2,3,17,18,19] ?_
     conv=>whnf
     refine ⟨rfl,rfl,3,[anH h0,anH h1,anH h2],(by omega),rfl,rfl,rfl,by omega,rfl⟩
   · have hz:zs=[anH h0,anH h1,anH h2]:=hz;subst hz;repeat' first|refine Rx ⟨?_⟩|refine Rd (fun h=>⟨?_⟩) fun h=>⟨?_⟩|fail
     exact Rf
theorem fc (w:Wld) (zs:List aE) (x:Mes) (hnl:w.net.length≤1048576) (h0 h1 h2:List Hld) (hz:zs=[anH h0,anH h1,anH h2]):Con (E m) 75 5 [.bp 0 0,.agg x.c] (bxT w 1 2 3 4 zs) (.tup []) (bxT { w with net:=bZ w.net x } 5 6 7 8 zs):=by
 have e4:(w.net.map Mes.c).length=w.net.length:=zAA ..;subst hz;by_cases h:w.net.length < 12
 · have hx:bZ w.net x=w.net++[x]:=by rw [bZ,if_pos h]
   rw [hx];refine G0 Tryz.func75 ?_;repeat' first|refine Rx ⟨?_⟩|refine Rd (fun h=>⟨?_⟩) fun h=>⟨?_⟩|fail
   refine ak.here (fw [.anew 1,.close 2,.anew 3] ?_)
   conv=>whnf
   refine ⟨rfl,rfl,rfl,?_⟩;exact congrArg (bxR w 5 6 7 8 _ _ _) (zAH (f:=Mes.c) (l₁:=w.net) (l₂:=[x])).symm
 · have hx:bZ w.net x=w.net:=by rw [bZ,if_neg h]
   rw [hx];refine G0 Tryz.func75 ?_;repeat' first|refine Rx ⟨?_⟩|refine Rd (fun h=>⟨?_⟩) fun h=>⟨?_⟩|fail
   refine ak.here (fw [.anew 1,.close 2,.anew 3,.anew 4] ?_)
   conv=>whnf
   exact ⟨rfl,rfl,rfl,rfl⟩
variable {m:Int}
theorem Dj (w:Wld) (zs:List aE) (bars:List Lse) (hnl:w.net.length≤1048576) (hbl:bars.length≤1048576) (h0 h1 h2:List Hld) (hz:zs=[anH h0,anH h1,anH h2]):Con (E m) 146 5 [.bp 0 0,.sl (bars.map Lse.c)] (bxT w 1 2 3 4 zs) (.tup []) (bxT { w with net:=dQ w.net w.count bars } 5 6 7 8 zs):=by
 have e1:(bars.map Lse.c).length=bars.length:=zAA ..;subst hz;refine G0 Tryz.func146 ?_;repeat' first|refine Rx ⟨?_⟩|refine Rd (fun h=>⟨?_⟩) fun h=>⟨?_⟩|fail
 refine Cd.loop2 (fun mq tm S nx=>∃ (i:Nat) (N:List Mes),mq=(bars.length - i)∧tm=[(0,.bp 0 0),(6,.sl (bars.map Lse.c)),(7,.k .i64 ((bars.map Lse.c).length:Int)),(8,.k .i64 i)]∧S=[(0,.box 55 (wcO w 5 6 7 8)),(5,.own 132 (w.leases.map Lse.c)),(6,.deep 121 68 [anH h0,anH h1,anH h2]),(7,.own 3 (ck w.floors)),(8,.own 70 (N.map Mes.c))]∧nx=9∧(i≤bars.length)∧(dQ w.net w.count bars=dQ N w.count (bars.drop i))∧(N.length≤1048576)) ?_ ?_
 · refine lw [.anew 1,.close 2,.anew 3,.anew 4] [0,6,7,8] ?_
   conv=>whnf
   refine ⟨rfl,rfl,_,0,w.net,rfl,rfl,rfl,rfl,zAG _,rfl,hnl⟩
 · rintro mq tm S nx ⟨i,N,hn,rfl,rfl,rfl,hi,ha,hN⟩;rcases (av bars i hi).symm with ⟨x,r,hx',hd,hr,hlt⟩|⟨rfl,hd⟩
   · rw [hd,jz] at ha;have c1:=fc (m:=m) { w with net:=N } [anH h0,anH h1,anH h2] ⟨3,x.who,aZ x.path w.count⟩ hN h0 h1 h2 rfl
     repeat' first|refine Ra ⟨?_⟩|refine Rk [0,5,6,7,8] 4 c1 ⟨?_⟩|refine Rd (fun h=>⟨?_⟩) fun h=>⟨?_⟩|refine Rb ⟨?_⟩|fail
     refine .here ⟨mq - 1,by omega,?_⟩;refine la [0,6,7,8] ?_
     conv=>whnf
     refine ⟨rfl,rfl,i+1,bZ N ⟨3,x.who,aZ x.path w.count⟩,(by omega),rfl,rfl,rfl,by omega,(by rw [ha,hr]),j7 hN (by omega)⟩
   · rw [hd] at ha;rw [ha];repeat' first|refine Rx ⟨?_⟩|refine Rd (fun h=>⟨?_⟩) fun h=>⟨?_⟩|fail
     exact Rf
theorem Ej (w:Wld) (zs:List aE) (hb:dO w) (hok:ba w=true) (h0 h1 h2:List Hld) (hh:w.holds=[h0,h1,h2]) (hz:zs=[anH h0,anH h1,anH h2]):Con (E m) 77 5 [.bp 0 0] (bxT w 1 2 3 4 zs) (.k .i64 (eI w).2) (bxT (eI w).1 5 6 7 8 zs):=by
 have hll:=hb.ll;have hnl:=hb.nl;subst hz;obtain ⟨t,v,ho,hw,hs⟩:=bB hok;have hx:eZ w w.op=dg (Go.Par.seen w.over) w.clock w.leases w.op:=by rw [eZ,if_pos hok]
 have c1:=j6 (m:=m) w w.op hb hb.op;rw [hx,Wld.c,hh] at c1;have c3:=AN (m:=m) w.over w.op hb.over hb.op;have hbl:=nw (v:=Go.Par.seen w.over) (clk:=w.clock) (ls:=w.leases) (p:=w.op);cases hwt:w.waits with
 | false=>
   have q:eI w=(w,22):=by rw [eI,if_pos hwt]
   rw [q];refine G0 Tryz.func77 ?_;repeat' first|refine Rx ⟨?_⟩|refine Rd (fun h=>⟨?_⟩) fun h=>⟨?_⟩|fail
   refine ak.here (fw [.anew 1,.close 2,.anew 3,.anew 4] ?_)
   conv=>whnf
   exact ⟨rfl,rfl,rfl,rfl⟩
 | true=>
   by_cases hbr:dg (Go.Par.seen w.over) w.clock w.leases w.op=[]
   · have q:eI w=({ w with over:=(dE w.over w.op).1,waits:=false,op:=op0 },0):=by rw [eI,if_neg (by simp [hwt]),if_pos hbr]
     rw [q];rw [hbr] at c1;refine G0 Tryz.func77 ?_;repeat' first|refine Ra ⟨?_⟩|(refine ⟨[],_,_,_,_,1,⟨rfl,rfl,rfl,c1,rfl,rfl⟩,.inl ⟨[],trivial,rfl,.inl ⟨by simp [ay,aD,aj],by simp [aF,aG,aj,Ent.c,Mrk.c,Opn.c,Lse.c,Hld.c,Mes.c,az,anH]⟩,?_⟩⟩ <;> conv=>whnf)|refine R0 c3 ⟨?_⟩|refine Rd (fun h=>⟨?_⟩) fun h=>⟨?_⟩|refine Rb ⟨?_⟩|fail
     refine ak.here (fw [.anew 1,.close 2,.anew 3,.anew 4] ?_)
     conv=>whnf
     exact ⟨rfl,rfl,rfl,rfl⟩
   · have q:eI w=({ w with net:=dQ w.net w.count (dg (Go.Par.seen w.over) w.clock w.leases w.op) },20):=by rw [eI,if_neg (by simp [hwt]),if_neg hbr]
     rw [q];have hpos:0 < (dg (Go.Par.seen w.over) w.clock w.leases w.op).length:=List.length_pos_iff.2 hbr;generalize dg (Go.Par.seen w.over) w.clock w.leases w.op=B at c1 hbl hpos;have c2:=Dj (m:=m) w [anH h0,anH h1,anH h2] B hnl (by omega) h0 h1 h2 rfl;have e2:(B.map Lse.c).length=B.length:=zAA ..;refine G0 Tryz.func77 ?_;repeat' first|refine Ra ⟨?_⟩|(refine ⟨[],_,_,_,_,1,⟨rfl,rfl,rfl,c1,rfl,rfl⟩,.inl ⟨[],trivial,rfl,.inl ⟨by simp [ay,aD,aj],by simp [aF,aG,aj,Ent.c,Mrk.c,Opn.c,Lse.c,Hld.c,Mes.c,az,anH]⟩,?_⟩⟩ <;> conv=>whnf)|refine Rk [0,1,2,3,4] 4 c2 ⟨?_⟩|refine Rd (fun h=>⟨?_⟩) fun h=>⟨?_⟩|refine Rb ⟨?_⟩|fail
     exact Rf
theorem FC (w:Wld) (zs:List aE) (p:Opn) (hb:dO w) (hp:jc 1073741823 p) (hok:ba w=true) (h0 h1 h2:List Hld) (hh:w.holds=[h0,h1,h2]) (hz:zs=[anH h0,anH h1,anH h2]):Con (E m) 76 5 [.bp 0 0,.agg p.c] (bxT w 1 2 3 4 zs) (.k .i64 (bQ w p).2) (bxT (bQ w p).1 5 6 7 8 zs):=by
 obtain ⟨t,v,ho,hw,hs⟩:=bB hok;have hv:=(ce ho).2.2.2;have c1:=eM (m:=m) w.over hb.over;rw [ho] at c1;have c2:=fY (m:=m) v p (bE0 hv) hp.1 hp.2.1 hp.2.2;cases hwt:w.waits with
 | true=>
   have q:bQ w p=(w,21):=by rw [bQ,if_pos hwt]
   rw [q];subst hz;refine G0 Tryz.func76 ?_;repeat' first|refine Rx ⟨?_⟩|refine Rd (fun h=>⟨?_⟩) fun h=>⟨?_⟩|fail
   refine ak.here (fw [.anew 1,.close 2,.anew 3,.anew 4] ?_)
   conv=>whnf
   exact ⟨rfl,rfl,rfl,rfl⟩
 | false=>
   by_cases hd:(aJ v p).2=0
   · have hop:w.op=op0:=by have:=hw.wt; rw [if_neg (by simp [hwt])] at this; exact this
     have hw':OkW v { w with waits:=true,op:=p }:=by
      have:=hw.waitsOn hd (net:=w.net) hw.nl (fun m hm=>.inl hm)
      exact this
     have hok':ba { w with waits:=true,op:=p }=true:=jZ (w:={ w with waits:=true,op:=p }) ho hw'
     have hb':dO { w with waits:=true,op:=p }:=⟨hb.over,hb.ls,hb.ll,hb.hs,hb.hl,hb.fl,hb.nt,hb.nl,hp⟩
     have c3:=Ej (m:=m) { w with waits:=true,op:=p } zs hb' hok' h0 h1 h2 hh hz
     have q:eI { w with waits:=true,op:=p }=bQ w p:=by
      rw [bQ,if_neg (by simp [hwt]),if_neg (by rw [hs]; simp [hd]),eI,if_neg (by simp)];by_cases hbr:dg (Go.Par.seen w.over) w.clock w.leases p=[]
      · rw [if_pos hbr,if_pos hbr];obtain ⟨a,b,c,d,e,f,g,h,i⟩:=w;simp only at hwt hop;subst hwt hop;rfl
      · rw [if_neg hbr,if_neg hbr]
     rw [q] at c3;subst hz;refine G0 Tryz.func76 ?_;repeat' first|refine Ra ⟨?_⟩|refine R0 c1 ⟨?_⟩|refine Rk [] 1 c2 ⟨?_⟩|refine Rk [0,1,2,3,4] 4 c3 ⟨?_⟩|refine Rd (fun h=>⟨?_⟩) fun h=>⟨?_⟩|refine Rb ⟨?_⟩|fail
     exact Rf
   · have q:bQ w p=(w,(aJ v p).2):=by rw [bQ,if_neg (by simp [hwt]),if_pos (by rw [hs]; exact hd),hs]
     rw [q];subst hz;refine G0 Tryz.func76 ?_;repeat' first|refine Ra ⟨?_⟩|refine R0 c1 ⟨?_⟩|refine Rk [] 1 c2 ⟨?_⟩|refine Rd (fun h=>⟨?_⟩) fun h=>⟨?_⟩|refine Rb ⟨?_⟩|fail
     refine ak.here (fw [.anew 1,.close 2,.anew 3,.anew 4] ?_)
     conv=>whnf
     exact ⟨rfl,rfl,rfl,rfl⟩
theorem yW (w:Wld) (zs:List aE) (who:Int) (p:Bs) (n:Int) (hll:w.leases.length≤1048576) (hu:w.leases.Pairwise fun a b=>¬ (a.who=b.who∧a.path=b.path)) (h0 h1 h2:List Hld) (hz:zs=[anH h0,anH h1,anH h2]):Con (E m) 153 5 [.bp 0 0,.k .i64 who,.s p,.k .i64 n] (bxT w 1 2 3 4 zs) (.tup []) (bxT (iy w who p n) 5 6 7 8 zs):=by
 have c1:=gX (m:=m) w.leases who p hll;subst hz;unfold iy;rcases eD (aW who p) w.leases with ⟨g1,g2⟩|⟨i,x,g1,g2,g3,g4⟩
 · rw [g1] at c1;rw [qd g2];refine G0 Tryz.func153 ?_;repeat' first|refine Ra ⟨?_⟩|(refine ⟨[],_,_,_,_,0,⟨rfl,rfl,rfl,c1,rfl,rfl⟩,.inl ⟨[],trivial,rfl,.inl ⟨by simp [ay,aD,aj],by simp [aF,aG,aj,Ent.c,Mrk.c,Opn.c,Lse.c,Hld.c,Mes.c,az,anH]⟩,?_⟩⟩ <;> conv=>whnf)|refine Rd (fun h=>⟨?_⟩) fun h=>⟨?_⟩|refine Rb ⟨?_⟩|fail
   refine ak.here (fw [.anew 1,.close 2,.anew 3,.anew 4] ?_)
   conv=>whnf
   exact ⟨rfl,rfl,rfl,rfl⟩
 · rw [g1] at c1;have hi:=(List.getElem?_eq_some_iff.1 g2).1;have e1:(w.leases.map Lse.c).length=w.leases.length:=zAA ..;have g5:(w.leases.map Lse.c)[i]?=some x.c:=mg g2;by_cases hn:x.num≤n
   · rw [sI hu g2 g3 hn];have c2:=jy (m:=m) w.leases i hi hll;refine G0 Tryz.func153 ?_;repeat' first|refine Ra ⟨?_⟩|(refine ⟨[],_,_,_,_,0,⟨rfl,rfl,rfl,c1,rfl,rfl⟩,.inl ⟨[],trivial,rfl,.inl ⟨by simp [ay,aD,aj],by simp [aF,aG,aj,Ent.c,Mrk.c,Opn.c,Lse.c,Hld.c,Mes.c,az,anH]⟩,?_⟩⟩ <;> conv=>whnf)|refine Rk [1] 1 c2 ⟨?_⟩|((refine ⟨i,rfl,by omega,?_⟩) <;> conv=>whnf)|((refine ⟨_,g5,?_⟩) <;> conv=>whnf)|refine Rd (fun h=>⟨?_⟩) fun h=>⟨?_⟩|refine Rb ⟨?_⟩|fail
     refine ak.here (fw [.close 2,.anew 3,.anew 4] ?_)
     conv=>whnf
     exact ⟨rfl,rfl,rfl,rfl⟩
   · rw [A6 hu g2 g3 hn];refine G0 Tryz.func153 ?_;repeat' first|refine Ra ⟨?_⟩|(refine ⟨[],_,_,_,_,0,⟨rfl,rfl,rfl,c1,rfl,rfl⟩,.inl ⟨[],trivial,rfl,.inl ⟨by simp [ay,aD,aj],by simp [aF,aG,aj,Ent.c,Mrk.c,Opn.c,Lse.c,Hld.c,Mes.c,az,anH]⟩,?_⟩⟩ <;> conv=>whnf)|((refine ⟨i,rfl,by omega,?_⟩) <;> conv=>whnf)|((refine ⟨_,g5,?_⟩) <;> conv=>whnf)|refine Rd (fun h=>⟨?_⟩) fun h=>⟨?_⟩|refine Rb ⟨?_⟩|fail
     refine ak.here (fw [.anew 1,.close 2,.anew 3,.anew 4] ?_)
     conv=>whnf
     exact ⟨rfl,rfl,rfl,rfl⟩
end Go.Proofs.YtagejnomlkfndaaGreatDoor
