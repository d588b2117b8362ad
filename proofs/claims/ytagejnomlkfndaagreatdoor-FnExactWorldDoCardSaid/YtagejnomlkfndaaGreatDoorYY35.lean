/- Texts of this claim, set close: lemmas and contracts. -/
import Derived.Test.YtagejnomlkfndaaGreatDoorYY30
set_option linter.unusedSimpArgs false
set_option linter.unusedVariables false
set_option maxHeartbeats 1000000
set_option maxRecDepth 10000
namespace Go.Proofs.YtagejnomlkfndaaGreatDoor
open Go Go.RowKit Go.Ab Go.Par
variable {m:Int}
def De (w:Wld):Prop:=0≤w.clock∧w.clock≤10000∧0≤w.count∧w.count≤10000∧w.holds.length=3∧w.floors.length=3
instance (w:Wld):Decidable (De w):=by unfold De; infer_instance
theorem yP {v:List Ent} {w:Wld} (h:¬ De w):d9 v w=false:=by
 rw [← zAZ,yF];exact fun g=>h ⟨g.clk.1,g.clk.2,g.cnt.1,g.cnt.2,g.hl,g.fl⟩
theorem AV {v:List Ent} {w:Wld} (h:De w):d9 v w=((w.floors.all fun f=>decide (0≤f) && decide (f≤w.count)) && yK w.count w.net && vv w.count w.clock w.leases && w.holds.all (oR w.count) && kL v w && kz v w && w.net.all (mp w)):=by
 obtain ⟨h1,h2,h3,h4,h5,h6⟩:=h;have e1:ji w=(decide (w.net.length≤12) && w.floors.all fun f=>decide (0≤f) && decide (f≤w.count)):=by
  simp [ji,h1,h2,h3,h4,h5,h6]
 have e2:(List.range 3).all (mn v w)=(w.holds.all (oR w.count) && (List.range w.holds.length).all fun i=>(aO w.holds (i:Int)).all (soV v w.clock w.leases i)):=by
  rw [h5];obtain ⟨a,b,c,hh⟩:∃ a b c,w.holds=[a,b,c]:=by
   match hq:w.holds,h5 with
   | [a,b,c],_=>exact ⟨a,b,c,rfl⟩
  have hr:List.range 3=[0,1,2]:=rfl;rw [hr];simp only [List.all_cons,List.all_nil,zBO,mn,hh,aO];rw [zAK]; simp only [zAE];constructor
  · rintro ⟨⟨a1,a2⟩,⟨b1,b2⟩,c1,c2⟩; exact ⟨⟨a1,b1,c1⟩,a2,b2,c2⟩
  · rintro ⟨⟨a1,b1,c1⟩,a2,b2,c2⟩; exact ⟨⟨a1,a2⟩,⟨b1,b2⟩,c1,c2⟩
 have e3:(w.net.all fun x=>fg w.count x && jw v w x && mp w x)=(w.net.all (fg w.count) && w.net.all (jw v w) && w.net.all (mp w)):=by
  rw [zAK];simp only [zAE,zAs];exact ⟨fun h=>⟨⟨fun x hx=>(h x hx).1.1,fun x hx=>(h x hx).1.2⟩,fun x hx=>(h x hx).2⟩,fun h x hx=>⟨⟨h.1.1 x hx,h.1.2 x hx⟩,h.2 x hx⟩⟩
 rw [d9,e1,e2,e3,kz,yK];rw [zAK]; simp only [zAE];constructor
 · rintro ⟨⟨⟨⟨⟨a1,a2⟩,a3⟩,a4⟩,a5,a6⟩,⟨a7,a8⟩,a9⟩; exact ⟨⟨⟨⟨⟨⟨a2,a1,a7⟩,a3⟩,a5⟩,a4⟩,a6,a8⟩,a9⟩
 · rintro ⟨⟨⟨⟨⟨⟨a2,a1,a7⟩,a3⟩,a5⟩,a4⟩,a6,a8⟩,a9⟩; exact ⟨⟨⟨⟨⟨a1,a2⟩,a3⟩,a4⟩,a5,a6⟩,⟨a7,a8⟩,a9⟩
theorem l5 (w:Wld) (hb:dO w):Con (E m) 72 0 [.agg w.c] [] (.b (ba w)) []:=by
 have hhl:=hb.hl;have hfl:=hb.fl;have e1:(w.holds.map cy).length=w.holds.length:=zAA ..;have e2:(ck w.floors).length=w.floors.length:=zAA ..;have c1:=eM (m:=m) w.over hb.over;have c2:=f7 (m:=m) w.clock 0 10000;have c3:=f7 (m:=m) w.count 0 10000;cases h:bv w.over with
 | none=>
   have hx:ba w=false:=by rw [ba,h]
   rw [hx];rw [h] at c1;refine G0 Tryz.func72 ?_;repeat' first|refine Ra ⟨?_⟩|refine R0 c1 ⟨?_⟩|refine R0 c2 ⟨?_⟩|refine R0 c3 ⟨?_⟩|refine Rd (fun h=>⟨?_⟩) fun h=>⟨?_⟩|refine Rb ⟨?_⟩|fail
   exact Rf
 | some tv=>
   obtain ⟨t,v⟩:=tv;have hv:=(ce h).2.2.2;have hx:ba w=d9 v w:=by rw [ba,h]
   rw [hx];rw [h] at c1;by_cases hn:De w
   · obtain ⟨g1,g2,g3,g4,g5,g6⟩:=hn;rw [AV ⟨g1,g2,g3,g4,g5,g6⟩];rw [decide_eq_true g1,decide_eq_true g2] at c2;rw [decide_eq_true g3,decide_eq_true g4] at c3;have d1:=Fq (m:=m) w hb;have d2:=yL (m:=m) w hb ⟨g1,g2⟩;have d3:=AU (m:=m) w hb;have d4:=C9 (m:=m) v w hb hv;refine G0 Tryz.func72 ?_;repeat' first|refine Ra ⟨?_⟩|refine R0 c1 ⟨?_⟩|refine R0 c2 ⟨?_⟩|refine R0 c3 ⟨?_⟩|refine Rd (fun h=>⟨?_⟩) fun h=>⟨?_⟩|refine Rb ⟨?_⟩|fail
     refine Cd.loop2 (fun mq tm S nx=>∃ (i:Nat),mq=(w.floors.length - i)∧tm=[(1,.bp 0 0),(3,.sl (v.map Ent.c)),(38,.sl (ck w.floors)),(39,.k .i64 ((ck w.floors).length:Int)),(40,.k .i64 i)]∧S=[(0,.box 55 w.c)]∧nx=1∧(i≤w.floors.length)∧((w.floors.all fun f=>decide (0≤f) && decide (f≤w.count))=((w.floors.drop i).all fun f=>decide (0≤f) && decide (f≤w.count)))) ?_ ?_
     · refine la [1,3,38,39,40] ?_
       conv=>whnf
       refine ⟨rfl,rfl,_,0,rfl,rfl,rfl,rfl,zAG _,rfl⟩
     · rintro mq tm S nx ⟨i,hn,rfl,rfl,rfl,hi,ha⟩;rcases av w.floors i hi with ⟨rfl,hd⟩|⟨f,r,hx',hd,hr,hlt⟩
       · rw [hd] at ha;rw [ha];cases q1:yK w.count w.net with
         | false=>
           rw [q1] at d1;repeat' first|refine Ra ⟨?_⟩|refine R0 d1 ⟨?_⟩|refine Rd (fun h=>⟨?_⟩) fun h=>⟨?_⟩|refine Rb ⟨?_⟩|fail
           exact Rf
         | true=>
           rw [q1] at d1;cases q2:vv w.count w.clock w.leases with
           | false=>
             rw [q2] at d2;repeat' first|refine Ra ⟨?_⟩|refine R0 d1 ⟨?_⟩|refine R0 d2 ⟨?_⟩|refine Rd (fun h=>⟨?_⟩) fun h=>⟨?_⟩|refine Rb ⟨?_⟩|fail
             exact Rf
           | true=>
             rw [q2] at d2;cases q3:w.holds.all (oR w.count) with
             | false=>
               rw [q3] at d3;repeat' first|refine Ra ⟨?_⟩|refine R0 d1 ⟨?_⟩|refine R0 d2 ⟨?_⟩|refine R0 d3 ⟨?_⟩|refine Rd (fun h=>⟨?_⟩) fun h=>⟨?_⟩|refine Rb ⟨?_⟩|fail
               exact Rf
             | true=>
               rw [q3] at d3;have hwho:∀ x∈w.net,dJ x.who=true:=by
                intro x hx;rw [yK,zAE] at q1
                have:=zAs.1 q1.2 x hx
                simp only [fg,zAE] at this;exact this.1.1.1.1.2
               have hu:∀ l∈w.holds,l.Pairwise fun a b=>a.path≠b.path:=fun l hl=>(p0.1 (zAs.1 q3 l hl)).2;have d5:=Db (m:=m) v w hb hv g6 hwho;have d6:=Dc (m:=m) w hb g5 g6 hwho hu;cases q4:kL v w with
               | false=>
                 rw [q4] at d4;repeat' first|refine Ra ⟨?_⟩|refine R0 d1 ⟨?_⟩|refine R0 d2 ⟨?_⟩|refine R0 d3 ⟨?_⟩|refine R0 d4 ⟨?_⟩|refine Rd (fun h=>⟨?_⟩) fun h=>⟨?_⟩|refine Rb ⟨?_⟩|fail
                 exact Rf
               | true=>
                 rw [q4] at d4;cases q5:kz v w with
                 | false=>
                   rw [q5] at d5;repeat' first|refine Ra ⟨?_⟩|refine R0 d1 ⟨?_⟩|refine R0 d2 ⟨?_⟩|refine R0 d3 ⟨?_⟩|refine R0 d4 ⟨?_⟩|refine R0 d5 ⟨?_⟩|refine Rd (fun h=>⟨?_⟩) fun h=>⟨?_⟩|refine Rb ⟨?_⟩|fail
                   exact Rf
                 | true=>
                   rw [q5] at d5;repeat' first|refine Ra ⟨?_⟩|refine R0 d1 ⟨?_⟩|refine R0 d2 ⟨?_⟩|refine R0 d3 ⟨?_⟩|refine R0 d4 ⟨?_⟩|refine R0 d5 ⟨?_⟩|refine R0 d6 ⟨?_⟩|refine Rd (fun h=>⟨?_⟩) fun h=>⟨?_⟩|refine Rb ⟨?_⟩|fail
                   exact Rf
       · rw [hd,List.all_cons] at ha;have c4:=f7 (m:=m) f 0 w.count;cases hf:decide (0≤f) && decide (f≤w.count) with
         | true=>
           rw [hf] at c4 ha;repeat' first|refine Ra ⟨?_⟩|refine R0 c4 ⟨?_⟩|refine Rd (fun h=>⟨?_⟩) fun h=>⟨?_⟩|refine Rb ⟨?_⟩|fail
           refine .here ⟨mq - 1,by omega,?_⟩;refine la [1,3,38,39,40] ?_
           conv=>whnf
           refine ⟨rfl,rfl,i+1,(by omega),rfl,rfl,rfl,by omega,(by rw [ha,hr]; simp)⟩
         | false=>
           rw [hf] at c4 ha;rw [ha];repeat' first|refine Ra ⟨?_⟩|refine R0 c4 ⟨?_⟩|refine Rd (fun h=>⟨?_⟩) fun h=>⟨?_⟩|refine Rb ⟨?_⟩|fail
           exact Rf
   · rw [yP hn];by_cases g1:0≤w.clock∧w.clock≤10000
     · rw [decide_eq_true g1.1,decide_eq_true g1.2] at c2;by_cases g2:0≤w.count∧w.count≤10000
       · rw [decide_eq_true g2.1,decide_eq_true g2.2] at c3;by_cases g3:w.holds.length=3
         · have g4:¬ w.floors.length=3:=fun e=>hn ⟨g1.1,g1.2,g2.1,g2.2,g3,e⟩;refine G0 Tryz.func72 ?_;repeat' first|refine Ra ⟨?_⟩|refine R0 c1 ⟨?_⟩|refine R0 c2 ⟨?_⟩|refine R0 c3 ⟨?_⟩|refine Rd (fun h=>⟨?_⟩) fun h=>⟨?_⟩|refine Rb ⟨?_⟩|fail
           exact Rf
         · refine G0 Tryz.func72 ?_;repeat' first|refine Ra ⟨?_⟩|refine R0 c1 ⟨?_⟩|refine R0 c2 ⟨?_⟩|refine R0 c3 ⟨?_⟩|refine Rd (fun h=>⟨?_⟩) fun h=>⟨?_⟩|refine Rb ⟨?_⟩|fail
           exact Rf
       · have q:(decide (0≤w.count) && decide (w.count≤10000))=false:=by rw [← zAZ]; simpa using g2
         rw [q] at c3;refine G0 Tryz.func72 ?_;repeat' first|refine Ra ⟨?_⟩|refine R0 c1 ⟨?_⟩|refine R0 c2 ⟨?_⟩|refine R0 c3 ⟨?_⟩|refine Rd (fun h=>⟨?_⟩) fun h=>⟨?_⟩|refine Rb ⟨?_⟩|fail
         exact Rf
     · have q:(decide (0≤w.clock) && decide (w.clock≤10000))=false:=by rw [← zAZ]; simpa using g1
       rw [q] at c2;refine G0 Tryz.func72 ?_;repeat' first|refine Ra ⟨?_⟩|refine R0 c1 ⟨?_⟩|refine R0 c2 ⟨?_⟩|refine R0 c3 ⟨?_⟩|refine Rd (fun h=>⟨?_⟩) fun h=>⟨?_⟩|refine Rb ⟨?_⟩|fail
       exact Rf
theorem qa4 (w:Wld) (p:Opn) (hb:dO w) (hp:jc 1073741823 p) {t v:List Ent} (ho:bv w.over=some (t,v)):Con (E m) 209 0 [.agg w.c,.agg p.c] [] (.own 0) [(0,.own 9 (strs (cf v p)))]:=by
 have hv:=(ce ho).2.2.2;have c1:=eM (m:=m) w.over hb.over;rw [ho] at c1;have c2:=fY (m:=m) v p (bE0 hv) hp.1 hp.2.1 hp.2.2;unfold cf;by_cases h:(aJ v p).2=0
 · rw [if_pos h];have hk:=gS hv p;have c3:=rJ (m:=m) v (aJ v p).1 (bE0 hv) (bE0 hk);refine G0 Tryz.func209 ?_;repeat' first|refine Ra ⟨?_⟩|refine R0 c1 ⟨?_⟩|refine Rk [] 1 c2 ⟨?_⟩|refine Rk [] 1 c3 ⟨?_⟩|refine Rd (fun h=>⟨?_⟩) fun h=>⟨?_⟩|refine Rb ⟨?_⟩|fail
   exact Rf
 · rw [if_neg h];refine G0 Tryz.func209 ?_;repeat' first|refine Ra ⟨?_⟩|refine R0 c1 ⟨?_⟩|refine Rk [] 1 c2 ⟨?_⟩|refine Rd (fun h=>⟨?_⟩) fun h=>⟨?_⟩|refine Rb ⟨?_⟩|fail
   exact Rf
theorem j6 (w:Wld) (p:Opn) (hb:dO w) (hp:jc 1073741823 p):Con (E m) 145 0 [.agg w.c,.agg p.c] [] (.own 0) [(0,.own 132 ((eZ w p).map Lse.c))]:=by
 have hll:=hb.ll;have e1:(w.leases.map Lse.c).length=w.leases.length:=zAA ..;have c1:=l5 (m:=m) w hb;cases hok:ba w with
 | false=>
   rw [hok] at c1;have hx:eZ w p=[]:=by simp [eZ,hok]
   rw [hx];refine G0 Tryz.func145 ?_;repeat' first|refine Ra ⟨?_⟩|refine R0 c1 ⟨?_⟩|refine Rd (fun h=>⟨?_⟩) fun h=>⟨?_⟩|refine Rb ⟨?_⟩|fail
   exact Rf
 | true=>
   rw [hok] at c1;obtain ⟨t,v,ho,hw,hs⟩:=bB hok;have hx:eZ w p=dg v w.clock w.leases p:=by simp [eZ,hok,hs]
   rw [hx];have hv:=(ce ho).2.2.2;have c2:=qa4 (m:=m) w p hb hp ho;have htl:(cf v p).length≤1048576:=by
    unfold cf;split
    · have:=fX v (aJ v p).1
      omega
    · simp
   unfold dg;refine G0 Tryz.func145 ?_;repeat' first|refine Ra ⟨?_⟩|refine R0 c1 ⟨?_⟩|refine Rk [] 1 c2 ⟨?_⟩|refine Rd (fun h=>⟨?_⟩) fun h=>⟨?_⟩|refine Rb ⟨?_⟩|fail
   refine Cd.loop2 (fun mq tm S nx=>∃ (i:Nat) (A:List Lse),mq=(w.leases.length - i)∧tm=[(2,.bp 0 0),(5,.sl (strs (cf v p))),(6,.own 1),(16,.sl (w.leases.map Lse.c)),(17,.k .i64 ((w.leases.map Lse.c).length:Int)),(18,.k .i64 i)]∧S=[(0,.box 55 w.c),(1,.own 132 (A.map Lse.c))]∧nx=2∧(i≤w.leases.length)∧(A=(w.leases.take i).filter (fun l=>decide (w.clock < l.til) && decide (l.path∈cf v p)))∧(A.length≤i)) ?_ ?_
   · refine li [5] [2,5,6,16,17,18] ?_
     conv=>whnf
     refine ⟨rfl,rfl,_,0,[],rfl,rfl,rfl,rfl,zAG _,(by simp),by simp⟩
   · rintro mq tm S nx ⟨i,A,hn,rfl,rfl,rfl,hi,hA,hAl⟩;have e2:(A.map Lse.c).length=A.length:=zAA ..;rcases av w.leases i hi with ⟨rfl,hd⟩|⟨x,r,hx',hd,hr,hlt⟩
     · rw [zAP] at hA;subst hA;repeat' first|refine Rx ⟨?_⟩|refine Rd (fun h=>⟨?_⟩) fun h=>⟨?_⟩|fail
       exact Rf
     · have c3:=l4 (m:=m) (cf v p) x.path htl;have hstep:∀ B,B=(w.leases.take i).filter (fun l=>decide (w.clock < l.til) && decide (l.path∈cf v p))++(if w.clock < x.til∧x.path∈cf v p then [x] else [])→B=(w.leases.take (i+1)).filter (fun l=>decide (w.clock < l.til) && decide (l.path∈cf v p)):=by
        intro B hB;rw [hB,zAY,hx',zAj];congr 1
        by_cases q1:w.clock < x.til <;> by_cases q2:x.path∈cf v p <;> simp [q1,q2]
       by_cases q1:w.clock < x.til
       · by_cases q2:x.path∈cf v p
         · rw [decide_eq_true q2] at c3;repeat' first|refine Ra ⟨?_⟩|refine R0 c3 ⟨?_⟩|refine Rd (fun h=>⟨?_⟩) fun h=>⟨?_⟩|refine Rb ⟨?_⟩|fail
           refine .here ⟨mq - 1,by omega,?_⟩;refine la [2,5,6,16,17,18] ?_
           conv=>whnf
           refine ⟨rfl,rfl,i+1,A++[x],(by omega),rfl,?_,rfl,by omega,(by rw [← hstep _ rfl,if_pos ⟨q1,q2⟩,hA]),(by simp; omega)⟩;rw [zAH];rfl
         · rw [decide_eq_false q2] at c3;repeat' first|refine Ra ⟨?_⟩|refine R0 c3 ⟨?_⟩|refine Rd (fun h=>⟨?_⟩) fun h=>⟨?_⟩|refine Rb ⟨?_⟩|fail
           refine .here ⟨mq - 1,by omega,?_⟩;refine la [2,5,6,16,17,18] ?_
           conv=>whnf
           refine ⟨rfl,rfl,i+1,A,(by omega),rfl,rfl,rfl,by omega,(by rw [← hstep _ rfl,if_neg (fun h=>q2 h.2),hA]; simp),(by omega)⟩
       · repeat' first|refine Rx ⟨?_⟩|refine Rd (fun h=>⟨?_⟩) fun h=>⟨?_⟩|fail
         refine .here ⟨mq - 1,by omega,?_⟩;refine la [2,5,6,16,17,18] ?_
         conv=>whnf
         refine ⟨rfl,rfl,i+1,A,(by omega),rfl,rfl,rfl,by omega,(by rw [← hstep _ rfl,if_neg (fun h=>q1 h.1),hA]; simp),(by omega)⟩
end Go.Proofs.YtagejnomlkfndaaGreatDoor
