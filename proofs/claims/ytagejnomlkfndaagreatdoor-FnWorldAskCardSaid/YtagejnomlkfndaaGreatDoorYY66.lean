/- Texts of this claim, set close: lemmas and contracts. -/
import Derived.Test.YtagejnomlkfndaaGreatDoorYY61
import Derived.Test.YtagejnomlkfndaaGreatDoorYY11
import Derived.Test.YtagejnomlkfndaaGreatDoorYY39
import Derived.Test.YtagejnomlkfndaaGreatDoorYY56
import Derived.Test.YtagejnomlkfndaaGreatDoorYY34
import Derived.Test.YtagejnomlkfndaaGreatDoorYY32
import Derived.Test.YtagejnomlkfndaaGreatDoorYY22
import Derived.Test.YtagejnomlkfndaaGreatDoorYY40
import Derived.Test.YtagejnomlkfndaaGreatDoorYY44
import Derived.Test.YtagejnomlkfndaaGreatDoorYY50
import Derived.Test.YtagejnomlkfndaaGreatDoorYY23
set_option linter.unusedSimpArgs false
set_option linter.unusedVariables false
set_option maxHeartbeats 4000000
set_option maxRecDepth 10000
namespace Go.Proofs.YtagejnomlkfndaaGreatDoor
open Go Go.RowKit Go.Ab Go.Par
variable {m:Int}
theorem dj.put {n:Nat} {w:Wld} (h:dj n w) {i:Nat} {x:List Hld} (hx:(∀ y∈x,nE y)∧x.length≤n):dj n { w with holds:=w.holds.set i x }:=
 ⟨h.over,h.ls,h.ll,fun l hl=>by
  rcases zAw hl with h1|h1
  · exact h.hs l h1
  · rw [h1];exact hx,by simp only [zAS]; exact h.hl,h.fl,h.nt,h.nl,h.op⟩
theorem con_wc {E:Env} {f:FuncId} {k:Nat} {cds:List D} {Sa S':ac} {w:Wld} {g0 g1 g2:List Hld} (h:w.holds=[g0,g1,g2]) (hc:Con E f k cds Sa (.agg (wcH w g0 g1 g2)) S'):Con E f k cds Sa (.agg w.c) S':=by
 rw [dV h];exact hc
theorem DD (l:Bs) (p:Int) (w:Wld) (hp:0≤p∧p≤800000) (hl:l.length≤2000) (hb:dj 50 w) (hok:ba w=true) :
   ∃ (x:Wld) (q:Int),(dj 60 x∧x.holds.length=3)∧(p≤q∧q≤p+50)∧Con (E m) 66 1 [.bp 0 0,.agg w.c] [(0,rd l p)] (.agg x.c) [(0,rd l q)]:=by
 obtain ⟨t,v,ho,hw,hsv⟩:=bB hok;obtain ⟨h0,h1,h2,hh⟩:=Bb hw.hl;have hb6:=hb.up (k:=60) (by omega);have c1:=j8 (m:=m) w (hb.w (by omega)) h0 h1 h2 hh;have c2:=cM (m:=m) l p 100 (by omega) (by omega) hl;obtain ⟨k,hk,hk2⟩:=drew (m:=m) l p 100 (by omega);rw [hk] at c2;have hck:=hw.clk;have hct:=hw.cnt;have hfl:=hw.fl;have hnl:=hw.nl;have hll:=hb.ll;have e1:(w.leases.map Lse.c).length=w.leases.length:=zAA ..;have e2:(w.net.map Mes.c).length=w.net.length:=zAA ..;have e3:(ck w.floors).length=w.floors.length:=zAA ..;by_cases k0:k=0
 · subst k0;have c3:=fH (m:=m) l (p+1) [-3,1,-1,10000] (by omega) hl (by decide) (by decide);have g3:=(by decide:∀ x∈([-3,1,-1,10000]:List Int),-3≤x∧x≤10000) _ (ld (m:=m) l (p+1) (ls:=[-3,1,-1,10000]) (by decide));generalize oG m l (p+1) [-3,1,-1,10000]=K at c3 g3;refine ⟨{ w with clock:=w.clock+K },p+1+1,⟨⟨hb6.over,hb6.ls,hb6.ll,hb6.hs,hb6.hl,hb6.fl,hb6.nt,hb6.nl,hb6.op⟩,hw.hl⟩,by omega,?_⟩
   refine con_wc (w:={ w with clock:=w.clock+K }) hh ?_
   refine G0 Tryz.func66 ?_;repeat' first|refine Ra ⟨?_⟩|refine Rk [] 4 c1 ⟨?_⟩|refine Rk [0] 0 c2 ⟨?_⟩|refine Rk [0] 0 c3 ⟨?_⟩|refine Rd (fun h=>⟨?_⟩) fun h=>⟨?_⟩|refine Rb ⟨?_⟩|fail
   exact Rz
 · by_cases k1:k=1
   · subst k1;have c3:=fH (m:=m) l (p+1) [0,-1,w.count - 1,10000] (by omega) hl (by simp) (by simp);generalize oG m l (p+1) [0,-1,w.count - 1,10000]=K at c3;refine ⟨{ w with count:=K },p+1+1,⟨⟨hb6.over,hb6.ls,hb6.ll,hb6.hs,hb6.hl,hb6.fl,hb6.nt,hb6.nl,hb6.op⟩,hw.hl⟩,by omega,?_⟩
     refine con_wc (w:={ w with count:=K }) hh ?_
     refine G0 Tryz.func66 ?_;repeat' first|refine Ra ⟨?_⟩|refine Rk [] 4 c1 ⟨?_⟩|refine Rk [0] 0 c2 ⟨?_⟩|refine Rk [0] 0 c3 ⟨?_⟩|refine Rd (fun h=>⟨?_⟩) fun h=>⟨?_⟩|refine Rb ⟨?_⟩|fail
     exact Rz
   · by_cases k2:k=2
     · subst k2;by_cases hn:w.leases.length=0
       · refine ⟨w,p+1,⟨hb6,hw.hl⟩,by omega,?_⟩;refine con_wc (w:=w) hh ?_;refine G0 Tryz.func66 ?_;repeat' first|refine Ra ⟨?_⟩|refine Rk [] 4 c1 ⟨?_⟩|refine Rk [0] 0 c2 ⟨?_⟩|refine Rd (fun h=>⟨?_⟩) fun h=>⟨?_⟩|refine Rb ⟨?_⟩|fail
         exact Rz
       · have e4:(w.leases.drop 1).map Lse.c=((w.leases.map Lse.c).take (w.leases.map Lse.c).length).drop 1:=by rw [zAP,zBX]
         refine ⟨{ w with leases:=w.leases.drop 1 },p+1,⟨⟨hb6.over,fun l hl=>hb6.ls l (zBT hl),by simp only [zAy]; omega,hb6.hs,hb6.hl,hb6.fl,hb6.nt,hb6.nl,hb6.op⟩,hw.hl⟩,by omega,?_⟩
         refine con_wc (w:={ w with leases:=w.leases.drop 1 }) hh ?_
         unfold wcH;rw [e4];refine G0 Tryz.func66 ?_;repeat' first|refine Ra ⟨?_⟩|refine Rk [] 4 c1 ⟨?_⟩|refine Rk [0] 0 c2 ⟨?_⟩|refine Rd (fun h=>⟨?_⟩) fun h=>⟨?_⟩|refine Rb ⟨?_⟩|fail
         exact Rz
     · by_cases k3:k=3
       · subst k3;by_cases hn:w.leases.length=0
         · refine ⟨w,p+1,⟨hb6,hw.hl⟩,by omega,?_⟩;refine con_wc (w:=w) hh ?_;refine G0 Tryz.func66 ?_;repeat' first|refine Ra ⟨?_⟩|refine Rk [] 4 c1 ⟨?_⟩|refine Rk [0] 0 c2 ⟨?_⟩|refine Rd (fun h=>⟨?_⟩) fun h=>⟨?_⟩|refine Rb ⟨?_⟩|fail
           exact Rz
         · have hn0:0 < w.leases.length:=by omega
           have r1:w.leases[0]?=some w.leases[0]:=zAB hn0;have hby:=hb6.ls _ (zAX hn0);generalize w.leases[0]=y at r1 hby
           have r2:(w.leases.map Lse.c)[0]?=some y.c:=mg r1;have e4:(w.leases++[y]).map Lse.c=w.leases.map Lse.c++[y.c]:=by rw [zAH]; rfl
           refine ⟨{ w with leases:=w.leases++[y] },p+1,⟨⟨hb6.over,fun l hl=>by rcases zAu.1 hl with h|h <;> first|exact hb6.ls l h|(rw [List.mem_singleton.1 h]; exact hby),by simp only [zAT,List.length_cons,List.length_nil]; omega,hb6.hs,hb6.hl,hb6.fl,hb6.nt,hb6.nl,hb6.op⟩,hw.hl⟩,by omega,?_⟩
           refine con_wc (w:={ w with leases:=w.leases++[y] }) hh ?_
           unfold wcH;rw [e4];refine G0 Tryz.func66 ?_;repeat' first|refine Ra ⟨?_⟩|refine Rk [] 4 c1 ⟨?_⟩|refine Rk [0] 0 c2 ⟨?_⟩|(refine ⟨0,_,rfl,r2,rfl,?_⟩ <;> conv=>whnf)|(refine ⟨_,r2,?_⟩ <;> conv=>whnf)|refine Rd (fun h=>⟨?_⟩) fun h=>⟨?_⟩|refine Rb ⟨?_⟩|fail
           exact Rz
       · by_cases k4:k=4
         · subst k4;have b0:=hb.hs h0 (by rw [hh]; simp);have b1:=hb.hs h1 (by rw [hh]; simp);have b2:=hb.hs h2 (by rw [hh]; simp);have m0:(h0.map Hld.c).length=h0.length:=zAA ..;have m1:(h1.map Hld.c).length=h1.length:=zAA ..;have m2:(h2.map Hld.c).length=h2.length:=zAA ..;have c3:=cM (m:=m) l (p+1) 3 (by omega) (by omega) hl;obtain ⟨a,ha,ha2⟩:=drew (m:=m) l (p+1) 3 (by omega);rw [ha] at c3;have c4:=cM (m:=m) l (p+1+1) 3 (by omega) (by omega) hl;obtain ⟨b,hbq,hb2⟩:=drew (m:=m) l (p+1+1) 3 (by omega);rw [hbq] at c4;have c5:=gH (m:=m) l (p+1+1+1) (by omega) hl;have hP:=gR _ (gc (m:=m) l (p+1+1+1) (ls:=gd) (by decide));generalize ofV m l (p+1+1+1) gd=P at c5 hP;have c6:=cM (m:=m) l (p+1+1+1+1) 3 (by omega) (by omega) hl;obtain ⟨u,hu,hu2⟩:=drew (m:=m) l (p+1+1+1+1) 3 (by omega);rw [hu] at c6;have c7:=cM (m:=m) l (p+1+1+1+1+1) 3 (by omega) (by omega) hl;obtain ⟨z,hz,hz2⟩:=drew (m:=m) l (p+1+1+1+1+1) 3 (by omega);rw [hz] at c7;have hx:nE ⟨P,false,b9,(u:Int),w.clock+z⟩:=⟨by simp only; omega,by simp [b9],by simp [b9]⟩;have key:∀ y∈w.holds,∀ i,dj 60 { w with holds:=w.holds.set i (y++[⟨P,false,b9,(u:Int),w.clock+z⟩]) }:=fun y hy i=>hb6.put ⟨fun q hq=>by rcases zAu.1 hq with h|h <;> first|exact (hb.hs y hy).1 q h|(rw [List.mem_singleton.1 h]; exact hx),by have:=(hb.hs y hy).2; simp only [zAT,List.length_cons,List.length_nil]; omega⟩
           by_cases a0:a=0
           · subst a0;by_cases q0:b=0
             · subst q0;have e4:(h0++[(⟨P,false,b9,(u:Int),w.clock+z⟩:Hld)]).map Hld.c=h0.map Hld.c++[Hld.c ⟨P,false,b9,(u:Int),w.clock+z⟩]:=by rw [zAH]; rfl
               refine ⟨{ w with holds:=w.holds.set 0 (h0++[⟨P,false,b9,(u:Int),w.clock+z⟩]) },p+6,⟨key _ (by rw [hh]; simp) _,by simp only [zAS]; exact hw.hl⟩,by omega,?_⟩
               have e5:p+6=p+1+1+1+1+1+1:=by omega
               rw [e5];refine con_wc (w:={ w with holds:=w.holds.set 0 (h0++[⟨P,false,b9,(u:Int),w.clock+z⟩]) }) (g0:=h0++[⟨P,false,b9,(u:Int),w.clock+z⟩]) (g1:=h1) (g2:=h2) (by simp only [hh]; rfl) ?_
               unfold wcH cy;rw [e4];refine cTE ?_;refine bK pE xW Tryz.func66 rfl rfl rfl (zAC rfl) ?_;refine Cd.seqS ?_;repeat' first|refine Rx ⟨?_⟩|refine Rd (fun h=>⟨?_⟩) fun h=>⟨?_⟩|fail
               all_goals (try refine Stop.here ?_)
               refine Cd.seqS ?_;repeat' first|refine Ra ⟨?_⟩|refine Rk [] 4 (cT c1) ⟨?_⟩|refine Rd (fun h=>⟨?_⟩) fun h=>⟨?_⟩|refine Rb ⟨?_⟩|fail
               all_goals (try refine Stop.here ?_)
               refine mw [.openA 4 0] ?_
               conv=>whnf
               repeat' first|refine Ra ⟨?_⟩|(refine ⟨_,(rfl:getElem? (_:List aE) _=some _),?_⟩ <;> conv=>whnf)|refine Rk [0] 0 (cT c2) ⟨?_⟩|refine Rk [0] 0 (cT c3) ⟨?_⟩|refine Rk [0] 0 (cT c4) ⟨?_⟩|refine Rk [0] 0 (cT c5) ⟨?_⟩|refine Rk [0] 0 (cT c6) ⟨?_⟩|refine Rk [0] 0 (cT c7) ⟨?_⟩|(refine ⟨0,rfl,by simp,?_⟩ <;> conv=>whnf)|(refine ⟨0,rfl,by simp,?_⟩ <;> conv=>whnf)|refine Rd (fun h=>⟨?_⟩) fun h=>⟨?_⟩|refine Rb ⟨?_⟩|fail
               refine ak.here (fw [.iceZ 4,.ice 3,.ice 5,.ice 6] ?_)
               conv=>whnf
               exact ⟨rfl,rfl,rfl,rfl⟩
             ·
              by_cases q1:b=1
              · subst q1;have e4:(h1++[(⟨P,false,b9,(u:Int),w.clock+z⟩:Hld)]).map Hld.c=h1.map Hld.c++[Hld.c ⟨P,false,b9,(u:Int),w.clock+z⟩]:=by rw [zAH]; rfl
                refine ⟨{ w with holds:=w.holds.set 0 (h1++[⟨P,false,b9,(u:Int),w.clock+z⟩]) },p+6,⟨key _ (by rw [hh]; simp) _,by simp only [zAS]; exact hw.hl⟩,by omega,?_⟩
                have e5:p+6=p+1+1+1+1+1+1:=by omega
                rw [e5];refine con_wc (w:={ w with holds:=w.holds.set 0 (h1++[⟨P,false,b9,(u:Int),w.clock+z⟩]) }) (g0:=h1++[⟨P,false,b9,(u:Int),w.clock+z⟩]) (g1:=h1) (g2:=h2) (by simp only [hh]; rfl) ?_
                unfold wcH cy;rw [e4];refine cTE ?_;refine bK pE xW Tryz.func66 rfl rfl rfl (zAC rfl) ?_;refine Cd.seqS ?_;repeat' first|refine Rx ⟨?_⟩|refine Rd (fun h=>⟨?_⟩) fun h=>⟨?_⟩|fail
                all_goals (try refine Stop.here ?_)
                refine Cd.seqS ?_;repeat' first|refine Ra ⟨?_⟩|refine Rk [] 4 (cT c1) ⟨?_⟩|refine Rd (fun h=>⟨?_⟩) fun h=>⟨?_⟩|refine Rb ⟨?_⟩|fail
                all_goals (try refine Stop.here ?_)
                refine mw [.openA 4 1] ?_
                conv=>whnf
                repeat' first|refine Ra ⟨?_⟩|(refine ⟨_,(rfl:getElem? (_:List aE) _=some _),?_⟩ <;> conv=>whnf)|refine Rk [0] 0 (cT c2) ⟨?_⟩|refine Rk [0] 0 (cT c3) ⟨?_⟩|refine Rk [0] 0 (cT c4) ⟨?_⟩|refine Rk [0] 0 (cT c5) ⟨?_⟩|refine Rk [0] 0 (cT c6) ⟨?_⟩|refine Rk [0] 0 (cT c7) ⟨?_⟩|(refine ⟨1,rfl,by simp,?_⟩ <;> conv=>whnf)|(refine ⟨0,rfl,by simp,?_⟩ <;> conv=>whnf)|refine Rd (fun h=>⟨?_⟩) fun h=>⟨?_⟩|refine Rb ⟨?_⟩|fail
                refine ak.here (fw [.iceZ 4,.ice 3,.ice 5,.ice 6] ?_)
                conv=>whnf
                exact ⟨rfl,rfl,rfl,rfl⟩
              ·
               obtain rfl:b=2:=by omega
               have e4:(h2++[(⟨P,false,b9,(u:Int),w.clock+z⟩:Hld)]).map Hld.c=h2.map Hld.c++[Hld.c ⟨P,false,b9,(u:Int),w.clock+z⟩]:=by rw [zAH]; rfl
               refine ⟨{ w with holds:=w.holds.set 0 (h2++[⟨P,false,b9,(u:Int),w.clock+z⟩]) },p+6,⟨key _ (by rw [hh]; simp) _,by simp only [zAS]; exact hw.hl⟩,by omega,?_⟩
               have e5:p+6=p+1+1+1+1+1+1:=by omega
               rw [e5];refine con_wc (w:={ w with holds:=w.holds.set 0 (h2++[⟨P,false,b9,(u:Int),w.clock+z⟩]) }) (g0:=h2++[⟨P,false,b9,(u:Int),w.clock+z⟩]) (g1:=h1) (g2:=h2) (by simp only [hh]; rfl) ?_
               unfold wcH cy;rw [e4];refine cTE ?_;refine bK pE xW Tryz.func66 rfl rfl rfl (zAC rfl) ?_;refine Cd.seqS ?_;repeat' first|refine Rx ⟨?_⟩|refine Rd (fun h=>⟨?_⟩) fun h=>⟨?_⟩|fail
               all_goals (try refine Stop.here ?_)
               refine Cd.seqS ?_;repeat' first|refine Ra ⟨?_⟩|refine Rk [] 4 (cT c1) ⟨?_⟩|refine Rd (fun h=>⟨?_⟩) fun h=>⟨?_⟩|refine Rb ⟨?_⟩|fail
               all_goals (try refine Stop.here ?_)
               refine mw [.openA 4 2] ?_
               conv=>whnf
               repeat' first|refine Ra ⟨?_⟩|(refine ⟨_,(rfl:getElem? (_:List aE) _=some _),?_⟩ <;> conv=>whnf)|refine Rk [0] 0 (cT c2) ⟨?_⟩|refine Rk [0] 0 (cT c3) ⟨?_⟩|refine Rk [0] 0 (cT c4) ⟨?_⟩|refine Rk [0] 0 (cT c5) ⟨?_⟩|refine Rk [0] 0 (cT c6) ⟨?_⟩|refine Rk [0] 0 (cT c7) ⟨?_⟩|(refine ⟨2,rfl,by simp,?_⟩ <;> conv=>whnf)|(refine ⟨0,rfl,by simp,?_⟩ <;> conv=>whnf)|refine Rd (fun h=>⟨?_⟩) fun h=>⟨?_⟩|refine Rb ⟨?_⟩|fail
               refine ak.here (fw [.iceZ 4,.ice 3,.ice 5,.ice 6] ?_)
               conv=>whnf
               exact ⟨rfl,rfl,rfl,rfl⟩
           · by_cases a1:a=1
             · subst a1;by_cases q0:b=0
               · subst q0;have e4:(h0++[(⟨P,false,b9,(u:Int),w.clock+z⟩:Hld)]).map Hld.c=h0.map Hld.c++[Hld.c ⟨P,false,b9,(u:Int),w.clock+z⟩]:=by rw [zAH]; rfl
                 refine ⟨{ w with holds:=w.holds.set 1 (h0++[⟨P,false,b9,(u:Int),w.clock+z⟩]) },p+6,⟨key _ (by rw [hh]; simp) _,by simp only [zAS]; exact hw.hl⟩,by omega,?_⟩
                 have e5:p+6=p+1+1+1+1+1+1:=by omega
                 rw [e5];refine con_wc (w:={ w with holds:=w.holds.set 1 (h0++[⟨P,false,b9,(u:Int),w.clock+z⟩]) }) (g0:=h0) (g1:=h0++[⟨P,false,b9,(u:Int),w.clock+z⟩]) (g2:=h2) (by simp only [hh]; rfl) ?_
                 unfold wcH cy;rw [e4];refine cTE ?_;refine bK pE xW Tryz.func66 rfl rfl rfl (zAC rfl) ?_;refine Cd.seqS ?_;repeat' first|refine Rx ⟨?_⟩|refine Rd (fun h=>⟨?_⟩) fun h=>⟨?_⟩|fail
                 all_goals (try refine Stop.here ?_)
                 refine Cd.seqS ?_;repeat' first|refine Ra ⟨?_⟩|refine Rk [] 4 (cT c1) ⟨?_⟩|refine Rd (fun h=>⟨?_⟩) fun h=>⟨?_⟩|refine Rb ⟨?_⟩|fail
                 all_goals (try refine Stop.here ?_)
                 refine mw [.openA 4 0] ?_
                 conv=>whnf
                 repeat' first|refine Ra ⟨?_⟩|(refine ⟨_,(rfl:getElem? (_:List aE) _=some _),?_⟩ <;> conv=>whnf)|refine Rk [0] 0 (cT c2) ⟨?_⟩|refine Rk [0] 0 (cT c3) ⟨?_⟩|refine Rk [0] 0 (cT c4) ⟨?_⟩|refine Rk [0] 0 (cT c5) ⟨?_⟩|refine Rk [0] 0 (cT c6) ⟨?_⟩|refine Rk [0] 0 (cT c7) ⟨?_⟩|(refine ⟨0,rfl,by simp,?_⟩ <;> conv=>whnf)|(refine ⟨1,rfl,by simp,?_⟩ <;> conv=>whnf)|refine Rd (fun h=>⟨?_⟩) fun h=>⟨?_⟩|refine Rb ⟨?_⟩|fail
                 refine ak.here (fw [.iceZ 4,.ice 3,.ice 5,.ice 6] ?_)
                 conv=>whnf
                 exact ⟨rfl,rfl,rfl,rfl⟩
               ·
                by_cases q1:b=1
                · subst q1;have e4:(h1++[(⟨P,false,b9,(u:Int),w.clock+z⟩:Hld)]).map Hld.c=h1.map Hld.c++[Hld.c ⟨P,false,b9,(u:Int),w.clock+z⟩]:=by rw [zAH]; rfl
                  refine ⟨{ w with holds:=w.holds.set 1 (h1++[⟨P,false,b9,(u:Int),w.clock+z⟩]) },p+6,⟨key _ (by rw [hh]; simp) _,by simp only [zAS]; exact hw.hl⟩,by omega,?_⟩
                  have e5:p+6=p+1+1+1+1+1+1:=by omega
                  rw [e5];refine con_wc (w:={ w with holds:=w.holds.set 1 (h1++[⟨P,false,b9,(u:Int),w.clock+z⟩]) }) (g0:=h0) (g1:=h1++[⟨P,false,b9,(u:Int),w.clock+z⟩]) (g2:=h2) (by simp only [hh]; rfl) ?_
                  unfold wcH cy;rw [e4];refine cTE ?_;refine bK pE xW Tryz.func66 rfl rfl rfl (zAC rfl) ?_;refine Cd.seqS ?_;repeat' first|refine Rx ⟨?_⟩|refine Rd (fun h=>⟨?_⟩) fun h=>⟨?_⟩|fail
                  all_goals (try refine Stop.here ?_)
                  refine Cd.seqS ?_;repeat' first|refine Ra ⟨?_⟩|refine Rk [] 4 (cT c1) ⟨?_⟩|refine Rd (fun h=>⟨?_⟩) fun h=>⟨?_⟩|refine Rb ⟨?_⟩|fail
                  all_goals (try refine Stop.here ?_)
                  refine mw [.openA 4 1] ?_
                  conv=>whnf
                  repeat' first|refine Ra ⟨?_⟩|(refine ⟨_,(rfl:getElem? (_:List aE) _=some _),?_⟩ <;> conv=>whnf)|refine Rk [0] 0 (cT c2) ⟨?_⟩|refine Rk [0] 0 (cT c3) ⟨?_⟩|refine Rk [0] 0 (cT c4) ⟨?_⟩|refine Rk [0] 0 (cT c5) ⟨?_⟩|refine Rk [0] 0 (cT c6) ⟨?_⟩|refine Rk [0] 0 (cT c7) ⟨?_⟩|(refine ⟨1,rfl,by simp,?_⟩ <;> conv=>whnf)|(refine ⟨1,rfl,by simp,?_⟩ <;> conv=>whnf)|refine Rd (fun h=>⟨?_⟩) fun h=>⟨?_⟩|refine Rb ⟨?_⟩|fail
                  refine ak.here (fw [.iceZ 4,.ice 3,.ice 5,.ice 6] ?_)
                  conv=>whnf
                  exact ⟨rfl,rfl,rfl,rfl⟩
                ·
                 obtain rfl:b=2:=by omega
                 have e4:(h2++[(⟨P,false,b9,(u:Int),w.clock+z⟩:Hld)]).map Hld.c=h2.map Hld.c++[Hld.c ⟨P,false,b9,(u:Int),w.clock+z⟩]:=by rw [zAH]; rfl
                 refine ⟨{ w with holds:=w.holds.set 1 (h2++[⟨P,false,b9,(u:Int),w.clock+z⟩]) },p+6,⟨key _ (by rw [hh]; simp) _,by simp only [zAS]; exact hw.hl⟩,by omega,?_⟩
                 have e5:p+6=p+1+1+1+1+1+1:=by omega
                 rw [e5];refine con_wc (w:={ w with holds:=w.holds.set 1 (h2++[⟨P,false,b9,(u:Int),w.clock+z⟩]) }) (g0:=h0) (g1:=h2++[⟨P,false,b9,(u:Int),w.clock+z⟩]) (g2:=h2) (by simp only [hh]; rfl) ?_
                 unfold wcH cy;rw [e4];refine cTE ?_;refine bK pE xW Tryz.func66 rfl rfl rfl (zAC rfl) ?_;refine Cd.seqS ?_;repeat' first|refine Rx ⟨?_⟩|refine Rd (fun h=>⟨?_⟩) fun h=>⟨?_⟩|fail
                 all_goals (try refine Stop.here ?_)
                 refine Cd.seqS ?_;repeat' first|refine Ra ⟨?_⟩|refine Rk [] 4 (cT c1) ⟨?_⟩|refine Rd (fun h=>⟨?_⟩) fun h=>⟨?_⟩|refine Rb ⟨?_⟩|fail
                 all_goals (try refine Stop.here ?_)
                 refine mw [.openA 4 2] ?_
                 conv=>whnf
                 repeat' first|refine Ra ⟨?_⟩|(refine ⟨_,(rfl:getElem? (_:List aE) _=some _),?_⟩ <;> conv=>whnf)|refine Rk [0] 0 (cT c2) ⟨?_⟩|refine Rk [0] 0 (cT c3) ⟨?_⟩|refine Rk [0] 0 (cT c4) ⟨?_⟩|refine Rk [0] 0 (cT c5) ⟨?_⟩|refine Rk [0] 0 (cT c6) ⟨?_⟩|refine Rk [0] 0 (cT c7) ⟨?_⟩|(refine ⟨2,rfl,by simp,?_⟩ <;> conv=>whnf)|(refine ⟨1,rfl,by simp,?_⟩ <;> conv=>whnf)|refine Rd (fun h=>⟨?_⟩) fun h=>⟨?_⟩|refine Rb ⟨?_⟩|fail
                 refine ak.here (fw [.iceZ 4,.ice 3,.ice 5,.ice 6] ?_)
                 conv=>whnf
                 exact ⟨rfl,rfl,rfl,rfl⟩
             · obtain rfl:a=2:=by omega
               by_cases q0:b=0
               · subst q0;have e4:(h0++[(⟨P,false,b9,(u:Int),w.clock+z⟩:Hld)]).map Hld.c=h0.map Hld.c++[Hld.c ⟨P,false,b9,(u:Int),w.clock+z⟩]:=by rw [zAH]; rfl
                 refine ⟨{ w with holds:=w.holds.set 2 (h0++[⟨P,false,b9,(u:Int),w.clock+z⟩]) },p+6,⟨key _ (by rw [hh]; simp) _,by simp only [zAS]; exact hw.hl⟩,by omega,?_⟩
                 have e5:p+6=p+1+1+1+1+1+1:=by omega
                 rw [e5];refine con_wc (w:={ w with holds:=w.holds.set 2 (h0++[⟨P,false,b9,(u:Int),w.clock+z⟩]) }) (g0:=h0) (g1:=h1) (g2:=h0++[⟨P,false,b9,(u:Int),w.clock+z⟩]) (by simp only [hh]; rfl) ?_
                 unfold wcH cy;rw [e4];refine cTE ?_;refine bK pE xW Tryz.func66 rfl rfl rfl (zAC rfl) ?_;refine Cd.seqS ?_;repeat' first|refine Rx ⟨?_⟩|refine Rd (fun h=>⟨?_⟩) fun h=>⟨?_⟩|fail
                 all_goals (try refine Stop.here ?_)
                 refine Cd.seqS ?_;repeat' first|refine Ra ⟨?_⟩|refine Rk [] 4 (cT c1) ⟨?_⟩|refine Rd (fun h=>⟨?_⟩) fun h=>⟨?_⟩|refine Rb ⟨?_⟩|fail
                 all_goals (try refine Stop.here ?_)
                 refine mw [.openA 4 0] ?_
                 conv=>whnf
                 repeat' first|refine Ra ⟨?_⟩|(refine ⟨_,(rfl:getElem? (_:List aE) _=some _),?_⟩ <;> conv=>whnf)|refine Rk [0] 0 (cT c2) ⟨?_⟩|refine Rk [0] 0 (cT c3) ⟨?_⟩|refine Rk [0] 0 (cT c4) ⟨?_⟩|refine Rk [0] 0 (cT c5) ⟨?_⟩|refine Rk [0] 0 (cT c6) ⟨?_⟩|refine Rk [0] 0 (cT c7) ⟨?_⟩|(refine ⟨0,rfl,by simp,?_⟩ <;> conv=>whnf)|(refine ⟨2,rfl,by simp,?_⟩ <;> conv=>whnf)|refine Rd (fun h=>⟨?_⟩) fun h=>⟨?_⟩|refine Rb ⟨?_⟩|fail
                 refine ak.here (fw [.iceZ 4,.ice 3,.ice 5,.ice 6] ?_)
                 conv=>whnf
                 exact ⟨rfl,rfl,rfl,rfl⟩
               ·
                by_cases q1:b=1
                · subst q1;have e4:(h1++[(⟨P,false,b9,(u:Int),w.clock+z⟩:Hld)]).map Hld.c=h1.map Hld.c++[Hld.c ⟨P,false,b9,(u:Int),w.clock+z⟩]:=by rw [zAH]; rfl
                  refine ⟨{ w with holds:=w.holds.set 2 (h1++[⟨P,false,b9,(u:Int),w.clock+z⟩]) },p+6,⟨key _ (by rw [hh]; simp) _,by simp only [zAS]; exact hw.hl⟩,by omega,?_⟩
                  have e5:p+6=p+1+1+1+1+1+1:=by omega
                  rw [e5];refine con_wc (w:={ w with holds:=w.holds.set 2 (h1++[⟨P,false,b9,(u:Int),w.clock+z⟩]) }) (g0:=h0) (g1:=h1) (g2:=h1++[⟨P,false,b9,(u:Int),w.clock+z⟩]) (by simp only [hh]; rfl) ?_
                  unfold wcH cy;rw [e4];refine cTE ?_;refine bK pE xW Tryz.func66 rfl rfl rfl (zAC rfl) ?_;refine Cd.seqS ?_;repeat' first|refine Rx ⟨?_⟩|refine Rd (fun h=>⟨?_⟩) fun h=>⟨?_⟩|fail
                  all_goals (try refine Stop.here ?_)
                  refine Cd.seqS ?_;repeat' first|refine Ra ⟨?_⟩|refine Rk [] 4 (cT c1) ⟨?_⟩|refine Rd (fun h=>⟨?_⟩) fun h=>⟨?_⟩|refine Rb ⟨?_⟩|fail
                  all_goals (try refine Stop.here ?_)
                  refine mw [.openA 4 1] ?_
                  conv=>whnf
                  repeat' first|refine Ra ⟨?_⟩|(refine ⟨_,(rfl:getElem? (_:List aE) _=some _),?_⟩ <;> conv=>whnf)|refine Rk [0] 0 (cT c2) ⟨?_⟩|refine Rk [0] 0 (cT c3) ⟨?_⟩|refine Rk [0] 0 (cT c4) ⟨?_⟩|refine Rk [0] 0 (cT c5) ⟨?_⟩|refine Rk [0] 0 (cT c6) ⟨?_⟩|refine Rk [0] 0 (cT c7) ⟨?_⟩|(refine ⟨1,rfl,by simp,?_⟩ <;> conv=>whnf)|(refine ⟨2,rfl,by simp,?_⟩ <;> conv=>whnf)|refine Rd (fun h=>⟨?_⟩) fun h=>⟨?_⟩|refine Rb ⟨?_⟩|fail
                  refine ak.here (fw [.iceZ 4,.ice 3,.ice 5,.ice 6] ?_)
                  conv=>whnf
                  exact ⟨rfl,rfl,rfl,rfl⟩
                ·
                 obtain rfl:b=2:=by omega
                 have e4:(h2++[(⟨P,false,b9,(u:Int),w.clock+z⟩:Hld)]).map Hld.c=h2.map Hld.c++[Hld.c ⟨P,false,b9,(u:Int),w.clock+z⟩]:=by rw [zAH]; rfl
                 refine ⟨{ w with holds:=w.holds.set 2 (h2++[⟨P,false,b9,(u:Int),w.clock+z⟩]) },p+6,⟨key _ (by rw [hh]; simp) _,by simp only [zAS]; exact hw.hl⟩,by omega,?_⟩
                 have e5:p+6=p+1+1+1+1+1+1:=by omega
                 rw [e5];refine con_wc (w:={ w with holds:=w.holds.set 2 (h2++[⟨P,false,b9,(u:Int),w.clock+z⟩]) }) (g0:=h0) (g1:=h1) (g2:=h2++[⟨P,false,b9,(u:Int),w.clock+z⟩]) (by simp only [hh]; rfl) ?_
                 unfold wcH cy;rw [e4];refine cTE ?_;refine bK pE xW Tryz.func66 rfl rfl rfl (zAC rfl) ?_;refine Cd.seqS ?_;repeat' first|refine Rx ⟨?_⟩|refine Rd (fun h=>⟨?_⟩) fun h=>⟨?_⟩|fail
                 all_goals (try refine Stop.here ?_)
                 refine Cd.seqS ?_;repeat' first|refine Ra ⟨?_⟩|refine Rk [] 4 (cT c1) ⟨?_⟩|refine Rd (fun h=>⟨?_⟩) fun h=>⟨?_⟩|refine Rb ⟨?_⟩|fail
                 all_goals (try refine Stop.here ?_)
                 refine mw [.openA 4 2] ?_
                 conv=>whnf
                 repeat' first|refine Ra ⟨?_⟩|(refine ⟨_,(rfl:getElem? (_:List aE) _=some _),?_⟩ <;> conv=>whnf)|refine Rk [0] 0 (cT c2) ⟨?_⟩|refine Rk [0] 0 (cT c3) ⟨?_⟩|refine Rk [0] 0 (cT c4) ⟨?_⟩|refine Rk [0] 0 (cT c5) ⟨?_⟩|refine Rk [0] 0 (cT c6) ⟨?_⟩|refine Rk [0] 0 (cT c7) ⟨?_⟩|(refine ⟨2,rfl,by simp,?_⟩ <;> conv=>whnf)|(refine ⟨2,rfl,by simp,?_⟩ <;> conv=>whnf)|refine Rd (fun h=>⟨?_⟩) fun h=>⟨?_⟩|refine Rb ⟨?_⟩|fail
                 refine ak.here (fw [.iceZ 4,.ice 3,.ice 5,.ice 6] ?_)
                 conv=>whnf
                 exact ⟨rfl,rfl,rfl,rfl⟩
         · by_cases k5:k=5
           · subst k5;have c3:=cM (m:=m) l (p+1) 3 (by omega) (by omega) hl;obtain ⟨j,hj,hj2⟩:=drew (m:=m) l (p+1) 3 (by omega);rw [hj] at c3;have c4:=fH (m:=m) l (p+1+1) [-1,w.count,w.count+1,0] (by omega) hl (by simp) (by simp);generalize oG m l (p+1+1) [-1,w.count,w.count+1,0]=K at c4;have hjl:j < (ck w.floors).length:=by omega
             have e4:ck (w.floors.set j K)=(ck w.floors).set j [.k .i64 K]:=List.map_set ..;refine ⟨{ w with floors:=w.floors.set j K },p+1+1+1,⟨⟨hb6.over,hb6.ls,hb6.ll,hb6.hs,hb6.hl,by simp only [zAS]; exact hb6.fl,hb6.nt,hb6.nl,hb6.op⟩,hw.hl⟩,by omega,?_⟩
             refine con_wc (w:={ w with floors:=w.floors.set j K }) hh ?_
             unfold wcH;simp only;rw [e4];refine G0 Tryz.func66 ?_;repeat' first|refine Ra ⟨?_⟩|refine Rk [] 4 c1 ⟨?_⟩|refine Rk [0] 0 c2 ⟨?_⟩|refine Rk [0] 0 c3 ⟨?_⟩|refine Rk [0] 0 c4 ⟨?_⟩|(refine ⟨hjl,?_⟩ <;> conv=>whnf)|(refine ⟨zAC rfl,?_⟩ <;> conv=>whnf)|refine Rd (fun h=>⟨?_⟩) fun h=>⟨?_⟩|refine Rb ⟨?_⟩|fail
             exact Rz
           · by_cases k6:k=6
             · subst k6;by_cases hn:w.net.length=0
               · refine ⟨w,p+1,⟨hb6,hw.hl⟩,by omega,?_⟩;refine con_wc (w:=w) hh ?_;refine G0 Tryz.func66 ?_;repeat' first|refine Ra ⟨?_⟩|refine Rk [] 4 c1 ⟨?_⟩|refine Rk [0] 0 c2 ⟨?_⟩|refine Rd (fun h=>⟨?_⟩) fun h=>⟨?_⟩|refine Rb ⟨?_⟩|fail
                 exact Rz
               · have c3:=cM (m:=m) l (p+1) (w.net.length:Int) (by omega) (by omega) hl;obtain ⟨j,hj,hj2⟩:=drew (m:=m) l (p+1) (w.net.length:Int) (by omega);rw [hj,← e2] at c3;have c4:=fH (m:=m) l (p+1+1) [0,5,2,4] (by omega) hl (by decide) (by decide);generalize oG m l (p+1+1) [0,5,2,4]=K at c4;have hjn:j < w.net.length:=by omega
                 have hjl:j < (w.net.map Mes.c).length:=by omega
                 have r1:w.net[j]?=some w.net[j]:=zAB hjn;have hby:=hb6.nt _ (zAX hjn);generalize w.net[j]=y at r1 hby
                 have r2:(w.net.map Mes.c)[j]?=some y.c:=mg r1;have e4:(w.net.set j ⟨K,y.who,y.hold⟩).map Mes.c=(w.net.map Mes.c).set j (Mes.c ⟨K,y.who,y.hold⟩):=List.map_set ..;refine ⟨{ w with net:=w.net.set j ⟨K,y.who,y.hold⟩ },p+1+1+1,⟨⟨hb6.over,hb6.ls,hb6.ll,hb6.hs,hb6.hl,hb6.fl,fun x hx=>by rcases zAw hx with h|h <;> first|exact hb6.nt x h|(rw [h]; exact hby),by simp only [zAS]; exact hb6.nl,hb6.op⟩,hw.hl⟩,by omega,?_⟩
                 refine con_wc (w:={ w with net:=w.net.set j ⟨K,y.who,y.hold⟩ }) hh ?_
                 unfold wcH;simp only;rw [e4];refine G0 Tryz.func66 ?_;repeat' first|refine Ra ⟨?_⟩|refine Rk [] 4 c1 ⟨?_⟩|refine Rk [0] 0 c2 ⟨?_⟩|refine Rk [0] 0 c3 ⟨?_⟩|refine Rk [0] 0 c4 ⟨?_⟩|(refine ⟨hjl,?_⟩ <;> conv=>whnf)|(refine ⟨_,r2,?_⟩ <;> conv=>whnf)|(refine ⟨j,_,rfl,r2,rfl,?_⟩ <;> conv=>whnf)|(refine ⟨(zAC rfl:_≤y.c.length),?_⟩ <;> conv=>whnf)|refine Rd (fun h=>⟨?_⟩) fun h=>⟨?_⟩|refine Rb ⟨?_⟩|fail
                 exact Rz
             · by_cases k7:k=7
               · subst k7;have c3:=cM (m:=m) l (p+1) 4 (by omega) (by omega) hl;obtain ⟨a,ha,ha2⟩:=drew (m:=m) l (p+1) 4 (by omega);rw [ha] at c3;have c4:=cM (m:=m) l (p+1+1) 4 (by omega) (by omega) hl;obtain ⟨b,hb1,hb2⟩:=drew (m:=m) l (p+1+1) 4 (by omega);rw [hb1] at c4;have c5:=gH (m:=m) l (p+1+1+1) (by omega) hl;have hP:=gR _ (gc (m:=m) l (p+1+1+1) (ls:=gd) (by decide));generalize ofV m l (p+1+1+1) gd=P at c5 hP;have c6:=cM (m:=m) l (p+1+1+1+1) 4 (by omega) (by omega) hl;obtain ⟨u,hu,hu2⟩:=drew (m:=m) l (p+1+1+1+1) 4 (by omega);rw [hu] at c6;have e4:(w.net++[(⟨1+(a:Int),(b:Int),aZ P u⟩:Mes)]).map Mes.c=w.net.map Mes.c++[Mes.c ⟨1+(a:Int),(b:Int),aZ P u⟩]:=by rw [zAH]; rfl
                 refine ⟨{ w with net:=w.net++[(⟨1+(a:Int),(b:Int),aZ P u⟩:Mes)] },p+1+1+1+1+1,⟨⟨hb6.over,hb6.ls,hb6.ll,hb6.hs,hb6.hl,hb6.fl,fun x hx=>by rcases zAu.1 hx with h|h <;> first|exact hb6.nt x h|(rw [List.mem_singleton.1 h]; exact ny (by omega)),by simp only [zAT,List.length_cons,List.length_nil]; omega,hb6.op⟩,hw.hl⟩,by omega,?_⟩
                 refine con_wc (w:={ w with net:=w.net++[(⟨1+(a:Int),(b:Int),aZ P u⟩:Mes)] }) hh ?_
                 unfold wcH;simp only;rw [e4];refine G0 Tryz.func66 ?_;repeat' first|refine Ra ⟨?_⟩|refine Rk [] 4 c1 ⟨?_⟩|refine Rk [0] 0 c2 ⟨?_⟩|refine Rk [0] 0 c3 ⟨?_⟩|refine Rk [0] 0 c4 ⟨?_⟩|refine Rk [0] 0 c5 ⟨?_⟩|refine Rk [0] 0 c6 ⟨?_⟩|refine Rd (fun h=>⟨?_⟩) fun h=>⟨?_⟩|refine Rb ⟨?_⟩|fail
                 exact Rz
               · by_cases k8:k=8
                 · subst k8;refine ⟨{ w with waits:=!w.waits },p+1,⟨⟨hb6.over,hb6.ls,hb6.ll,hb6.hs,hb6.hl,hb6.fl,hb6.nt,hb6.nl,hb6.op⟩,hw.hl⟩,by omega,?_⟩
                   refine con_wc (w:={ w with waits:=!w.waits }) hh ?_
                   refine G0 Tryz.func66 ?_;repeat' first|refine Ra ⟨?_⟩|refine Rk [] 4 c1 ⟨?_⟩|refine Rk [0] 0 c2 ⟨?_⟩|refine Rd (fun h=>⟨?_⟩) fun h=>⟨?_⟩|refine Rb ⟨?_⟩|fail
                   exact Rz
                 · by_cases k9:k=9
                   · subst k9;have c3:=kw (m:=m) w.over ⟨2,[47,97],[],[113]⟩ hb.over (by simp [jc]);have hV:gM (dE w.over ⟨2,[47,97],[],[113]⟩).1:=(Hk (o:=w.over)).bnd;generalize dE w.over ⟨2,[47,97],[],[113]⟩=Y at c3 hV;refine ⟨{ w with over:=Y.1 },p+1,⟨⟨hV,hb6.ls,hb6.ll,hb6.hs,hb6.hl,hb6.fl,hb6.nt,hb6.nl,hb6.op⟩,hw.hl⟩,by omega,?_⟩
                     refine con_wc (w:={ w with over:=Y.1 }) hh ?_
                     refine G0 Tryz.func66 ?_;repeat' first|refine Ra ⟨?_⟩|refine Rk [] 4 c1 ⟨?_⟩|refine Rk [0] 0 c2 ⟨?_⟩|refine R0 c3 ⟨?_⟩|refine Rd (fun h=>⟨?_⟩) fun h=>⟨?_⟩|refine Rb ⟨?_⟩|fail
                     exact Rz
                   · refine ⟨w,p+1,⟨hb6,hw.hl⟩,by omega,?_⟩;refine con_wc (w:=w) hh ?_;refine G0 Tryz.func66 ?_;repeat' first|refine Ra ⟨?_⟩|refine Rk [] 4 c1 ⟨?_⟩|refine Rk [0] 0 c2 ⟨?_⟩|refine Rd (fun h=>⟨?_⟩) fun h=>⟨?_⟩|refine Rb ⟨?_⟩|fail
                     exact Rz
theorem qn (l:Bs) (hl:l.length≤1048576):∃ (w:Wld) (who:Int) (p:Bs),dj 60 w∧p.length≤1073741823∧Con (E m) 21 0 [.sl (bh l)] [] (.tup [.agg w.c,.k .i64 who,.s p]) []:=by
 have hl2:(l.take 2000).length≤2000:=by rw [zAd]; omega
 have c0:=GQ (m:=m) l hl;obtain ⟨w,q,⟨h1,h2⟩,h3,c1⟩:=BB (m:=m) (l.take 2000) 0 (by omega) hl2;obtain ⟨x,q2,⟨g1,g2⟩,g3,c2⟩:=DD (m:=m) (l.take 2000) q w (by omega) hl2 h2 h1;have c3:=fH (m:=m) (l.take 2000) q2 [0,1,2,0,1,2,-1,3] (by omega) hl2 (by decide) (by decide);have hK:=(by decide:∀ x∈([0,1,2,0,1,2,-1,3]:List Int),-1≤x∧x≤3) _ (ld (m:=m) (l.take 2000) q2 (ls:=[0,1,2,0,1,2,-1,3]) (by decide));generalize oG m (l.take 2000) q2 [0,1,2,0,1,2,-1,3]=K at c3 hK;have c4:=qe (m:=m) K;have c5:=cM (m:=m) (l.take 2000) (q2+1) 4 (by omega) (by omega) hl2;obtain ⟨j,hj,hj2⟩:=drew (m:=m) (l.take 2000) (q2+1) 4 (by omega);rw [hj] at c5;obtain ⟨s1,y1,t1⟩:=tZ (m:=m) (l.take 2000) (q2+1) (by omega) hl2;obtain ⟨s2,y2,t2⟩:=tZ (m:=m) (l.take 2000) (q2+1+1) (by omega) hl2;obtain ⟨h0,h1',h2',hh⟩:=Bb g2;have hx:=dV hh;by_cases hw0:dJ K=true
 · rw [hw0] at c4;have hK2:0≤K∧K≤2:=by simpa [dJ] using hw0
   obtain ⟨i,rfl⟩:∃ i:Nat,K=i:=⟨K.toNat,by omega⟩;have hil:i < x.holds.length:=by omega
   have r1:x.holds[i]?=some x.holds[i]:=zAB hil;have hby:=g1.hs _ (zAX hil);generalize x.holds[i]=y at r1 hby
   have r2:(x.holds.map cy)[i]?=some (cy y):=by rw [zAO,r1]; rfl
   have e1:(x.holds.map cy).length=x.holds.length:=zAA ..;have e2:(y.map Hld.c).length=y.length:=zAA ..;by_cases hy:y.length=0
   · refine ⟨x,i,s1,g1,by omega,?_⟩;refine G0 Tryz.func21 ?_;repeat' first|refine Ra ⟨?_⟩|refine Rk [] 1 c0 ⟨?_⟩|refine Rk [1] 0 c1 ⟨?_⟩|refine Rk [1] 0 c2 ⟨?_⟩|refine Rk [1] 0 c3 ⟨?_⟩|refine R0 c4 ⟨?_⟩|refine Rk [1] 0 t1 ⟨?_⟩|((refine ⟨i,_,rfl,r2,rfl,?_⟩) <;> conv=>whnf)|((refine ⟨_,r2,?_⟩) <;> conv=>whnf)|refine Rd (fun h=>⟨?_⟩) fun h=>⟨?_⟩|refine Rb ⟨?_⟩|fail
     exact Rz
   · by_cases hj0:j=0
     · subst hj0;refine ⟨x,i,s2,g1,by omega,?_⟩;refine G0 Tryz.func21 ?_;repeat' first|refine Ra ⟨?_⟩|refine Rk [] 1 c0 ⟨?_⟩|refine Rk [1] 0 c1 ⟨?_⟩|refine Rk [1] 0 c2 ⟨?_⟩|refine Rk [1] 0 c3 ⟨?_⟩|refine R0 c4 ⟨?_⟩|refine Rk [1] 0 c5 ⟨?_⟩|refine Rk [1] 0 t2 ⟨?_⟩|((refine ⟨i,_,rfl,r2,rfl,?_⟩) <;> conv=>whnf)|((refine ⟨_,r2,?_⟩) <;> conv=>whnf)|refine Rd (fun h=>⟨?_⟩) fun h=>⟨?_⟩|refine Rb ⟨?_⟩|fail
       exact Rz
     · have hy0:0 < y.length:=by omega
       have r3:y[0]?=some y[0]:=zAB hy0;have hbh:=hby.1 _ (zAX hy0);generalize y[0]=z at r3 hbh;have r4:(y.map Hld.c)[0]?=some z.c:=mg r3;refine ⟨x,i,z.path,g1,hbh.1,?_⟩;refine G0 Tryz.func21 ?_;repeat' first|refine Ra ⟨?_⟩|refine Rk [] 1 c0 ⟨?_⟩|refine Rk [1] 0 c1 ⟨?_⟩|refine Rk [1] 0 c2 ⟨?_⟩|refine Rk [1] 0 c3 ⟨?_⟩|refine R0 c4 ⟨?_⟩|refine Rk [1] 0 c5 ⟨?_⟩|((refine ⟨i,_,rfl,r2,rfl,?_⟩) <;> conv=>whnf)|((refine ⟨_,r2,?_⟩) <;> conv=>whnf)|((refine ⟨0,_,rfl,r4,rfl,?_⟩) <;> conv=>whnf)|((refine ⟨_,r4,?_⟩) <;> conv=>whnf)|refine Rd (fun h=>⟨?_⟩) fun h=>⟨?_⟩|refine Rb ⟨?_⟩|fail
       exact Rz
 · have hw0:dJ K=false:=by simpa using hw0
   rw [hw0] at c4;refine ⟨x,K,s1,g1,by omega,?_⟩;refine G0 Tryz.func21 ?_;repeat' first|refine Ra ⟨?_⟩|refine Rk [] 1 c0 ⟨?_⟩|refine Rk [1] 0 c1 ⟨?_⟩|refine Rk [1] 0 c2 ⟨?_⟩|refine Rk [1] 0 c3 ⟨?_⟩|refine R0 c4 ⟨?_⟩|refine Rk [1] 0 t1 ⟨?_⟩|refine Rd (fun h=>⟨?_⟩) fun h=>⟨?_⟩|refine Rb ⟨?_⟩|fail
   exact Rz
end Go.Proofs.YtagejnomlkfndaaGreatDoor
