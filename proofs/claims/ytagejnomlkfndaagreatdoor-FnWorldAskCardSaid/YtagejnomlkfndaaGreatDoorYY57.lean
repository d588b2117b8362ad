/- Texts of this claim, set close: lemmas and contracts. -/
import Derived.Test.YtagejnomlkfndaaGreatDoorYY55
import Derived.Test.YtagejnomlkfndaaGreatDoorYY39
set_option linter.unusedSimpArgs false
set_option linter.unusedVariables false
set_option maxHeartbeats 1000000
set_option maxRecDepth 10000
namespace Go.Proofs.YtagejnomlkfndaaGreatDoor
open Go Go.RowKit Go.Ab Go.Par
variable {m:Int}
theorem FL (w:Wld) (x:Mes) (hb:dO w) {t v:List Ent} (ho:bv w.over=some (t,v)) (hw:OkW v w) (hx:(1≤x.kind∧x.kind≤4)∧(0≤x.who∧x.who≤2)∧(x.kind=2∨x.hold=aZ x.hold.path x.hold.num)) (hl:∀ l∈w.holds,l.length≤1048575) (h0 h1 h2:List Hld) (hh:w.holds=[h0,h1,h2]) :
   ∃ g0 g1 g2,(dA w x).holds=[g0,g1,g2]∧Con (E m) 219 4 [.agg (wcO w 0 1 2 3),.agg x.c] (wlT w 0 1 2 3 [anH h0,anH h1,anH h2]) (.agg (wcO (dA w x) 4 5 6 7)) (wlT (dA w x) 4 5 6 7 [anH g0,anH g1,anH g2]):=by
 obtain ⟨⟨k1,k2⟩,⟨w1,w2⟩,k3⟩:=hx;obtain ⟨kind,who,h⟩:=x;simp only at k1 k2 w1 w2 k3;obtain ⟨f0,f1,f2,hf⟩:=uT hw.fl;have hl':=hl;rw [hh] at hl';obtain rfl|rfl|rfl|rfl:kind=1∨kind=2∨kind=3∨kind=4:=by omega
 · have hq:dA w ⟨1,who,h⟩=ja w who h.path:=by simp [dA]
   rw [hq];exact ⟨h0,h1,h2,by unfold ja; split <;> exact hh,zf (m:=m) w h who hb ho hw.clk hw.cnt h0 h1 h2 hh⟩
 · have hq:dA w ⟨2,who,h⟩=eY w who h:=by simp [dA]
   rw [hq];unfold eY;obtain rfl|rfl|rfl:who=0∨who=1∨who=2:=by omega
   · have q1:bz w.floors 0=f0:=by rw [hf]; rfl
     have q2:aO w.holds 0=h0:=by rw [hh]; rfl
     rw [q1,q2];by_cases hc:w.clock < h.til∧f0 < h.num
     · rw [if_pos hc];exact ⟨cN h0 h,h1,h2,by simp [hh],sg (m:=m) w h h0 h1 h2 f0 f1 f2 hf (hl' h0 (by simp)) hc.1 hc.2⟩
     · rw [if_neg hc];exact ⟨h0,h1,h2,hh,o6 (m:=m) w h h0 h1 h2 f0 f1 f2 hf hc⟩
   · have q1:bz w.floors 1=f1:=by rw [hf]; rfl
     have q2:aO w.holds 1=h1:=by rw [hh]; rfl
     rw [q1,q2];by_cases hc:w.clock < h.til∧f1 < h.num
     · rw [if_pos hc];exact ⟨h0,cN h1 h,h2,by simp [hh],si (m:=m) w h h0 h1 h2 f0 f1 f2 hf (hl' h1 (by simp)) hc.1 hc.2⟩
     · rw [if_neg hc];exact ⟨h0,h1,h2,hh,o7 (m:=m) w h h0 h1 h2 f0 f1 f2 hf hc⟩
   · have q1:bz w.floors 2=f2:=by rw [hf]; rfl
     have q2:aO w.holds 2=h2:=by rw [hh]; rfl
     rw [q1,q2];by_cases hc:w.clock < h.til∧f2 < h.num
     · rw [if_pos hc];exact ⟨h0,h1,cN h2 h,by simp [hh],sj (m:=m) w h h0 h1 h2 f0 f1 f2 hf (hl' h2 (by simp)) hc.1 hc.2⟩
     · rw [if_neg hc];exact ⟨h0,h1,h2,hh,o8 (m:=m) w h h0 h1 h2 f0 f1 f2 hf hc⟩
 · have hq:dA w ⟨3,who,h⟩=d7 w who h.path h.num:=by simp [dA]
   rw [hq];have hbare:h=aZ h.path h.num:=by
    rcases k3 with k|k
    · omega
    · exact k
   have hnl:=hb.nl;unfold d7;obtain rfl|rfl|rfl:who=0∨who=1∨who=2:=by omega
   · have q1:bz w.floors 0=f0:=by rw [hf]; rfl
     have q2:aO w.holds 0=h0:=by rw [hh]; rfl
     rw [q1,q2];refine ⟨bP h0 h.path h.num,h1,h2,by simp [hh],?_⟩
     have:=q9 (m:=m) w h.path h.num hnl h0 h1 h2 f0 f1 f2 hf (hl' h0 (by simp))
     rw [← hbare] at this;rw [hf,← hbare];exact this
   · have q1:bz w.floors 1=f1:=by rw [hf]; rfl
     have q2:aO w.holds 1=h1:=by rw [hh]; rfl
     rw [q1,q2];refine ⟨h0,bP h1 h.path h.num,h2,by simp [hh],?_⟩
     have:=ra (m:=m) w h.path h.num hnl h0 h1 h2 f0 f1 f2 hf (hl' h1 (by simp))
     rw [← hbare] at this;rw [hf,← hbare];exact this
   · have q1:bz w.floors 2=f2:=by rw [hf]; rfl
     have q2:aO w.holds 2=h2:=by rw [hh]; rfl
     rw [q1,q2];refine ⟨h0,h1,bP h2 h.path h.num,by simp [hh],?_⟩
     have:=rb (m:=m) w h.path h.num hnl h0 h1 h2 f0 f1 f2 hf (hl' h2 (by simp))
     rw [← hbare] at this;rw [hf,← hbare];exact this
 · have hq:dA w ⟨4,who,h⟩=iy w who h.path h.num:=by simp [dA]
   rw [hq];exact ⟨h0,h1,h2,hh,vM (m:=m) w h who hb.ll h0 h1 h2⟩
theorem FM (l:List Mes) (i:Nat) (hi:i < l.length):(([]:List (List D))++((l.map Mes.c).take i).drop 0)++((l.map Mes.c).take (l.map Mes.c).length).drop (i+1)=(l.eraseIdx i).map Mes.c:=by
 rw [zAP,List.eraseIdx_eq_take_drop_succ,zAH,zBW,zBX]
 simp
theorem Hw (w:Wld) (e:Evn) (hb:dO w) {t v:List Ent} (ho:bv w.over=some (t,v)) (hw:OkW v w) (hk:e.kind=5∨e.kind=6∨e.kind=7) (hl:∀ l∈w.holds,l.length≤1048575) (h0 h1 h2:List Hld) (hh:w.holds=[h0,h1,h2]) :
   ∃ g0 g1 g2,(jb w e.kind e.pos).1.holds=[g0,g1,g2]∧Con (E m) 159 4 [.agg (wcO w 0 1 2 3),.agg e.c] (wlT w 0 1 2 3 [anH h0,anH h1,anH h2]) (.tup [.agg (wcO (jb w e.kind e.pos).1 4 5 6 7),.k .i64 (jb w e.kind e.pos).2]) (wlT (jb w e.kind e.pos).1 4 5 6 7 [anH g0,anH g1,anH g2]):=by
 obtain ⟨k,who,p,op,pos⟩:=e;simp only at hk ⊢;have hnl:=hb.nl;have e1:(w.net.map Mes.c).length=w.net.length:=zAA ..;unfold jb;by_cases hp:pos < 0
 · rw [if_pos hp];refine ⟨h0,h1,h2,hh,?_⟩;refine G0 Tryz.func159 ?_;repeat' first|refine Rx ⟨?_⟩|refine Rd (fun h=>⟨?_⟩) fun h=>⟨?_⟩|fail
   refine ak.here (fw [.anew 0,.close 1,.anew 2,.anew 3] ?_)
   conv=>whnf
   exact ⟨rfl,rfl,rfl,rfl⟩
 · rw [if_neg hp];obtain ⟨i,rfl⟩:∃ i:Nat,pos=(i:Int):=⟨pos.toNat,by omega⟩;simp only [zBQ];cases hx:w.net[i]? with
   | none=>
     have hi:=List.getElem?_eq_none_iff.1 hx;refine ⟨h0,h1,h2,hh,?_⟩;refine G0 Tryz.func159 ?_;repeat' first|refine Rx ⟨?_⟩|refine Rd (fun h=>⟨?_⟩) fun h=>⟨?_⟩|fail
     refine ak.here (fw [.anew 0,.close 1,.anew 2,.anew 3] ?_)
     conv=>whnf
     exact ⟨rfl,rfl,rfl,rfl⟩
   | some x=>
     have hi:=(List.getElem?_eq_some_iff.1 hx).1;have g5:(w.net.map Mes.c)[i]?=some x.c:=mg hx;have hxm:=zAD hx;have hnt:=hw.nt x hxm;have hlen:(w.net.eraseIdx i).length≤1048576:=by rw [zAk]; split <;> omega
     have hb1:dO { w with net:=w.net.eraseIdx i }:=⟨hb.over,hb.ls,hb.ll,hb.hs,hb.hl,hb.fl,fun y hy=>hb.nt y ((zBM _ _).subset hy),hlen,hb.op⟩
     have hw1:OkW v { w with net:=w.net.eraseIdx i }:=hw.less (by have:=hw.nl; rw [zAk]; split <;> omega) fun y hy=>(zBM _ _).subset hy
     have hraw:=FM w.net i hi;have hels:∀ cs∈w.net.map Mes.c,cs.length=9:=pC fun _=>rfl;by_cases h7:k=7
     · subst h7;simp only [if_pos];refine ⟨h0,h1,h2,hh,?_⟩;have c1:=iK (m:=m) w [anH h0,anH h1,anH h2] x hnl h0 h1 h2 rfl;refine G0 Tryz.func159 ?_;repeat' first|refine Ra ⟨?_⟩|refine Rk [0,1,2,3] 4 c1 ⟨?_⟩|((refine ⟨i,rfl,by omega,?_⟩) <;> conv=>whnf)|((refine ⟨_,g5,?_⟩) <;> conv=>whnf)|refine Rd (fun h=>⟨?_⟩) fun h=>⟨?_⟩|refine Rb ⟨?_⟩|fail
       exact Rf
     · simp only [if_neg h7];have ALT:True:=trivial;by_cases h6:k=6
       · subst h6;simp only [if_neg (by decide:¬ (6:Int)=5)];refine ⟨h0,h1,h2,hh,?_⟩;simp only [wlT,← hraw];refine G0 Tryz.func159 ?_;refine mw [.ice 3] ?_
         conv=>whnf
         repeat' first|refine Ra ⟨?_⟩|((refine ⟨i,rfl,by omega,?_⟩) <;> conv=>whnf)|((refine ⟨_,g5,?_⟩) <;> conv=>whnf)|((refine ⟨hels,?_⟩) <;> conv=>whnf)|((refine ⟨i,rfl,zAG _,by omega,?_⟩) <;> conv=>whnf)|((refine ⟨i+1,by omega,by omega,zAL _,?_⟩) <;> conv=>whnf)|refine Rd (fun h=>⟨?_⟩) fun h=>⟨?_⟩|refine Rb ⟨?_⟩|fail
         refine ak.here (fw [.anew 0,.close 1,.anew 2] ?_)
         conv=>whnf
         exact ⟨rfl,rfl,rfl,rfl⟩
       · have h5:k=5:=by omega
         subst h5;simp only [if_true];obtain ⟨g0,g1,g2,hg,c1⟩:=FL (m:=m) { w with net:=w.net.eraseIdx i } x hb1 ho hw1 ⟨hnt.1,hnt.2.1,hnt.2.2.2.2.2⟩ hl h0 h1 h2 hh
         refine ⟨g0,g1,g2,hg,?_⟩;generalize dA { w with net:=w.net.eraseIdx i } x=W at c1
         simp only [wlT,← hraw] at c1;refine G0 Tryz.func159 ?_;refine mw [.ice 3] ?_
         conv=>whnf
         repeat' first|refine Ra ⟨?_⟩|((refine ⟨i,rfl,by omega,?_⟩) <;> conv=>whnf)|((refine ⟨_,g5,?_⟩) <;> conv=>whnf)|((refine ⟨hels,?_⟩) <;> conv=>whnf)|((refine ⟨i,rfl,zAG _,by omega,?_⟩) <;> conv=>whnf)|((refine ⟨i+1,by omega,by omega,zAL _,?_⟩) <;> conv=>whnf)|refine Rk [0,1,2,8] 4 c1 ⟨?_⟩|refine Rk [0,1,2,9] 4 c1 ⟨?_⟩|refine Rk [0,1,2,7] 4 c1 ⟨?_⟩|refine Rk [0,1,2,10] 4 c1 ⟨?_⟩|refine Rd (fun h=>⟨?_⟩) fun h=>⟨?_⟩|refine Rb ⟨?_⟩|fail
         exact Rf
variable {m:Int}
theorem rc (w:Wld) (e:Evn) (hb:dO w) {t v:List Ent} (ho:bv w.over=some (t,v)) (hw:OkW v w) (hl:∀ l∈w.holds,l.length≤1048575) (he:ql e) (h0 h1 h2:List Hld) (hh:w.holds=[h0,h1,h2]) :
   ∃ g0 g1 g2,(wDo w e).1.holds=[g0,g1,g2]∧Con (E m) 80 4 [.agg (wcO w 0 1 2 3),.agg e.c] (wlT w 0 1 2 3 [anH h0,anH h1,anH h2]) (.tup [.agg (wcO (wDo w e).1 4 5 6 7),.k .i64 (wDo w e).2]) (wlT (wDo w e).1 4 5 6 7 [anH g0,anH g1,anH g2]):=by
 by_cases k5:e.kind=5∨e.kind=6∨e.kind=7
 · have hq:wDo w e=jb w e.kind e.pos:=by
     unfold wDo;rw [if_neg (by omega),if_neg (by omega),if_neg (by omega),if_neg (by omega),if_pos k5]
   rw [hq];obtain ⟨g0,g1,g2,hg,c1⟩:=Hw (m:=m) w e hb ho hw k5 hl h0 h1 h2 hh;refine ⟨g0,g1,g2,hg,?_⟩;generalize jb w e.kind e.pos=W at c1;obtain ⟨kind,who,p,op,pos⟩:=e;simp only at k5;obtain rfl|rfl|rfl:=k5
   · refine G0 Tryz.func80 ?_;repeat' first|refine Ra ⟨?_⟩|refine Rk [0,1,2,3] 4 c1 ⟨?_⟩|refine Rd (fun h=>⟨?_⟩) fun h=>⟨?_⟩|refine Rb ⟨?_⟩|fail
     exact Rf
   · refine G0 Tryz.func80 ?_;repeat' first|refine Ra ⟨?_⟩|refine Rk [0,1,2,3] 4 c1 ⟨?_⟩|refine Rd (fun h=>⟨?_⟩) fun h=>⟨?_⟩|refine Rb ⟨?_⟩|fail
     exact Rf
   · refine G0 Tryz.func80 ?_;repeat' first|refine Ra ⟨?_⟩|refine Rk [0,1,2,3] 4 c1 ⟨?_⟩|refine Rd (fun h=>⟨?_⟩) fun h=>⟨?_⟩|refine Rb ⟨?_⟩|fail
     exact Rf
 · have hep:=he.path;have heo:=he.op;obtain ⟨kind,who,p,op,pos⟩:=e;simp only at hep heo k5;unfold wDo;by_cases k1:kind=1
   · simp only [if_pos k1];subst k1;have c4:=qe (m:=m) who;have c5:=cY (m:=m) p (by omega);by_cases hw1:dJ who=true
     · rw [hw1] at c4;by_cases hp1:ah p=true
       · rw [hp1] at c5;have q:(dJ who && ah p)=true:=by rw [hw1,hp1]; rfl
         simp only [q,if_true];have c3:=iK (m:=m) w [anH h0,anH h1,anH h2] ⟨1,who,aZ p 0⟩ hb.nl h0 h1 h2 rfl;refine ⟨h0,h1,h2,hh,?_⟩;refine G0 Tryz.func80 ?_;repeat' first|refine Ra ⟨?_⟩|refine R0 c4 ⟨?_⟩|refine R0 c5 ⟨?_⟩|refine Rk [0,1,2,3] 4 c3 ⟨?_⟩|refine Rd (fun h=>⟨?_⟩) fun h=>⟨?_⟩|refine Rb ⟨?_⟩|fail
         exact Rf
       · have hp1:ah p=false:=by simpa using hp1
         rw [hp1] at c5;have q:(dJ who && ah p)=false:=by rw [hw1,hp1]; rfl
         rw [q];simp only [zAF,if_false];refine ⟨h0,h1,h2,hh,?_⟩;refine G0 Tryz.func80 ?_;repeat' first|refine Ra ⟨?_⟩|refine R0 c4 ⟨?_⟩|refine R0 c5 ⟨?_⟩|refine Rd (fun h=>⟨?_⟩) fun h=>⟨?_⟩|refine Rb ⟨?_⟩|fail
         refine ak.here (fw [.anew 0,.close 1,.anew 2,.anew 3] ?_)
         conv=>whnf
         exact ⟨rfl,rfl,rfl,rfl⟩
     · have hw1:dJ who=false:=by simpa using hw1
       rw [hw1] at c4;have q:(dJ who && ah p)=false:=by rw [hw1]; rfl
       rw [q];simp only [zAF,if_false];refine ⟨h0,h1,h2,hh,?_⟩;refine G0 Tryz.func80 ?_;repeat' first|refine Ra ⟨?_⟩|refine R0 c4 ⟨?_⟩|refine Rd (fun h=>⟨?_⟩) fun h=>⟨?_⟩|refine Rb ⟨?_⟩|fail
       refine ak.here (fw [.anew 0,.close 1,.anew 2,.anew 3] ?_)
       conv=>whnf
       exact ⟨rfl,rfl,rfl,rfl⟩
   · rw [if_neg k1];by_cases k2:kind=2
     · simp only [if_pos k2];subst k2;have c3:=Dx (m:=m) w [anH h0,anH h1,anH h2] op hb heo ho h0 h1 h2 hh rfl;refine ⟨h0,h1,h2,(jA w op).trans hh,?_⟩;generalize bQ w op=W at c3;refine G0 Tryz.func80 ?_;repeat' first|refine Ra ⟨?_⟩|refine Rk [0,1,2,3] 4 c3 ⟨?_⟩|refine Rd (fun h=>⟨?_⟩) fun h=>⟨?_⟩|refine Rb ⟨?_⟩|fail
       exact Rf
     · rw [if_neg k2];by_cases k3:kind=3
       · simp only [if_pos k3];subst k3;have c3:=Hs (m:=m) w [anH h0,anH h1,anH h2] hb ho h0 h1 h2 hh rfl;refine ⟨h0,h1,h2,(mc w).trans hh,?_⟩;generalize eI w=W at c3;refine G0 Tryz.func80 ?_;repeat' first|refine Ra ⟨?_⟩|refine Rk [0,1,2,3] 4 c3 ⟨?_⟩|refine Rd (fun h=>⟨?_⟩) fun h=>⟨?_⟩|refine Rb ⟨?_⟩|fail
         exact Rf
       · rw [if_neg k3];by_cases k4:kind=4
         · simp only [if_pos k4];subst k4;have c3:=FE (m:=m) w [anH h0,anH h1,anH h2] hw.clk hb.ll h0 h1 h2 rfl;refine ⟨h0,h1,h2,hh,?_⟩;generalize ix w=W at c3;refine G0 Tryz.func80 ?_;repeat' first|refine Ra ⟨?_⟩|refine Rk [0,1,2,3] 4 c3 ⟨?_⟩|refine Rd (fun h=>⟨?_⟩) fun h=>⟨?_⟩|refine Rb ⟨?_⟩|fail
           exact Rf
         · rw [if_neg k4];simp only [if_neg k5];have k6:¬ kind=5:=fun h=>k5 (.inl h);have k7:¬ kind=6:=fun h=>k5 (.inr (.inl h));have k8:¬ kind=7:=fun h=>k5 (.inr (.inr h));refine ⟨h0,h1,h2,hh,?_⟩;refine G0 Tryz.func80 ?_;repeat' first|refine Rx ⟨?_⟩|refine Rd (fun h=>⟨?_⟩) fun h=>⟨?_⟩|fail
           refine ak.here (fw [.anew 0,.close 1,.anew 2,.anew 3] ?_)
           conv=>whnf
           exact ⟨rfl,rfl,rfl,rfl⟩
variable {m:Int}
theorem j8 (w:Wld) (hb:dO w) (h0 h1 h2:List Hld) (hh:w.holds=[h0,h1,h2]):Con (E m) 81 0 [.agg w.c] [] (.agg (wcO w 0 1 2 3)) [(0,.own 132 (w.leases.map Lse.c)),(1,.deep 121 68 [anH h0,anH h1,anH h2]),(2,.own 3 (ck w.floors)),(3,.own 70 (w.net.map Mes.c))]:=by
 have hll:=hb.ll;have hfl:=hb.fl;have hnl:=hb.nl;have l0:=(hb.hs h0 (by rw [hh]; simp)).2;have l1:=(hb.hs h1 (by rw [hh]; simp)).2;have l2:=(hb.hs h2 (by rw [hh]; simp)).2;have e2:(w.leases.map Lse.c).length=w.leases.length:=zAA ..;have e3:(ck w.floors).length=w.floors.length:=zAA ..;have e4:(w.net.map Mes.c).length=w.net.length:=zAA ..;have m0:(h0.map Hld.c).length=h0.length:=zAA ..;have m1:(h1.map Hld.c).length=h1.length:=zAA ..;have m2:(h2.map Hld.c).length=h2.length:=zAA ..;have c1:=cH (jI (m:=m) w.over hb.over);clear hb;obtain ⟨o,clk,cnt,ls,hs,fl,nt,wt,op⟩:=w;simp only at hh hll hfl hnl e2 e3 e4 c1;subst hh;refine cE ?_;refine bK DS HW Tryz.func81 rfl rfl rfl (zAC rfl) ?_;repeat' first|refine Ra ⟨?_⟩|refine R0 c1 ⟨?_⟩|refine Rd (fun h=>⟨?_⟩) fun h=>⟨?_⟩|refine Rb ⟨?_⟩|fail
 refine Cd.loop2 (fun mq tm S nx=>∃ (i:Nat) (zs:List aE),mq=(3 - i)∧tm=[(1,.bp 0 0),(2,.bp 1 0),(3,.bp 2 0),(4,.k .i64 i)]∧S=[(0,.box 55 (Wld.c ⟨o,clk,cnt,ls,[h0,h1,h2],fl,nt,wt,op⟩)),(1,.box 55 [.nil,.nil,.nil,.k .i64 0,.k .i64 0,.nil,.nil,.nil,.nil,.b false,.k .i64 0,.s [],.s [],.s []]),(2,.box 55 [.sl (o.base.map Ent.c),.sl (o.layers.map cm),.sl (o.upper.map Mrk.c),.k .i64 clk,.k .i64 cnt,.own 3,.own 4,.sl (ck fl),.sl (nt.map Mes.c),.b wt,.k .i64 op.kind,.s op.path,.s op.to,.s op.data]),(3,.own 132 (ls.map Lse.c)),(4,.deep 121 68 zs)]∧nx=5∧(i≤3)∧(zs=[anH h0,anH h1,anH h2].take i)) ?_ ?_
 · refine la [1,2,3,4] ?_
   conv=>whnf
   refine ⟨rfl,rfl,_,0,[],rfl,rfl,rfl,rfl,by omega,rfl⟩
 · rintro mq tm S nx ⟨i,zs,hn,rfl,rfl,rfl,hi,hz⟩;obtain rfl|rfl|rfl|rfl:i=0∨i=1∨i=2∨i=3:=by omega
   · have hz:zs=[]:=hz;subst hz;repeat' first|refine Rx ⟨?_⟩|refine Rd (fun h=>⟨?_⟩) fun h=>⟨?_⟩|fail
     refine .here ⟨mq - 1,by omega,?_⟩;refine la [1,2,3,4] ?_
     conv=>whnf
     refine ⟨rfl,rfl,1,[anH h0],(by omega),rfl,rfl,rfl,by omega,rfl⟩
   · have hz:zs=[anH h0]:=hz;subst hz;repeat' first|refine Ra ⟨?_⟩|((refine ⟨1,_,rfl,rfl,rfl,?_⟩) <;> conv=>whnf)|refine Rd (fun h=>⟨?_⟩) fun h=>⟨?_⟩|refine Rb ⟨?_⟩|fail
     refine .here ⟨mq - 1,by omega,?_⟩;refine la [1,2,3,4] ?_
     conv=>whnf
     refine ⟨rfl,rfl,2,[anH h0,anH h1],(by omega),rfl,rfl,rfl,by omega,rfl⟩
   · have hz:zs=[anH h0,anH h1]:=hz;subst hz;repeat' first|refine Ra ⟨?_⟩|((refine ⟨2,_,rfl,rfl,rfl,?_⟩) <;> conv=>whnf)|refine Rd (fun h=>⟨?_⟩) fun h=>⟨?_⟩|refine Rb ⟨?_⟩|fail
     refine .here ⟨mq - 1,by omega,?_⟩;refine la [1,2,3,4] ?_
     conv=>whnf
     refine ⟨rfl,rfl,3,[anH h0,anH h1,anH h2],(by omega),rfl,rfl,rfl,by omega,rfl⟩
   · have hz:zs=[anH h0,anH h1,anH h2]:=hz;subst hz;repeat' first|refine Rx ⟨?_⟩|refine Rd (fun h=>⟨?_⟩) fun h=>⟨?_⟩|fail
     exact Rf
end Go.Proofs.YtagejnomlkfndaaGreatDoor
