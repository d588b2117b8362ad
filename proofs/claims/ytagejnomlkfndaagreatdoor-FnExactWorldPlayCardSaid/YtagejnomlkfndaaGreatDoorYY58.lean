/- Texts of this claim, set close: lemmas and contracts. -/
import Derived.Test.YtagejnomlkfndaaGreatDoorYY54
set_option linter.unusedSimpArgs false
set_option linter.unusedVariables false
set_option maxHeartbeats 1000000
set_option maxRecDepth 10000
namespace Go.Proofs.YtagejnomlkfndaaGreatDoor
open Go Go.RowKit Go.Ab Go.Par
variable {m:Int}
theorem Hy {c:Nat} {l:List Nat} {w x:Wld} {h0 h1 h2:List Hld} (h:ltB c l=true) (hc:Nat.ble 12 c=true):(ltB c l && kC c (Il x [anH h0,anH h1,anH h2]++oL w))=true:=by
 have hc:=zAC hc;simp only [h,kC,cz,eU,zAx,wcG,j9,nmA,List.append_nil,zBB,zAh,ltB,dL,anH,zBO,zAE,Nat.blt_eq];omega
theorem II {c:Nat} {l:List Nat} {w x:Wld} {h0 h1 h2:List Hld} (h:ltB c l=true) (hc:Nat.ble 15 c=true):(ltB c l && kC c (Im x [anH h0,anH h1,anH h2]++oL w))=true:=by
 have hc:=zAC hc;simp only [h,kC,cz,eU,zAx,wcG,j9,nmA,List.append_nil,zBB,zAh,ltB,dL,anH,zBO,zAE,Nat.blt_eq];omega
theorem kM {w x:Wld} {z zs:List aE} (ho:x.over=w.over) (h:z=oZ w.over) (h':zs=hZ x):([(0,.own 66 (w.over.base.map Ent.c)),(1,.deep 32 166 z),(2,.own 166 (w.over.upper.map Mrk.c)),(3,.own 132 (x.leases.map Lse.c)),(4,.deep 121 68 zs),(5,.own 3 (ck x.floors)),(6,.own 70 (x.net.map Mes.c))]:ac)=wT x:=by
 rw [h,h',← ho]
theorem Bw {w:Wld} {p:Opn} (hne:¬ (w.waits=false∧(aJ (Go.Par.seen w.over) p).2=0∧dg (Go.Par.seen w.over) w.clock w.leases p=[])):(bQ w p).1.over=w.over:=by
 rw [bQ];cases hw:w.waits with
 | true=>rw [if_pos rfl]
 | false=>
   rw [if_neg (by simp)];by_cases hd:(aJ (Go.Par.seen w.over) p).2=0
   · rw [if_neg (by simp [hd]),if_neg (fun h=>hne ⟨hw,hd,h⟩)]
   · rw [if_pos hd]
theorem FO {w:Wld} (hne:¬ (w.waits=true∧dg (Go.Par.seen w.over) w.clock w.leases w.op=[])):(eI w).1.over=w.over:=by
 rw [eI];cases hw:w.waits with
 | false=>rw [if_pos rfl]
 | true=>rw [if_neg (by simp),if_neg (fun h=>hne ⟨hw,h⟩)]
theorem FP (w:Wld) (k pos:Int):(jb w k pos).1.over=w.over:=by
 unfold jb;split
 · rfl
 · split
   · rfl
   · split
     · rfl
     · split
       · unfold dA;split
         · unfold ja;split <;> rfl
         · split
           · unfold eY;split <;> rfl
           · split
             · rfl
             · split <;> rfl
       · rfl
theorem vO (w:Wld) (e:Evn) (hb:dO w) (hl:ba w=true→∀ l∈w.holds,l.length≤1048575) (he:ql e):Con (E m) 22 0 [.agg w.c,.agg e.c] [] (.tup [.agg (wcT (bX w e).1 0 1 2 3 4 5 6),.k .i64 (bX w e).2]) (wT (bX w e).1):=by
 have c1:=l5 (m:=m) w hb;by_cases hok:ba w=true
 rotate_left
 · have hok:ba w=false:=by simpa using hok
   rw [hok] at c1;have hx:bX w e=(w0,1):=by rw [bX,hok]; rfl
   rw [hx];refine G0 Tryz.func22 ?_;repeat' first|refine Ra ⟨?_⟩|refine R0 c1 ⟨?_⟩|refine Rd (fun h=>⟨?_⟩) fun h=>⟨?_⟩|refine Rb ⟨?_⟩|fail
   refine ak.here (fw [.thawB 2 0 66,.thawD 2 1 32 166,.thawB 2 2 166,.thawB 2 5 132,.thawD 2 6 121 68,.thawB 2 7 3,.thawB 2 8 70] ?_)
   conv=>whnf
   exact ⟨rfl,rfl,rfl,rfl⟩
 · rw [hok] at c1;have hx:bX w e=wDo w e:=by rw [bX,if_pos hok]
   rw [hx];obtain ⟨t,v,ho,hw,hs⟩:=bB hok;obtain ⟨h0,h1,h2,hh⟩:=Bb hw.hl;have c2:=uZ (m:=m) w hb h0 h1 h2 hh;have hep:=he.path;obtain ⟨kind,who,p,op,pos⟩:=e;simp only at hep;unfold wDo;by_cases k1:kind=1
   · simp only [if_pos k1];subst k1;have c4:=nv (m:=m) who;have c5:=cu (m:=m) p (by omega);by_cases hwp:dJ who=true∧ah p=true
     · rw [hwp.1] at c4;rw [hwp.2] at c5;have q:(dJ who && ah p)=true:=by rw [hwp.1,hwp.2]; rfl
       simp only [q,if_true];have c3:=unQ (ew (m:=m) w [anH h0,anH h1,anH h2] ⟨1,who,aZ p 0⟩ hb.nl h0 h1 h2 rfl) rfl (by simp [ay]);have hW:({ w with net:=bZ w.net ⟨1,who,aZ p 0⟩ }:Wld).holds=[h0,h1,h2]:=hh
       have hO:({ w with net:=bZ w.net ⟨1,who,aZ p 0⟩ }:Wld).over=w.over:=rfl
       refine G0 Tryz.func22 ?_;repeat' first|refine Ra ⟨?_⟩|refine R0 c1 ⟨?_⟩|(refine Rc [] 7 rfl rfl c2 ?_ rfl rfl (vN rfl) <;> conv=>whnf)|refine R0 c4 ⟨?_⟩|refine R0 c5 ⟨?_⟩|(refine ⟨[10,6,7,8,9,3,4,5],_,_,_,_,4,⟨rfl,rfl,(bq rfl rfl (bq rfl rfl (bq rfl rfl (bq rfl rfl (bq rfl rfl (bq rfl rfl (bq rfl (l9 (bi _ _)) (bq rfl rfl rfl)))))))),c3,rfl,Hy rfl rfl⟩,.inl ⟨[],trivial,rfl,.inr (oX (dK rfl rfl (dK rfl rfl (dK rfl rfl (dK rfl rfl (dK rfl rfl (dK rfl rfl (dK rfl (uY (bi _ _)) (dK rfl rfl rfl)))))))) rfl),?_⟩⟩ <;> conv=>whnf)|refine Rd (fun h=>⟨?_⟩) fun h=>⟨?_⟩|refine Rb ⟨?_⟩|fail
       refine ak.here ⟨[],[3,4,5,11,12,13,14],?_⟩
       conv=>whnf
       refine ⟨rfl,rfl,rfl,?_⟩;exact kM hO (by simp only [bi,co]) (ob hW).symm
     · have q:(dJ who && ah p)=false:=by rw [← zAZ]; simpa using hwp
       rw [q];simp only [zAF,if_false];by_cases hw1:dJ who=true
       · have hp1:ah p=false:=by rw [← zAZ]; exact fun h=>hwp ⟨hw1,h⟩
         rw [hw1] at c4;rw [hp1] at c5;refine G0 Tryz.func22 ?_;repeat' first|refine Ra ⟨?_⟩|refine R0 c1 ⟨?_⟩|(refine Rc [] 7 rfl rfl c2 ?_ rfl rfl (vN rfl) <;> conv=>whnf)|refine R0 c4 ⟨?_⟩|refine R0 c5 ⟨?_⟩|refine Rd (fun h=>⟨?_⟩) fun h=>⟨?_⟩|refine Rb ⟨?_⟩|fail
         refine ak.here ⟨[],[3,4,5,6,7,8,9],?_⟩
         conv=>whnf
         refine ⟨rfl,rfl,rfl,?_⟩;exact kM rfl (by simp only [bi,co]) (ob hh).symm
       · have hw1:dJ who=false:=by simpa using hw1
         rw [hw1] at c4;refine G0 Tryz.func22 ?_;repeat' first|refine Ra ⟨?_⟩|refine R0 c1 ⟨?_⟩|(refine Rc [] 7 rfl rfl c2 ?_ rfl rfl (vN rfl) <;> conv=>whnf)|refine R0 c4 ⟨?_⟩|refine Rd (fun h=>⟨?_⟩) fun h=>⟨?_⟩|refine Rb ⟨?_⟩|fail
         refine ak.here ⟨[],[3,4,5,6,7,8,9],?_⟩
         conv=>whnf
         refine ⟨rfl,rfl,rfl,?_⟩;exact kM rfl (by simp only [bi,co]) (ob hh).symm
   · rw [if_neg k1];by_cases k2:kind=2
     · simp only [if_pos k2];subst k2;have hW:(bQ w op).1.holds=[h0,h1,h2]:=(jA w op).trans hh;by_cases hc:w.waits=false∧(aJ (Go.Par.seen w.over) op).2=0∧dg (Go.Par.seen w.over) w.clock w.leases op=[]
       · have c3:=unK (Bu (m:=m) w [anH h0,anH h1,anH h2] op hb he.op hok h0 h1 h2 hh rfl hc.1 hc.2.1 hc.2.2) (by simp [ay,aD,aj]);generalize bQ w op=W at c3 hW;refine G0 Tryz.func22 ?_;repeat' first|refine Ra ⟨?_⟩|refine R0 c1 ⟨?_⟩|(refine Rc [] 7 rfl rfl c2 ?_ rfl rfl (vN rfl) <;> conv=>whnf)|(refine ⟨[10,6,7,8,9,3,4,5],_,_,_,_,7,⟨rfl,rfl,(bq rfl rfl (bq rfl rfl (bq rfl rfl (bq rfl rfl (bq rfl rfl (bq rfl rfl (bq rfl (l9 (bi _ _)) (bq rfl rfl rfl)))))))),c3,rfl,II rfl rfl⟩,.inl ⟨[],trivial,rfl,.inr (oX (dK rfl rfl (dK rfl rfl (dK rfl rfl (dK rfl rfl (dK rfl rfl (dK rfl rfl (dK rfl (uY (bi _ _)) (dK rfl rfl rfl)))))))) rfl),?_⟩⟩ <;> conv=>whnf)|refine Rd (fun h=>⟨?_⟩) fun h=>⟨?_⟩|refine Rb ⟨?_⟩|fail
         refine ak.here ⟨[],[11,12,13,14,15,16,17],?_⟩
         conv=>whnf
         refine ⟨rfl,rfl,rfl,?_⟩;exact kM rfl (by simp only [bi,co]) (ob hW).symm
       · have hO:=Bw hc;have c3:=unQ (DB (m:=m) w [anH h0,anH h1,anH h2] op hb he.op hok h0 h1 h2 hh rfl hc) hO (by simp [ay,aD,aj]);generalize bQ w op=W at c3 hW hO;refine G0 Tryz.func22 ?_;repeat' first|refine Ra ⟨?_⟩|refine R0 c1 ⟨?_⟩|(refine Rc [] 7 rfl rfl c2 ?_ rfl rfl (vN rfl) <;> conv=>whnf)|(refine ⟨[10,6,7,8,9,3,4,5],_,_,_,_,4,⟨rfl,rfl,(bq rfl rfl (bq rfl rfl (bq rfl rfl (bq rfl rfl (bq rfl rfl (bq rfl rfl (bq rfl (l9 (bi _ _)) (bq rfl rfl rfl)))))))),c3,rfl,Hy rfl rfl⟩,.inl ⟨[],trivial,rfl,.inr (oX (dK rfl rfl (dK rfl rfl (dK rfl rfl (dK rfl rfl (dK rfl rfl (dK rfl rfl (dK rfl (uY (bi _ _)) (dK rfl rfl rfl)))))))) rfl),?_⟩⟩ <;> conv=>whnf)|refine Rd (fun h=>⟨?_⟩) fun h=>⟨?_⟩|refine Rb ⟨?_⟩|fail
         refine ak.here ⟨[],[3,4,5,11,12,13,14],?_⟩
         conv=>whnf
         refine ⟨rfl,rfl,rfl,?_⟩;exact kM hO (by simp only [bi,co]) (ob hW).symm
     · rw [if_neg k2];by_cases k3:kind=3
       · simp only [if_pos k3];subst k3;have hW:(eI w).1.holds=[h0,h1,h2]:=(mc w).trans hh;by_cases hc:w.waits=true∧dg (Go.Par.seen w.over) w.clock w.leases w.op=[]
         · have c3:=unK (xj (m:=m) w [anH h0,anH h1,anH h2] hb hok h0 h1 h2 hh rfl hc.1 hc.2) (by simp [ay,aD,aj]);generalize eI w=W at c3 hW;refine G0 Tryz.func22 ?_;repeat' first|refine Ra ⟨?_⟩|refine R0 c1 ⟨?_⟩|(refine Rc [] 7 rfl rfl c2 ?_ rfl rfl (vN rfl) <;> conv=>whnf)|(refine ⟨[10,6,7,8,9,3,4,5],_,_,_,_,7,⟨rfl,rfl,(bq rfl rfl (bq rfl rfl (bq rfl rfl (bq rfl rfl (bq rfl rfl (bq rfl rfl (bq rfl (l9 (bi _ _)) (bq rfl rfl rfl)))))))),c3,rfl,II rfl rfl⟩,.inl ⟨[],trivial,rfl,.inr (oX (dK rfl rfl (dK rfl rfl (dK rfl rfl (dK rfl rfl (dK rfl rfl (dK rfl rfl (dK rfl (uY (bi _ _)) (dK rfl rfl rfl)))))))) rfl),?_⟩⟩ <;> conv=>whnf)|refine Rd (fun h=>⟨?_⟩) fun h=>⟨?_⟩|refine Rb ⟨?_⟩|fail
           refine ak.here ⟨[],[11,12,13,14,15,16,17],?_⟩
           conv=>whnf
           refine ⟨rfl,rfl,rfl,?_⟩;exact kM rfl (by simp only [bi,co]) (ob hW).symm
         · have hO:=FO hc;have c3:=unQ (Bt (m:=m) w [anH h0,anH h1,anH h2] hb hok h0 h1 h2 hh rfl hc) hO (by simp [ay,aD,aj]);generalize eI w=W at c3 hW hO;refine G0 Tryz.func22 ?_;repeat' first|refine Ra ⟨?_⟩|refine R0 c1 ⟨?_⟩|(refine Rc [] 7 rfl rfl c2 ?_ rfl rfl (vN rfl) <;> conv=>whnf)|(refine ⟨[10,6,7,8,9,3,4,5],_,_,_,_,4,⟨rfl,rfl,(bq rfl rfl (bq rfl rfl (bq rfl rfl (bq rfl rfl (bq rfl rfl (bq rfl rfl (bq rfl (l9 (bi _ _)) (bq rfl rfl rfl)))))))),c3,rfl,Hy rfl rfl⟩,.inl ⟨[],trivial,rfl,.inr (oX (dK rfl rfl (dK rfl rfl (dK rfl rfl (dK rfl rfl (dK rfl rfl (dK rfl rfl (dK rfl (uY (bi _ _)) (dK rfl rfl rfl)))))))) rfl),?_⟩⟩ <;> conv=>whnf)|refine Rd (fun h=>⟨?_⟩) fun h=>⟨?_⟩|refine Rb ⟨?_⟩|fail
           refine ak.here ⟨[],[3,4,5,11,12,13,14],?_⟩
           conv=>whnf
           refine ⟨rfl,rfl,rfl,?_⟩;exact kM hO (by simp only [bi,co]) (ob hW).symm
       · rw [if_neg k3];by_cases k4:kind=4
         · simp only [if_pos k4];subst k4;have c3:=unQ (FF (m:=m) w [anH h0,anH h1,anH h2] hw.clk hb.ll h0 h1 h2 rfl) rfl (by simp [ay]);have hW:(ix w).holds=[h0,h1,h2]:=hh;have hO:(ix w).over=w.over:=rfl;generalize ix w=W at c3 hW hO;refine G0 Tryz.func22 ?_;repeat' first|refine Ra ⟨?_⟩|refine R0 c1 ⟨?_⟩|(refine Rc [] 7 rfl rfl c2 ?_ rfl rfl (vN rfl) <;> conv=>whnf)|(refine ⟨[10,6,7,8,9,3,4,5],_,_,_,_,4,⟨rfl,rfl,(bq rfl rfl (bq rfl rfl (bq rfl rfl (bq rfl rfl (bq rfl rfl (bq rfl rfl (bq rfl (l9 (bi _ _)) (bq rfl rfl rfl)))))))),c3,rfl,Hy rfl rfl⟩,.inl ⟨[],trivial,rfl,.inr (oX (dK rfl rfl (dK rfl rfl (dK rfl rfl (dK rfl rfl (dK rfl rfl (dK rfl rfl (dK rfl (uY (bi _ _)) (dK rfl rfl rfl)))))))) rfl),?_⟩⟩ <;> conv=>whnf)|refine Rd (fun h=>⟨?_⟩) fun h=>⟨?_⟩|refine Rb ⟨?_⟩|fail
           refine ak.here ⟨[],[3,4,5,11,12,13,14],?_⟩
           conv=>whnf
           refine ⟨rfl,rfl,rfl,?_⟩;exact kM hO (by simp only [bi,co]) (ob hW).symm
         · rw [if_neg k4];by_cases k5:kind=5∨kind=6∨kind=7
           · simp only [if_pos k5];obtain ⟨g0,g1,g2,hW,c3⟩:=zj (m:=m) w kind pos hb hok k5 (hl hok) h0 h1 h2 hh;have hO:=FP w kind pos;have c3:=unQ c3 hO (by simp [ay,aD,aj]);generalize jb w kind pos=W at c3 hW hO;obtain rfl|rfl|rfl:=k5;all_goals
              refine G0 Tryz.func22 ?_;repeat' first|refine Ra ⟨?_⟩|refine R0 c1 ⟨?_⟩|(refine Rc [] 7 rfl rfl c2 ?_ rfl rfl (vN rfl) <;> conv=>whnf)|(refine ⟨[10,6,7,8,9,3,4,5],_,_,_,_,4,⟨rfl,rfl,(bq rfl rfl (bq rfl rfl (bq rfl rfl (bq rfl rfl (bq rfl rfl (bq rfl rfl (bq rfl (l9 (bi _ _)) (bq rfl rfl rfl)))))))),c3,rfl,Hy rfl rfl⟩,.inl ⟨[],trivial,rfl,.inr (oX (dK rfl rfl (dK rfl rfl (dK rfl rfl (dK rfl rfl (dK rfl rfl (dK rfl rfl (dK rfl (uY (bi _ _)) (dK rfl rfl rfl)))))))) rfl),?_⟩⟩ <;> conv=>whnf)|refine Rd (fun h=>⟨?_⟩) fun h=>⟨?_⟩|refine Rb ⟨?_⟩|fail
              refine ak.here ⟨[],[3,4,5,11,12,13,14],?_⟩
              conv=>whnf
              refine ⟨rfl,rfl,rfl,?_⟩;exact kM hO (by simp only [bi,co]) (ob hW).symm
           · simp only [if_neg k5];have k6:¬ kind=5:=fun h=>k5 (.inl h);have k7:¬ kind=6:=fun h=>k5 (.inr (.inl h));have k8:¬ kind=7:=fun h=>k5 (.inr (.inr h));refine G0 Tryz.func22 ?_;repeat' first|refine Ra ⟨?_⟩|refine R0 c1 ⟨?_⟩|(refine Rc [] 7 rfl rfl c2 ?_ rfl rfl (vN rfl) <;> conv=>whnf)|refine Rd (fun h=>⟨?_⟩) fun h=>⟨?_⟩|refine Rb ⟨?_⟩|fail
             refine ak.here ⟨[],[3,4,5,6,7,8,9],?_⟩
             conv=>whnf
             refine ⟨rfl,rfl,rfl,?_⟩;exact kM rfl (by simp only [bi,co]) (ob hh).symm
end Go.Proofs.YtagejnomlkfndaaGreatDoor
