/- Texts of this claim, set close: lemmas and contracts. -/
import Derived.Test.YtlicaibhgcenhaaGreatDoorYY17
set_option linter.unusedSimpArgs false
set_option linter.unusedVariables false
set_option maxHeartbeats 1000000
set_option maxRecDepth 10000
namespace Go.Proofs.YtlicaibhgcenhaaGreatDoor
open Go Go.RowKit Go.Ab Go.Par
variable {m:Int}
theorem v8 (one l:List Mrk) (r:List (List Mrk)):jv one (l :: r)=match bD l one with|some j=>jv j r|none=>none:=rfl
theorem zI {a b j:List Mrk} (h:bD a b=some j):(∀ e∈j,e.path.length≤1073741823∧e.data.length≤1073741823)∧j.length≤32:=by
 unfold bD at h;split at h
 · rename_i hc;cases h;refine ⟨fun e he=>?_,hc.2.2⟩;unfold dZ at he;obtain ⟨y,hy,hye⟩:=List.mem_filterMap.1 he;have h1:e.path=y.path∧e.data=y.data:=by
    unfold cl at hye;repeat' split at hye
    all_goals first|cases hye
    all_goals exact ⟨rfl,rfl⟩
   have h2:ag (eK a b) y.path=some y:=eS dI hy;rw [ja (bx hc.1) (bx hc.2.1)] at h2;rw [← oR] at h2;obtain ⟨g1,g2⟩:=bO h2
   have:=qe hc.1 hc.2.1 g1
   rw [h1.1,h1.2];omega
 · cases h
theorem uG (o:Ovr) (hb:gq o):Con (E m) 156 0 [.agg o.c] [] (.tup [.agg (ez o).1.c,.b (ez o).2]) []:=by
 have c1:=qP (m:=m) o hb;have c2:=gu (m:=m) o hb;have e1:(o.layers.map c8).length=o.layers.length:=zAA ..;unfold fk at c1;unfold ez;cases h:aQ o with
 | none=>
   rw [h] at c1;refine G0 Tryz.func156 ?_;repeat' first|refine Ra ⟨?_⟩|refine R0 c1 ⟨?_⟩|refine Rd (fun h=>⟨?_⟩) fun h=>⟨?_⟩|refine Rb ⟨?_⟩|fail
   exact Rz
 | some x=>
   rw [h] at c1;have hlL:=(bu (t:=x.1) (v:=x.2) h).2.1;obtain ⟨base,layers,upper⟩:=o;simp only at e1 hlL ⊢
   match layers,hlL,e1,hb,c1,c2 with
   | [],_,e1,hb,c1,c2=>
     simp only [oS];refine G0 Tryz.func156 ?_;repeat' first|refine Ra ⟨?_⟩|refine R0 c1 ⟨?_⟩|refine R0 c2 ⟨?_⟩|refine Rd (fun h=>⟨?_⟩) fun h=>⟨?_⟩|refine Rb ⟨?_⟩|fail
     exact Rz
   | [l],_,e1,hb,c1,c2=>
     simp only [oS];refine G0 Tryz.func156 ?_;repeat' first|refine Ra ⟨?_⟩|refine R0 c1 ⟨?_⟩|refine R0 c2 ⟨?_⟩|refine Rd (fun h=>⟨?_⟩) fun h=>⟨?_⟩|refine Rb ⟨?_⟩|fail
     exact Rz
   | l :: k :: r,hlL,e1,hb,c1,c2=>
     have hbl:=hb.lay l (by simp);have c3:=dS (m:=m) l (by omega);have e2:(l :: k :: r).length=r.length+2:=rfl;have hF:oS (l :: k :: r)=jv l (k :: r):=rfl;rw [hF];refine G0 Tryz.func156 ?_;have hraw:List.drop 1 (List.take ((l :: k :: r).map c8).length ((l :: k :: r).map c8))=(k :: r).map c8:=by rw [zAN]; rfl
     have e3:(List.drop 1 (List.take ((l :: k :: r).map c8).length ((l :: k :: r).map c8))).length=r.length+1:=by rw [hraw]; simp
     have e4:(k :: r).length=r.length+1:=rfl;repeat' first|refine Ra ⟨?_⟩|refine R0 c1 ⟨?_⟩|refine R0 c2 ⟨?_⟩|refine R0 c3 ⟨?_⟩|refine Rd (fun h=>⟨?_⟩) fun h=>⟨?_⟩|refine Rb ⟨?_⟩|fail
     refine Cd.loop2 (fun mq tm S nx=>∃ (i:Nat) (one:List Mrk),mq=((k :: r).length - i)∧tm=[(2,.bp 0 0),(4,.bp 1 0),(5,.sl (one.map Mrk.c)),(28,.sl (List.drop 1 (List.take ((l :: k :: r).map c8).length ((l :: k :: r).map c8)))),(29,.k .i64 ((List.drop 1 (List.take ((l :: k :: r).map c8).length ((l :: k :: r).map c8))).length:Int)),(30,.k .i64 i)]∧S=[(0,.box 49 [.nil,.nil,.nil]),(1,.box 49 (⟨base,l :: k :: r,upper⟩:Ovr).c)]∧nx=2∧(i≤(k :: r).length)∧(jv l (k :: r)=jv one ((k :: r).drop i))∧((∀ e∈one,e.path.length≤1073741823∧e.data.length≤1073741823))) ?_ ?_
     · refine la [2,4,5,28,29,30] ?_
       conv=>whnf
       refine ⟨rfl,rfl,_,0,l,rfl,rfl,rfl,rfl,by omega,rfl,hbl.1⟩
     · rintro mq tm S nx ⟨i,one,hn,rfl,rfl,rfl,hi,hS,hone⟩;rcases au (k :: r) i hi with ⟨rfl,hd⟩|⟨y,s,hy',hd,hr,hlt⟩
       · rw [hd] at hS;rw [hS];simp only [jv];repeat' first|refine Rx ⟨?_⟩|refine Rd (fun h=>⟨?_⟩) fun h=>⟨?_⟩|fail
         exact Rz
       · rw [hd,v8 one y s] at hS;have g1:(List.drop 1 (List.take ((l :: k :: r).map c8).length ((l :: k :: r).map c8)))[i]?=some [.sl (y.map Mrk.c)]:=by rw [hraw,zAQ,hy']; rfl
         have c4:=tO (m:=m) y one (hb.lay y (List.mem_cons_of_mem _ (zAD hy'))).1 hone;cases hj:bD y one with
         | none=>
           rw [hj] at c4 hS;simp only at hS;rw [hS];repeat' first|refine Ra ⟨?_⟩|refine R0 c4 ⟨?_⟩|(refine ⟨(rfl:[D.sl (y.map Mrk.c)].length=_),?_⟩ <;> conv=>whnf)|refine Rd (fun h=>⟨?_⟩) fun h=>⟨?_⟩|refine Rb ⟨?_⟩|fail
           exact Rz
         | some j=>
           rw [hj] at c4 hS;simp only at hS;have hjb:=(zI hj).1;repeat' first|refine Ra ⟨?_⟩|refine R0 c4 ⟨?_⟩|(refine ⟨(rfl:[D.sl (y.map Mrk.c)].length=_),?_⟩ <;> conv=>whnf)|refine Rd (fun h=>⟨?_⟩) fun h=>⟨?_⟩|refine Rb ⟨?_⟩|fail
           refine .here ⟨mq - 1,by omega,?_⟩;refine la [2,4,5,28,29,30] ?_
           conv=>whnf
           refine ⟨rfl,rfl,i+1,j,(by omega),rfl,rfl,rfl,by omega,(by rw [hS,hr]),hjb⟩
theorem DI (a b:Int):Con (E m) 321 0 [.k .i64 a,.k .i64 b] [] (.k .i64 (eJ a b)) []:=by
 by_cases h1:a=2
 · by_cases h2:b=0
   · have hx:eJ a b=a:=by simp [eJ,h2]
     rw [hx];refine G0 Tryz.func321 ?_;repeat' first|refine Rx ⟨?_⟩|refine Rd (fun h=>⟨?_⟩) fun h=>⟨?_⟩|fail
     exact Rf
   · by_cases h3:b=2
     · have hx:eJ a b=a:=by simp [eJ,h3]
       rw [hx];refine G0 Tryz.func321 ?_;repeat' first|refine Rx ⟨?_⟩|refine Rd (fun h=>⟨?_⟩) fun h=>⟨?_⟩|fail
       exact Rf
     · have hx:eJ a b=4:=by simp [eJ,h1,h2,h3]
       rw [hx];refine G0 Tryz.func321 ?_;repeat' first|refine Rx ⟨?_⟩|refine Rd (fun h=>⟨?_⟩) fun h=>⟨?_⟩|fail
       exact Rf
 · have hx:eJ a b=a:=by simp [eJ,h1]
   rw [hx];refine G0 Tryz.func321 ?_;repeat' first|refine Rx ⟨?_⟩|refine Rd (fun h=>⟨?_⟩) fun h=>⟨?_⟩|fail
   exact Rf
theorem xJ {t:List Mrk} {f:Mrk→Mrk} {a:List Mrk} {i:Nat} {x:Mrk} (h:a[i]?=some x):cG t ((a.take (i+1)).map f)=cX (cG t ((a.take i).map f)) (f x):=by rw [zH h,oP]
theorem DJ (a b:List Mrk) (ha:ax a=true) (hb:ax b=true):Con (E m) 290 0 [.sl (a.map Mrk.c),.sl (b.map Mrk.c)] [] (.sl ((eK a b).map Mrk.c)) []:=by
 have hal:=cJ ha;have hbl:=cJ hb;have hab:=e8 ha;have hap:=eT ha;have hbp:=eT hb;have e1:(a.map Mrk.c).length=a.length:=zAA ..;have e2:(b.map Mrk.c).length=b.length:=zAA ..;have hJ:eK a b=cG (cG [] (b.filter fun x=>dC a x.path)) (a.map (onK b)):=rfl;rw [hJ];refine G0 Tryz.func290 ?_;repeat' first|refine Rx ⟨?_⟩|refine Rd (fun h=>⟨?_⟩) fun h=>⟨?_⟩|fail
 refine Cd.loop2 (fun mq tm S nx=>∃ (i:Nat) (A:List Mrk),mq=(b.length - i)∧tm=[(0,.sl (a.map Mrk.c)),(1,.sl (b.map Mrk.c)),(5,.sl (A.map Mrk.c)),(6,.k .i64 i)]∧S=[]∧nx=0∧(i≤b.length)∧(A=cG [] ((b.take i).filter fun x=>dC a x.path))∧(A.length≤i)) ?_ ?_
 · refine li [5] [0,1,5,6] ?_
   conv=>whnf
   refine ⟨rfl,rfl,_,0,[],rfl,rfl,rfl,rfl,by omega,(by simp [cG]),by simp⟩
 · rintro mq tm S nx ⟨i,A,hn,rfl,rfl,rfl,hi,hA,hAl⟩;rcases au b i hi with ⟨rfl,hd⟩|⟨x,r,hx',hd,hr,hlt⟩
   · rw [zAN] at hA;rw [← hA];repeat' first|refine Rx ⟨?_⟩|refine Rd (fun h=>⟨?_⟩) fun h=>⟨?_⟩|fail
     refine Cd.loop2 (fun mq tm S nx=>∃ (j:Nat) (B:List Mrk),mq=(a.length - j)∧tm=[(0,.sl (a.map Mrk.c)),(1,.sl (b.map Mrk.c)),(5,.sl (B.map Mrk.c)),(7,.k .i64 j)]∧S=[]∧nx=0∧(j≤a.length)∧(B=cG A ((a.take j).map (onK b)))∧(B.length≤32+j)) ?_ ?_
     · refine li [5] [0,1,5,7] ?_
       conv=>whnf
       refine ⟨rfl,rfl,_,0,A,rfl,rfl,rfl,rfl,by omega,(by simp [cG]),by omega⟩
     · rintro mq tm S nx ⟨j,B,hn,rfl,rfl,rfl,hj,hB,hBl⟩;rcases au a j hj with ⟨rfl,hd⟩|⟨y,s,hy',hd,hr,hlt⟩
       · rw [zAN] at hB;rw [← hB];repeat' first|refine Rx ⟨?_⟩|refine Rd (fun h=>⟨?_⟩) fun h=>⟨?_⟩|fail
         exact Rf
       · have g1:=xJ (t:=A) (f:=onK b) hy';rw [← hB] at g1;have c3:=jo (m:=m) b y.path (by omega);have c4:=DI (m:=m) y.kind (bZ b y.path);have c5:Con (E m) 273 0 [.sl (B.map Mrk.c),.agg [.s y.path,.k .i64 (eJ y.kind (bZ b y.path)),.s y.data]] [] (.own 0) [(0,.own 197 ((cX B (onK b y)).map Mrk.c))]:=mH (m:=m) B (onK b y) (by omega);have hl:=(iX B (onK b y)).2;generalize cX B (onK b y)=Z at c5 g1 hl;generalize bZ b y.path=kk at c3 c4 c5;generalize eJ y.kind kk=qq at c4 c5;repeat' first|refine Ra ⟨?_⟩|refine R0 c3 ⟨?_⟩|refine R0 c4 ⟨?_⟩|refine Rk [] 1 c5 ⟨?_⟩|refine Rd (fun h=>⟨?_⟩) fun h=>⟨?_⟩|refine Rb ⟨?_⟩|fail
         refine .here ⟨mq - 1,by omega,?_⟩;refine li [5] [0,1,5,7] ?_
         conv=>whnf
         refine ⟨rfl,rfl,j+1,Z,(by omega),rfl,rfl,rfl,by omega,g1.symm,by omega⟩
   · have g1:=filter_step (f:=fun x:Mrk=>dC a x.path) hx';have hxp:=hbp x (zAD hx');have hxl:=(aC hxp).2;have c3:=tl (m:=m) a x.path (by omega) (by omega) (fun y hy=>by have:=(hab y hy).1; omega);have c4:=jo (m:=m) a x.path (by omega);have hkn:=mE ha (q:=x.path);cases hh:bI a x.path with
     | true=>
       rw [hh] at c3;have kx:dC a x.path=false:=by simp [dC,hh]
       simp only [kx,cond_false,List.append_nil] at g1;repeat' first|refine Ra ⟨?_⟩|refine R0 c3 ⟨?_⟩|refine Rd (fun h=>⟨?_⟩) fun h=>⟨?_⟩|refine Rb ⟨?_⟩|fail
       refine .here ⟨mq - 1,by omega,?_⟩;refine la [0,1,5,6] ?_
       conv=>whnf
       refine ⟨rfl,rfl,i+1,A,(by omega),rfl,rfl,rfl,by omega,(by rw [hA,g1]),by omega⟩
     | false=>
       rw [hh] at c3;by_cases hk:bZ a x.path=0
       · have kx:dC a x.path=true:=by simp [dC,hkn.1 hk,hh]
         simp only [kx,cond_true] at g1;rw [hk] at c4;have c5:=mH (m:=m) A x (by omega);have hl:=(iX A x).2;repeat' first|refine Ra ⟨?_⟩|refine R0 c3 ⟨?_⟩|refine R0 c4 ⟨?_⟩|refine Rk [] 1 c5 ⟨?_⟩|refine Rd (fun h=>⟨?_⟩) fun h=>⟨?_⟩|refine Rb ⟨?_⟩|fail
         refine .here ⟨mq - 1,by omega,?_⟩;refine li [5] [0,1,5,6] ?_
         conv=>whnf
         refine ⟨rfl,rfl,i+1,cX A x,(by omega),rfl,rfl,rfl,by omega,(by rw [g1,oP,← hA]),by omega⟩
       · have kx:dC a x.path=false:=by
           cases hm:ag a x.path with
           | none=>exact absurd (hkn.2 hm) hk
           | some z=>simp [dC,hm]
         simp only [kx,cond_false,List.append_nil] at g1;generalize bZ a x.path=kk at c4 hk;repeat' first|refine Ra ⟨?_⟩|refine R0 c3 ⟨?_⟩|refine R0 c4 ⟨?_⟩|refine Rd (fun h=>⟨?_⟩) fun h=>⟨?_⟩|refine Rb ⟨?_⟩|fail
         refine .here ⟨mq - 1,by omega,?_⟩;refine la [0,1,5,6] ?_
         conv=>whnf
         refine ⟨rfl,rfl,i+1,A,(by omega),rfl,rfl,rfl,by omega,(by rw [hA,g1]),by omega⟩
theorem DK (J:List Mrk) (hs:al (ay J)) (hok:∀ x∈J,ac x.path=true) (hl:J.length≤1000):Con (E m) 289 0 [.sl (J.map Mrk.c)] [] (.sl ((J.filterMap (cl (bare J))).map Mrk.c)) []:=by
 have e1:(J.map Mrk.c).length=J.length:=zAA ..;have hta:=fun i x h=>AV hs hok (i:=i) (x:=x) h;have htp:∀ i,∀ y∈(J.take i).filterMap (cl (bare J)),y.path.length≤1073741823:=fun i y hy=>by
  obtain ⟨z,hz,hzy⟩:=List.mem_filterMap.1 hy;rw [jb z y hzy]
  have:=(aC (hok z (zAy hz))).2
  omega
 refine G0 Tryz.func289 ?_;repeat' first|refine Rx ⟨?_⟩|refine Rd (fun h=>⟨?_⟩) fun h=>⟨?_⟩|fail
 refine Cd.loop2 (fun mq tm S nx=>∃ (i:Nat) (A:List Mrk),mq=(J.length - i)∧tm=[(0,.sl (J.map Mrk.c)),(3,.own 0),(4,.k .i64 i)]∧S=[(0,.own 197 (A.map Mrk.c))]∧nx=1∧(i≤J.length)∧(A=(J.take i).filterMap (cl (bare J)))∧(A.length≤i)) ?_ ?_
 · refine la [0,3,4] ?_
   conv=>whnf
   refine ⟨rfl,rfl,_,0,[],rfl,rfl,rfl,rfl,by omega,(by simp),by simp⟩
 · rintro mq tm S nx ⟨i,A,hn,rfl,rfl,rfl,hi,hA,hAl⟩;have e3:(A.map Mrk.c).length=A.length:=zAA ..;rcases au J i hi with ⟨rfl,hd⟩|⟨x,r,hx',hd,hr,hlt⟩
   · rw [zAN] at hA;rw [← hA];repeat' first|refine Rx ⟨?_⟩|refine Rd (fun h=>⟨?_⟩) fun h=>⟨?_⟩|fail
     exact Rz
   · have g1:=kf (f:=cl (bare J)) hx';have hxp:=hok x (zAD hx');have hxl:=(aC hxp).2;have hbr0:=hta i x hx';have htp':=htp i;rw [← hA] at hbr0 htp';have c4:=qA (m:=m) A x.path (by omega) (by omega) htp';rw [hbr0] at c4;cases hbr:bare J x.path with
     | false=>
       rw [hbr] at c4;have kx:cl (bare J) x=some x:=by simp [cl,hbr]
       rw [kx] at g1;repeat' first|refine Ra ⟨?_⟩|(refine ⟨[],_,_,_,_,0,⟨rfl,rfl,rfl,c4,rfl,rfl⟩,.inl ⟨[],trivial,rfl,.inl ⟨by simp [bb,ba,aj],by simp [bg,bc,aj,Ent.c,Mrk.c,Opn.c]⟩,?_⟩⟩ <;> conv=>whnf)|refine Rd (fun h=>⟨?_⟩) fun h=>⟨?_⟩|refine Rb ⟨?_⟩|fail
       refine .here ⟨mq - 1,by omega,?_⟩;refine la [0,3,4] ?_
       conv=>whnf
       refine ⟨rfl,rfl,i+1,A++[x],(by omega),rfl,?_,rfl,by omega,(by rw [hA,g1]),(by simp; omega)⟩;rw [zAK];rfl
     | true=>
       rw [hbr] at c4;by_cases hk3:x.kind=3
       · have kx:cl (bare J) x=none:=by simp [cl,hbr,hk3]
         rw [kx,List.append_nil] at g1;repeat' first|refine Ra ⟨?_⟩|(refine ⟨[],_,_,_,_,0,⟨rfl,rfl,rfl,c4,rfl,rfl⟩,.inl ⟨[],trivial,rfl,.inl ⟨by simp [bb,ba,aj],by simp [bg,bc,aj,Ent.c,Mrk.c,Opn.c]⟩,?_⟩⟩ <;> conv=>whnf)|refine Rd (fun h=>⟨?_⟩) fun h=>⟨?_⟩|refine Rb ⟨?_⟩|fail
         refine .here ⟨mq - 1,by omega,?_⟩;refine la [0,3,4] ?_
         conv=>whnf
         refine ⟨rfl,rfl,i+1,A,(by omega),rfl,rfl,rfl,by omega,(by rw [hA,g1]),by omega⟩
       · by_cases hk4:x.kind=4
         · have kx:cl (bare J) x=some ⟨x.path,2,x.data⟩:=by simp [cl,hbr,hk4]
           rw [kx] at g1;repeat' first|refine Ra ⟨?_⟩|(refine ⟨[],_,_,_,_,0,⟨rfl,rfl,rfl,c4,rfl,rfl⟩,.inl ⟨[],trivial,rfl,.inl ⟨by simp [bb,ba,aj],by simp [bg,bc,aj,Ent.c,Mrk.c,Opn.c]⟩,?_⟩⟩ <;> conv=>whnf)|refine Rd (fun h=>⟨?_⟩) fun h=>⟨?_⟩|refine Rb ⟨?_⟩|fail
           refine .here ⟨mq - 1,by omega,?_⟩;refine la [0,3,4] ?_
           conv=>whnf
           refine ⟨rfl,rfl,i+1,A++[⟨x.path,2,x.data⟩],(by omega),rfl,?_,rfl,by omega,(by rw [hA,g1]),(by simp; omega)⟩;rw [zAK];rfl
         · have kx:cl (bare J) x=some x:=by simp [cl,hbr,hk3,hk4]
           rw [kx] at g1;repeat' first|refine Ra ⟨?_⟩|(refine ⟨[],_,_,_,_,0,⟨rfl,rfl,rfl,c4,rfl,rfl⟩,.inl ⟨[],trivial,rfl,.inl ⟨by simp [bb,ba,aj],by simp [bg,bc,aj,Ent.c,Mrk.c,Opn.c]⟩,?_⟩⟩ <;> conv=>whnf)|refine Rd (fun h=>⟨?_⟩) fun h=>⟨?_⟩|refine Rb ⟨?_⟩|fail
           refine .here ⟨mq - 1,by omega,?_⟩;refine la [0,3,4] ?_
           conv=>whnf
           refine ⟨rfl,rfl,i+1,A++[x],(by omega),rfl,?_,rfl,by omega,(by rw [hA,g1]),(by simp; omega)⟩;rw [zAK];rfl
theorem DL {a b:List Mrk} (ha:ax a=true) (hb:ax b=true) {x:Mrk} (h:x∈eK a b):ac x.path=true:=by
 have h2:ag (eK a b) x.path=some x:=eS dI h;rw [ja (bx ha) (bx hb),← oR] at h2;exact (qe ha hb (bO h2).1).1
theorem DM {a b:List Mrk} (ha:ax a=true) (hb:ax b=true):(eK a b).length≤64:=by
 have h1:=cJ ha;have h2:=cJ hb;have h3:=zAV (fun m:Mrk=>dC a m.path) b;have h4:=lY (b.filter fun m=>dC a m.path) [];have h5:=lY (a.map (onK b)) (cG [] (b.filter fun m=>dC a m.path));have h6:(a.map (onK b)).length=a.length:=zAA ..;have h7:([]:List Mrk).length=0:=rfl;unfold eK;omega
theorem tP (a b:List Mrk) (hal:a.length≤1073741824) (hbl:b.length≤1073741824) (ka:∀ e∈a,e.path.length≤1073741823∧e.data.length≤1073741823) (kb:∀ e∈b,e.path.length≤1073741823∧e.data.length≤1073741823) :
   Con (E m) 248 0 [.sl (a.map Mrk.c),.sl (b.map Mrk.c)] [] (jnD (bD a b)) []:=by
 have c1:=kQ (m:=m) a hal ka;have c2:=kQ (m:=m) b hbl kb;cases h1:ax a with
 | false=>
   rw [h1] at c1;have hx:bD a b=none:=by simp [bD,h1]
   rw [hx];refine G0 Tryz.func248 ?_;repeat' first|refine Ra ⟨?_⟩|refine R0 c1 ⟨?_⟩|refine Rd (fun h=>⟨?_⟩) fun h=>⟨?_⟩|refine Rb ⟨?_⟩|fail
   exact Rz
 | true=>
   rw [h1] at c1;cases h2:ax b with
   | false=>
     rw [h2] at c2;have hx:bD a b=none:=by simp [bD,h2]
     rw [hx];refine G0 Tryz.func248 ?_;repeat' first|refine Ra ⟨?_⟩|refine R0 c1 ⟨?_⟩|refine R0 c2 ⟨?_⟩|refine Rd (fun h=>⟨?_⟩) fun h=>⟨?_⟩|refine Rb ⟨?_⟩|fail
     exact Rz
   | true=>
     rw [h2] at c2;have c3:=DJ (m:=m) a b h1 h2;have hRl:=DM h1 h2;have c4:=DK (m:=m) (eK a b) dI (fun x hx=>DL h1 h2 hx) (by omega);have hx:bD a b=if (dZ a b).length≤32 then some (dZ a b) else none:=by simp [bD,h1,h2]
     have hL:dZ a b=(eK a b).filterMap (cl (bare (eK a b))):=rfl;have hLl:(dZ a b).length≤64:=zAo (zBQ _ _) hRl;rw [← hL] at c4;rw [hx];generalize dZ a b=L at c4 hLl ⊢;generalize eK a b=R at c3 c4;have e1:(L.map Mrk.c).length=L.length:=zAA ..;by_cases hn:L.length≤32
     · rw [if_pos hn];refine G0 Tryz.func248 ?_;repeat' first|refine Ra ⟨?_⟩|refine R0 c1 ⟨?_⟩|refine R0 c2 ⟨?_⟩|refine R0 c3 ⟨?_⟩|refine R0 c4 ⟨?_⟩|refine Rd (fun h=>⟨?_⟩) fun h=>⟨?_⟩|refine Rb ⟨?_⟩|fail
       exact Rz
     · rw [if_neg hn];refine G0 Tryz.func248 ?_;repeat' first|refine Ra ⟨?_⟩|refine R0 c1 ⟨?_⟩|refine R0 c2 ⟨?_⟩|refine R0 c3 ⟨?_⟩|refine R0 c4 ⟨?_⟩|refine Rd (fun h=>⟨?_⟩) fun h=>⟨?_⟩|refine Rb ⟨?_⟩|fail
       exact Rz
variable {m:Int}
abbrev tlD (o:Option (List Bs)):D:=.tup [.sl ((o.getD []).map fun l=>[.s l]),.b o.isSome]
theorem pj (a:List Bs) (x:Bs):(a++[x]).map (fun l=>[D.s l])=a.map (fun l=>[D.s l])++[[.s x]]:=by rw [zAK]; rfl
theorem uH (w:Wld) (k:Bs) (r:List Bs) (hb:du w) (hok:aL w=true) (h100:w.leases.length < 100) (hl:r.length≤1048576) (hbr:∀ a∈k :: r,a.length≤1048576) :
   Con (E m) 76 0 [.agg w.c,.sl ((k :: r).map fun l=>[.s l])] [] (tlD (d8 w k r)) []:=by
 obtain ⟨t,v,ho,hw,hs⟩:=bi hok;have hv:=(bu ho).2.2.2;have hvl:=az hv;have hnl:=hw.nl;have c0:=fD (m:=m) w.over hb.over;rw [ho] at c0;simp only [vwD] at c0;have e1:(v.map Ent.c).length=v.length:=zAA ..;have e2:(w.over.upper.map Mrk.c).length=w.over.upper.length:=zAA ..;have e3:(w.net.map Mes.c).length=w.net.length:=zAA ..;have e4:(w.leases.map Lse.c).length=w.leases.length:=zAA ..;unfold d8;rw [hs];by_cases kr:k=[114,101,97,100]
 · simp only [if_pos kr];subst kr
   match r,hl,hbr with
   | [],_,_=>
     refine G0 Tryz.func76 ?_;repeat' first|refine Ra ⟨?_⟩|refine R0 c0 ⟨?_⟩|refine Rd (fun h=>⟨?_⟩) fun h=>⟨?_⟩|refine Rb ⟨?_⟩|fail
     exact Rzi
   | [a],_,_=>
     refine G0 Tryz.func76 ?_;repeat' first|refine Ra ⟨?_⟩|refine R0 c0 ⟨?_⟩|refine Rd (fun h=>⟨?_⟩) fun h=>⟨?_⟩|refine Rb ⟨?_⟩|fail
     exact Rzi
   | [a,p],_,hbr=>
     have c1:=tI (m:=m) a (by have:=hbr a (by simp); omega);cases hn:cA a with
     | none=>
       rw [hn] at c1;simp only [hn,Option.map_none];refine G0 Tryz.func76 ?_;repeat' first|refine Ra ⟨?_⟩|refine R0 c0 ⟨?_⟩|refine R0 c1 ⟨?_⟩|(refine ⟨1,_,rfl,rfl,rfl,?_⟩ <;> conv=>whnf)|refine Rd (fun h=>⟨?_⟩) fun h=>⟨?_⟩|refine Rb ⟨?_⟩|fail
       exact Rzi
     | some n=>
       rw [hn] at c1;simp only [hn,Option.map_some];have c2:=uE (m:=m) w n p hb fun h hr=>tL hok hr;refine G0 Tryz.func76 ?_;repeat' first|refine Ra ⟨?_⟩|refine R0 c0 ⟨?_⟩|refine R0 c1 ⟨?_⟩|refine R0 c2 ⟨?_⟩|(refine ⟨1,_,rfl,rfl,rfl,?_⟩ <;> conv=>whnf)|(refine ⟨2,_,rfl,rfl,rfl,?_⟩ <;> conv=>whnf)|refine Rd (fun h=>⟨?_⟩) fun h=>⟨?_⟩|refine Rb ⟨?_⟩|fail
       exact Rzi
   | a :: b :: c :: q,_,_=>
     refine G0 Tryz.func76 ?_;repeat' first|refine Ra ⟨?_⟩|refine R0 c0 ⟨?_⟩|refine Rd (fun h=>⟨?_⟩) fun h=>⟨?_⟩|refine Rb ⟨?_⟩|fail
     exact Rzi
 · rw [if_neg kr];by_cases kt:k=[116,114,101,101]
   · simp only [if_pos kt];subst kt;cases r with
     | nil=>
       have e5:(v.map b8++[[101,110,100]]).map (fun l=>[D.s l])=(v.map b8).map (fun l=>[D.s l])++[[.s [101,110,100]]]:=pj _ _;simp only [if_true,tlD,Option.getD_some,Option.isSome_some];rw [e5];refine G0 Tryz.func76 ?_;repeat' first|refine Ra ⟨?_⟩|refine R0 c0 ⟨?_⟩|refine Rd (fun h=>⟨?_⟩) fun h=>⟨?_⟩|refine Rb ⟨?_⟩|fail
       refine Cd.loop2 (fun mq tm S nx=>∃ (i:Nat) (xs:List Bs),mq=(v.length - i)∧tm=[(8,.own 0),(56,.sl (v.map Ent.c)),(57,.k .i64 ((v.map Ent.c).length:Int)),(58,.k .i64 i)]∧S=[(0,.own 9 (xs.map fun l=>[.s l]))]∧nx=1∧(i≤v.length)∧(xs=(v.take i).map b8)) ?_ ?_
       · refine la [8,56,57,58] ?_
         conv=>whnf
         refine ⟨rfl,rfl,_,0,[],rfl,rfl,rfl,rfl,zAG _,rfl⟩
       · rintro mq tm S nx ⟨i,xs,hn,rfl,rfl,rfl,hi,hx⟩;have e6:(xs.map fun l=>[D.s l]).length=xs.length:=zAA ..;have hxl:xs.length≤16:=by rw [hx,zAA,zAW]; omega
         rcases au v i hi with ⟨rfl,hd⟩|⟨x,q,hx',hd,hr,hlt⟩
         · rw [zAN] at hx;rw [← hx];repeat' first|refine Rx ⟨?_⟩|refine Rd (fun h=>⟨?_⟩) fun h=>⟨?_⟩|fail
           exact Rzi
         · have hxb:=eE (dm hv x (zAD hx'));have c1:=kM (m:=m) x (by omega) (by omega);repeat' first|refine Ra ⟨?_⟩|refine R0 c1 ⟨?_⟩|refine Rd (fun h=>⟨?_⟩) fun h=>⟨?_⟩|refine Rb ⟨?_⟩|fail
           refine .here ⟨mq - 1,by omega,?_⟩;refine la [8,56,57,58] ?_
           conv=>whnf
           refine ⟨rfl,rfl,i+1,xs++[b8 x],(by omega),rfl,?_,rfl,by omega,(by rw [hx,ft hx'])⟩;rw [pj];rfl
     | cons a r=>
       refine G0 Tryz.func76 ?_;repeat' first|refine Ra ⟨?_⟩|refine R0 c0 ⟨?_⟩|refine Rd (fun h=>⟨?_⟩) fun h=>⟨?_⟩|refine Rb ⟨?_⟩|fail
       exact Rzi
   · rw [if_neg kt];by_cases kl:k=[108,105,115,116]
     · simp only [if_pos kl];subst kl
       match r,hl,hbr with
       | [],_,_=>
         refine G0 Tryz.func76 ?_;repeat' first|refine Ra ⟨?_⟩|refine R0 c0 ⟨?_⟩|refine Rd (fun h=>⟨?_⟩) fun h=>⟨?_⟩|refine Rb ⟨?_⟩|fail
         exact Rzi
       | [p],_,hbr=>
         have c1:=uF (m:=m) v p hv (by have:=hbr p (by simp); omega);refine G0 Tryz.func76 ?_;repeat' first|refine Ra ⟨?_⟩|refine R0 c0 ⟨?_⟩|refine R0 c1 ⟨?_⟩|(refine ⟨1,_,rfl,rfl,rfl,?_⟩ <;> conv=>whnf)|refine Rd (fun h=>⟨?_⟩) fun h=>⟨?_⟩|refine Rb ⟨?_⟩|fail
         exact Rzi
       | a :: b :: q,_,_=>
         refine G0 Tryz.func76 ?_;repeat' first|refine Ra ⟨?_⟩|refine R0 c0 ⟨?_⟩|refine Rd (fun h=>⟨?_⟩) fun h=>⟨?_⟩|refine Rb ⟨?_⟩|fail
         exact Rzi
     · rw [if_neg kl];by_cases ku:k=[117,112,112,101,114]
       · simp only [if_pos ku];subst ku;have hlo:=(co (bJ.1 ho).2.1).1;have hul:=(cB.1 hlo).1;cases r with
         | nil=>
           have e5:(w.over.upper.map bX++[[101,110,100]]).map (fun l=>[D.s l])=(w.over.upper.map bX).map (fun l=>[D.s l])++[[.s [101,110,100]]]:=pj _ _;simp only [if_true,tlD,Option.getD_some,Option.isSome_some];rw [e5];refine G0 Tryz.func76 ?_;repeat' first|refine Ra ⟨?_⟩|refine R0 c0 ⟨?_⟩|refine Rd (fun h=>⟨?_⟩) fun h=>⟨?_⟩|refine Rb ⟨?_⟩|fail
           refine Cd.loop2 (fun mq tm S nx=>∃ (i:Nat) (xs:List Bs),mq=(w.over.upper.length - i)∧tm=[(8,.own 0),(98,.sl (w.over.upper.map Mrk.c)),(99,.k .i64 ((w.over.upper.map Mrk.c).length:Int)),(100,.k .i64 i)]∧S=[(0,.own 9 (xs.map fun l=>[.s l]))]∧nx=1∧(i≤w.over.upper.length)∧(xs=(w.over.upper.take i).map bX)) ?_ ?_
           · refine la [8,98,99,100] ?_
             conv=>whnf
             refine ⟨rfl,rfl,_,0,[],rfl,rfl,rfl,rfl,zAG _,rfl⟩
           · rintro mq tm S nx ⟨i,xs,hn,rfl,rfl,rfl,hi,hx⟩;have e6:(xs.map fun l=>[D.s l]).length=xs.length:=zAA ..;have hxl:xs.length≤32:=by rw [hx,zAA,zAW]; omega
             rcases au w.over.upper i hi with ⟨rfl,hd⟩|⟨x,q,hx',hd,hr,hlt⟩
             · rw [zAN] at hx;rw [← hx];repeat' first|refine Rx ⟨?_⟩|refine Rd (fun h=>⟨?_⟩) fun h=>⟨?_⟩|fail
               exact Rzi
             · have hxb:=e8 hlo x (zAD hx');have c1:=t7 (m:=m) x (by omega) (by omega);repeat' first|refine Ra ⟨?_⟩|refine R0 c1 ⟨?_⟩|refine Rd (fun h=>⟨?_⟩) fun h=>⟨?_⟩|refine Rb ⟨?_⟩|fail
               refine .here ⟨mq - 1,by omega,?_⟩;refine la [8,98,99,100] ?_
               conv=>whnf
               refine ⟨rfl,rfl,i+1,xs++[bX x],(by omega),rfl,?_,rfl,by omega,(by rw [hx,ft hx'])⟩;rw [pj];rfl
         | cons a r=>
           refine G0 Tryz.func76 ?_;repeat' first|refine Ra ⟨?_⟩|refine R0 c0 ⟨?_⟩|refine Rd (fun h=>⟨?_⟩) fun h=>⟨?_⟩|refine Rb ⟨?_⟩|fail
           exact Rzi
       · rw [if_neg ku];by_cases kn:k=[110,101,116]
         · simp only [if_pos kn];subst kn;cases r with
           | nil=>
             simp only [if_true,tlD,Option.getD_some,Option.isSome_some];have c1:=zC (m:=m) w.net.length (by omega);have c2:=zC (m:=m) w.leases.length h100;have d1:(gR w.net.length).length≤2:=by unfold gR; split <;> simp
             have d2:(gR w.leases.length).length≤2:=by unfold gR; split <;> simp
             have d3:=d1;have d4:=d2;rw [← e3] at c1 d1;rw [← e4] at c2 d2;rw [← e3,← e4];refine G0 Tryz.func76 ?_;repeat' first|refine Ra ⟨?_⟩|refine R0 c0 ⟨?_⟩|refine R0 c1 ⟨?_⟩|refine R0 c2 ⟨?_⟩|refine Rd (fun h=>⟨?_⟩) fun h=>⟨?_⟩|refine Rb ⟨?_⟩|fail
             exact Rzi
           | cons a r=>
             refine G0 Tryz.func76 ?_;repeat' first|refine Ra ⟨?_⟩|refine R0 c0 ⟨?_⟩|refine Rd (fun h=>⟨?_⟩) fun h=>⟨?_⟩|refine Rb ⟨?_⟩|fail
             exact Rzi
         · simp only [if_neg kn];refine G0 Tryz.func76 ?_;repeat' first|refine Ra ⟨?_⟩|refine R0 c0 ⟨?_⟩|refine Rd (fun h=>⟨?_⟩) fun h=>⟨?_⟩|refine Rb ⟨?_⟩|fail
           exact Rzi
theorem lm {k:Bs} (h:1≤ld k):(k=[112,117,115,104]∧ld k=1)∨(k=[102,108,97,116]∧ld k=2)∨(k=[115,105,110,107]∧ld k=3):=by
 unfold ld at h ⊢;repeat' split at h
 · rename_i e; subst e; left; exact ⟨rfl,by decide⟩
 · rename_i e; subst e; right; left; exact ⟨rfl,by decide⟩
 · rename_i e; subst e; right; right; exact ⟨rfl,by decide⟩
 · omega
theorem mJ {o:Ovr} {k:Bs}:(k=[112,117,115,104]→zk o k=ey o)∧(k=[102,108,97,116]→zk o k=ez o)∧(k=[115,105,110,107]→zk o k=(fC o,true)):=by
 refine ⟨?_,?_,?_⟩ <;> (rintro rfl; rfl)
theorem xK (w:Wld) (k:Bs) (hb:du w) (hk:1≤ld k):Con (E m) 77 0 [.agg w.c,.s k] [] (.tup [.agg (cS w k).1.c,.s (cS w k).2]) []:=by
 have e4:(w.leases.map Lse.c).length=w.leases.length:=zAA ..;unfold cS;by_cases hw:w.waits=true
 · rw [if_pos (.inl hw)];refine G0 Tryz.func77 ?_;repeat' first|refine Rx ⟨?_⟩|refine Rd (fun h=>⟨?_⟩) fun h=>⟨?_⟩|fail
   exact Rz
 · have hw':w.waits=false:=by simpa using hw
   by_cases hl:w.leases=[]
   · rw [if_neg (fun h=>h.elim (fun h=>hw h) fun h=>h hl)];have hl0:w.leases.length=0:=by rw [hl]; rfl
     rcases lm hk with ⟨rfl,_⟩|⟨rfl,_⟩|⟨rfl,_⟩
     · rw [mJ.1 rfl];have c1:=ut (m:=m) w.over hb.over;generalize ey w.over=P at c1 ⊢;obtain ⟨o',b⟩:=P;cases b;all_goals
        refine G0 Tryz.func77 ?_;repeat' first|refine Ra ⟨?_⟩|refine R0 c1 ⟨?_⟩|refine Rd (fun h=>⟨?_⟩) fun h=>⟨?_⟩|refine Rb ⟨?_⟩|fail
        exact Rz
     · rw [mJ.2.1 rfl];have c1:=uG (m:=m) w.over hb.over;generalize ez w.over=P at c1 ⊢;obtain ⟨o',b⟩:=P;cases b;all_goals
        refine G0 Tryz.func77 ?_;repeat' first|refine Ra ⟨?_⟩|refine R0 c1 ⟨?_⟩|refine Rd (fun h=>⟨?_⟩) fun h=>⟨?_⟩|refine Rb ⟨?_⟩|fail
        exact Rz
     · rw [mJ.2.2 rfl];have c1:=ur (m:=m) w.over hb.over;generalize fC w.over=o' at c1 ⊢;refine G0 Tryz.func77 ?_;repeat' first|refine Ra ⟨?_⟩|refine R0 c1 ⟨?_⟩|refine Rd (fun h=>⟨?_⟩) fun h=>⟨?_⟩|refine Rb ⟨?_⟩|fail
       exact Rz
   · rw [if_pos (.inr hl)];have hl0:0 < w.leases.length:=List.length_pos_iff.2 hl;refine G0 Tryz.func77 ?_;repeat' first|refine Rx ⟨?_⟩|refine Rd (fun h=>⟨?_⟩) fun h=>⟨?_⟩|fail
     exact Rz
theorem zJ {k:Bs} {r:List Bs} {e:Evn} (hb:∀ a∈r,a.length≤1048576) (h:nN k r=some e):vY e:=by
 have h0:nD 1073741823 op0:=⟨by simp [op0],by simp [op0],by simp [op0]⟩;unfold nN at h;split at h
 · cases ho:aV (k :: r) with
   | none=>rw [ho] at h; cases h
   | some p=>
     rw [ho] at h;cases h
     have:=yz (iV ho).2.2.1
     exact ⟨by simp,⟨by simp only; omega,by simp only; omega,by simp only; omega⟩⟩
 · split at h
   · split at h
     · rename_i a b;cases ho:cA a with
       | none=>rw [ho] at h; cases h
       | some p=>
         rw [ho] at h;cases h;exact ⟨by have:=hb b (by simp); simp only; omega,h0⟩
     · cases h
   · split at h
     · split at h
       · cases h; exact ⟨by simp [evT],h0⟩
       · cases h
     · split at h
       · split at h
         · cases h; exact ⟨by simp [evT],h0⟩
         · cases h
       · split at h
         · split at h
           · rename_i a;cases ho:cA a with
             | none=>rw [ho] at h; cases h
             | some p=>
               rw [ho] at h;cases h;exact ⟨by simp,h0⟩
           · cases h
         · cases h
theorem qZ {w:Wld} {k:Bs} {r:List Bs} {e:Evn} (h:nN k r=some e):bB w (k :: r)=((wDo w e).1,[ii (wDo w e).2]):=by
 unfold bB;rw [show tC (k :: r)=some e from h]
theorem q7 {w:Wld} {k:Bs} {r:List Bs} {l:List Bs} (h:nN k r=none) (h2:d8 w k r=some l):bB w (k :: r)=(w,l):=by
 unfold bB;rw [show tC (k :: r)=none from h]
 simp only;rw [show nO w (k :: r)=some l from h2]
theorem tQ {w:Wld} {k:Bs} {r:List Bs} (h:nN k r=none) (h2:d8 w k r=none):bB w (k :: r)=if r=[]∧1≤ld k then ((cS w k).1,[(cS w k).2]) else (w,[[119,104,97,116]]):=by
 unfold bB;rw [show tC (k :: r)=none from h]
 simp only;rw [show nO w (k :: r)=none from h2]
 have e:((k :: r).length=1)=(r=[]):=by
  rw [List.length_cons];exact propext ⟨fun h=>List.eq_nil_of_length_eq_zero (by omega),fun h=>by rw [h]; rfl⟩
 simp only [e];rfl
theorem uI (w:Wld) (k:Bs) (r:List Bs) (hb:du w) (hs:∀ l∈w.holds,l.length≤1048575) (hok:aL w=true) (h100:w.leases.length < 100) (hl:r.length≤1048576) (hbr:∀ a∈k :: r,a.length≤1048576) :
   Con (Eo m) 29 0 [.agg w.c,.sl ((k :: r).map fun l=>[.s l])] [] (.tup [.agg (bB w (k :: r)).1.c,.sl ((bB w (k :: r)).2.map fun l=>[.s l])]) []:=by
 obtain ⟨e,he,c1⟩:=zE (m:=m) k r hl hbr;have c2:=ir (uH (m:=m) w k r hb hok h100 hl hbr);cases hev:nN k r with
 | some e'=>
   rw [hev] at c1;obtain rfl:=he e' hev;rw [qZ hev];have hbe:=zJ (fun a ha=>hbr a (by simp [ha])) hev;have c3:=ir (xB (m:=m) w e hb hs hbe);have hdo:jw w e=wDo w e:=by rw [jw,if_pos hok]
   rw [hdo] at c3;have c4:=ir (v6 (m:=m) (wDo w e).2 (zn w e));generalize wDo w e=W at c3 c4 ⊢;unfold evD at c1;refine G1 Tryz.func29 ?_;repeat' first|refine Ra ⟨?_⟩|refine R0 c1 ⟨?_⟩|refine R0 c3 ⟨?_⟩|refine R0 c4 ⟨?_⟩|refine Rd (fun h=>⟨?_⟩) fun h=>⟨?_⟩|refine Rb ⟨?_⟩|fail
   exact Rz
 | none=>
   rw [hev] at c1;unfold evD at c1;cases ht:d8 w k r with
   | some l=>
     rw [ht] at c2;rw [q7 hev ht];simp only [tlD,Option.getD_some,Option.isSome_some] at c2;refine G1 Tryz.func29 ?_;repeat' first|refine Ra ⟨?_⟩|refine R0 c1 ⟨?_⟩|refine R0 c2 ⟨?_⟩|refine Rd (fun h=>⟨?_⟩) fun h=>⟨?_⟩|refine Rb ⟨?_⟩|fail
     exact Rz
   | none=>
     rw [ht] at c2;rw [tQ hev ht];by_cases hr:r=[]
     · subst hr;by_cases hk:1≤ld k
       · rw [if_pos ⟨rfl,hk⟩];have c3:=ir (xK (m:=m) w k hb hk);generalize cS w k=W at c3 ⊢;rcases lm hk with ⟨rfl,_⟩|⟨rfl,_⟩|⟨rfl,_⟩
         all_goals
          refine G1 Tryz.func29 ?_;repeat' first|refine Ra ⟨?_⟩|refine R0 c1 ⟨?_⟩|refine R0 c2 ⟨?_⟩|refine R0 c3 ⟨?_⟩|refine Rd (fun h=>⟨?_⟩) fun h=>⟨?_⟩|refine Rb ⟨?_⟩|fail
          exact Rz
       · rw [if_neg fun h=>hk h.2];have hne:¬ k=[112,117,115,104]∧¬ k=[102,108,97,116]∧¬ k=[115,105,110,107]:=by
          refine ⟨?_,?_,?_⟩ <;> (rintro rfl; exact hk (by decide))
         obtain ⟨n1,n2,n3⟩:=hne;refine G1 Tryz.func29 ?_;repeat' first|refine Ra ⟨?_⟩|refine R0 c1 ⟨?_⟩|refine R0 c2 ⟨?_⟩|refine Rd (fun h=>⟨?_⟩) fun h=>⟨?_⟩|refine Rb ⟨?_⟩|fail
         exact Rz
     · rw [if_neg fun h=>hr h.1];have hl1:0 < r.length:=List.length_pos_iff.2 hr;refine G1 Tryz.func29 ?_;repeat' first|refine Ra ⟨?_⟩|refine R0 c1 ⟨?_⟩|refine R0 c2 ⟨?_⟩|refine Rd (fun h=>⟨?_⟩) fun h=>⟨?_⟩|refine Rb ⟨?_⟩|fail
       exact Rz
variable {m:Int}
theorem cR.line {n:Nat} {w:Wld} (h:cR n w) (hok:aL w=true) {k:Bs} {r:List Bs} (hbr:∀ a∈r,a.length≤1048576):cR (n+1) (bB w (k :: r)).1:=by
 obtain ⟨t,v,ho,hw,_⟩:=bi hok;cases hev:nN k r with
 | some e=>
   rw [qZ hev];exact h.do_ ho hw (zJ hbr hev)
 | none=>
   cases ht:d8 w k r with
   | some l=>
     rw [q7 hev ht];exact h.up (Nat.le_succ _)
   | none=>
     rw [tQ hev ht];split
     · unfold cS;split
       · exact h.up (Nat.le_succ _)
       · split
         · obtain ⟨t',h3⟩:=qd ho k;have h':=h.up (Nat.le_succ n);exact ⟨xm h3,h'.ls,h'.ll,h'.hs,h'.hl,h'.fl,h'.nt,h'.nl,h'.op⟩
         · exact h.up (Nat.le_succ _)
     · exact h.up (Nat.le_succ _)
theorem Bx {l:List Bs} {a:Bs} (h:a∈l):a.length+1≤(aN l).length:=by
 induction l with
 | nil=>cases h
 | cons x r ih=>
   have e:aN (x :: r)=(x++[10])++aN r:=rfl;rw [e,zAL,zAL,List.length_cons,List.length_nil];rcases List.mem_cons.1 h with rfl|h
   · omega
   · have:=ih h
     omega
theorem Bz (l:List Bs):l.length≤(aN l).length:=by
 induction l with
 | nil=>exact zAG _
 | cons x r ih=>
   have e:aN (x :: r)=(x++[10])++aN r:=rfl;rw [e,zAL,zAL,List.length_cons,List.length_cons,List.length_nil];omega
theorem q8 {l:List Bs} {i:Nat} {a:Bs} (h:l[i]?=some a):aN (l.take (i+1))=aN (l.take i)++a++[10]:=by
 rw [dP h,gS];simp [aN]
theorem rn (l:List Bs) (i:Nat):(aN (l.take i)).length≤(aN l).length:=by
 have:=gS (l.take i) (l.drop i)
 rw [zAv] at this;rw [this,zAL];omega
theorem q9 (s:Bs):(bH s).length≤s.length+1∧∀ a∈bH s,a.length≤s.length∧a≠[]:=by
 refine ⟨zAo (zAV _ _) (kH 32 s),fun a ha=>?_⟩;obtain ⟨h1,h2⟩:=List.mem_filter.1 ha;exact ⟨jT 32 s a h1,by simpa using h2⟩
theorem er (s:Bs) (hs:s.length≤1048576):Con (Eo m) 8 0 [.s s] [] (.s (aT s)) []:=by
 unfold aT;by_cases h2:20000 < s.length
 · rw [if_pos h2];refine G1 Tryz.func8 ?_;repeat' first|refine Rx ⟨?_⟩|refine Rd (fun h=>⟨?_⟩) fun h=>⟨?_⟩|fail
   exact Rf
 · rw [if_neg h2];have c1:=ir (uA (m:=m) ov0 xn);have c2:=ir (vq (m:=m) s 10 (by omega));have hL1:=kH 10 s;have hL2:=jT 10 s;have e1:((cut 10 s).map fun l=>[D.s l]).length=(cut 10 s).length:=zAA ..;generalize cut 10 s=L at c2 hL1 hL2 e1 ⊢;refine G1 Tryz.func8 ?_;repeat' first|refine Ra ⟨?_⟩|refine R0 c1 ⟨?_⟩|refine Rk [] 1 c2 ⟨?_⟩|refine Rd (fun h=>⟨?_⟩) fun h=>⟨?_⟩|refine Rb ⟨?_⟩|fail
   refine Cd.loop2 (fun mq tm S nx=>∃ (i:Nat) (x:Wld) (out:Bs),mq=(L.length - i)∧tm=[(3,.bp 0 0),(4,.own 1),(18,.sl (L.map fun l=>[.s l])),(19,.k .i64 ((L.map fun l=>[D.s l]).length:Int)),(20,.k .i64 i)]∧S=[(0,.box 54 x.c),(1,.own 5 (aA out))]∧nx=2∧(i≤L.length)∧(aL x=true)∧(cR i x)∧(few i x)∧(out.length≤21005)∧(bm 0 (av ov0) [] L=bm i x out (L.drop i))) ?_ ?_
   · refine li [18] [3,4,18,19,20] ?_
     conv=>whnf
     refine ⟨rfl,rfl,_,0,av ov0,[],rfl,rfl,rfl,rfl,zAG _,jx (by decide +kernel),zj xn,Ct ov0,(by simp),rfl⟩
   · rintro mq tm S nx ⟨i,x,out,hn,rfl,rfl,rfl,hi,hok,hbn,hf,ho,hrun⟩;have e2:(aA out).length=out.length:=zAA ..;obtain ⟨t,v,hov,hw,_⟩:=bi hok;rcases au L i hi with ⟨rfl,hd⟩|⟨l,q,hl,hd,hr,hlt⟩
     · rw [hd,bm] at hrun;rw [hrun];repeat' first|refine Ra ⟨?_⟩|(refine ⟨out,rfl,by (unfold fm; omega),?_⟩ <;> conv=>whnf)|refine Rd (fun h=>⟨?_⟩) fun h=>⟨?_⟩|refine Rb ⟨?_⟩|fail
       exact Rf
     · have hll:=hL2 l (zAD hl);obtain ⟨hw1,hw2⟩:=q9 l;have c3:=ir (Bw (m:=m) l (by omega));rw [hd,bm] at hrun;cases hws:bH l with
       | nil=>
         rw [hws] at c3;rw [hws,if_pos rfl,← hr] at hrun;repeat' first|refine Ra ⟨?_⟩|refine R0 c3 ⟨?_⟩|refine Rd (fun h=>⟨?_⟩) fun h=>⟨?_⟩|refine Rb ⟨?_⟩|fail
         refine .here ⟨mq - 1,by omega,?_⟩;refine la [3,4,18,19,20] ?_
         conv=>whnf
         refine ⟨rfl,rfl,i+1,x,out,(by omega),rfl,rfl,rfl,by omega,hok,hbn.up (Nat.le_succ _),xC hf (Nat.le_succ _),ho,hrun⟩
       | cons k r=>
         rw [hws] at c3 hw1 hw2;rw [hws,if_neg (by simp),← hr] at hrun;by_cases hfull:200≤i∨20000 < out.length
         · rw [if_pos hfull] at hrun;rw [hrun];have e3:aA (out++[102,117,108,108,10])=aA out++aA [102,117,108,108,10]:=by simp [aA]
           rcases Nat.lt_or_ge i 200 with hlt2|hge2
           · have hf2:20000 < out.length:=hfull.resolve_left (by omega);repeat' first|refine Ra ⟨?_⟩|refine R0 c3 ⟨?_⟩|(refine ⟨out++[102,117,108,108,10],e3.symm,by (unfold fm; rw [zAL]; simp; omega),?_⟩ <;> conv=>whnf)|refine Rd (fun h=>⟨?_⟩) fun h=>⟨?_⟩|refine Rb ⟨?_⟩|fail
             exact Rf
           · repeat' first|refine Ra ⟨?_⟩|refine R0 c3 ⟨?_⟩|(refine ⟨out++[102,117,108,108,10],e3.symm,by (unfold fm; rw [zAL]; simp; omega),?_⟩ <;> conv=>whnf)|refine Rd (fun h=>⟨?_⟩) fun h=>⟨?_⟩|refine Rb ⟨?_⟩|fail
             exact Rf
         · rw [if_neg hfull] at hrun;have hb1:=hbn.up (k:=1048575) (by omega);have h100:=Cr hf hw;have hbr:∀ a∈k :: r,a.length≤1048576:=fun a ha=>by have:=(hw2 a ha).1; omega
           have c4:=uI (m:=m) x k r (hb1.w (by omega)) (fun l hl=>(hb1.hs l hl).2) hok (by omega) (by simp at hw1; omega) hbr;have d1:=rK hok (k :: r);have d2:=hbn.line hok (k:=k) (r:=r) fun a ha=>hbr a (by simp [ha]);have d3:=zq hf (k :: r);have d4:=tM hok (k :: r);generalize bB x (k :: r)=Y at c4 hrun d1 d2 d3 d4;obtain ⟨y,A⟩:=Y;simp only at c4 hrun d1 d2 d3 d4;have d5:=Bz A;have e4:(A.map fun l=>[D.s l]).length=A.length:=zAA ..;obtain ⟨mo,hmo⟩:∃ mo,mo=mq:=⟨_,rfl⟩;subst hmo;have hno:=hn;repeat' first|refine Ra ⟨?_⟩|refine R0 c3 ⟨?_⟩|refine R0 c4 ⟨?_⟩|refine Rd (fun h=>⟨?_⟩) fun h=>⟨?_⟩|refine Rb ⟨?_⟩|fail
           refine Cd.loop2 (fun mq tm S nx=>∃ (j:Nat) (o2:Bs),mq=(A.length - j)∧tm=[(3,.bp 0 0),(4,.own 1),(18,.sl (L.map fun l=>[.s l])),(19,.k .i64 ((L.map fun l=>[D.s l]).length:Int)),(20,.k .i64 i),(46,.sl (A.map fun l=>[.s l])),(47,.k .i64 ((A.map fun l=>[D.s l]).length:Int)),(48,.k .i64 j)]∧S=[(0,.box 54 y.c),(1,.own 5 (aA o2))]∧nx=2∧(j≤A.length)∧(o2=out++aN (A.take j))) ?_ ?_
           · refine la [3,4,18,19,20,46,47,48] ?_
             conv=>whnf
             refine ⟨rfl,rfl,_,0,out,rfl,rfl,rfl,rfl,zAG _,(by simp [aN])⟩
           · rintro mq tm S nx ⟨j,o2,hn,rfl,rfl,rfl,hj,ho2⟩;have e5:(aA o2).length=o2.length:=zAA ..;have ho3:o2.length≤21005:=by
              have:=rn A j
              rw [ho2,zAL];omega
             by_cases hjl:j < A.length
             · obtain ⟨a,ha⟩:∃ a,A[j]?=some a:=⟨_,zAB hjl⟩;have hal:=Bx (zAD ha);have ha2:(A.map fun l=>[D.s l])[j]?=some [.s a]:=by rw [zAQ,ha]; rfl
               repeat' first|refine Rx ⟨?_⟩|refine Rd (fun h=>⟨?_⟩) fun h=>⟨?_⟩|fail
               refine .here ⟨mq - 1,by omega,?_⟩;refine la [3,4,18,19,20,46,47,48] ?_
               conv=>whnf
               refine ⟨rfl,rfl,j+1,o2++a++[10],(by omega),rfl,?_,rfl,by omega,(by rw [q8 ha,ho2]; simp)⟩;have e6:aA (o2++a++[10])=aA o2++aA a++aA [10]:=by simp [aA]
               rw [e6];rfl
             · rw [zAf (by omega)] at ho2;rw [← ho2] at hrun;repeat' first|refine Rx ⟨?_⟩|refine Rd (fun h=>⟨?_⟩) fun h=>⟨?_⟩|fail
               refine .here ⟨mo - 1,by omega,?_⟩;refine la [3,4,18,19,20] ?_
               conv=>whnf
               refine ⟨rfl,rfl,i+1,y,o2,(by omega),rfl,rfl,rfl,by omega,d1,d2,d3,ho3,hrun⟩
variable {m:Int}
theorem BA (o:Ovr) (hb:gq o):Con (E m) 62 0 [.agg o.c] [] (.agg [.own 0,.own 1,.own 2]) [(0,.own 150 (o.base.map Ent.c)),(1,.own 47 (o.layers.map c8)),(2,.own 197 (o.upper.map Mrk.c))]:=by
 have hbl:=hb.bl;have hll:=hb.ll;have hul:=hb.ul;have e1:(o.layers.map c8).length=o.layers.length:=zAA ..;have e5:(o.base.map Ent.c).length=o.base.length:=zAA ..;have e6:(o.upper.map Mrk.c).length=o.upper.length:=zAA ..;refine G0 Tryz.func62 ?_;repeat' first|refine Rx ⟨?_⟩|refine Rd (fun h=>⟨?_⟩) fun h=>⟨?_⟩|fail
 refine Cd.loop2 (fun mq tm S nx=>∃ (i:Nat) (A:List (List Mrk)),mq=(o.layers.length - i)∧tm=[(1,.bp 0 0),(2,.bp 1 0),(3,.bp 2 0),(4,.k .i64 i)]∧S=[(0,.box 49 o.c),(1,.box 49 [.nil,.nil,.nil]),(2,.box 49 [.own 3,.own 4,.own 5]),(3,.own 150 (o.base.map Ent.c)),(4,.own 47 (A.map c8)),(5,.own 197 (o.upper.map Mrk.c))]∧nx=6∧(i≤o.layers.length)∧(A=o.layers.take i)∧(A.length≤i)) ?_ ?_
 · refine ⟨[.thawB 6 1 47],[1,2,3,4],[0,1,6,3,7,5],?_⟩
   conv=>whnf
   refine ⟨rfl,rfl,_,0,[],rfl,rfl,rfl,rfl,by omega,by simp,by simp⟩
 · rintro mq tm S nx ⟨i,A,hn,rfl,rfl,rfl,hi,hA,hAl⟩;have e2:(A.map c8).length=A.length:=zAA ..;rcases au o.layers i hi with ⟨rfl,hd⟩|⟨l,r,hl',hd,hr,hlt⟩
   · rw [zAN] at hA;subst hA;repeat' first|refine Rx ⟨?_⟩|refine Rd (fun h=>⟨?_⟩) fun h=>⟨?_⟩|fail
     exact Rf
   · have g1:o.layers.take (i+1)=o.layers.take i++[l]:=by rw [zAX,hl']; rfl
     have hbb:=(hb.lay l (zAD hl')).2;have e3:(l.map Mrk.c).length=l.length:=zAA ..;have g2:(o.layers.map c8)[i]?=some [.sl (l.map Mrk.c)]:=by rw [zAQ,hl']; rfl
     repeat' first|refine Rx ⟨?_⟩|refine Rd (fun h=>⟨?_⟩) fun h=>⟨?_⟩|fail
     refine .here ⟨mq - 1,by omega,?_⟩;refine la [1,2,3,4] ?_
     conv=>whnf
     refine ⟨rfl,rfl,i+1,A++[l],(by omega),rfl,?_,rfl,by omega,(by rw [hA,g1]),(by simp; omega)⟩;rw [zAK];rfl
theorem uJ (o:Ovr) (hb:gq o):Con (E m) 183 0 [.agg o.c] [] (.tup [.agg (ey o).1.c,.b (ey o).2]) []:=by
 have c1:=ig (m:=m) o hb;have c2:=iL (m:=m) o hb;have c3:=BA (m:=m) o hb;have e1:(o.layers.map c8).length=o.layers.length:=zAA ..;unfold fk at c1;unfold ey;cases h:aQ o with
 | none=>
   rw [h] at c1;refine G0 Tryz.func183 ?_;repeat' first|refine Ra ⟨?_⟩|refine R0 c1 ⟨?_⟩|refine Rd (fun h=>⟨?_⟩) fun h=>⟨?_⟩|refine Rb ⟨?_⟩|fail
   exact Rz
 | some x=>
   rw [h] at c1;have hl:=(bu (t:=x.1) (v:=x.2) h).2.1;simp only;by_cases h4:o.layers.length=4
   · rw [if_pos h4];refine G0 Tryz.func183 ?_;repeat' first|refine Ra ⟨?_⟩|refine R0 c1 ⟨?_⟩|refine R0 c2 ⟨?_⟩|refine Rd (fun h=>⟨?_⟩) fun h=>⟨?_⟩|refine Rb ⟨?_⟩|fail
     exact Rz
   · rw [if_neg h4];have g1:(o.layers++[o.upper]).map c8=o.layers.map c8++[[.sl (o.upper.map Mrk.c)]]:=by rw [zAK]; rfl
     unfold Ovr.c;rw [g1];refine G0 Tryz.func183 ?_;repeat' first|refine Ra ⟨?_⟩|refine R0 c1 ⟨?_⟩|refine Rk [] 3 c3 ⟨?_⟩|refine Rd (fun h=>⟨?_⟩) fun h=>⟨?_⟩|refine Rb ⟨?_⟩|fail
     exact Rz
theorem uK (o:Ovr) (hb:gq o):Con (E m) 184 0 [.agg o.c] [] (.tup [.agg (ez o).1.c,.b (ez o).2]) []:=by
 have c1:=ig (m:=m) o hb;have c2:=iL (m:=m) o hb;have e1:(o.layers.map c8).length=o.layers.length:=zAA ..;unfold fk at c1;unfold ez;cases h:aQ o with
 | none=>
   rw [h] at c1;refine G0 Tryz.func184 ?_;repeat' first|refine Ra ⟨?_⟩|refine R0 c1 ⟨?_⟩|refine Rd (fun h=>⟨?_⟩) fun h=>⟨?_⟩|refine Rb ⟨?_⟩|fail
   exact Rz
 | some x=>
   rw [h] at c1;have hlL:=(bu (t:=x.1) (v:=x.2) h).2.1;obtain ⟨base,layers,upper⟩:=o;simp only at e1 hlL ⊢
   match layers,hlL,e1,hb,c1,c2 with
   | [],_,e1,hb,c1,c2=>
     simp only [oS];refine G0 Tryz.func184 ?_;repeat' first|refine Ra ⟨?_⟩|refine R0 c1 ⟨?_⟩|refine R0 c2 ⟨?_⟩|refine Rd (fun h=>⟨?_⟩) fun h=>⟨?_⟩|refine Rb ⟨?_⟩|fail
     exact Rz
   | [l],_,e1,hb,c1,c2=>
     simp only [oS];refine G0 Tryz.func184 ?_;repeat' first|refine Ra ⟨?_⟩|refine R0 c1 ⟨?_⟩|refine R0 c2 ⟨?_⟩|refine Rd (fun h=>⟨?_⟩) fun h=>⟨?_⟩|refine Rb ⟨?_⟩|fail
     exact Rz
   | l :: k :: r,hlL,e1,hb,c1,c2=>
     have hbl:=hb.lay l (by simp);have e2:(l :: k :: r).length=r.length+2:=rfl;have hF:oS (l :: k :: r)=jv l (k :: r):=rfl;rw [hF];have e4:(k :: r).length=r.length+1:=rfl;refine G0 Tryz.func184 ?_;repeat' first|refine Ra ⟨?_⟩|refine R0 c1 ⟨?_⟩|refine R0 c2 ⟨?_⟩|refine Rd (fun h=>⟨?_⟩) fun h=>⟨?_⟩|refine Rb ⟨?_⟩|fail
     refine Cd.loop2 (fun mq tm S nx=>∃ (i:Nat) (one:List Mrk),mq=((k :: r).length - i)∧tm=[(2,.bp 0 0),(4,.bp 1 0),(5,.sl (one.map Mrk.c)),(6,.k .i64 ((i:Int)+1))]∧S=[(0,.box 49 [.nil,.nil,.nil]),(1,.box 49 (⟨base,l :: k :: r,upper⟩:Ovr).c)]∧nx=2∧(i≤(k :: r).length)∧(jv l (k :: r)=jv one ((k :: r).drop i))∧((∀ e∈one,e.path.length≤1073741823∧e.data.length≤1073741823))∧(one.length≤1048576)) ?_ ?_
     · refine la [2,4,5,6] ?_
       conv=>whnf
       refine ⟨rfl,rfl,_,0,l,rfl,rfl,rfl,rfl,by omega,rfl,hbl.1,hbl.2⟩
     · rintro mq tm S nx ⟨i,one,hn,rfl,rfl,rfl,hi,hS,hone,hol⟩;rcases au (k :: r) i hi with ⟨rfl,hd⟩|⟨y,s,hy',hd,hr,hlt⟩
       · rw [hd] at hS;rw [hS];simp only [jv];repeat' first|refine Rx ⟨?_⟩|refine Rd (fun h=>⟨?_⟩) fun h=>⟨?_⟩|fail
         exact Rz
       · rw [hd,v8 one y s] at hS;have g1:((l :: k :: r).map c8)[i+1]?=some [.sl (y.map Mrk.c)]:=by rw [List.map_cons,List.getElem?_cons_succ,zAQ,hy']; rfl
         have hyb:=hb.lay y (List.mem_cons_of_mem _ (zAD hy'));have c4:=tP (m:=m) y one (by omega) (by omega) hyb.1 hone;cases hj:bD y one with
         | none=>
           rw [hj] at c4 hS;simp only at hS;rw [hS];repeat' first|refine Ra ⟨?_⟩|refine R0 c4 ⟨?_⟩|(refine ⟨(rfl:[D.sl (y.map Mrk.c)].length=_),?_⟩ <;> conv=>whnf)|refine Rd (fun h=>⟨?_⟩) fun h=>⟨?_⟩|refine Rb ⟨?_⟩|fail
           exact Rz
         | some j=>
           rw [hj] at c4 hS;simp only at hS;obtain ⟨hjb,hjl⟩:=zI hj;repeat' first|refine Ra ⟨?_⟩|refine R0 c4 ⟨?_⟩|(refine ⟨(rfl:[D.sl (y.map Mrk.c)].length=_),?_⟩ <;> conv=>whnf)|refine Rd (fun h=>⟨?_⟩) fun h=>⟨?_⟩|refine Rb ⟨?_⟩|fail
           refine .here ⟨mq - 1,by omega,?_⟩;refine la [2,4,5,6] ?_
           conv=>whnf
           refine ⟨rfl,rfl,i+1,j,(by omega),rfl,rfl,rfl,by omega,(by rw [hS,hr]),hjb,by omega⟩
variable {m:Int}
theorem jz (l:List Bs) (x:Bs):aN (l++[x])=aN l++x++[10]:=by rw [gS]; simp [aN]
theorem ck (x:Bs):aN [x]=x++[10]:=by simp [aN]
theorem tR {α:Type} {f:α→Bs} {l:List α} {i:Nat} {x:α} (h:l[i]?=some x):aN ((l.take (i+1)).map f)=aN ((l.take i).map f)++f x++[10]:=by
 rw [← ft h,jz]
theorem uL (o:Ovr) (hb:gq o):Con (E m) 185 0 [.agg o.c] [] (.agg (fC o).c) []:=by
 have c1:=ig (m:=m) o hb;have c2:=iL (m:=m) o hb;have c3:=kV (m:=m) o hb;unfold fk at c1;unfold fC;cases h:aQ o with
 | none=>
   rw [h] at c1;refine G0 Tryz.func185 ?_;repeat' first|refine Ra ⟨?_⟩|refine R0 c1 ⟨?_⟩|refine Rd (fun h=>⟨?_⟩) fun h=>⟨?_⟩|refine Rb ⟨?_⟩|fail
   exact Rz
 | some x=>
   obtain ⟨t,v⟩:=x;rw [h] at c1;rw [(bJ.1 h).1] at c3;refine G0 Tryz.func185 ?_;repeat' first|refine Ra ⟨?_⟩|refine R0 c1 ⟨?_⟩|refine R0 c2 ⟨?_⟩|refine R0 c3 ⟨?_⟩|refine Rd (fun h=>⟨?_⟩) fun h=>⟨?_⟩|refine Rb ⟨?_⟩|fail
   exact Rz
theorem zK (v:List Ent) (hv:af v=true):Con (E m) 121 0 [.sl (v.map Ent.c)] [] (.s (aN (v.map b8++[[101,110,100]]))) []:=by
 have hvl:=az hv;have e1:(v.map Ent.c).length=v.length:=zAA ..;rw [jz,zAi];refine G0 Tryz.func121 ?_;repeat' first|refine Rx ⟨?_⟩|refine Rd (fun h=>⟨?_⟩) fun h=>⟨?_⟩|fail
 refine Cd.loop2 (fun mq tm S nx=>∃ (i:Nat) (out:Bs),mq=(v.length - i)∧tm=[(0,.sl (v.map Ent.c)),(3,.s out),(4,.k .i64 i)]∧S=[]∧nx=0∧(i≤v.length)∧(out=aN ((v.take i).map b8))∧(out.length≤22 * i)) ?_ ?_
 · refine la [0,3,4] ?_
   conv=>whnf
   refine ⟨rfl,rfl,_,0,[],rfl,rfl,rfl,rfl,zAG _,rfl,(by simp)⟩
 · rintro mq tm S nx ⟨i,out,hn,rfl,rfl,rfl,hi,hx,hol⟩;rcases au v i hi with ⟨rfl,hd⟩|⟨x,q,hx',hd,hr,hlt⟩
   · rw [zAN] at hx;rw [← hx];repeat' first|refine Rx ⟨?_⟩|refine Rd (fun h=>⟨?_⟩) fun h=>⟨?_⟩|fail
     exact Rf
   · have hxb:=eE (dm hv x (zAD hx'));have c1:=kL (m:=m) x (by omega) (by omega);have hxl:=ph hxb.1 hxb.2;repeat' first|refine Ra ⟨?_⟩|refine R0 c1 ⟨?_⟩|refine Rd (fun h=>⟨?_⟩) fun h=>⟨?_⟩|refine Rb ⟨?_⟩|fail
     refine .here ⟨mq - 1,by omega,?_⟩;refine la [0,3,4] ?_
     conv=>whnf
     refine ⟨rfl,rfl,i+1,out++b8 x++[10],(by omega),rfl,rfl,rfl,by omega,(by rw [tR hx',hx]),(by simp; omega)⟩
theorem xL (o:Ovr) (hlo:ax o.upper=true):Con (E m) 122 0 [.agg o.c] [] (.s (aN (o.upper.map bX++[[101,110,100]]))) []:=by
 have hul:=(cB.1 hlo).1;have e1:(o.upper.map Mrk.c).length=o.upper.length:=zAA ..;rw [jz,zAi];refine G0 Tryz.func122 ?_;repeat' first|refine Rx ⟨?_⟩|refine Rd (fun h=>⟨?_⟩) fun h=>⟨?_⟩|fail
 refine Cd.loop2 (fun mq tm S nx=>∃ (i:Nat) (out:Bs),mq=(o.upper.length - i)∧tm=[(1,.bp 0 0),(3,.s out),(4,.k .i64 i)]∧S=[(0,.box 49 o.c)]∧nx=1∧(i≤o.upper.length)∧(out=aN ((o.upper.take i).map bX))∧(out.length≤22 * i)) ?_ ?_
 · refine la [1,3,4] ?_
   conv=>whnf
   refine ⟨rfl,rfl,_,0,[],rfl,rfl,rfl,rfl,zAG _,rfl,(by simp)⟩
 · rintro mq tm S nx ⟨i,out,hn,rfl,rfl,rfl,hi,hx,hol⟩;rcases au o.upper i hi with ⟨rfl,hd⟩|⟨x,q,hx',hd,hr,hlt⟩
   · rw [zAN] at hx;rw [← hx];repeat' first|refine Rx ⟨?_⟩|refine Rd (fun h=>⟨?_⟩) fun h=>⟨?_⟩|fail
     exact Rf
   · have hxb:=e8 hlo x (zAD hx');have c1:=tZ (m:=m) x (by omega) (by omega);have hxl:=zF hxb.1 hxb.2;repeat' first|refine Ra ⟨?_⟩|refine R0 c1 ⟨?_⟩|refine Rd (fun h=>⟨?_⟩) fun h=>⟨?_⟩|refine Rb ⟨?_⟩|fail
     refine .here ⟨mq - 1,by omega,?_⟩;refine la [1,3,4] ?_
     conv=>whnf
     refine ⟨rfl,rfl,i+1,out++bX x++[10],(by omega),rfl,rfl,rfl,by omega,(by rw [tR hx',hx]),(by simp; omega)⟩
theorem xM (L:List Bs) (c:Int) (hc:fP c) (hl:L.length≤16) (hb:∀ a∈L,a.length≤12):Con (E m) 67 0 [.sl (L.map fun l=>[.s l]),.k .i64 c] [] (.s (aN (if c=0 then L++[[101,110,100]] else [ii c]))) []:=by
 have e1:(L.map fun l=>[D.s l]).length=L.length:=zAA ..;by_cases h0:c=0
 · rw [if_pos h0,jz,zAi];subst h0;refine G0 Tryz.func67 ?_;repeat' first|refine Rx ⟨?_⟩|refine Rd (fun h=>⟨?_⟩) fun h=>⟨?_⟩|fail
   refine Cd.loop2 (fun mq tm S nx=>∃ (i:Nat) (out:Bs),mq=(L.length - i)∧tm=[(0,.sl (L.map fun l=>[.s l])),(5,.s out),(6,.k .i64 i)]∧S=[]∧nx=0∧(i≤L.length)∧(out=aN (L.take i))∧(out.length≤13 * i)) ?_ ?_
   · refine la [0,5,6] ?_
     conv=>whnf
     refine ⟨rfl,rfl,_,0,[],rfl,rfl,rfl,rfl,zAG _,rfl,(by simp)⟩
   · rintro mq tm S nx ⟨i,out,hn,rfl,rfl,rfl,hi,hx,hol⟩;rcases au L i hi with ⟨rfl,hd⟩|⟨x,q,hx',hd,hr,hlt⟩
     · rw [zAN] at hx;rw [← hx];repeat' first|refine Rx ⟨?_⟩|refine Rd (fun h=>⟨?_⟩) fun h=>⟨?_⟩|fail
       exact Rf
     · have hxb:=hb x (zAD hx');repeat' first|refine Rx ⟨?_⟩|refine Rd (fun h=>⟨?_⟩) fun h=>⟨?_⟩|fail
       refine .here ⟨mq - 1,by omega,?_⟩;refine la [0,5,6] ?_
       conv=>whnf
       refine ⟨rfl,rfl,i+1,out++x++[10],(by omega),rfl,rfl,rfl,by omega,(by rw [q8 hx',hx]),(by simp; omega)⟩
 · rw [if_neg h0,ck];have c1:=tG (m:=m) c hc;refine G0 Tryz.func67 ?_;repeat' first|refine Ra ⟨?_⟩|refine R0 c1 ⟨?_⟩|refine Rd (fun h=>⟨?_⟩) fun h=>⟨?_⟩|refine Rb ⟨?_⟩|fail
   exact Rf
theorem xN (w:Wld) (k:Bs) (hb:du w) (hk:1≤ld k):Con (E m) 123 0 [.agg w.c,.s k] [] (.tup [.agg (cS w k).1.c,.s ((cS w k).2++[10])]) []:=by
 have e4:(w.leases.map Lse.c).length=w.leases.length:=zAA ..;unfold cS;by_cases hw:w.waits=true
 · rw [if_pos (.inl hw)];refine G0 Tryz.func123 ?_;repeat' first|refine Rx ⟨?_⟩|refine Rd (fun h=>⟨?_⟩) fun h=>⟨?_⟩|fail
   exact Rz
 · have hw':w.waits=false:=by simpa using hw
   by_cases hl:w.leases=[]
   · rw [if_neg (fun h=>h.elim (fun h=>hw h) fun h=>h hl)];have hl0:w.leases.length=0:=by rw [hl]; rfl
     rcases lm hk with ⟨rfl,_⟩|⟨rfl,_⟩|⟨rfl,_⟩
     · rw [mJ.1 rfl];have c1:=uJ (m:=m) w.over hb.over;generalize ey w.over=P at c1 ⊢;obtain ⟨o',b⟩:=P;cases b;all_goals
        refine G0 Tryz.func123 ?_;repeat' first|refine Ra ⟨?_⟩|refine R0 c1 ⟨?_⟩|refine Rd (fun h=>⟨?_⟩) fun h=>⟨?_⟩|refine Rb ⟨?_⟩|fail
        exact Rz
     · rw [mJ.2.1 rfl];have c1:=uK (m:=m) w.over hb.over;generalize ez w.over=P at c1 ⊢;obtain ⟨o',b⟩:=P;cases b;all_goals
        refine G0 Tryz.func123 ?_;repeat' first|refine Ra ⟨?_⟩|refine R0 c1 ⟨?_⟩|refine Rd (fun h=>⟨?_⟩) fun h=>⟨?_⟩|refine Rb ⟨?_⟩|fail
        exact Rz
     · rw [mJ.2.2 rfl];have c1:=uL (m:=m) w.over hb.over;generalize fC w.over=o' at c1 ⊢;refine G0 Tryz.func123 ?_;repeat' first|refine Ra ⟨?_⟩|refine R0 c1 ⟨?_⟩|refine Rd (fun h=>⟨?_⟩) fun h=>⟨?_⟩|refine Rb ⟨?_⟩|fail
       exact Rz
   · rw [if_pos (.inr hl)];have hl0:0 < w.leases.length:=List.length_pos_iff.2 hl;refine G0 Tryz.func123 ?_;repeat' first|refine Rx ⟨?_⟩|refine Rd (fun h=>⟨?_⟩) fun h=>⟨?_⟩|fail
     exact Rz
theorem kp (w:Wld) (e:Evn) (hb:cR 1048575 w) (hok:aL w=true) (he:vY e):Con (E m) 65 0 [.agg w.c,.agg e.c] [] (.tup [.agg (wDo w e).1.c,.s (ii (wDo w e).2++[10])]) []:=by
 have hbw:=hb.w (by omega);obtain ⟨t,v,ho,hw,hs⟩:=bi hok;obtain ⟨h0,h1,h2,hh⟩:=GD hw.hl;have c2:=Bp (m:=m) w hbw h0 h1 h2 hh;obtain ⟨g0,g1,g2,hW,c3⟩:=Dx (m:=m) w e hbw ho hw (fun l hl=>(hb.hs l hl).2) he h0 h1 h2 hh;have c4:=tG (m:=m) (wDo w e).2 (zn w e);rw [pd hW];generalize wDo w e=W at c3 c4 ⊢;refine G0 Tryz.func65 ?_;repeat' first|refine Ra ⟨?_⟩|refine Rk [] 4 c2 ⟨?_⟩|refine Rk [2,3,4,5] 4 c3 ⟨?_⟩|refine Rk [3,4,5,6] 4 c3 ⟨?_⟩|refine Rk [4,5,6,7] 4 c3 ⟨?_⟩|refine R0 c4 ⟨?_⟩|refine Rd (fun h=>⟨?_⟩) fun h=>⟨?_⟩|refine Rb ⟨?_⟩|fail
 exact Rz
theorem zL (w:Wld) (n:Int) (p:Bs) (hb:du w) (he:∀ h,bK w n p=some h→h.ent.path.length≤12∧h.ent.data.length≤6):Con (E m) 134 0 [.agg w.c,.k .i64 n,.s p] [] (.s (pg w n p++[10])) []:=by
 have c1:=tp (m:=m) w n p hb;unfold pg;cases hr:bK w n p with
 | none=>
   rw [hr] at c1;refine G0 Tryz.func134 ?_;repeat' first|refine Ra ⟨?_⟩|refine R0 c1 ⟨?_⟩|refine Rd (fun h=>⟨?_⟩) fun h=>⟨?_⟩|refine Rb ⟨?_⟩|fail
   exact Rf
 | some h=>
   rw [hr] at c1;obtain ⟨h1,h2⟩:=he h hr;have c2:=kL (m:=m) h.ent (by omega) (by omega);have hxl:=ph h1 h2;obtain ⟨hp,hh,hent,hn,ht⟩:=h;simp only at h1 h2 c2 hxl ⊢;cases hh
   · refine G0 Tryz.func134 ?_;repeat' first|refine Ra ⟨?_⟩|refine R0 c1 ⟨?_⟩|refine R0 c2 ⟨?_⟩|refine Rd (fun h=>⟨?_⟩) fun h=>⟨?_⟩|refine Rb ⟨?_⟩|fail
     exact Rf
   · refine G0 Tryz.func134 ?_;repeat' first|refine Ra ⟨?_⟩|refine R0 c1 ⟨?_⟩|refine R0 c2 ⟨?_⟩|refine Rd (fun h=>⟨?_⟩) fun h=>⟨?_⟩|refine Rb ⟨?_⟩|fail
     exact Rf
end Go.Proofs.YtlicaibhgcenhaaGreatDoor
