/- Texts of this claim, set close: lemmas and contracts. -/
import Derived.Test.YtagejnomlkfndaaGreatDoorYY34
import Derived.Test.YtagejnomlkfndaaGreatDoorYY21
import Derived.Test.YtagejnomlkfndaaGreatDoorYY32
import Derived.Test.YtagejnomlkfndaaGreatDoorYY22
set_option linter.unusedSimpArgs false
set_option linter.unusedVariables false
set_option maxHeartbeats 1000000
set_option maxRecDepth 10000
namespace Go.Proofs.YtagejnomlkfndaaGreatDoor
open Go Go.RowKit Go.Ab Go.Par
variable {m:Int}
theorem xe {a b:List Mrk} {x:Mrk} (ha:aR a=true) (hb:aR b=true) (h:x∈Eb a b):ah x.path=true∧x.path.length≤12∧x.data.length≤6:=by
 unfold Eb at h;rcases zAu.1 h with h|h
 · have h1:=(List.mem_filter.1 h).1;exact ⟨jd hb x h1,gV hb x h1⟩
 · obtain ⟨y,hy,rfl⟩:=List.mem_map.1 h;exact ⟨jd ha y hy,gV ha y hy⟩
theorem Hf {α β:Type} {f:α→β} {t:List α} {i:Nat} {x:α} (h:t[i]?=some x):(t.take (i+1)).map f=(t.take i).map f++[f x]:=by
 rw [zAY,h,zAH];rfl
def jnD:Option (List Mrk)→D
 | some t=>.tup [.sl (t.map Mrk.c),.b true]
 | none=>.tup [.sl [],.b false]
variable {m:Int}
theorem Ft (one l:List Mrk) (r:List (List Mrk)):n4 one (l :: r)=match dw l one with|some j=>n4 j r|none=>none:=rfl
theorem Hg {a b j:List Mrk} (h:dw a b=some j):(∀ e∈j,e.path.length≤1073741823∧e.data.length≤1073741823)∧j.length≤32:=by
 unfold dw at h;split at h
 · rename_i hc;cases h;refine ⟨fun e he=>?_,hc.2.2⟩;unfold gU at he;obtain ⟨y,hy,hye⟩:=List.mem_filterMap.1 he;have h1:e.path=y.path∧e.data=y.data:=by
    unfold eB at hye;repeat' split at hye
    all_goals first|cases hye
    all_goals exact ⟨rfl,rfl⟩
   have h2:am (fZ a b) y.path=some y:=fV fv hy;rw [lr (cr hc.1) (cr hc.2.1)] at h2;rw [← AH] at h2;obtain ⟨g1,g2⟩:=cK h2
   have:=xe hc.1 hc.2.1 g1
   rw [h1.1,h1.2];omega
 · cases h
theorem Fu (a b:Int):Con (E m) 319 0 [.k .i64 a,.k .i64 b] [] (.k .i64 (gT a b)) []:=by
 by_cases h1:a=2
 · by_cases h2:b=0
   · have hx:gT a b=a:=by simp [gT,h2]
     rw [hx];refine G0 Tryz.func319 ?_;repeat' first|refine Rx ⟨?_⟩|refine Rd (fun h=>⟨?_⟩) fun h=>⟨?_⟩|fail
     exact Rf
   · by_cases h3:b=2
     · have hx:gT a b=a:=by simp [gT,h3]
       rw [hx];refine G0 Tryz.func319 ?_;repeat' first|refine Rx ⟨?_⟩|refine Rd (fun h=>⟨?_⟩) fun h=>⟨?_⟩|fail
       exact Rf
     · have hx:gT a b=4:=by simp [gT,h1,h2,h3]
       rw [hx];refine G0 Tryz.func319 ?_;repeat' first|refine Rx ⟨?_⟩|refine Rd (fun h=>⟨?_⟩) fun h=>⟨?_⟩|fail
       exact Rf
 · have hx:gT a b=a:=by simp [gT,h1]
   rw [hx];refine G0 Tryz.func319 ?_;repeat' first|refine Rx ⟨?_⟩|refine Rd (fun h=>⟨?_⟩) fun h=>⟨?_⟩|fail
   exact Rf
theorem yM {t:List Mrk} {f:Mrk→Mrk} {a:List Mrk} {i:Nat} {x:Mrk} (h:a[i]?=some x):dG t ((a.take (i+1)).map f)=dk (dG t ((a.take i).map f)) (f x):=by rw [Hf h,pZ]
theorem Fv (a b:List Mrk) (ha:aR a=true) (hb:aR b=true):Con (E m) 292 0 [.sl (a.map Mrk.c),.sl (b.map Mrk.c)] [] (.sl ((fZ a b).map Mrk.c)) []:=by
 have hal:=dN ha;have hbl:=dN hb;have hab:=gV ha;have hap:=jd ha;have hbp:=jd hb;have e1:(a.map Mrk.c).length=a.length:=zAA ..;have e2:(b.map Mrk.c).length=b.length:=zAA ..;have hJ:fZ a b=dG (dG [] (b.filter fun x=>iw a x.path)) (a.map (onK b)):=rfl;rw [hJ];refine G0 Tryz.func292 ?_;repeat' first|refine Rx ⟨?_⟩|refine Rd (fun h=>⟨?_⟩) fun h=>⟨?_⟩|fail
 refine Cd.loop2 (fun mq tm S nx=>∃ (i:Nat) (A:List Mrk),mq=(b.length - i)∧tm=[(0,.sl (a.map Mrk.c)),(1,.sl (b.map Mrk.c)),(5,.sl (A.map Mrk.c)),(6,.k .i64 i)]∧S=[]∧nx=0∧(i≤b.length)∧(A=dG [] ((b.take i).filter fun x=>iw a x.path))∧(A.length≤i)) ?_ ?_
 · refine li [5] [0,1,5,6] ?_
   conv=>whnf
   refine ⟨rfl,rfl,_,0,[],rfl,rfl,rfl,rfl,by omega,(by simp [dG]),by simp⟩
 · rintro mq tm S nx ⟨i,A,hn,rfl,rfl,rfl,hi,hA,hAl⟩;rcases av b i hi with ⟨rfl,hd⟩|⟨x,r,hx',hd,hr,hlt⟩
   · rw [zAP] at hA;rw [← hA];repeat' first|refine Rx ⟨?_⟩|refine Rd (fun h=>⟨?_⟩) fun h=>⟨?_⟩|fail
     refine Cd.loop2 (fun mq tm S nx=>∃ (j:Nat) (B:List Mrk),mq=(a.length - j)∧tm=[(0,.sl (a.map Mrk.c)),(1,.sl (b.map Mrk.c)),(5,.sl (B.map Mrk.c)),(7,.k .i64 j)]∧S=[]∧nx=0∧(j≤a.length)∧(B=dG A ((a.take j).map (onK b)))∧(B.length≤32+j)) ?_ ?_
     · refine li [5] [0,1,5,7] ?_
       conv=>whnf
       refine ⟨rfl,rfl,_,0,A,rfl,rfl,rfl,rfl,by omega,(by simp [dG]),by omega⟩
     · rintro mq tm S nx ⟨j,B,hn,rfl,rfl,rfl,hj,hB,hBl⟩;rcases av a j hj with ⟨rfl,hd⟩|⟨y,s,hy',hd,hr,hlt⟩
       · rw [zAP] at hB;rw [← hB];repeat' first|refine Rx ⟨?_⟩|refine Rd (fun h=>⟨?_⟩) fun h=>⟨?_⟩|fail
         exact Rf
       · have g1:=yM (t:=A) (f:=onK b) hy';rw [← hB] at g1;have c3:=ko (m:=m) b y.path (by omega);have c4:=Fu (m:=m) y.kind (cZ b y.path);have c5:Con (E m) 185 0 [.sl (B.map Mrk.c),.agg [.s y.path,.k .i64 (gT y.kind (cZ b y.path)),.s y.data]] [] (.own 0) [(0,.own 166 ((dk B (onK b y)).map Mrk.c))]:=lf (m:=m) B (onK b y) (by omega);have hl:=(iW B (onK b y)).2;generalize dk B (onK b y)=Z at c5 g1 hl;generalize cZ b y.path=kk at c3 c4 c5;generalize gT y.kind kk=qq at c4 c5;repeat' first|refine Ra ⟨?_⟩|refine R0 c3 ⟨?_⟩|refine R0 c4 ⟨?_⟩|refine Rk [] 1 c5 ⟨?_⟩|refine Rd (fun h=>⟨?_⟩) fun h=>⟨?_⟩|refine Rb ⟨?_⟩|fail
         refine .here ⟨mq - 1,by omega,?_⟩;refine li [5] [0,1,5,7] ?_
         conv=>whnf
         refine ⟨rfl,rfl,j+1,Z,(by omega),rfl,rfl,rfl,by omega,g1.symm,by omega⟩
   · have g1:=filter_step (f:=fun x:Mrk=>iw a x.path) hx';have hxp:=hbp x (zAD hx');have hxl:=(aQ hxp).2;have c3:=uA (m:=m) a x.path (by omega) (by omega) (fun y hy=>by have:=(hab y hy).1; omega);have c4:=ko (m:=m) a x.path (by omega);have hkn:=nr ha (q:=x.path);cases hh:cg a x.path with
     | true=>
       rw [hh] at c3;have kx:iw a x.path=false:=by simp [iw,hh]
       simp only [kx,cond_false,List.append_nil] at g1;repeat' first|refine Ra ⟨?_⟩|refine R0 c3 ⟨?_⟩|refine Rd (fun h=>⟨?_⟩) fun h=>⟨?_⟩|refine Rb ⟨?_⟩|fail
       refine .here ⟨mq - 1,by omega,?_⟩;refine la [0,1,5,6] ?_
       conv=>whnf
       refine ⟨rfl,rfl,i+1,A,(by omega),rfl,rfl,rfl,by omega,(by rw [hA,g1]),by omega⟩
     | false=>
       rw [hh] at c3;by_cases hk:cZ a x.path=0
       · have kx:iw a x.path=true:=by simp [iw,hkn.1 hk,hh]
         simp only [kx,cond_true] at g1;rw [hk] at c4;have c5:=lf (m:=m) A x (by omega);have hl:=(iW A x).2;repeat' first|refine Ra ⟨?_⟩|refine R0 c3 ⟨?_⟩|refine R0 c4 ⟨?_⟩|refine Rk [] 1 c5 ⟨?_⟩|refine Rd (fun h=>⟨?_⟩) fun h=>⟨?_⟩|refine Rb ⟨?_⟩|fail
         refine .here ⟨mq - 1,by omega,?_⟩;refine li [5] [0,1,5,6] ?_
         conv=>whnf
         refine ⟨rfl,rfl,i+1,dk A x,(by omega),rfl,rfl,rfl,by omega,(by rw [g1,pZ,← hA]),by omega⟩
       · have kx:iw a x.path=false:=by
           cases hm:am a x.path with
           | none=>exact absurd (hkn.2 hm) hk
           | some z=>simp [iw,hm]
         simp only [kx,cond_false,List.append_nil] at g1;generalize cZ a x.path=kk at c4 hk;repeat' first|refine Ra ⟨?_⟩|refine R0 c3 ⟨?_⟩|refine R0 c4 ⟨?_⟩|refine Rd (fun h=>⟨?_⟩) fun h=>⟨?_⟩|refine Rb ⟨?_⟩|fail
         refine .here ⟨mq - 1,by omega,?_⟩;refine la [0,1,5,6] ?_
         conv=>whnf
         refine ⟨rfl,rfl,i+1,A,(by omega),rfl,rfl,rfl,by omega,(by rw [hA,g1]),by omega⟩
theorem Fw (J:List Mrk) (hs:ax (aV J)) (hok:∀ x∈J,ah x.path=true) (hl:J.length≤1000):Con (E m) 291 0 [.sl (J.map Mrk.c)] [] (.sl ((J.filterMap (eB (bare J))).map Mrk.c)) []:=by
 have e1:(J.map Mrk.c).length=J.length:=zAA ..;have hta:=fun i x h=>CU hs hok (i:=i) (x:=x) h;have htp:∀ i,∀ y∈(J.take i).filterMap (eB (bare J)),y.path.length≤1073741823:=fun i y hy=>by
  obtain ⟨z,hz,hzy⟩:=List.mem_filterMap.1 hy;rw [oP z y hzy]
  have:=(aQ (hok z (zAz hz))).2
  omega
 refine G0 Tryz.func291 ?_;repeat' first|refine Rx ⟨?_⟩|refine Rd (fun h=>⟨?_⟩) fun h=>⟨?_⟩|fail
 refine Cd.loop2 (fun mq tm S nx=>∃ (i:Nat) (A:List Mrk),mq=(J.length - i)∧tm=[(0,.sl (J.map Mrk.c)),(3,.own 0),(4,.k .i64 i)]∧S=[(0,.own 166 (A.map Mrk.c))]∧nx=1∧(i≤J.length)∧(A=(J.take i).filterMap (eB (bare J)))∧(A.length≤i)) ?_ ?_
 · refine la [0,3,4] ?_
   conv=>whnf
   refine ⟨rfl,rfl,_,0,[],rfl,rfl,rfl,rfl,by omega,(by simp),by simp⟩
 · rintro mq tm S nx ⟨i,A,hn,rfl,rfl,rfl,hi,hA,hAl⟩;have e3:(A.map Mrk.c).length=A.length:=zAA ..;rcases av J i hi with ⟨rfl,hd⟩|⟨x,r,hx',hd,hr,hlt⟩
   · rw [zAP] at hA;rw [← hA];repeat' first|refine Rx ⟨?_⟩|refine Rd (fun h=>⟨?_⟩) fun h=>⟨?_⟩|fail
     exact Rz
   · have g1:=nu (f:=eB (bare J)) hx';have hxp:=hok x (zAD hx');have hxl:=(aQ hxp).2;have hbr0:=hta i x hx';have htp':=htp i;rw [← hA] at hbr0 htp';have c4:=rt (m:=m) A x.path (by omega) (by omega) htp';rw [hbr0] at c4;cases hbr:bare J x.path with
     | false=>
       rw [hbr] at c4;have kx:eB (bare J) x=some x:=by simp [eB,hbr]
       rw [kx] at g1;repeat' first|refine Ra ⟨?_⟩|(refine ⟨[],_,_,_,_,0,⟨rfl,rfl,rfl,c4,rfl,rfl⟩,.inl ⟨[],trivial,rfl,.inl ⟨by simp [ay,aD,aj],by simp [aF,aG,aj,Ent.c,Mrk.c,Opn.c]⟩,?_⟩⟩ <;> conv=>whnf)|refine Rd (fun h=>⟨?_⟩) fun h=>⟨?_⟩|refine Rb ⟨?_⟩|fail
       refine .here ⟨mq - 1,by omega,?_⟩;refine la [0,3,4] ?_
       conv=>whnf
       refine ⟨rfl,rfl,i+1,A++[x],(by omega),rfl,?_,rfl,by omega,(by rw [hA,g1]),(by simp; omega)⟩;rw [zAH];rfl
     | true=>
       rw [hbr] at c4;by_cases hk3:x.kind=3
       · have kx:eB (bare J) x=none:=by simp [eB,hbr,hk3]
         rw [kx,List.append_nil] at g1;repeat' first|refine Ra ⟨?_⟩|(refine ⟨[],_,_,_,_,0,⟨rfl,rfl,rfl,c4,rfl,rfl⟩,.inl ⟨[],trivial,rfl,.inl ⟨by simp [ay,aD,aj],by simp [aF,aG,aj,Ent.c,Mrk.c,Opn.c]⟩,?_⟩⟩ <;> conv=>whnf)|refine Rd (fun h=>⟨?_⟩) fun h=>⟨?_⟩|refine Rb ⟨?_⟩|fail
         refine .here ⟨mq - 1,by omega,?_⟩;refine la [0,3,4] ?_
         conv=>whnf
         refine ⟨rfl,rfl,i+1,A,(by omega),rfl,rfl,rfl,by omega,(by rw [hA,g1]),by omega⟩
       · by_cases hk4:x.kind=4
         · have kx:eB (bare J) x=some ⟨x.path,2,x.data⟩:=by simp [eB,hbr,hk4]
           rw [kx] at g1;repeat' first|refine Ra ⟨?_⟩|(refine ⟨[],_,_,_,_,0,⟨rfl,rfl,rfl,c4,rfl,rfl⟩,.inl ⟨[],trivial,rfl,.inl ⟨by simp [ay,aD,aj],by simp [aF,aG,aj,Ent.c,Mrk.c,Opn.c]⟩,?_⟩⟩ <;> conv=>whnf)|refine Rd (fun h=>⟨?_⟩) fun h=>⟨?_⟩|refine Rb ⟨?_⟩|fail
           refine .here ⟨mq - 1,by omega,?_⟩;refine la [0,3,4] ?_
           conv=>whnf
           refine ⟨rfl,rfl,i+1,A++[⟨x.path,2,x.data⟩],(by omega),rfl,?_,rfl,by omega,(by rw [hA,g1]),(by simp; omega)⟩;rw [zAH];rfl
         · have kx:eB (bare J) x=some x:=by simp [eB,hbr,hk3,hk4]
           rw [kx] at g1;repeat' first|refine Ra ⟨?_⟩|(refine ⟨[],_,_,_,_,0,⟨rfl,rfl,rfl,c4,rfl,rfl⟩,.inl ⟨[],trivial,rfl,.inl ⟨by simp [ay,aD,aj],by simp [aF,aG,aj,Ent.c,Mrk.c,Opn.c]⟩,?_⟩⟩ <;> conv=>whnf)|refine Rd (fun h=>⟨?_⟩) fun h=>⟨?_⟩|refine Rb ⟨?_⟩|fail
           refine .here ⟨mq - 1,by omega,?_⟩;refine la [0,3,4] ?_
           conv=>whnf
           refine ⟨rfl,rfl,i+1,A++[x],(by omega),rfl,?_,rfl,by omega,(by rw [hA,g1]),(by simp; omega)⟩;rw [zAH];rfl
theorem Fx {a b:List Mrk} (ha:aR a=true) (hb:aR b=true) {x:Mrk} (h:x∈fZ a b):ah x.path=true:=by
 have h2:am (fZ a b) x.path=some x:=fV fv h;rw [lr (cr ha) (cr hb),← AH] at h2;exact (xe ha hb (cK h2).1).1
theorem Fy {a b:List Mrk} (ha:aR a=true) (hb:aR b=true):(fZ a b).length≤64:=by
 have h1:=dN ha;have h2:=dN hb;have h3:=zAa (fun m:Mrk=>iw a m.path) b;have h4:=mV (b.filter fun m=>iw a m.path) [];have h5:=mV (a.map (onK b)) (dG [] (b.filter fun m=>iw a m.path));have h6:(a.map (onK b)).length=a.length:=zAA ..;have h7:([]:List Mrk).length=0:=rfl;unfold fZ;omega
theorem uE (a b:List Mrk) (hal:a.length≤1073741824) (hbl:b.length≤1073741824) (ka:∀ e∈a,e.path.length≤1073741823∧e.data.length≤1073741823) (kb:∀ e∈b,e.path.length≤1073741823∧e.data.length≤1073741823) :
   Con (E m) 258 0 [.sl (a.map Mrk.c),.sl (b.map Mrk.c)] [] (jnD (dw a b)) []:=by
 have c1:=ic (m:=m) a hal ka;have c2:=ic (m:=m) b hbl kb;cases h1:aR a with
 | false=>
   rw [h1] at c1;have hx:dw a b=none:=by simp [dw,h1]
   rw [hx];refine G0 Tryz.func258 ?_;repeat' first|refine Ra ⟨?_⟩|refine R0 c1 ⟨?_⟩|refine Rd (fun h=>⟨?_⟩) fun h=>⟨?_⟩|refine Rb ⟨?_⟩|fail
   exact Rz
 | true=>
   rw [h1] at c1;cases h2:aR b with
   | false=>
     rw [h2] at c2;have hx:dw a b=none:=by simp [dw,h2]
     rw [hx];refine G0 Tryz.func258 ?_;repeat' first|refine Ra ⟨?_⟩|refine R0 c1 ⟨?_⟩|refine R0 c2 ⟨?_⟩|refine Rd (fun h=>⟨?_⟩) fun h=>⟨?_⟩|refine Rb ⟨?_⟩|fail
     exact Rz
   | true=>
     rw [h2] at c2;have c3:=Fv (m:=m) a b h1 h2;have hRl:=Fy h1 h2;have c4:=Fw (m:=m) (fZ a b) fv (fun x hx=>Fx h1 h2 hx) (by omega);have hx:dw a b=if (gU a b).length≤32 then some (gU a b) else none:=by simp [dw,h1,h2]
     have hL:gU a b=(fZ a b).filterMap (eB (bare (fZ a b))):=rfl;have hLl:(gU a b).length≤64:=zAq (List.length_filterMap_le _ _) hRl;rw [← hL] at c4;rw [hx];generalize gU a b=L at c4 hLl ⊢;generalize fZ a b=R at c3 c4;have e1:(L.map Mrk.c).length=L.length:=zAA ..;by_cases hn:L.length≤32
     · rw [if_pos hn];refine G0 Tryz.func258 ?_;repeat' first|refine Ra ⟨?_⟩|refine R0 c1 ⟨?_⟩|refine R0 c2 ⟨?_⟩|refine R0 c3 ⟨?_⟩|refine R0 c4 ⟨?_⟩|refine Rd (fun h=>⟨?_⟩) fun h=>⟨?_⟩|refine Rb ⟨?_⟩|fail
       exact Rz
     · rw [if_neg hn];refine G0 Tryz.func258 ?_;repeat' first|refine Ra ⟨?_⟩|refine R0 c1 ⟨?_⟩|refine R0 c2 ⟨?_⟩|refine R0 c3 ⟨?_⟩|refine R0 c4 ⟨?_⟩|refine Rd (fun h=>⟨?_⟩) fun h=>⟨?_⟩|refine Rb ⟨?_⟩|fail
       exact Rz
variable {m:Int}
theorem uK (o:Ovr) (hb:gM o):Con (E m) 45 0 [.agg o.c] [] (.agg [.own 0,.own 1,.own 2]) [(0,.own 66 (o.base.map Ent.c)),(1,.own 32 (o.layers.map cm)),(2,.own 166 (o.upper.map Mrk.c))]:=by
 have hbl:=hb.bl;have hll:=hb.ll;have hul:=hb.ul;have e1:(o.layers.map cm).length=o.layers.length:=zAA ..;have e5:(o.base.map Ent.c).length=o.base.length:=zAA ..;have e6:(o.upper.map Mrk.c).length=o.upper.length:=zAA ..;refine G0 Tryz.func45 ?_;repeat' first|refine Rx ⟨?_⟩|refine Rd (fun h=>⟨?_⟩) fun h=>⟨?_⟩|fail
 refine Cd.loop2 (fun mq tm S nx=>∃ (i:Nat) (A:List (List Mrk)),mq=(o.layers.length - i)∧tm=[(1,.bp 0 0),(2,.bp 1 0),(3,.bp 2 0),(4,.k .i64 i)]∧S=[(0,.box 34 o.c),(1,.box 34 [.nil,.nil,.nil]),(2,.box 34 [.own 3,.own 4,.own 5]),(3,.own 66 (o.base.map Ent.c)),(4,.own 32 (A.map cm)),(5,.own 166 (o.upper.map Mrk.c))]∧nx=6∧(i≤o.layers.length)∧(A=o.layers.take i)∧(A.length≤i)) ?_ ?_
 · refine ⟨[.thawB 6 1 32],[1,2,3,4],[0,1,6,3,7,5],?_⟩
   conv=>whnf
   refine ⟨rfl,rfl,_,0,[],rfl,rfl,rfl,rfl,by omega,by simp,by simp⟩
 · rintro mq tm S nx ⟨i,A,hn,rfl,rfl,rfl,hi,hA,hAl⟩;have e2:(A.map cm).length=A.length:=zAA ..;rcases av o.layers i hi with ⟨rfl,hd⟩|⟨l,r,hl',hd,hr,hlt⟩
   · rw [zAP] at hA;subst hA;repeat' first|refine Rx ⟨?_⟩|refine Rd (fun h=>⟨?_⟩) fun h=>⟨?_⟩|fail
     exact Rf
   · have g1:o.layers.take (i+1)=o.layers.take i++[l]:=by rw [zAY,hl']; rfl
     have hbb:=(hb.lay l (zAD hl')).2;have e3:(l.map Mrk.c).length=l.length:=zAA ..;have g2:(o.layers.map cm)[i]?=some [.sl (l.map Mrk.c)]:=by rw [zAO,hl']; rfl
     repeat' first|refine Rx ⟨?_⟩|refine Rd (fun h=>⟨?_⟩) fun h=>⟨?_⟩|fail
     refine .here ⟨mq - 1,by omega,?_⟩;refine la [1,2,3,4] ?_
     conv=>whnf
     refine ⟨rfl,rfl,i+1,A++[l],(by omega),rfl,?_,rfl,by omega,(by rw [hA,g1]),(by simp; omega)⟩;rw [zAH];rfl
theorem vD (o:Ovr) (hb:gM o):Con (E m) 202 0 [.agg o.c] [] (.tup [.agg (i8 o).1.c,.b (i8 o).2]) []:=by
 have c1:=gY (m:=m) o hb;have c2:=jI (m:=m) o hb;have c3:=uK (m:=m) o hb;have e1:(o.layers.map cm).length=o.layers.length:=zAA ..;unfold fF at c1;unfold i8;cases h:bv o with
 | none=>
   rw [h] at c1;refine G0 Tryz.func202 ?_;repeat' first|refine Ra ⟨?_⟩|refine R0 c1 ⟨?_⟩|refine Rd (fun h=>⟨?_⟩) fun h=>⟨?_⟩|refine Rb ⟨?_⟩|fail
   exact Rz
 | some x=>
   rw [h] at c1;have hl:=(ce (t:=x.1) (v:=x.2) h).2.1;simp only;by_cases h4:o.layers.length=4
   · rw [if_pos h4];refine G0 Tryz.func202 ?_;repeat' first|refine Ra ⟨?_⟩|refine R0 c1 ⟨?_⟩|refine R0 c2 ⟨?_⟩|refine Rd (fun h=>⟨?_⟩) fun h=>⟨?_⟩|refine Rb ⟨?_⟩|fail
     exact Rz
   · rw [if_neg h4];have g1:(o.layers++[o.upper]).map cm=o.layers.map cm++[[.sl (o.upper.map Mrk.c)]]:=by rw [zAH]; rfl
     unfold Ovr.c;rw [g1];refine G0 Tryz.func202 ?_;repeat' first|refine Ra ⟨?_⟩|refine R0 c1 ⟨?_⟩|refine Rk [] 3 c3 ⟨?_⟩|refine Rd (fun h=>⟨?_⟩) fun h=>⟨?_⟩|refine Rb ⟨?_⟩|fail
     exact Rz
theorem vE (o:Ovr) (hb:gM o):Con (E m) 203 0 [.agg o.c] [] (.tup [.agg (i9 o).1.c,.b (i9 o).2]) []:=by
 have c1:=gY (m:=m) o hb;have c2:=jI (m:=m) o hb;have e1:(o.layers.map cm).length=o.layers.length:=zAA ..;unfold fF at c1;unfold i9;cases h:bv o with
 | none=>
   rw [h] at c1;refine G0 Tryz.func203 ?_;repeat' first|refine Ra ⟨?_⟩|refine R0 c1 ⟨?_⟩|refine Rd (fun h=>⟨?_⟩) fun h=>⟨?_⟩|refine Rb ⟨?_⟩|fail
   exact Rz
 | some x=>
   rw [h] at c1;have hlL:=(ce (t:=x.1) (v:=x.2) h).2.1;obtain ⟨base,layers,upper⟩:=o;simp only at e1 hlL ⊢
   match layers,hlL,e1,hb,c1,c2 with
   | [],_,e1,hb,c1,c2=>
     simp only [w8];refine G0 Tryz.func203 ?_;repeat' first|refine Ra ⟨?_⟩|refine R0 c1 ⟨?_⟩|refine R0 c2 ⟨?_⟩|refine Rd (fun h=>⟨?_⟩) fun h=>⟨?_⟩|refine Rb ⟨?_⟩|fail
     exact Rz
   | [l],_,e1,hb,c1,c2=>
     simp only [w8];refine G0 Tryz.func203 ?_;repeat' first|refine Ra ⟨?_⟩|refine R0 c1 ⟨?_⟩|refine R0 c2 ⟨?_⟩|refine Rd (fun h=>⟨?_⟩) fun h=>⟨?_⟩|refine Rb ⟨?_⟩|fail
     exact Rz
   | l :: k :: r,hlL,e1,hb,c1,c2=>
     have hbl:=hb.lay l (by simp);have e2:(l :: k :: r).length=r.length+2:=rfl;have hF:w8 (l :: k :: r)=n4 l (k :: r):=rfl;rw [hF];have e4:(k :: r).length=r.length+1:=rfl;refine G0 Tryz.func203 ?_;repeat' first|refine Ra ⟨?_⟩|refine R0 c1 ⟨?_⟩|refine R0 c2 ⟨?_⟩|refine Rd (fun h=>⟨?_⟩) fun h=>⟨?_⟩|refine Rb ⟨?_⟩|fail
     refine Cd.loop2 (fun mq tm S nx=>∃ (i:Nat) (one:List Mrk),mq=((k :: r).length - i)∧tm=[(2,.bp 0 0),(4,.bp 1 0),(5,.sl (one.map Mrk.c)),(6,.k .i64 ((i:Int)+1))]∧S=[(0,.box 34 [.nil,.nil,.nil]),(1,.box 34 (⟨base,l :: k :: r,upper⟩:Ovr).c)]∧nx=2∧(i≤(k :: r).length)∧(n4 l (k :: r)=n4 one ((k :: r).drop i))∧((∀ e∈one,e.path.length≤1073741823∧e.data.length≤1073741823))∧(one.length≤1048576)) ?_ ?_
     · refine la [2,4,5,6] ?_
       conv=>whnf
       refine ⟨rfl,rfl,_,0,l,rfl,rfl,rfl,rfl,by omega,rfl,hbl.1,hbl.2⟩
     · rintro mq tm S nx ⟨i,one,hn,rfl,rfl,rfl,hi,hS,hone,hol⟩;rcases av (k :: r) i hi with ⟨rfl,hd⟩|⟨y,s,hy',hd,hr,hlt⟩
       · rw [hd] at hS;rw [hS];simp only [n4];repeat' first|refine Rx ⟨?_⟩|refine Rd (fun h=>⟨?_⟩) fun h=>⟨?_⟩|fail
         exact Rz
       · rw [hd,Ft one y s] at hS;have g1:((l :: k :: r).map cm)[i+1]?=some [.sl (y.map Mrk.c)]:=by rw [List.map_cons,List.getElem?_cons_succ,zAO,hy']; rfl
         have hyb:=hb.lay y (List.mem_cons_of_mem _ (zAD hy'));have c4:=uE (m:=m) y one (by omega) (by omega) hyb.1 hone;cases hj:dw y one with
         | none=>
           rw [hj] at c4 hS;simp only at hS;rw [hS];repeat' first|refine Ra ⟨?_⟩|refine R0 c4 ⟨?_⟩|(refine ⟨(rfl:[D.sl (y.map Mrk.c)].length=_),?_⟩ <;> conv=>whnf)|refine Rd (fun h=>⟨?_⟩) fun h=>⟨?_⟩|refine Rb ⟨?_⟩|fail
           exact Rz
         | some j=>
           rw [hj] at c4 hS;simp only at hS;obtain ⟨hjb,hjl⟩:=Hg hj;repeat' first|refine Ra ⟨?_⟩|refine R0 c4 ⟨?_⟩|(refine ⟨(rfl:[D.sl (y.map Mrk.c)].length=_),?_⟩ <;> conv=>whnf)|refine Rd (fun h=>⟨?_⟩) fun h=>⟨?_⟩|refine Rb ⟨?_⟩|fail
           refine .here ⟨mq - 1,by omega,?_⟩;refine la [2,4,5,6] ?_
           conv=>whnf
           refine ⟨rfl,rfl,i+1,j,(by omega),rfl,rfl,rfl,by omega,(by rw [hS,hr]),hjb,by omega⟩
end Go.Proofs.YtagejnomlkfndaaGreatDoor
