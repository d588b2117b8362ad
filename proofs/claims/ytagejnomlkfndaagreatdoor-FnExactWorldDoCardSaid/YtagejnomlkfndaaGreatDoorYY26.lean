/- Texts of this claim, set close: lemmas and contracts. -/
import Derived.Test.YtagejnomlkfndaaGreatDoorYY20
import Derived.Test.YtagejnomlkfndaaGreatDoorYY9
import Derived.Test.YtagejnomlkfndaaGreatDoorYY18
import Derived.Test.YtagejnomlkfndaaGreatDoorYY12
import Derived.Shelf.SlicesQ.Reverse
import Derived.Test.YtagejnomlkfndaaGreatDoorYY21
set_option linter.unusedSimpArgs false
set_option linter.unusedVariables false
set_option maxHeartbeats 1000000
set_option maxRecDepth 10000
namespace Go.Proofs.YtagejnomlkfndaaGreatDoor
open Go Go.RowKit Go.Ab Go.Par
variable {m:Int}
abbrev ck (l:List Int):List (List D):=l.map fun n=>[.k .i64 n]
theorem ints_snoc (A:List Int) (x:Int):ck A++[[.k .i64 x]]=ck (A++[x]):=by simp [ck]
theorem bE0 {t:List Ent} (h:aq t=true):∀ e∈t,e.path.length≤1073741824∧e.data.length≤1073741824:=fun e he=>by
 have:=jF (gE h e he); omega
abbrev jc (n:Nat) (o:Opn):Prop:=o.path.length≤n∧o.tgt.length≤n∧o.data.length≤n
end Go.Proofs.YtagejnomlkfndaaGreatDoor
namespace Go.Proofs.YtagejnomlkfndaaGreatDoor
open Go Go.RowKit Go.Ab Go.Par Go.Proofs Go.Sort Go.Shelf
variable {m:Int}
def gL (l:List Mrk) (p:Bs):Bool:=l.any fun x=>decide (x.kind≠2) && (decide (x.path=p) || bW p x.path)
theorem Fm {l:List Mrk} (h:∀ x∈l,ah x.path=true) {p:Bs} (hp:ah p=true):gL l p=cg l p:=by
 unfold gL cg;rw [zAK,zAp,zAp];constructor
 · rintro ⟨x,hx,h1⟩;refine ⟨x,hx,?_⟩;simp only [zAE,zAe,decide_eq_true_eq,cC,bW,hp,h x hx,Bool.or_true,true_and] at h1 ⊢;exact ⟨h1.1,h1.2.elim (fun q=>.inl q.symm) .inr⟩
 · rintro ⟨x,hx,h1⟩;refine ⟨x,hx,?_⟩;simp only [zAE,zAe,decide_eq_true_eq,cC,bW,hp,h x hx,Bool.or_true,true_and] at h1 ⊢;exact ⟨h1.1,h1.2.elim (fun q=>.inl q.symm) .inr⟩
theorem jd {l:List Mrk} (h:aR l=true):∀ x∈l,ah x.path=true:=fun x hx=>(fu ((fW.1 h).2.2 x hx).1).2.1
theorem dN {l:List Mrk} (h:aR l=true):l.length≤32:=(fW.1 h).1
theorem gV {l:List Mrk} (h:aR l=true):∀ x∈l,x.path.length≤12∧x.data.length≤6:=fun x hx=>by
 have h1:=((fW.1 h).2.2 x hx).1;obtain ⟨_,h2,h3,_⟩:=fu h1;refine ⟨(aQ h2).2,?_⟩;have h4:=Cm h3;omega
theorem C0 (l:List Mrk) (p:Bs) (hl:l.length≤1073741824) (hp:p.length≤1073741823) (hb:∀ x∈l,x.path.length≤1073741823):Con (E m) 242 0 [.sl (l.map Mrk.c),.s p] [] (.b (gL l p)) []:=by
 have e1:(l.map Mrk.c).length=l.length:=zAA ..;refine G0 Tryz.func242 ?_;repeat' first|refine Rx ⟨?_⟩|refine Rd (fun h=>⟨?_⟩) fun h=>⟨?_⟩|fail
 refine Cd.loop2 (fun mq tm S nx=>∃ (i:Nat),mq=(l.length - i)∧tm=[(1,.s p),(7,.sl (l.map Mrk.c)),(8,.k .i64 ((l.map Mrk.c).length:Int)),(9,.k .i64 i)]∧S=[]∧nx=0∧(i≤l.length)∧(gL l p=gL (l.drop i) p)) ?_ ?_
 · refine la [1,7,8,9] ?_
   conv=>whnf
   refine ⟨rfl,rfl,_,0,rfl,rfl,rfl,rfl,by omega,rfl⟩
 · rintro mq tm S nx ⟨i,hn,rfl,rfl,rfl,hi,ha⟩;rcases av l i hi with ⟨rfl,hd⟩|⟨x,r,hx,hd,hr,hlt⟩
   · rw [hd] at ha;rw [ha];repeat' first|refine Rx ⟨?_⟩|refine Rd (fun h=>⟨?_⟩) fun h=>⟨?_⟩|fail
     exact Rf
   · rw [hd] at ha;have c1:=jT (m:=m) p x.path hp (hb x (zAD hx));by_cases h2:x.kind=2
     · have hs:gL l p=gL (l.drop (i+1)) p:=by rw [ha,hr]; simp [gL,h2]
       repeat' first|refine Rx ⟨?_⟩|refine Rd (fun h=>⟨?_⟩) fun h=>⟨?_⟩|fail
       refine .here ⟨mq - 1,by omega,?_⟩;refine la [1,7,8,9] ?_
       conv=>whnf
       refine ⟨rfl,rfl,i+1,(by omega),rfl,rfl,rfl,by omega,hs⟩
     · by_cases h3:x.path=p
       · have hs:gL l p=true:=by rw [ha]; simp [gL,h2,h3]
         rw [hs];repeat' first|refine Rx ⟨?_⟩|refine Rd (fun h=>⟨?_⟩) fun h=>⟨?_⟩|fail
         exact Rf
       · cases h4:bW p x.path with
         | true=>
           rw [h4] at c1;have hs:gL l p=true:=by rw [ha]; simp [gL,h2,h3,h4]
           rw [hs];repeat' first|refine Ra ⟨?_⟩|refine R0 c1 ⟨?_⟩|refine Rd (fun h=>⟨?_⟩) fun h=>⟨?_⟩|refine Rb ⟨?_⟩|fail
           exact Rf
         | false=>
           rw [h4] at c1;have hs:gL l p=gL (l.drop (i+1)) p:=by rw [ha,hr]; simp [gL,h2,h3,h4]
           repeat' first|refine Ra ⟨?_⟩|refine R0 c1 ⟨?_⟩|refine Rd (fun h=>⟨?_⟩) fun h=>⟨?_⟩|refine Rb ⟨?_⟩|fail
           refine .here ⟨mq - 1,by omega,?_⟩;refine la [1,7,8,9] ?_
           conv=>whnf
           refine ⟨rfl,rfl,i+1,(by omega),rfl,rfl,rfl,by omega,hs⟩
theorem Ha (x y:Mrk) (W:World):Calls Tryz.prog 256 #[.agg (Mrk.v x).toArray,.agg (Mrk.v y).toArray] W fun e w'=>e=.returned (.int .i64 (qS x.path y.path))∧∃ q os',w'=grow (W.drewN q) os':=by
 have hcon:=fun W'=>uj x.path y.path W';generalize qS x.path y.path=r at hcon ⊢;unfold Mrk.v
 go_enter Tryz.func256,Tryz.ntmps256
 go_wp2_with (go_at_call 253; refine (hcon _).mono ?_; rintro e w' ⟨rfl,rfl⟩)
 go_ret
 exact ⟨rfl,0,_,by rw [alloc_eq_grow,alloc_eq_grow,grow_grow]; rfl⟩
theorem vy (L U:List Mrk) (hU:∀ S:List Mrk,S.Perm L→(S.Pairwise fun a b=>lt b.path a.path=false)→S=U) (hl:L.length≤1000000) :
   Con (E m) 255 1 [.own 0,.fn 256 []] [(0,.own 166 (L.map Mrk.c))] (.tup []) [(0,.own 166 (U.map Mrk.c))]:=
 zS CK (by decide) (by kernel_rfl) ⟨_,Tryz.func255,rfl,rfl⟩ (qU (pa:=fun e:Mrk=>e.path) hU)
  (fun _ w=>AnyF.slices_SortFunc_none Tryz.sortM none 0 _ w)
  (fun b cap w hH hb=>by
   have eg:∀ args w,(callFunc 256 args).run Tryz.prog w=.ok (.enter 256 args) w:=enters_of Tryz.func256 (by kernel_rfl) rfl;refine (AnyQ.slices_SortFunc Tryz.sortM 3 Tryz.isAgg166 Tryz.sizeOf166 Mrk.v CK.len CK.one (fun x y=>qS x.path y.path) JS 256 #[] b 0 cap L.toArray w eg (fun _ _ _ _ x y=>Ha x y _) hH hb (by simp; omega)).mono ?_;rintro e w' ⟨he,d,n,os,hp,hs,rfl⟩;have hd:d.toList=U:=hU _ (wW hp) (rK (pa:=fun e:Mrk=>e.path) hp.1 hs);refine ⟨he,n,os,?_⟩;rw [← hd])
theorem vz (L U:List Mrk) (hU:∀ S:List Mrk,S.Perm L→(S.Pairwise fun a b=>lt b.path a.path=false)→S=U) (hl:L.length≤1000000) :
   Con (E m) 199 1 [.own 0] [(0,.own 166 (L.map Mrk.c))] (.tup []) [(0,.own 166 (U.map Mrk.c))]:=by
 have c1:=vy (m:=m) L U hU hl;refine G0 Tryz.func199 ?_;repeat' first|refine Ra ⟨?_⟩|refine Rk [0] 0 c1 ⟨?_⟩|refine Rd (fun h=>⟨?_⟩) fun h=>⟨?_⟩|refine Rb ⟨?_⟩|fail
 exact Rf
theorem n7 (t:List Mrk) (ht:t.length≤1073741824):Con (E m) 127 0 [.sl (t.map Mrk.c)] [] (.own 0) [(0,.own 166 (t.map Mrk.c))]:=by
 have e1:(t.map Mrk.c).length=t.length:=zAA ..;refine G0 Tryz.func127 ?_;repeat' first|refine Rx ⟨?_⟩|refine Rd (fun h=>⟨?_⟩) fun h=>⟨?_⟩|fail
 exact Rf
def jn (l:List Mrk) (p:Bs):Bool:=(am l p).isNone && !cg l p
def onI (l:List Mrk) (t:List Ent):List Ent:=(t.filter fun e=>jn l e.path)++l.filterMap bD
theorem eAp (l r:List Ent) (q:Bs):ao (l++r) q=(ao l q).or (ao r q):=by simp [ao,zBR]
theorem Ef {l:List Mrk} {t:List Ent} (hl:aR l=true) (ht:aq t=true) {S:List Ent} (hp:S.Perm (onI l t)) (hs:S.Pairwise fun a b=>lt b.path a.path=false):S=onL l t:=by
 have h1:=cr hl;have h2:=bE ht;refine Ax hp hs ?_ (yu h2) fun q=>?_
 · unfold onI;rw [aC,zAH,List.nodup_append];refine ⟨cA (oN h2 _),mm h1,?_⟩;intro a ha b hb hab;subst hab;obtain ⟨e,he,rfl⟩:=List.mem_map.1 ha;obtain ⟨x,hx,hxe⟩:=List.mem_map.1 hb;obtain ⟨y,hy,hyx⟩:=List.mem_filterMap.1 hx;have h3:=(List.mem_filter.1 he).2;simp only [jn,zAE,Option.isNone_iff_eq_none] at h3;refine (qa0.1 h3.1) ?_;rw [← hxe,ij hyx];exact List.mem_map_of_mem hy
 · rw [yv h1 h2];unfold onI mT;rw [eAp,oM (jn l),qR h1];unfold jn;cases hm:am l q with
   | some x=>simp
   | none=>cases hh:cg l q <;> simp
theorem Eg {l:List Mrk} {t:List Ent} (hl:aR l=true) (ht:aq t=true):(onI l t).length=(onL l t).length∧(onI l t).length≤48:=by
 have h1:=cr hl;have h2:=bE ht;have e:(onI l t).length≤48:=by
  have a1:=zAa (fun e:Ent=>jn l e.path) t;have a2:=List.length_filterMap_le bD l;have a3:=dN hl;have a4:=aN ht;unfold onI;rw [zAT];omega
 exact ⟨(qU (pa:=fun e:Ent=>e.path) (fun S g1 g2=>Ef hl ht g1 g2)).symm,e⟩
theorem filter_step {α:Type} {f:α→Bool} {t:List α} {i:Nat} {x:α} (h:t[i]?=some x):(t.take (i+1)).filter f=(t.take i).filter f++(bif f x then [x] else []):=by
 rw [zAY,h,zAj];cases hf:f x <;> simp [hf]
theorem nu {α β:Type} {f:α→Option β} {t:List α} {i:Nat} {x:α} (h:t[i]?=some x):(t.take (i+1)).filterMap f=(t.take i).filterMap f++(match f x with|some y=>[y]|none=>[]):=by
 rw [zAY,h,List.filterMap_append];cases hf:f x <;> simp [hf]
theorem p9 (l:List Mrk) (t:List Ent) (hb:∀ e∈l,e.path.length≤1073741823∧e.data.length≤1073741823) (ht:∀ e∈t,e.path.length≤1073741824∧e.data.length≤1073741824) :
   Con (E m) 190 0 [.sl (l.map Mrk.c),.sl (t.map Ent.c)] [] (.tup [.own 0,.b (bj l t).isSome]) [(0,.own 66 (((bj l t).getD []).map Ent.c))]:=by
 have c1:=yg (m:=m) l hb;have c2:=gQ (m:=m) t ht;cases h1:aR l with
 | false=>
   rw [h1] at c1;have hx:bj l t=none:=by simp [bj,h1]
   rw [hx];refine G0 Tryz.func190 ?_;repeat' first|refine Ra ⟨?_⟩|refine R0 c1 ⟨?_⟩|refine Rd (fun h=>⟨?_⟩) fun h=>⟨?_⟩|refine Rb ⟨?_⟩|fail
   exact Rf
 | true=>
   rw [h1] at c1;cases h2:aq t with
   | false=>
     rw [h2] at c2;have hx:bj l t=none:=by simp [bj,h2]
     rw [hx];refine G0 Tryz.func190 ?_;repeat' first|refine Ra ⟨?_⟩|refine R0 c1 ⟨?_⟩|refine R0 c2 ⟨?_⟩|refine Rd (fun h=>⟨?_⟩) fun h=>⟨?_⟩|refine Rb ⟨?_⟩|fail
     exact Rf
   | true=>
     rw [h2] at c2;have hlp:=jd h1;have hll:=dN h1;have htl:=aN h2;have e1:(l.map Mrk.c).length=l.length:=zAA ..;have e2:(t.map Ent.c).length=t.length:=zAA ..;obtain ⟨n1,n2⟩:=Eg h1 h2;have hx:bj l t=if (onL l t).length≤16 then some (onL l t) else none:=by simp [bj,h1,h2]
     have c9:=pX (m:=m) (onI l t) (onL l t) (fun S g1 g2=>Ef h1 h2 g1 g2) (by omega);have hfin:onI l t=(t.filter fun e=>jn l e.path)++l.filterMap bD:=rfl;generalize hF:(t.filter fun e=>jn l e.path)=F at hfin;have hFl:F.length≤16:=by have:=zAa (fun e:Ent=>jn l e.path) t; rw [← hF]; omega
     refine G0 Tryz.func190 ?_;repeat' first|refine Ra ⟨?_⟩|refine R0 c1 ⟨?_⟩|refine R0 c2 ⟨?_⟩|refine Rd (fun h=>⟨?_⟩) fun h=>⟨?_⟩|refine Rb ⟨?_⟩|fail
     refine Cd.loop2 (fun mq tm S nx=>∃ (i:Nat) (A:List Ent),mq=(t.length - i)∧tm=[(0,.sl (l.map Mrk.c)),(6,.own 0),(21,.sl (t.map Ent.c)),(22,.k .i64 ((t.map Ent.c).length:Int)),(23,.k .i64 i)]∧S=[(0,.own 66 (A.map Ent.c))]∧nx=1∧(i≤t.length)∧(A=(t.take i).filter fun e=>jn l e.path)∧(A.length≤i)) ?_ ?_
     · refine la [0,6,21,22,23] ?_
       conv=>whnf
       refine ⟨rfl,rfl,_,0,[],rfl,rfl,rfl,rfl,by omega,(by simp),by simp⟩
     · rintro mq tm S nx ⟨i,A,hn,rfl,rfl,rfl,hi,hA,hAl⟩;have e3:(A.map Ent.c).length=A.length:=zAA ..;rcases av t i hi with ⟨rfl,hd⟩|⟨x,r,hx',hd,hr,hlt⟩
       · rw [zAP,hF] at hA;subst hA;repeat' first|refine Rx ⟨?_⟩|refine Rd (fun h=>⟨?_⟩) fun h=>⟨?_⟩|fail
         refine Cd.loop2 (fun mq tm S nx=>∃ (j:Nat) (B:List Ent),mq=(l.length - j)∧tm=[(6,.own 0),(48,.sl (l.map Mrk.c)),(49,.k .i64 ((l.map Mrk.c).length:Int)),(50,.k .i64 j)]∧S=[(0,.own 66 (B.map Ent.c))]∧nx=1∧(j≤l.length)∧(B=A++(l.take j).filterMap bD)∧(B.length≤16+j)) ?_ ?_
         · refine la [6,48,49,50] ?_
           conv=>whnf
           refine ⟨rfl,rfl,_,0,A,rfl,rfl,rfl,rfl,by omega,(by simp),by omega⟩
         · rintro mq tm S nx ⟨j,B,hn,rfl,rfl,rfl,hj,hB,hBl⟩;have e4:(B.map Ent.c).length=B.length:=zAA ..;rcases av l j hj with ⟨rfl,hd⟩|⟨y,s,hy',hd,hr,hlt⟩
           · rw [zAP,← hfin] at hB;by_cases hn:B.length≤16
             · rw [hx,if_pos (by rw [← n1,← hB]; exact hn)];rw [← hB] at c9;repeat' first|refine Ra ⟨?_⟩|refine Rk [0] 0 c9 ⟨?_⟩|refine Rd (fun h=>⟨?_⟩) fun h=>⟨?_⟩|refine Rb ⟨?_⟩|fail
               exact Rf
             · rw [hx,if_neg (by rw [← n1,← hB]; exact hn)];repeat' first|refine Rx ⟨?_⟩|refine Rd (fun h=>⟨?_⟩) fun h=>⟨?_⟩|fail
               exact Rf
           · have g1:=nu (f:=bD) hy';have c5:=tV (m:=m) y;by_cases h3:y.kind=3
             · have g2:bD y=none:=by rw [bD,if_pos h3]
               rw [g2,List.append_nil] at g1;repeat' first|refine Rx ⟨?_⟩|refine Rd (fun h=>⟨?_⟩) fun h=>⟨?_⟩|fail
               refine .here ⟨mq - 1,by omega,?_⟩;refine la [6,48,49,50] ?_
               conv=>whnf
               refine ⟨rfl,rfl,j+1,B,(by omega),rfl,rfl,rfl,by omega,(by rw [hB,g1]),by omega⟩
             · have g2:bD y=some ⟨y.path,dS y,y.data⟩:=by rw [bD,if_neg h3]
               rw [g2] at g1;repeat' first|refine Ra ⟨?_⟩|refine R0 c5 ⟨?_⟩|refine Rd (fun h=>⟨?_⟩) fun h=>⟨?_⟩|refine Rb ⟨?_⟩|fail
               refine .here ⟨mq - 1,by omega,?_⟩;refine la [6,48,49,50] ?_
               conv=>whnf
               refine ⟨rfl,rfl,j+1,B++[⟨y.path,dS y,y.data⟩],(by omega),rfl,?_,rfl,by omega,(by rw [hB,g1,zAl]),(by simp; omega)⟩;rw [zAH];rfl
       · have g1:=filter_step (f:=fun e:Ent=>jn l e.path) hx';have hxp:=(gx h2 (zAD hx')).2.1;have hxl:=(aQ hxp).2;have c3:=mR (m:=m) l x.path (by omega);have c4:=C0 (m:=m) l x.path (by omega) (by omega) (fun y hy=>(hb y hy).1);rw [Fm hlp hxp] at c4;cases hm:am l x.path with
         | some y=>
           rw [hm] at c3;have kx:jn l x.path=false:=by simp [jn,hm]
           simp only [kx,cond_false,List.append_nil] at g1;repeat' first|refine Ra ⟨?_⟩|refine R0 c3 ⟨?_⟩|refine Rd (fun h=>⟨?_⟩) fun h=>⟨?_⟩|refine Rb ⟨?_⟩|fail
           refine .here ⟨mq - 1,by omega,?_⟩;refine la [0,6,21,22,23] ?_
           conv=>whnf
           refine ⟨rfl,rfl,i+1,A,(by omega),rfl,rfl,rfl,by omega,(by rw [hA,g1]),by omega⟩
         | none=>
           rw [hm] at c3;cases hh:cg l x.path with
           | true=>
             rw [hh] at c4;have kx:jn l x.path=false:=by simp [jn,hm,hh]
             simp only [kx,cond_false,List.append_nil] at g1;repeat' first|refine Ra ⟨?_⟩|refine R0 c3 ⟨?_⟩|refine R0 c4 ⟨?_⟩|refine Rd (fun h=>⟨?_⟩) fun h=>⟨?_⟩|refine Rb ⟨?_⟩|fail
             refine .here ⟨mq - 1,by omega,?_⟩;refine la [0,6,21,22,23] ?_
             conv=>whnf
             refine ⟨rfl,rfl,i+1,A,(by omega),rfl,rfl,rfl,by omega,(by rw [hA,g1]),by omega⟩
           | false=>
             rw [hh] at c4;have kx:jn l x.path=true:=by simp [jn,hm,hh]
             simp only [kx,cond_true] at g1;repeat' first|refine Ra ⟨?_⟩|refine R0 c3 ⟨?_⟩|refine R0 c4 ⟨?_⟩|refine Rd (fun h=>⟨?_⟩) fun h=>⟨?_⟩|refine Rb ⟨?_⟩|fail
             refine .here ⟨mq - 1,by omega,?_⟩;refine la [0,6,21,22,23] ?_
             conv=>whnf
             refine ⟨rfl,rfl,i+1,A++[x],(by omega),rfl,?_,rfl,by omega,(by rw [hA,g1]),(by simp; omega)⟩;rw [zAH];rfl
theorem j0 (a b:List Ent) (ha:aq a=true) (hb:aq b=true) :
   Con (E m) 130 0 [.sl (a.map Ent.c),.sl (b.map Ent.c)] [] (.own 0) [(0,.own 166 ((eA a b).map Mrk.c))]:=by
 have c1:=rJ (m:=m) a b (bE0 ha) (bE0 hb);have hbl:=aN hb;have hWl:=fX a b;have hW:=fun p (hp:p∈bo a b)=>jH ha hb hp;have hne:=fun p (hp:p∈bo a b)=>(gI ha hb).1 hp;have hD0:gy a b=(bo a b).filterMap (db a b):=rfl;have hBl:=Fi (a:=a) (b:=b);have hinv:=qW ha hb;have hstep:=fun (i:Nat) (x:Mrk) (h:(gy a b)[i]?=some x)=>ut h;have hU0:jm a b 0=gy a b:=by simp [jm]
 have hBp:∀ x∈gy a b,ah x.path=true:=fun x hx=>by
  obtain ⟨p,hp,hpx⟩:=List.mem_filterMap.1 (hD0 ▸ hx);rw [(gJ hpx).1];exact hW p hp
 have c9:∀ L,L=jm a b (gy a b).length→L.length≤1000000→Con (E m) 199 1 [.own 0] [(0,.own 166 (L.map Mrk.c))] (.tup []) [(0,.own 166 ((eA a b).map Mrk.c))]:=fun L hL hl=>by
  subst hL;exact vz (m:=m) _ _ (fun S g1 g2=>G5 ha hb g1 g2) hl
 generalize eA a b=R at c9;generalize jm a b=U at hinv hstep hU0 c9;generalize gy a b=D at hD0 hBl hinv hstep hU0 c9 hBp;generalize bo a b=W at c1 hWl hW hne hD0;have e1:(strs W).length=W.length:=zAA ..;refine G0 Tryz.func130 ?_;repeat' first|refine Ra ⟨?_⟩|refine Rk [] 1 c1 ⟨?_⟩|refine Rd (fun h=>⟨?_⟩) fun h=>⟨?_⟩|refine Rb ⟨?_⟩|fail
 refine Cd.loop2 (fun mq tm S nx=>∃ (i:Nat) (A:List Mrk),mq=(W.length - i)∧tm=[(1,.sl (b.map Ent.c)),(5,.own 0),(16,.sl (strs W)),(17,.k .i64 ((strs W).length:Int)),(18,.k .i64 i)]∧S=[(0,.own 166 (A.map Mrk.c))]∧nx=1∧(i≤W.length)∧(A=(W.take i).filterMap (db a b))∧(A.length≤i)) ?_ ?_
 · refine li [16] [1,5,16,17,18] ?_
   conv=>whnf
   refine ⟨rfl,rfl,_,0,[],rfl,rfl,rfl,rfl,by omega,(by simp),by simp⟩
 · rintro mq tm S nx ⟨i,A,hn,rfl,rfl,rfl,hi,hA,hAl⟩;have e2:(A.map Mrk.c).length=A.length:=zAA ..;rcases av W i hi with ⟨rfl,hd⟩|⟨p,r,hp',hd,hr,hlt⟩
   · rw [zAP,← hD0] at hA;subst hA;have e3:(A.map Mrk.c).length=A.length:=zAA ..;repeat' first|refine Rx ⟨?_⟩|refine Rd (fun h=>⟨?_⟩) fun h=>⟨?_⟩|fail
     refine Cd.loop2 (fun mq tm S nx=>∃ (j:Nat) (C:List Mrk),mq=(A.length - j)∧tm=[(5,.own 0),(60,.k .i64 ((A.map Mrk.c).length:Int)),(61,.k .i64 j)]∧S=[(0,.own 166 (C.map Mrk.c))]∧nx=1∧(j≤A.length)∧(C=U j)) ?_ ?_
     · refine la [5,60,61] ?_
       conv=>whnf
       refine ⟨rfl,rfl,_,0,A,rfl,rfl,rfl,rfl,by omega,hU0.symm⟩
     · rintro mq tm S nx ⟨j,C,hn,rfl,rfl,rfl,hj,hC⟩;have e4:(C.map Mrk.c).length=C.length:=zAA ..;obtain ⟨i1,⟨X,i2,i3⟩,_⟩:=hinv j hj;rw [← hC] at i2;have hUl:C.length≤32+12 * j:=by rw [i2,zAT]; omega
       by_cases hlt:j < A.length
       · have r1:A[j]?=some A[j]:=zAB hlt;have r2:=hBp _ (zAX hlt);have r3:=hstep j _ r1;have r4:C[j]?=some A[j]:=by rw [i2,zAU hlt]; exact r1
         generalize A[j]=x at r1 r2 r3 r4;have hxl:=(aQ r2).2;have c5:=sA (m:=m) x.path (by omega);obtain ⟨mo,hmo⟩:∃ mo,mo=mq:=⟨_,rfl⟩;subst hmo;have hno:=hn;have hAC:A.length≤C.length:=by rw [i2,zAT]; omega
         have hjC:j < (C.map Mrk.c).length:=by omega
         repeat' first|refine Ra ⟨?_⟩|refine R0 c5 ⟨?_⟩|(refine ⟨hjC,?_⟩ <;> conv=>whnf)|refine Rd (fun h=>⟨?_⟩) fun h=>⟨?_⟩|refine Rb ⟨?_⟩|fail
         refine Cd.loop2 (fun mq tm S nx=>∃ (n:Nat) (p:Bs) (B:List Mrk),mq=(n)∧tm=[(5,.own 0),(11,.s (al p)),(60,.k .i64 ((A.map Mrk.c).length:Int)),(61,.k .i64 j)]∧S=[(0,.own 166 (B.map Mrk.c))]∧nx=1∧(ah p=true)∧(p.length≤n)∧(vu n B p=U (j+1))∧(B.length+n≤44+12 * j)) ?_ ?_
         · refine la [5,11,60,61] ?_
           conv=>whnf
           refine ⟨rfl,rfl,_,12,x.path,C,rfl,rfl,rfl,rfl,r2,by omega,(by rw [hC]; exact r3.symm),by omega⟩
         · rintro mq tm S nx ⟨n,p,B,hn,rfl,rfl,rfl,hpk,hpn,hB,hBl⟩;have e5:(B.map Mrk.c).length=B.length:=zAA ..;have hpl:=(aQ hpk).2;have hpp:=(aQ hpk).1;obtain ⟨n',rfl⟩:∃ n',n=n'+1:=⟨n - 1,by omega⟩;by_cases hr:al p≠[47]
           · rw [vu,if_neg hr] at hB;obtain ⟨u1,u2⟩:=i6 hpk hr;have u3:=lj u1 u2;have u4:=(aQ u1).2;have c6:=mR (m:=m) B (al p) (by omega);have c7:=sA (m:=m) (al p) (by omega);cases hm:am B (al p) with
             | some y=>
               rw [hm] at c6 hB;simp only [Option.isNone_some,zAF,if_false] at hB;rw [show Ja (some y)=D.tup [.agg [.s y.path,.k .i64 y.kind,.s y.data],.b true] from rfl] at c6
               repeat' first|refine Ra ⟨?_⟩|(refine ⟨[],_,_,_,_,0,⟨rfl,rfl,rfl,c6,rfl,rfl⟩,.inl ⟨[],trivial,rfl,.inl ⟨by simp [ay,aD,aj],by simp [aF,aG,aj,Ent.c,Mrk.c,Opn.c]⟩,?_⟩⟩ <;> conv=>whnf)|refine R0 c7 ⟨?_⟩|refine Rd (fun h=>⟨?_⟩) fun h=>⟨?_⟩|refine Rb ⟨?_⟩|fail
               refine .here ⟨mq - 1,by omega,?_⟩;refine la [5,11,60,61] ?_
               conv=>whnf
               refine ⟨rfl,rfl,n',al p,B,(by omega),rfl,rfl,rfl,u1,by omega,hB,by omega⟩
             | none=>
               rw [hm] at c6 hB;simp only [Option.isNone_none,if_true] at hB;rw [show Ja none=D.tup [.agg [.s [],.k .i64 0,.s []],.b false] from rfl] at c6
               repeat' first|refine Ra ⟨?_⟩|(refine ⟨[],_,_,_,_,0,⟨rfl,rfl,rfl,c6,rfl,rfl⟩,.inl ⟨[],trivial,rfl,.inl ⟨by simp [ay,aD,aj],by simp [aF,aG,aj,Ent.c,Mrk.c,Opn.c]⟩,?_⟩⟩ <;> conv=>whnf)|refine R0 c7 ⟨?_⟩|refine Rd (fun h=>⟨?_⟩) fun h=>⟨?_⟩|refine Rb ⟨?_⟩|fail
               refine .here ⟨mq - 1,by omega,?_⟩;refine la [5,11,60,61] ?_
               conv=>whnf
               refine ⟨rfl,rfl,n',al p,B++[⟨al p,2,[]⟩],(by omega),rfl,?_,rfl,u1,by omega,hB,(by simp; omega)⟩;rw [zAH];rfl
           · have hr:=Decidable.not_not.1 hr;have hs:B=U (j+1):=by rw [← hB,vu,if_pos hr]
             rw [hr];repeat' first|refine Rx ⟨?_⟩|refine Rd (fun h=>⟨?_⟩) fun h=>⟨?_⟩|fail
             refine .here ⟨mo - 1,by omega,?_⟩;refine la [5,60,61] ?_
             conv=>whnf
             refine ⟨rfl,rfl,j+1,B,(by omega),rfl,rfl,rfl,by omega,hs⟩
       · obtain rfl:j=A.length:=by omega
         have c9':=c9 C hC (by omega);repeat' first|refine Ra ⟨?_⟩|refine Rk [0] 0 c9' ⟨?_⟩|refine Rd (fun h=>⟨?_⟩) fun h=>⟨?_⟩|refine Rb ⟨?_⟩|fail
         exact Rf
   · have g1:=nu (f:=db a b) hp';have hpk:=hW p (zAD hp');have hpn:=hne p (zAD hp');have hpl:=(aQ hpk).2;have c3:=jt (m:=m) b p (by omega);have c4:=iX (m:=m) b p (by omega) (by omega);cases he:ao b p with
     | some e=>
       rw [he] at c3;cases hd:e.dir with
       | true=>
         have kx:db a b p=some ⟨p,2,[]⟩:=by rw [db,if_neg hpn,he]; simp [hd]
         rw [kx] at g1;repeat' first|refine Ra ⟨?_⟩|refine R0 c3 ⟨?_⟩|refine Rd (fun h=>⟨?_⟩) fun h=>⟨?_⟩|refine Rb ⟨?_⟩|fail
         refine .here ⟨mq - 1,by omega,?_⟩;refine la [1,5,16,17,18] ?_
         conv=>whnf
         refine ⟨rfl,rfl,i+1,A++[⟨p,2,[]⟩],(by omega),rfl,?_,rfl,by omega,(by rw [hA,g1]),(by simp; omega)⟩;rw [zAH];rfl
       | false=>
         have kx:db a b p=some ⟨p,1,e.data⟩:=by rw [db,if_neg hpn,he]; simp [hd]
         rw [kx] at g1;repeat' first|refine Ra ⟨?_⟩|refine R0 c3 ⟨?_⟩|refine Rd (fun h=>⟨?_⟩) fun h=>⟨?_⟩|refine Rb ⟨?_⟩|fail
         refine .here ⟨mq - 1,by omega,?_⟩;refine la [1,5,16,17,18] ?_
         conv=>whnf
         refine ⟨rfl,rfl,i+1,A++[⟨p,1,e.data⟩],(by omega),rfl,?_,rfl,by omega,(by rw [hA,g1]),(by simp; omega)⟩;rw [zAH];rfl
     | none=>
       rw [he] at c3;by_cases hu:bC b p=0
       · have kx:db a b p=some ⟨p,3,[]⟩:=by rw [db,if_neg hpn,he]; simp [hu]
         rw [kx] at g1;rw [hu] at c4;repeat' first|refine Ra ⟨?_⟩|refine R0 c3 ⟨?_⟩|refine R0 c4 ⟨?_⟩|refine Rd (fun h=>⟨?_⟩) fun h=>⟨?_⟩|refine Rb ⟨?_⟩|fail
         refine .here ⟨mq - 1,by omega,?_⟩;refine la [1,5,16,17,18] ?_
         conv=>whnf
         refine ⟨rfl,rfl,i+1,A++[⟨p,3,[]⟩],(by omega),rfl,?_,rfl,by omega,(by rw [hA,g1]),(by simp; omega)⟩;rw [zAH];rfl
       · have kx:db a b p=none:=by rw [db,if_neg hpn,he]; simp [hu]
         rw [kx,List.append_nil] at g1;repeat' first|refine Ra ⟨?_⟩|refine R0 c3 ⟨?_⟩|refine R0 c4 ⟨?_⟩|refine Rd (fun h=>⟨?_⟩) fun h=>⟨?_⟩|refine Rb ⟨?_⟩|fail
         refine .here ⟨mq - 1,by omega,?_⟩;refine la [1,5,16,17,18] ?_
         conv=>whnf
         refine ⟨rfl,rfl,i+1,A,(by omega),rfl,rfl,rfl,by omega,(by rw [hA,g1]),by omega⟩
end Go.Proofs.YtagejnomlkfndaaGreatDoor
