/- Texts of this claim, set close: lemmas and contracts. -/
import Derived.Test.YtagejnomlkfndaaGreatDoorYY10
import Derived.Test.YtagejnomlkfndaaGreatDoorYY6
import Derived.Test.YtagejnomlkfndaaGreatDoorYY9
set_option linter.unusedSimpArgs false
set_option linter.unusedVariables false
set_option maxHeartbeats 1000000
set_option maxRecDepth 10000
namespace Go.Proofs.YtagejnomlkfndaaGreatDoor
open Go Go.RowKit Go.Ab Go.Par
variable {m:Int}
set_option maxHeartbeats 1000000 in
theorem vC (l:List Mrk) (hl:l.length≤1073741824) (hb:∀ e∈l,e.path.length≤1073741823∧e.data.length≤1073741823):Con (E m) 228 0 [.sl (l.map Mrk.c)] [] (.b (aX l)) []:=by
 refine G0 Tryz.func228 ?_;repeat' first|refine Rx ⟨?_⟩|refine Rd (fun h=>⟨?_⟩) fun h=>⟨?_⟩|fail
 refine Cd.loop2 (fun mq tm S nx=>∃ (i:Nat),mq=(l.length - i)∧tm=[(0,.sl (l.map Mrk.c)),(3,.k .i64 i)]∧S=[]∧nx=0∧(i≤l.length)∧(∀ k,k < i→qa l k=true)) ?_ ?_
 · refine la [0,3] ?_
   conv=>whnf
   refine ⟨rfl,rfl,_,0,rfl,rfl,rfl,rfl,zAG _,fun k h=>absurd h (Nat.not_lt_zero _)⟩
 · rintro mq tm S nx ⟨i,hn,rfl,rfl,rfl,hi,ha⟩;by_cases hlt:i < l.length
   · have hq:=hb l[i] (zAc hlt);have h1:=cj (m:=m) l[i].path (by omega);have h2:=oQ (m:=m) l[i].data (by omega);have h3:=Cc (m:=m) (l.take i) l[i].path (by rw [zAd]; omega) (by omega);have h4:=xM (m:=m) (l.take i) l[i].path (by rw [zAd]; omega) (by omega) (fun x hx=>(hb x (zBC hx)).1);rw [zBd] at h3 h4;repeat' first|refine Ra ⟨?_⟩|refine R0 h1 ⟨?_⟩|refine R0 h2 ⟨?_⟩|refine R0 h3 ⟨?_⟩|refine R0 h4 ⟨?_⟩|(refine ⟨i - 1,_,by omega,iZ (by omega),rfl,?_⟩ <;> conv=>whnf)|refine Rd (fun h=>⟨?_⟩) fun h=>⟨?_⟩|refine Rb ⟨?_⟩|fail
     all_goals first
      | (have hf:qa l i=false:=by
           clear h1 h2 h3 h4 hb ha hn;rw [AV hlt];try have hi0:0 < i:=by omega
           try have hi0:i=0:=by omega
           first|(rw [zp ‹_›]; simp; done)|(unfold cn; simp_all [lt]; done)|(unfold cn; simp_all [lt]; omega)
         have hg:=sR hlt hf;rw [hg];refine af.here (fa ?_)
         conv=>whnf
         exact ⟨rfl,rfl,rfl,rfl⟩)
      | (have hf:qa l i=true:=by
           clear h1 h2 h3 h4 hb ha hn;rw [AV hlt];unfold cn;try have hi0:0 < i:=by omega
           try have hi0:i=0:=by omega
           first|(simp_all [lt]; done)|(simp_all [lt]; omega)
         refine .here ⟨mq - 1,by omega,?_⟩;refine la [0,3] ?_
         conv=>whnf
         refine ⟨rfl,rfl,i+1,(by omega),rfl,rfl,rfl,by omega,zh ha hf⟩)
   · repeat' first|refine Rx ⟨?_⟩|refine Rd (fun h=>⟨?_⟩) fun h=>⟨?_⟩|fail
     have hi2:i=l.length:=by omega
     subst hi2;by_cases h32:l.length≤32
     · have hf:aX l=true:=vu h32 ha;rw [hf];exact Rf
     · have hf:aX l=false:=by simp [aX,h32]
       rw [hf];exact Rf
theorem pC (es:List Mrk) (hl:es.length≤1048576):Con (E m) 49 0 [.sl (es.map Mrk.c)] [] (.own 0) [(0,.own 166 (es.map Mrk.c))]:=by
 refine G0 Tryz.func49 ?_;repeat' first|refine Ra ⟨?_⟩|(refine ⟨es.length,by simp only [zAA],by simp only [zAA],(by unfold dI; omega),zAC rfl,?_⟩ <;> conv=>whnf)|refine Rd (fun h=>⟨?_⟩) fun h=>⟨?_⟩|refine Rb ⟨?_⟩|fail
 refine Cd.loop2 (fun mq tm S nx=>∃ (i:Nat) (xs:List (List D)),mq=(es.length - i)∧tm=[(0,.sl (es.map Mrk.c)),(3,.own 0),(4,.k .i64 i)]∧S=[(0,.own 166 xs)]∧nx=1∧(i≤es.length)∧(xs=(es.take i).map Mrk.c++List.replicate (es.length - i) [.s [],.k .i64 0,.s []])) ?_ ?_
 · refine la [0,3,4] ?_
   conv=>whnf
   refine ⟨rfl,rfl,_,0,_,rfl,rfl,rfl,rfl,zAG _,rfl⟩
 · rintro mq tm S nx ⟨i,xs,hn,rfl,rfl,rfl,hi,hxs⟩;have hxl:xs.length=es.length:=by rw [hxs]; simp; omega
   by_cases hlt:i < es.length
   · have hg:xs[i]?=some [.s [],.k .i64 0,.s []]:=by rw [hxs]; exact gH hlt
     repeat' first|refine Ra ⟨?_⟩|refine R0 (zu es[i]) ⟨?_⟩|(refine ⟨_,hg,zAC rfl,?_⟩ <;> conv=>whnf)|refine Rd (fun h=>⟨?_⟩) fun h=>⟨?_⟩|refine Rb ⟨?_⟩|fail
     refine .here ⟨mq - 1,by omega,?_⟩;refine la [0,3,4] ?_
     conv=>whnf
     refine ⟨rfl,rfl,i+1,_,(by omega),rfl,rfl,rfl,by omega,(by rw [hxs]; exact fR hlt)⟩
   · have hx:xs=es.map Mrk.c:=by
       rw [hxs,zAY (by omega)]
       have:es.length - i=0:=by omega
       simp [this]
     subst hx;repeat' first|refine Rx ⟨?_⟩|refine Rd (fun h=>⟨?_⟩) fun h=>⟨?_⟩|fail
     exact Rf
theorem zA (a b:Mrk):Con (E m) 132 0 [.agg a.c,.agg b.c] [] (.b (eqM a b)) []:=by
 refine G0 Tryz.func132 ?_;repeat' first|refine Rx ⟨?_⟩|refine Rd (fun h=>⟨?_⟩) fun h=>⟨?_⟩|fail
 all_goals
  refine Rg ⟨?_⟩
  first|rfl|(simp_all [eqM]; done)|(simp [eqM] <;> (repeat' split) <;> omega)|(simp only [eqM]; repeat' split) <;> first|omega|(simp_all; done)|(simp_all; omega)|(rw [zAK]; simp [*,eqM] <;> omega)
theorem pD (t:List Mrk) (hl:t.length≤1048576):Con (E m) 56 0 [.sl (t.map Mrk.c),.sl (t.map Mrk.c)] [] (.b true) []:=by
 refine G0 Tryz.func56 ?_;repeat' first|refine Rx ⟨?_⟩|refine Rd (fun h=>⟨?_⟩) fun h=>⟨?_⟩|fail
 refine Cd.loop2 (fun mq tm S nx=>∃ (i:Nat),mq=(t.length - i)∧tm=[(0,.sl (t.map Mrk.c)),(1,.sl (t.map Mrk.c)),(5,.k .i64 i)]∧S=[]∧nx=0∧(i≤t.length)) ?_ ?_
 · refine la [0,1,5] ?_
   conv=>whnf
   refine ⟨rfl,rfl,_,0,rfl,rfl,rfl,rfl,zAG _⟩
 · rintro mq tm S nx ⟨i,hn,rfl,rfl,rfl,hi⟩;rcases al t i hi with ⟨rfl,hd⟩|⟨x,r,hx,hd,hr,hlt⟩
   · repeat' first|refine Rx ⟨?_⟩|refine Rd (fun h=>⟨?_⟩) fun h=>⟨?_⟩|fail
     exact Rf
   · have he:=zA (m:=m) x x;rw [DJ] at he;repeat' first|refine Ra ⟨?_⟩|refine R0 he ⟨?_⟩|refine Rd (fun h=>⟨?_⟩) fun h=>⟨?_⟩|refine Rb ⟨?_⟩|fail
     refine .here ⟨mq - 1,by omega,?_⟩;refine la [0,1,5] ?_
     conv=>whnf
     refine ⟨rfl,rfl,i+1,(by omega),rfl,rfl,rfl,by omega⟩
variable {m:Int}
theorem uh (t:List Mrk) (e:Mrk) (ht:t.length≤1073741824):Con (E m) 185 0 [.sl (t.map Mrk.c),.agg e.c] [] (.own 0) [(0,.own 166 ((dL t e).map Mrk.c))]:=by
 refine G0 Tryz.func185 ?_;repeat' first|refine Rx ⟨?_⟩|refine Rd (fun h=>⟨?_⟩) fun h=>⟨?_⟩|fail
 refine Cd.loop2 (fun mq tm S nx=>∃ (k:Nat) (xs:List (List D)),mq=(t.length - k)∧tm=[(0,.sl (t.map Mrk.c)),(3,.bp 0 0),(5,.own 1),(6,.k .i64 k)]∧S=[(0,.box 166 e.c),(1,.own 166 xs)]∧nx=2∧(k≤t.length)∧(xs=(t.take k).map Mrk.c)∧(dL t e=t.take k++dL (t.drop k) e)) ?_ ?_
 · refine la [0,3,5,6] ?_
   conv=>whnf
   refine ⟨rfl,rfl,_,0,[],rfl,rfl,rfl,rfl,zAG _,rfl,rfl⟩
 · rintro mq tm S nx ⟨k,xs,hn,rfl,rfl,rfl,hk,hx,ha⟩;have hxl:xs.length=k:=by rw [hx]; simp; omega
   rcases al t k hk with ⟨rfl,hd⟩|⟨x,r,hx',hd,hr,hlt⟩
   · have hf:(dL t e).map Mrk.c=(xs++[e.c])++(((t.map Mrk.c).take (t.map Mrk.c).length).drop t.length):=by
       rw [ha,hx,hd,zAP]; simp [dL,List.drop_of_length_le]
     rw [hf];repeat' first|refine Rx ⟨?_⟩|refine Rd (fun h=>⟨?_⟩) fun h=>⟨?_⟩|fail
     exact Rf
   · rw [hd] at ha;cases hl:lt x.path e.path with
     | true=>
       have hn:dL t e=t.take (k+1)++dL r e:=by rw [ha,dL,if_pos hl,co hx']; simp
       rw [← hr] at hn;repeat' first|refine Rx ⟨?_⟩|refine Rd (fun h=>⟨?_⟩) fun h=>⟨?_⟩|fail
       refine .here ⟨mq - 1,by omega,?_⟩;refine la [0,3,5,6] ?_
       conv=>whnf
       refine ⟨rfl,rfl,k+1,_,(by omega),rfl,rfl,rfl,by omega,(by rw [hx]; exact l4 hx'),hn⟩
     | false=>
       by_cases hp:x.path=e.path
       · have hf:(dL t e).map Mrk.c=(xs++[e.c])++(((t.map Mrk.c).take (t.map Mrk.c).length).drop (k+1)):=by
           rw [ha,hx,dL,hl,if_neg (by simp),if_pos hp,zAP,← zBe,hr]; simp
         rw [hf];repeat' first|refine Ra ⟨?_⟩|(refine ⟨k+1,rfl,?_⟩ <;> conv=>whnf)|refine Rd (fun h=>⟨?_⟩) fun h=>⟨?_⟩|refine Rb ⟨?_⟩|fail
         exact Rf
       · have hf:(dL t e).map Mrk.c=(xs++[e.c])++(((t.map Mrk.c).take (t.map Mrk.c).length).drop k):=by
           rw [ha,hx,dL,hl,if_neg (by simp),if_neg hp,zAP,← zBe,hd]; simp
         rw [hf];repeat' first|refine Rx ⟨?_⟩|refine Rd (fun h=>⟨?_⟩) fun h=>⟨?_⟩|fail
         exact Rf
theorem DS:∀ (n:Nat) (l:List Mrk) (p:Bs),p.length≤n→ae p=true→l.length+n≤1000000→Con (E m) 184 0 [.sl (l.map Mrk.c),.s p] [] (.sl ((jH n l p).map Mrk.c)) []:=by
 intro n
 induction n with
 | zero=>intro l p hp hok _; have:=(aM hok).1; omega
 | succ n ih=>
   intro l p hp hok hln;have c1:=lL (m:=m) p (by omega);by_cases hr:ag p=[47]
   · have hx:jH (n+1) l p=l:=by simp [jH,hr]
     rw [hx];rw [hr] at c1;refine G0 Tryz.func184 ?_;repeat' first|refine Ra ⟨?_⟩|refine R0 c1 ⟨?_⟩|refine Rd (fun h=>⟨?_⟩) fun h=>⟨?_⟩|refine Rb ⟨?_⟩|fail
     exact Rf
   · have hup:=(gG hok).resolve_left hr;have hlt:=ef hok hr;have c2:=pA (m:=m) l (ag p) (by omega);by_cases hk:gg l (ag p)=0
     · have hx:jH (n+1) l p=jH n (dL l ⟨ag p,2,[]⟩) (ag p):=by simp [jH,hr,hk]
       rw [hx];rw [hk] at c2;have c3:=uh (m:=m) l ⟨ag p,2,[]⟩ (by omega);have hl3:=(nO l ⟨ag p,2,[]⟩).2;have c4:=ih (dL l ⟨ag p,2,[]⟩) (ag p) (by omega) hup.1 (by omega);refine G0 Tryz.func184 ?_;repeat' first|refine Ra ⟨?_⟩|refine R0 c1 ⟨?_⟩|refine R0 c2 ⟨?_⟩|refine Rk [] 1 c3 ⟨?_⟩|refine R0 c4 ⟨?_⟩|refine Rd (fun h=>⟨?_⟩) fun h=>⟨?_⟩|refine Rb ⟨?_⟩|fail
       exact Rf
     · have hx:jH (n+1) l p=jH n l (ag p):=by simp [jH,hr,hk]
       rw [hx];have c4:=ih l (ag p) (by omega) hup.1 (by omega);refine G0 Tryz.func184 ?_;repeat' first|refine Ra ⟨?_⟩|refine R0 c1 ⟨?_⟩|refine R0 c2 ⟨?_⟩|refine R0 c4 ⟨?_⟩|refine Rd (fun h=>⟨?_⟩) fun h=>⟨?_⟩|refine Rb ⟨?_⟩|fail
       exact Rf
end Go.Proofs.YtagejnomlkfndaaGreatDoor
namespace Go.Par
open Go.Ab
end Go.Par
namespace Go.Proofs.YtagejnomlkfndaaGreatDoor
open Go Go.RowKit Go.Ab Go.Par
variable {m:Int}
theorem drew (l:Bs) (p n:Int) (hn:0 < n):∃ j:Nat,Fz m l p n=(j:Int)∧(j:Int) < n:=by
 have h:=pickV_bd (m:=m) l p n;exact ⟨_,pick_nn l p n,by have:=pick_nn (m:=m) l p n; omega⟩
end Go.Proofs.YtagejnomlkfndaaGreatDoor
namespace Go.Par
open Go.Ab
theorem aH {a:Bs} {w:List Bs} (h:aD (a :: w)):aD w:=(List.pairwise_cons.1 h).2
theorem aQ {a:Bs} {w:List Bs} (h:aD (a :: w)):∀ b∈w,lt a b=true:=(List.pairwise_cons.1 h).1
theorem dJ {a:Bs} {w:List Bs} (h:aD (a :: w)):a ∉ w:=fun hm=>l6 (aQ h a hm) rfl
theorem eQ:∀ {w:List Bs},aD w→w.Nodup
 | [],_=>.nil
 | a :: w,h=>List.nodup_cons.2 ⟨dJ h,eQ (aH h)⟩
theorem rO:∀ {w v:List Bs},aD w→aD v→(∀ p,p∈w↔p∈v)→w=v
 | [],[],_,_,_=>rfl
 | [],b :: v,_,_,h=>absurd ((h b).2 (by simp)) (by simp)
 | a :: w,[],_,_,h=>absurd ((h a).1 (by simp)) (by simp)
 | a :: w,b :: v,hw,hv,h=>by
   have hab:a=b:=by
    have h1:=(h a).1 (by simp);have h2:=(h b).2 (by simp);rcases List.mem_cons.1 h1 with h1|h1
    · exact h1
    · rcases List.mem_cons.1 h2 with h2|h2
      · exact h2.symm
      · have g1:=aQ hv a h1;have g2:=aQ hw b h2;rw [kQ _ _ g2] at g1;cases g1
   subst hab;congr 1
   refine rO (aH hw) (aH hv) fun p=>?_
   have:=h p
   simp only [List.mem_cons] at this;by_cases hp:p=a
   · subst hp;exact ⟨fun h=>absurd h (dJ hw),fun h=>absurd h (dJ hv)⟩
   · simpa [hp] using this
theorem sV {w:List Bs} (h:aD w) (p:Bs→Bool):aD (w.filter p):=List.Pairwise.filter p h
abbrev ay (t:List Ent):List Bs:=t.map (·.path)
theorem aJ (e:Ent) (t:List Ent) (p:Bs):ah (e :: t) p=if e.path=p then some e else ah t p:=by
 unfold ah;rw [List.find?_cons];by_cases h:e.path=p <;> simp [h]
theorem bW {t:List Ent} {p:Bs}:ah t p=none↔p ∉ ay t:=by
 unfold ah ay;rw [List.find?_eq_none];constructor
 · intro h hm;obtain ⟨e,he,rfl⟩:=List.mem_map.1 hm;exact absurd (h e he) (by simp)
 · intro h e he hp;exact h (List.mem_map.2 ⟨e,he,by simpa using hp⟩)
theorem ui {t:List Ent} {p:Bs} (h:p∈ay t):∃ e,ah t p=some e:=by
 cases he:ah t p with
 | some e=>exact ⟨e,rfl⟩
 | none=>exact absurd h (bW.1 he)
theorem iK:∀ {t:List Ent} {e:Ent},aD (ay t)→e∈t→ah t e.path=some e
 | x :: t,e,hs,he=>by
   rw [aJ];rcases List.mem_cons.1 he with rfl|he
   · rw [if_pos rfl]
   · have:x.path≠e.path:=l6 (aQ hs _ (List.mem_map.2 ⟨e,he,rfl⟩))
     rw [if_neg this];exact iK (aH hs) he
theorem vD:∀ {t u:List Ent},aD (ay t)→aD (ay u)→(∀ p,ah t p=ah u p)→t=u
 | [],[],_,_,_=>rfl
 | [],y :: s,_,_,h=>by have:=h y.path; rw [aJ,if_pos rfl] at this; cases this
 | x :: r,[],_,_,h=>by have:=h x.path; rw [aJ,if_pos rfl] at this; cases this
 | x :: r,y :: s,ht,hu,h=>by
   have hxy:x.path=y.path:=by
    have h1:=h x.path;have h2:=h y.path;rw [aJ,if_pos rfl] at h1;rw [aJ y,if_pos rfl] at h2;by_cases hp:x.path=y.path
    · exact hp
    · rw [aJ,if_neg (Ne.symm hp)] at h1;rw [aJ,if_neg hp] at h2;have g1:=ci h1.symm;have g2:=ci h2;have k1:=aQ hu x.path (List.mem_map.2 ⟨x,g1.1,rfl⟩);have k2:=aQ ht y.path (List.mem_map.2 ⟨y,g2.1,rfl⟩);rw [kQ _ _ k1] at k2;cases k2
   have hxe:x=y:=by
    have h1:=h x.path;rw [aJ,if_pos rfl,aJ,if_pos hxy.symm] at h1;exact zAZ h1
   subst hxe;congr 1
   refine vD (aH ht) (aH hu) fun p=>?_;by_cases hp:x.path=p
   · subst hp;rw [bW.2 (dJ ht),bW.2 (dJ hu)]
   · have:=h p
     rwa [aJ,if_neg hp,aJ,if_neg hp] at this
theorem eH {t:List Ent} {p:Bs}:bc t p=0↔ag p=[47]∨∃ e,ah t (ag p)=some e∧e.dir=true:=by
 unfold bc;by_cases h:ag p=[47]
 · simp [h]
 · simp only [h,if_false,false_or];cases he:ah t (ag p) with
   | none=>simp
   | some e=>cases hd:e.dir <;> simp [hd]
theorem xO {t:List Ent} (h:aD (ay t)) {i:Nat} {e:Ent} (hi:t[i]?=some e):kT t e i=true:=by
 unfold kT
 match i,hi with
 | 0,_=>rfl
 | j+1,hi=>
   simp only;cases hj:t[j]? with
   | none=>rfl
   | some e'=>
     simp only;exact oN (i:=j) (j:=j+1) h (by simp [hj]) (by simp [hi]) (by omega)
theorem mN {t:List Ent}:ai t=true↔t.length≤16∧aD (ay t)∧∀ e∈t,eu e=true∧bc t e.path=0:=by
 constructor
 · intro h;refine ⟨aI h,?_,?_⟩
   · rw [← j6] at h;unfold lI at h;rw [zAE,bU] at h;exact rD fun i hi=>Fx (h.2 i hi)
   · rw [← j6] at h;unfold lI at h;rw [zAE,bU] at h;intro e he;obtain ⟨i,hi⟩:=List.mem_iff_getElem?.1 he
     have:=h.2 i (List.getElem?_eq_some_iff.1 hi).1
     simp only [okI,hi,zAE,decide_eq_true_eq] at this;exact ⟨this.1.1,this.2⟩
 · rintro ⟨h1,h2,h3⟩;refine nN h1 fun i hi=>?_;have he:t[i]?=some t[i]:=zAB hi;have h4:=h3 t[i] (zAc hi);simp only [okI,he,zAE,decide_eq_true_eq];exact ⟨⟨h4.1,xO h2 he⟩,h4.2⟩
theorem bh {t:List Ent} (h:ai t=true):aD (ay t):=(mN.1 h).2.1
theorem pE {t:List Ent} (h:ai t=true):ah t [47]=none:=by
 rw [bW];intro hm;obtain ⟨e,he,hp⟩:=List.mem_map.1 hm
 have:=iH h e he
 simp only [eu,zAE] at this;exact aW this.1.1 hp
theorem cp {t:List Ent} {p:Bs} (hp:p≠[47]):az t p=ah t p:=if_neg hp
theorem pF (t:List Ent):az t [47]=some AX:=if_pos rfl
theorem vE {t:List Ent} (hs:aD (ay t)) (e:Ent) (p:Bs):ah (dD t e) p=if e.path=p then some e else ah t p:=by
 induction t with
 | nil=>rw [dD,aJ]
 | cons x r ih=>
   have ih:=ih (aH hs);unfold dD;split
   · rename_i hl;rw [aJ,ih,aJ];by_cases h1:x.path=p
     · have:e.path≠p:=by rw [← h1]; exact fun h=>l6 hl h.symm
       rw [if_pos h1,if_neg this,if_pos h1]
     · rw [if_neg h1,if_neg h1]
   · split
     · rename_i hp;rw [aJ,aJ];by_cases h1:e.path=p
       · rw [if_pos h1,if_pos h1]
       · rw [if_neg h1,if_neg h1,if_neg (by rw [hp]; exact h1)]
     · rw [aJ]
theorem rP {t:List Ent} {e:Ent} {p:Bs}:p∈ay (dD t e)↔p=e.path∨p∈ay t:=by
 induction t with
 | nil=>simp [dD,ay]
 | cons x r ih=>
   unfold dD;split
   · simp only [ay,List.map_cons,List.mem_cons] at ih ⊢;rw [ih];constructor
     · rintro (h|h|h) <;> simp [h]
     · rintro (h|h|h) <;> simp [h]
   · split
     · rename_i hp;simp only [ay,List.map_cons,List.mem_cons,hp];constructor
       · rintro (h|h) <;> simp [h]
       · rintro (h|h|h) <;> simp [h]
     · simp [ay]
theorem i8 {t:List Ent} (hs:aD (ay t)) (e:Ent):aD (ay (dD t e)):=by
 induction t with
 | nil=>simp [dD,ay,aD]
 | cons x r ih=>
   have ih:=ih (aH hs);unfold dD;split
   · rename_i hl;refine List.pairwise_cons.2 ⟨fun b hb=>?_,ih⟩;rcases rP.1 hb with rfl|hb
     · exact hl
     · exact aQ hs b hb
   · rename_i hl;split
     · rename_i hp;refine List.pairwise_cons.2 ⟨fun b hb=>?_,aH hs⟩;show lt e.path b=true
       rw [← hp];exact aQ hs b hb
     · rename_i hp;have hlt:lt e.path x.path=true:=by
        rcases eZ e.path x.path with h|h|h
        · exact h
        · exact absurd h.symm hp
        · exact absurd h hl
       refine List.pairwise_cons.2 ⟨fun b hb=>?_,hs⟩;rcases List.mem_cons.1 hb with rfl|hb
       · exact hlt
       · exact lt_trans _ _ _ hlt (aQ hs b hb)
theorem gy:∀ {es t:List Ent},aD (ay t)→aD (ay (b9 t es))
 | [],t,h=>h
 | e :: es,t,h=>gy (es:=es) (i8 h e)
theorem nQ:∀ {es t:List Ent} {p:Bs},p∈ay (b9 t es)↔p∈ay es∨p∈ay t
 | [],t,p=>by simp [b9,ay]
 | e :: es,t,p=>by
   have:=nQ (es:=es) (t:=dD t e) (p:=p)
   rw [rP] at this;show p∈ay (b9 (dD t e) es)↔_
   rw [this];simp only [ay,List.map_cons,List.mem_cons];constructor
   · rintro (h|h|h) <;> simp [h]
   · rintro ((h|h)|h) <;> simp [h]
def aY (a b:List Ent):List Bs:=if ai a && ai b then (ay (b9 a b)).filter fun p=>decide (az a p≠az b p) else []
theorem gh {a b:List Ent} (ha:ai a=true) (hb:ai b=true) {p:Bs}:p∈aY a b↔ah a p≠ah b p:=by
 rw [aY,ha,hb];simp only [zBO,if_true,List.mem_filter,decide_eq_true_eq,nQ];constructor
 · rintro ⟨h1,h2⟩;have hp:p≠[47]:=by
    rintro rfl;exact h2 (by rw [pF,pF])
   rwa [cp hp,cp hp] at h2
 · intro h;have hp:p≠[47]:=by
    rintro rfl;exact h (by rw [pE ha,pE hb])
   refine ⟨?_,by rwa [cp hp,cp hp]⟩;by_cases h1:p∈ay b
   · exact .inl h1
   · by_cases h2:p∈ay a
     · exact .inr h2
     · rw [← bW] at h1 h2;exact absurd (h2.trans h1.symm) h
theorem mb {a b:List Ent}:aD (aY a b):=by
 unfold aY;split
 · rename_i h;rw [zAE] at h;exact sV (gy (bh h.1)) _
 · exact .nil
def dj:List Ent→List Ent→List Bs
 | [],b=>ay b
 | x :: r,[]=>ay (x :: r)
 | x :: r,y :: s=>if lt x.path y.path then x.path :: dj r (y :: s) else if lt y.path x.path then y.path :: dj (x :: r) s else if x=y then dj r s else x.path :: dj r s
termination_by a b=>a.length+b.length
theorem jI:∀ (a b:List Ent),aD (ay a)→aD (ay b)→∀ p,p∈dj a b↔ah a p≠ah b p
 | [],b,_,_,p=>by
   rw [dj];constructor
   · intro h;obtain ⟨e,he⟩:=ui h;rw [he]; simp [ah]
   · intro h;by_cases hm:p∈ay b
     · exact hm
     · rw [bW.2 hm] at h; exact absurd rfl h
 | x :: r,[],_,_,p=>by
   rw [dj];constructor
   · intro h;obtain ⟨e,he⟩:=ui h;rw [he]; simp [ah]
   · intro h;by_cases hm:p∈ay (x :: r)
     · exact hm
     · rw [bW.2 hm] at h; exact absurd rfl h
 | x :: r,y :: s,ha,hb,p=>by
   rw [dj];split
   · rename_i hl;have ih:=jI r (y :: s) (aH ha) hb p;rw [List.mem_cons,ih,aJ x r];by_cases hp:p=x.path
     · subst hp;have hn:ah (y :: s) x.path=none:=by
        rw [bW];intro hm;rcases List.mem_cons.1 hm with hm|hm
        · exact l6 hl hm
        · exact l6 (lt_trans _ _ _ hl (aQ hb _ hm)) rfl
       simp [hn]
     · simp [hp,Ne.symm hp]
   · split
     · rename_i hl' hl;have ih:=jI (x :: r) s ha (aH hb) p;rw [List.mem_cons,ih,aJ y s];by_cases hp:p=y.path
       · subst hp;have hn:ah (x :: r) y.path=none:=by
          rw [bW];intro hm;rcases List.mem_cons.1 hm with hm|hm
          · exact l6 hl hm
          · exact l6 (lt_trans _ _ _ hl (aQ ha _ hm)) rfl
         simp [hn]
       · simp [hp,Ne.symm hp]
     · rename_i h1 h2;have hxy:x.path=y.path:=by
        rcases eZ x.path y.path with h|h|h
        · exact absurd h h1
        · exact h
        · exact absurd h h2
       have ih:=jI r s (aH ha) (aH hb) p;have e1:ah r x.path=none:=bW.2 (dJ ha);have e2:ah s y.path=none:=bW.2 (dJ hb);rw [aJ,aJ];split
       · rename_i he;subst he;rw [ih];by_cases hp:x.path=p
         · subst hp;simp [e1,e2]
         · simp [hp]
       · rename_i he;rw [List.mem_cons,ih];by_cases hp:p=x.path
         · subst hp;simp [hxy,he]
         · simp [hp,Ne.symm hp,← hxy]
termination_by a b=>a.length+b.length
theorem fU:∀ (a b:List Ent),aD (ay a)→aD (ay b)→aD (dj a b)
 | [],b,_,hb=>by rw [dj]; exact hb
 | x :: r,[],ha,_=>by rw [dj]; exact ha
 | x :: r,y :: s,ha,hb=>by
   have key:∀ {a b:List Ent} {q:Bs},aD (ay a)→aD (ay b)→(∀ p∈ay a,lt q p=true)→(∀ p∈ay b,lt q p=true)→aD (dj a b)→aD (q :: dj a b):=by
    intro a b q h1 h2 h3 h4 h5;refine List.pairwise_cons.2 ⟨fun p hp=>?_,h5⟩
    have:=(jI a b h1 h2 p).1 hp
    by_cases hm:p∈ay a
    · exact h3 p hm
    · by_cases hm2:p∈ay b
      · exact h4 p hm2
      · rw [bW.2 hm,bW.2 hm2] at this;exact absurd rfl this
   rw [dj];split
   · rename_i hl;refine key (aH ha) hb (aQ ha) (fun p hp=>?_) (fU r (y :: s) (aH ha) hb);rcases List.mem_cons.1 hp with rfl|hp
     · exact hl
     · exact lt_trans _ _ _ hl (aQ hb _ hp)
   · split
     · rename_i hl' hl;refine key ha (aH hb) (fun p hp=>?_) (aQ hb) (fU (x :: r) s ha (aH hb));rcases List.mem_cons.1 hp with rfl|hp
       · exact hl
       · exact lt_trans _ _ _ hl (aQ ha _ hp)
     · rename_i h1 h2;have hxy:x.path=y.path:=by
        rcases eZ x.path y.path with h|h|h
        · exact absurd h h1
        · exact h
        · exact absurd h h2
       split
       · exact fU r s (aH ha) (aH hb)
       · exact key (aH ha) (aH hb) (aQ ha) (fun p hp=>by rw [hxy]; exact aQ hb p hp) (fU r s (aH ha) (aH hb))
termination_by a b=>a.length+b.length
theorem DT {a b:List Ent} (ha:ai a=true) (hb:ai b=true):dj a b=aY a b:=
 rO (fU a b (bh ha) (bh hb)) mb fun p=>by rw [jI a b (bh ha) (bh hb),gh ha hb]
theorem uj:∀ {w v:List Bs},w.Nodup→(∀ p∈w,p∈v)→w.length≤v.length
 | [],v,_,_=>zAG _
 | a :: w,v,hn,h=>by
   obtain ⟨h1,h2⟩:=List.nodup_cons.1 hn;have ha:=h a (by simp);have ih:=uj (w:=w) (v:=v.erase a) h2 fun p hp=>by
    have hne:p≠a:=by rintro rfl; exact h1 hp
    exact (List.mem_erase_of_ne hne).2 (h p (by simp [hp]))
   have hl:=List.length_erase_of_mem ha;have hpos:0 < v.length:=List.length_pos_of_mem ha;simp only [List.length_cons];omega
end Go.Par
