/- Texts of this claim, set close: lemmas and contracts. -/
import Derived.Test.YtagejnomlkfndaaGreatDoorYY10
import Derived.Test.YtagejnomlkfndaaGreatDoorYY6
import Derived.Test.YtagejnomlkfndaaGreatDoorYY9
set_option linter.unusedSimpArgs false
set_option linter.unusedVariables false
set_option maxHeartbeats 1000000
set_option maxRecDepth 10000
namespace Go.Proofs.YtagejnomlkfndaaGreatDoor
open Go Go.RowKit Go.Ab Go.Par
variable {m:Int}
set_option maxHeartbeats 1000000 in
theorem ic (l:List Mrk) (hl:l.length≤1073741824) (hb:∀ e∈l,e.path.length≤1073741823∧e.data.length≤1073741823):Con (E m) 228 0 [.sl (l.map Mrk.c)] [] (.b (aR l)) []:=by
 refine G0 Tryz.func228 ?_;repeat' first|refine Rx ⟨?_⟩|refine Rd (fun h=>⟨?_⟩) fun h=>⟨?_⟩|fail
 refine Cd.loop2 (fun mq tm S nx=>∃ (i:Nat),mq=(l.length - i)∧tm=[(0,.sl (l.map Mrk.c)),(3,.k .i64 i)]∧S=[]∧nx=0∧(i≤l.length)∧(∀ k,k < i→r9 l k=true)) ?_ ?_
 · refine la [0,3] ?_
   conv=>whnf
   refine ⟨rfl,rfl,_,0,rfl,rfl,rfl,rfl,zAG _,fun k h=>absurd h (Nat.not_lt_zero _)⟩
 · rintro mq tm S nx ⟨i,hn,rfl,rfl,rfl,hi,ha⟩;by_cases hlt:i < l.length
   · have hq:=hb l[i] (zAX hlt);have h1:=cY (m:=m) l[i].path (by omega);have h2:=qM (m:=m) l[i].data (by omega);have h3:=E3 (m:=m) (l.take i) l[i].path (by rw [zAd]; omega) (by omega);have h4:=rt (m:=m) (l.take i) l[i].path (by rw [zAd]; omega) (by omega) (fun x hx=>(hb x (zAz hx)).1);rw [zBW] at h3 h4;repeat' first|refine Ra ⟨?_⟩|refine R0 h1 ⟨?_⟩|refine R0 h2 ⟨?_⟩|refine R0 h3 ⟨?_⟩|refine R0 h4 ⟨?_⟩|(refine ⟨i - 1,_,by omega,fk (by omega),rfl,?_⟩ <;> conv=>whnf)|refine Rd (fun h=>⟨?_⟩) fun h=>⟨?_⟩|refine Rb ⟨?_⟩|fail
     all_goals first
      | (have hf:r9 l i=false:=by
           clear h1 h2 h3 h4 hb ha hn;rw [DV hlt];try have hi0:0 < i:=by omega
           try have hi0:i=0:=by omega
           first|(rw [Ck ‹_›]; simp; done)|(unfold cX; simp_all [lt]; done)|(unfold cX; simp_all [lt]; omega)
         have hg:=vf hlt hf;rw [hg];refine ak.here (fa ?_)
         conv=>whnf
         exact ⟨rfl,rfl,rfl,rfl⟩)
      | (have hf:r9 l i=true:=by
           clear h1 h2 h3 h4 hb ha hn;rw [DV hlt];unfold cX;try have hi0:0 < i:=by omega
           try have hi0:i=0:=by omega
           first|(simp_all [lt]; done)|(simp_all [lt]; omega)
         refine .here ⟨mq - 1,by omega,?_⟩;refine la [0,3] ?_
         conv=>whnf
         refine ⟨rfl,rfl,i+1,(by omega),rfl,rfl,rfl,by omega,Cc ha hf⟩)
   · repeat' first|refine Rx ⟨?_⟩|refine Rd (fun h=>⟨?_⟩) fun h=>⟨?_⟩|fail
     have hi2:i=l.length:=by omega
     subst hi2;by_cases h32:l.length≤32
     · have hf:aR l=true:=x8 h32 ha;rw [hf];exact Rf
     · have hf:aR l=false:=by simp [aR,h32]
       rw [hf];exact Rf
theorem ry (es:List Mrk) (hl:es.length≤1048576):Con (E m) 49 0 [.sl (es.map Mrk.c)] [] (.own 0) [(0,.own 166 (es.map Mrk.c))]:=by
 refine G0 Tryz.func49 ?_;repeat' first|refine Ra ⟨?_⟩|(refine ⟨es.length,by simp only [zAA],by simp only [zAA],(by unfold eN; omega),zAC rfl,?_⟩ <;> conv=>whnf)|refine Rd (fun h=>⟨?_⟩) fun h=>⟨?_⟩|refine Rb ⟨?_⟩|fail
 refine Cd.loop2 (fun mq tm S nx=>∃ (i:Nat) (xs:List (List D)),mq=(es.length - i)∧tm=[(0,.sl (es.map Mrk.c)),(3,.own 0),(4,.k .i64 i)]∧S=[(0,.own 166 xs)]∧nx=1∧(i≤es.length)∧(xs=(es.take i).map Mrk.c++List.replicate (es.length - i) [.s [],.k .i64 0,.s []])) ?_ ?_
 · refine la [0,3,4] ?_
   conv=>whnf
   refine ⟨rfl,rfl,_,0,_,rfl,rfl,rfl,rfl,zAG _,rfl⟩
 · rintro mq tm S nx ⟨i,xs,hn,rfl,rfl,rfl,hi,hxs⟩;have hxl:xs.length=es.length:=by rw [hxs]; simp; omega
   by_cases hlt:i < es.length
   · have hg:xs[i]?=some [.s [],.k .i64 0,.s []]:=by rw [hxs]; exact kX hlt
     repeat' first|refine Ra ⟨?_⟩|refine R0 (Co es[i]) ⟨?_⟩|(refine ⟨_,hg,zAC rfl,?_⟩ <;> conv=>whnf)|refine Rd (fun h=>⟨?_⟩) fun h=>⟨?_⟩|refine Rb ⟨?_⟩|fail
     refine .here ⟨mq - 1,by omega,?_⟩;refine la [0,3,4] ?_
     conv=>whnf
     refine ⟨rfl,rfl,i+1,_,(by omega),rfl,rfl,rfl,by omega,(by rw [hxs]; exact jS hlt)⟩
   · have hx:xs=es.map Mrk.c:=by
       rw [hxs,zAc (by omega)]
       have:es.length - i=0:=by omega
       simp [this]
     subst hx;repeat' first|refine Rx ⟨?_⟩|refine Rd (fun h=>⟨?_⟩) fun h=>⟨?_⟩|fail
     exact Rf
theorem CA (a b:Mrk):Con (E m) 132 0 [.agg a.c,.agg b.c] [] (.b (eqM a b)) []:=by
 refine G0 Tryz.func132 ?_;repeat' first|refine Rx ⟨?_⟩|refine Rd (fun h=>⟨?_⟩) fun h=>⟨?_⟩|fail
 all_goals
  refine Rg ⟨?_⟩
  first|rfl|(simp_all [eqM]; done)|(simp [eqM] <;> (repeat' split) <;> omega)|(simp only [eqM]; repeat' split) <;> first|omega|(simp_all; done)|(simp_all; omega)|(rw [zAK]; simp [*,eqM] <;> omega)
theorem rz (t:List Mrk) (hl:t.length≤1048576):Con (E m) 56 0 [.sl (t.map Mrk.c),.sl (t.map Mrk.c)] [] (.b true) []:=by
 refine G0 Tryz.func56 ?_;repeat' first|refine Rx ⟨?_⟩|refine Rd (fun h=>⟨?_⟩) fun h=>⟨?_⟩|fail
 refine Cd.loop2 (fun mq tm S nx=>∃ (i:Nat),mq=(t.length - i)∧tm=[(0,.sl (t.map Mrk.c)),(1,.sl (t.map Mrk.c)),(5,.k .i64 i)]∧S=[]∧nx=0∧(i≤t.length)) ?_ ?_
 · refine la [0,1,5] ?_
   conv=>whnf
   refine ⟨rfl,rfl,_,0,rfl,rfl,rfl,rfl,zAG _⟩
 · rintro mq tm S nx ⟨i,hn,rfl,rfl,rfl,hi⟩;rcases av t i hi with ⟨rfl,hd⟩|⟨x,r,hx,hd,hr,hlt⟩
   · repeat' first|refine Rx ⟨?_⟩|refine Rd (fun h=>⟨?_⟩) fun h=>⟨?_⟩|fail
     exact Rf
   · have he:=CA (m:=m) x x;rw [GI] at he;repeat' first|refine Ra ⟨?_⟩|refine R0 he ⟨?_⟩|refine Rd (fun h=>⟨?_⟩) fun h=>⟨?_⟩|refine Rb ⟨?_⟩|fail
     refine .here ⟨mq - 1,by omega,?_⟩;refine la [0,1,5] ?_
     conv=>whnf
     refine ⟨rfl,rfl,i+1,(by omega),rfl,rfl,rfl,by omega⟩
variable {m:Int}
theorem lf (t:List Mrk) (e:Mrk) (ht:t.length≤1073741824):Con (E m) 185 0 [.sl (t.map Mrk.c),.agg e.c] [] (.own 0) [(0,.own 166 ((dk t e).map Mrk.c))]:=by
 refine G0 Tryz.func185 ?_;repeat' first|refine Rx ⟨?_⟩|refine Rd (fun h=>⟨?_⟩) fun h=>⟨?_⟩|fail
 refine Cd.loop2 (fun mq tm S nx=>∃ (k:Nat) (xs:List (List D)),mq=(t.length - k)∧tm=[(0,.sl (t.map Mrk.c)),(3,.bp 0 0),(5,.own 1),(6,.k .i64 k)]∧S=[(0,.box 166 e.c),(1,.own 166 xs)]∧nx=2∧(k≤t.length)∧(xs=(t.take k).map Mrk.c)∧(dk t e=t.take k++dk (t.drop k) e)) ?_ ?_
 · refine la [0,3,5,6] ?_
   conv=>whnf
   refine ⟨rfl,rfl,_,0,[],rfl,rfl,rfl,rfl,zAG _,rfl,rfl⟩
 · rintro mq tm S nx ⟨k,xs,hn,rfl,rfl,rfl,hk,hx,ha⟩;have hxl:xs.length=k:=by rw [hx]; simp; omega
   rcases av t k hk with ⟨rfl,hd⟩|⟨x,r,hx',hd,hr,hlt⟩
   · have hf:(dk t e).map Mrk.c=(xs++[e.c])++(((t.map Mrk.c).take (t.map Mrk.c).length).drop t.length):=by
       rw [ha,hx,hd,zAP]; simp [dk,List.drop_of_length_le]
     rw [hf];repeat' first|refine Rx ⟨?_⟩|refine Rd (fun h=>⟨?_⟩) fun h=>⟨?_⟩|fail
     exact Rf
   · rw [hd] at ha;cases hl:lt x.path e.path with
     | true=>
       have hn:dk t e=t.take (k+1)++dk r e:=by rw [ha,dk,if_pos hl,dv hx']; simp
       rw [← hr] at hn;repeat' first|refine Rx ⟨?_⟩|refine Rd (fun h=>⟨?_⟩) fun h=>⟨?_⟩|fail
       refine .here ⟨mq - 1,by omega,?_⟩;refine la [0,3,5,6] ?_
       conv=>whnf
       refine ⟨rfl,rfl,k+1,_,(by omega),rfl,rfl,rfl,by omega,(by rw [hx]; exact nO hx'),hn⟩
     | false=>
       by_cases hp:x.path=e.path
       · have hf:(dk t e).map Mrk.c=(xs++[e.c])++(((t.map Mrk.c).take (t.map Mrk.c).length).drop (k+1)):=by
           rw [ha,hx,dk,hl,if_neg (by simp),if_pos hp,zAP,← zBX,hr]; simp
         rw [hf];repeat' first|refine Ra ⟨?_⟩|(refine ⟨k+1,rfl,?_⟩ <;> conv=>whnf)|refine Rd (fun h=>⟨?_⟩) fun h=>⟨?_⟩|refine Rb ⟨?_⟩|fail
         exact Rf
       · have hf:(dk t e).map Mrk.c=(xs++[e.c])++(((t.map Mrk.c).take (t.map Mrk.c).length).drop k):=by
           rw [ha,hx,dk,hl,if_neg (by simp),if_neg hp,zAP,← zBX,hd]; simp
         rw [hf];repeat' first|refine Rx ⟨?_⟩|refine Rd (fun h=>⟨?_⟩) fun h=>⟨?_⟩|fail
         exact Rf
theorem Ar:∀ (n:Nat) (l:List Mrk) (p:Bs),p.length≤n→ah p=true→l.length+n≤1000000→Con (E m) 184 0 [.sl (l.map Mrk.c),.s p] [] (.sl ((jg n l p).map Mrk.c)) []:=by
 intro n
 induction n with
 | zero=>intro l p hp hok _; have:=(aQ hok).1; omega
 | succ n ih=>
   intro l p hp hok hln;have c1:=nn (m:=m) p (by omega);by_cases hr:al p=[47]
   · have hx:jg (n+1) l p=l:=by simp [jg,hr]
     rw [hx];rw [hr] at c1;refine G0 Tryz.func184 ?_;repeat' first|refine Ra ⟨?_⟩|refine R0 c1 ⟨?_⟩|refine Rd (fun h=>⟨?_⟩) fun h=>⟨?_⟩|refine Rb ⟨?_⟩|fail
     exact Rf
   · have hup:=(iV hok).resolve_left hr;have hlt:=fo hok hr;have c2:=ko (m:=m) l (al p) (by omega);by_cases hk:cZ l (al p)=0
     · have hx:jg (n+1) l p=jg n (dk l ⟨al p,2,[]⟩) (al p):=by simp [jg,hr,hk]
       rw [hx];rw [hk] at c2;have c3:=lf (m:=m) l ⟨al p,2,[]⟩ (by omega);have hl3:=(iW l ⟨al p,2,[]⟩).2;have c4:=ih (dk l ⟨al p,2,[]⟩) (al p) (by omega) hup.1 (by omega);refine G0 Tryz.func184 ?_;repeat' first|refine Ra ⟨?_⟩|refine R0 c1 ⟨?_⟩|refine R0 c2 ⟨?_⟩|refine Rk [] 1 c3 ⟨?_⟩|refine R0 c4 ⟨?_⟩|refine Rd (fun h=>⟨?_⟩) fun h=>⟨?_⟩|refine Rb ⟨?_⟩|fail
       exact Rf
     · have hx:jg (n+1) l p=jg n l (al p):=by simp [jg,hr,hk]
       rw [hx];have c4:=ih l (al p) (by omega) hup.1 (by omega);refine G0 Tryz.func184 ?_;repeat' first|refine Ra ⟨?_⟩|refine R0 c1 ⟨?_⟩|refine R0 c2 ⟨?_⟩|refine R0 c4 ⟨?_⟩|refine Rd (fun h=>⟨?_⟩) fun h=>⟨?_⟩|refine Rb ⟨?_⟩|fail
       exact Rf
end Go.Proofs.YtagejnomlkfndaaGreatDoor
namespace Go.Par
open Go.Ab
end Go.Par
namespace Go.Proofs.YtagejnomlkfndaaGreatDoor
open Go Go.RowKit Go.Ab Go.Par
variable {m:Int}
theorem drew (l:Bs) (p n:Int) (hn:0 < n):∃ j:Nat,gv m l p n=(j:Int)∧(j:Int) < n:=by
 have h:=jU (m:=m) l p n;exact ⟨_,sB l p n,by have:=sB (m:=m) l p n; omega⟩
end Go.Proofs.YtagejnomlkfndaaGreatDoor
namespace Go.Par
open Go.Ab
theorem aP {a:Bs} {w:List Bs} (h:ax (a :: w)):ax w:=(List.pairwise_cons.1 h).2
theorem bg {a:Bs} {w:List Bs} (h:ax (a :: w)):∀ b∈w,lt a b=true:=(List.pairwise_cons.1 h).1
theorem eL {a:Bs} {w:List Bs} (h:ax (a :: w)):a ∉ w:=fun hm=>nQ (bg h a hm) rfl
theorem cA:∀ {w:List Bs},ax w→w.Nodup
 | [],_=>.nil
 | a :: w,h=>List.nodup_cons.2 ⟨eL h,cA (aP h)⟩
theorem t7:∀ {w v:List Bs},ax w→ax v→(∀ p,p∈w↔p∈v)→w=v
 | [],[],_,_,_=>rfl
 | [],b :: v,_,_,h=>absurd ((h b).2 (by simp)) (by simp)
 | a :: w,[],_,_,h=>absurd ((h a).1 (by simp)) (by simp)
 | a :: w,b :: v,hw,hv,h=>by
   have hab:a=b:=by
    have h1:=(h a).1 (by simp);have h2:=(h b).2 (by simp);rcases List.mem_cons.1 h1 with h1|h1
    · exact h1
    · rcases List.mem_cons.1 h2 with h2|h2
      · exact h2.symm
      · have g1:=bg hv a h1;have g2:=bg hw b h2;rw [mH _ _ g2] at g1;cases g1
   subst hab;congr 1
   refine t7 (aP hw) (aP hv) fun p=>?_
   have:=h p
   simp only [List.mem_cons] at this;by_cases hp:p=a
   · subst hp;exact ⟨fun h=>absurd h (eL hw),fun h=>absurd h (eL hv)⟩
   · simpa [hp] using this
theorem vl {w:List Bs} (h:ax w) (p:Bs→Bool):ax (w.filter p):=List.Pairwise.filter p h
abbrev aC (t:List Ent):List Bs:=t.map (·.path)
theorem aT (e:Ent) (t:List Ent) (p:Bs):ao (e :: t) p=if e.path=p then some e else ao t p:=by
 unfold ao;rw [List.find?_cons];by_cases h:e.path=p <;> simp [h]
theorem cw {t:List Ent} {p:Bs}:ao t p=none↔p ∉ aC t:=by
 unfold ao aC;rw [List.find?_eq_none];constructor
 · intro h hm;obtain ⟨e,he,rfl⟩:=List.mem_map.1 hm;exact absurd (h e he) (by simp)
 · intro h e he hp;exact h (List.mem_map.2 ⟨e,he,by simpa using hp⟩)
theorem wJ {t:List Ent} {p:Bs} (h:p∈aC t):∃ e,ao t p=some e:=by
 cases he:ao t p with
 | some e=>exact ⟨e,rfl⟩
 | none=>exact absurd h (cw.1 he)
theorem jV:∀ {t:List Ent} {e:Ent},ax (aC t)→e∈t→ao t e.path=some e
 | x :: t,e,hs,he=>by
   rw [aT];rcases List.mem_cons.1 he with rfl|he
   · rw [if_pos rfl]
   · have:x.path≠e.path:=nQ (bg hs _ (List.mem_map.2 ⟨e,he,rfl⟩))
     rw [if_neg this];exact jV (aP hs) he
theorem yl:∀ {t u:List Ent},ax (aC t)→ax (aC u)→(∀ p,ao t p=ao u p)→t=u
 | [],[],_,_,_=>rfl
 | [],y :: s,_,_,h=>by have:=h y.path; rw [aT,if_pos rfl] at this; cases this
 | x :: r,[],_,_,h=>by have:=h x.path; rw [aT,if_pos rfl] at this; cases this
 | x :: r,y :: s,ht,hu,h=>by
   have hxy:x.path=y.path:=by
    have h1:=h x.path;have h2:=h y.path;rw [aT,if_pos rfl] at h1;rw [aT y,if_pos rfl] at h2;by_cases hp:x.path=y.path
    · exact hp
    · rw [aT,if_neg (Ne.symm hp)] at h1;rw [aT,if_neg hp] at h2;have g1:=cW h1.symm;have g2:=cW h2;have k1:=bg hu x.path (List.mem_map.2 ⟨x,g1.1,rfl⟩);have k2:=bg ht y.path (List.mem_map.2 ⟨y,g2.1,rfl⟩);rw [mH _ _ k1] at k2;cases k2
   have hxe:x=y:=by
    have h1:=h x.path;rw [aT,if_pos rfl,aT,if_pos hxy.symm] at h1;exact zAb h1
   subst hxe;congr 1
   refine yl (aP ht) (aP hu) fun p=>?_;by_cases hp:x.path=p
   · subst hp;rw [cw.2 (eL ht),cw.2 (eL hu)]
   · have:=h p
     rwa [aT,if_neg hp,aT,if_neg hp] at this
theorem fU {t:List Ent} {p:Bs}:bC t p=0↔al p=[47]∨∃ e,ao t (al p)=some e∧e.dir=true:=by
 unfold bC;by_cases h:al p=[47]
 · simp [h]
 · simp only [h,if_false,false_or];cases he:ao t (al p) with
   | none=>simp
   | some e=>cases hd:e.dir <;> simp [hd]
theorem Aw {t:List Ent} (h:ax (aC t)) {i:Nat} {e:Ent} (hi:t[i]?=some e):mJ t e i=true:=by
 unfold mJ
 match i,hi with
 | 0,_=>rfl
 | j+1,hi=>
   simp only;cases hj:t[j]? with
   | none=>rfl
   | some e'=>
     simp only;exact qJ (i:=j) (j:=j+1) h (by simp [hj]) (by simp [hi]) (by omega)
theorem oH {t:List Ent}:aq t=true↔t.length≤16∧ax (aC t)∧∀ e∈t,fy e=true∧bC t e.path=0:=by
 constructor
 · intro h;refine ⟨aN h,?_,?_⟩
   · rw [← lS] at h;unfold nj at h;rw [zAE,cq] at h;exact tK fun i hi=>Iw (h.2 i hi)
   · rw [← lS] at h;unfold nj at h;rw [zAE,cq] at h;intro e he;obtain ⟨i,hi⟩:=List.mem_iff_getElem?.1 he
     have:=h.2 i (List.getElem?_eq_some_iff.1 hi).1
     simp only [okI,hi,zAE,decide_eq_true_eq] at this;exact ⟨this.1.1,this.2⟩
 · rintro ⟨h1,h2,h3⟩;refine pM h1 fun i hi=>?_;have he:t[i]?=some t[i]:=zAB hi;have h4:=h3 t[i] (zAX hi);simp only [okI,he,zAE,decide_eq_true_eq];exact ⟨⟨h4.1,Aw h2 he⟩,h4.2⟩
theorem bE {t:List Ent} (h:aq t=true):ax (aC t):=(oH.1 h).2.1
theorem rA {t:List Ent} (h:aq t=true):ao t [47]=none:=by
 rw [cw];intro hm;obtain ⟨e,he,hp⟩:=List.mem_map.1 hm
 have:=gE h e he
 simp only [fy,zAE] at this;exact bw this.1.1 hp
theorem df {t:List Ent} {p:Bs} (hp:p≠[47]):aA t p=ao t p:=if_neg hp
theorem rB (t:List Ent):aA t [47]=some Af:=if_pos rfl
theorem ym {t:List Ent} (hs:ax (aC t)) (e:Ent) (p:Bs):ao (ea t e) p=if e.path=p then some e else ao t p:=by
 induction t with
 | nil=>rw [ea,aT]
 | cons x r ih=>
   have ih:=ih (aP hs);unfold ea;split
   · rename_i hl;rw [aT,ih,aT];by_cases h1:x.path=p
     · have:e.path≠p:=by rw [← h1]; exact fun h=>nQ hl h.symm
       rw [if_pos h1,if_neg this,if_pos h1]
     · rw [if_neg h1,if_neg h1]
   · split
     · rename_i hp;rw [aT,aT];by_cases h1:e.path=p
       · rw [if_pos h1,if_pos h1]
       · rw [if_neg h1,if_neg h1,if_neg (by rw [hp]; exact h1)]
     · rw [aT]
theorem t8 {t:List Ent} {e:Ent} {p:Bs}:p∈aC (ea t e)↔p=e.path∨p∈aC t:=by
 induction t with
 | nil=>simp [ea,aC]
 | cons x r ih=>
   unfold ea;split
   · simp only [aC,List.map_cons,List.mem_cons] at ih ⊢;rw [ih];constructor
     · rintro (h|h|h) <;> simp [h]
     · rintro (h|h|h) <;> simp [h]
   · split
     · rename_i hp;simp only [aC,List.map_cons,List.mem_cons,hp];constructor
       · rintro (h|h) <;> simp [h]
       · rintro (h|h|h) <;> simp [h]
     · simp [aC]
theorem kq {t:List Ent} (hs:ax (aC t)) (e:Ent):ax (aC (ea t e)):=by
 induction t with
 | nil=>simp [ea,aC,ax]
 | cons x r ih=>
   have ih:=ih (aP hs);unfold ea;split
   · rename_i hl;refine List.pairwise_cons.2 ⟨fun b hb=>?_,ih⟩;rcases t8.1 hb with rfl|hb
     · exact hl
     · exact bg hs b hb
   · rename_i hl;split
     · rename_i hp;refine List.pairwise_cons.2 ⟨fun b hb=>?_,aP hs⟩;show lt e.path b=true
       rw [← hp];exact bg hs b hb
     · rename_i hp;have hlt:lt e.path x.path=true:=by
        rcases gp e.path x.path with h|h|h
        · exact h
        · exact absurd h.symm hp
        · exact absurd h hl
       refine List.pairwise_cons.2 ⟨fun b hb=>?_,hs⟩;rcases List.mem_cons.1 hb with rfl|hb
       · exact hlt
       · exact lt_trans _ _ _ hlt (bg hs b hb)
theorem iN:∀ {es t:List Ent},ax (aC t)→ax (aC (cF t es))
 | [],t,h=>h
 | e :: es,t,h=>iN (es:=es) (kq h e)
theorem pQ:∀ {es t:List Ent} {p:Bs},p∈aC (cF t es)↔p∈aC es∨p∈aC t
 | [],t,p=>by simp [cF,aC]
 | e :: es,t,p=>by
   have:=pQ (es:=es) (t:=ea t e) (p:=p)
   rw [t8] at this;show p∈aC (cF (ea t e) es)↔_
   rw [this];simp only [aC,List.map_cons,List.mem_cons];constructor
   · rintro (h|h|h) <;> simp [h]
   · rintro ((h|h)|h) <;> simp [h]
def bo (a b:List Ent):List Bs:=if aq a && aq b then (aC (cF a b)).filter fun p=>decide (aA a p≠aA b p) else []
theorem gI {a b:List Ent} (ha:aq a=true) (hb:aq b=true) {p:Bs}:p∈bo a b↔ao a p≠ao b p:=by
 rw [bo,ha,hb];simp only [zBN,if_true,List.mem_filter,decide_eq_true_eq,pQ];constructor
 · rintro ⟨h1,h2⟩;have hp:p≠[47]:=by
    rintro rfl;exact h2 (by rw [rB,rB])
   rwa [df hp,df hp] at h2
 · intro h;have hp:p≠[47]:=by
    rintro rfl;exact h (by rw [rA ha,rA hb])
   refine ⟨?_,by rwa [df hp,df hp]⟩;by_cases h1:p∈aC b
   · exact .inl h1
   · by_cases h2:p∈aC a
     · exact .inr h2
     · rw [← cw] at h1 h2;exact absurd (h2.trans h1.symm) h
theorem nW {a b:List Ent}:ax (bo a b):=by
 unfold bo;split
 · rename_i h;rw [zAE] at h;exact vl (iN (bE h.1)) _
 · exact .nil
def ef:List Ent→List Ent→List Bs
 | [],b=>aC b
 | x :: r,[]=>aC (x :: r)
 | x :: r,y :: s=>if lt x.path y.path then x.path :: ef r (y :: s) else if lt y.path x.path then y.path :: ef (x :: r) s else if x=y then ef r s else x.path :: ef r s
termination_by a b=>a.length+b.length
theorem lg:∀ (a b:List Ent),ax (aC a)→ax (aC b)→∀ p,p∈ef a b↔ao a p≠ao b p
 | [],b,_,_,p=>by
   rw [ef];constructor
   · intro h;obtain ⟨e,he⟩:=wJ h;rw [he]; simp [ao]
   · intro h;by_cases hm:p∈aC b
     · exact hm
     · rw [cw.2 hm] at h; exact absurd rfl h
 | x :: r,[],_,_,p=>by
   rw [ef];constructor
   · intro h;obtain ⟨e,he⟩:=wJ h;rw [he]; simp [ao]
   · intro h;by_cases hm:p∈aC (x :: r)
     · exact hm
     · rw [cw.2 hm] at h; exact absurd rfl h
 | x :: r,y :: s,ha,hb,p=>by
   rw [ef];split
   · rename_i hl;have ih:=lg r (y :: s) (aP ha) hb p;rw [List.mem_cons,ih,aT x r];by_cases hp:p=x.path
     · subst hp;have hn:ao (y :: s) x.path=none:=by
        rw [cw];intro hm;rcases List.mem_cons.1 hm with hm|hm
        · exact nQ hl hm
        · exact nQ (lt_trans _ _ _ hl (bg hb _ hm)) rfl
       simp [hn]
     · simp [hp,Ne.symm hp]
   · split
     · rename_i hl' hl;have ih:=lg (x :: r) s ha (aP hb) p;rw [List.mem_cons,ih,aT y s];by_cases hp:p=y.path
       · subst hp;have hn:ao (x :: r) y.path=none:=by
          rw [cw];intro hm;rcases List.mem_cons.1 hm with hm|hm
          · exact nQ hl hm
          · exact nQ (lt_trans _ _ _ hl (bg ha _ hm)) rfl
         simp [hn]
       · simp [hp,Ne.symm hp]
     · rename_i h1 h2;have hxy:x.path=y.path:=by
        rcases gp x.path y.path with h|h|h
        · exact absurd h h1
        · exact h
        · exact absurd h h2
       have ih:=lg r s (aP ha) (aP hb) p;have e1:ao r x.path=none:=cw.2 (eL ha);have e2:ao s y.path=none:=cw.2 (eL hb);rw [aT,aT];split
       · rename_i he;subst he;rw [ih];by_cases hp:x.path=p
         · subst hp;simp [e1,e2]
         · simp [hp]
       · rename_i he;rw [List.mem_cons,ih];by_cases hp:p=x.path
         · subst hp;simp [hxy,he]
         · simp [hp,Ne.symm hp,← hxy]
termination_by a b=>a.length+b.length
theorem ig:∀ (a b:List Ent),ax (aC a)→ax (aC b)→ax (ef a b)
 | [],b,_,hb=>by rw [ef]; exact hb
 | x :: r,[],ha,_=>by rw [ef]; exact ha
 | x :: r,y :: s,ha,hb=>by
   have key:∀ {a b:List Ent} {q:Bs},ax (aC a)→ax (aC b)→(∀ p∈aC a,lt q p=true)→(∀ p∈aC b,lt q p=true)→ax (ef a b)→ax (q :: ef a b):=by
    intro a b q h1 h2 h3 h4 h5;refine List.pairwise_cons.2 ⟨fun p hp=>?_,h5⟩
    have:=(lg a b h1 h2 p).1 hp
    by_cases hm:p∈aC a
    · exact h3 p hm
    · by_cases hm2:p∈aC b
      · exact h4 p hm2
      · rw [cw.2 hm,cw.2 hm2] at this;exact absurd rfl this
   rw [ef];split
   · rename_i hl;refine key (aP ha) hb (bg ha) (fun p hp=>?_) (ig r (y :: s) (aP ha) hb);rcases List.mem_cons.1 hp with rfl|hp
     · exact hl
     · exact lt_trans _ _ _ hl (bg hb _ hp)
   · split
     · rename_i hl' hl;refine key ha (aP hb) (fun p hp=>?_) (bg hb) (ig (x :: r) s ha (aP hb));rcases List.mem_cons.1 hp with rfl|hp
       · exact hl
       · exact lt_trans _ _ _ hl (bg ha _ hp)
     · rename_i h1 h2;have hxy:x.path=y.path:=by
        rcases gp x.path y.path with h|h|h
        · exact absurd h h1
        · exact h
        · exact absurd h h2
       split
       · exact ig r s (aP ha) (aP hb)
       · exact key (aP ha) (aP hb) (bg ha) (fun p hp=>by rw [hxy]; exact bg hb p hp) (ig r s (aP ha) (aP hb))
termination_by a b=>a.length+b.length
theorem GW {a b:List Ent} (ha:aq a=true) (hb:aq b=true):ef a b=bo a b:=
 t7 (ig a b (bE ha) (bE hb)) nW fun p=>by rw [lg a b (bE ha) (bE hb),gI ha hb]
theorem wK:∀ {w v:List Bs},w.Nodup→(∀ p∈w,p∈v)→w.length≤v.length
 | [],v,_,_=>zAG _
 | a :: w,v,hn,h=>by
   obtain ⟨h1,h2⟩:=List.nodup_cons.1 hn;have ha:=h a (by simp);have ih:=wK (w:=w) (v:=v.erase a) h2 fun p hp=>by
    have hne:p≠a:=by rintro rfl; exact h1 hp
    exact (List.mem_erase_of_ne hne).2 (h p (by simp [hp]))
   have hl:=List.length_erase_of_mem ha;have hpos:0 < v.length:=List.length_pos_of_mem ha;simp only [List.length_cons];omega
end Go.Par
