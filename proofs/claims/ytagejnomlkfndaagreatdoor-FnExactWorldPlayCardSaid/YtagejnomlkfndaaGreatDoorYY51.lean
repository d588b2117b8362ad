/- Texts of this claim, set close: lemmas and contracts. -/
import Derived.Test.YtagejnomlkfndaaGreatDoorYY49
set_option linter.unusedSimpArgs false
set_option linter.unusedVariables false
set_option maxHeartbeats 1000000
set_option maxRecDepth 10000
namespace Go.Proofs.YtagejnomlkfndaaGreatDoor
open Go Go.RowKit Go.Ab Go.Par
variable {m:Int}
theorem sH (o:Ovr) (hb:eB o):Con (E m) 96 0 [.agg o.c] [] (.agg (wcO (aG o) 0 1 2 3)) (wlT (aG o) 0 1 2 3 [anH [],anH [],anH []]):=by
 have c1:=cH (lP (m:=m) o hb);refine cE ?_;refine ck tZ BV Tryz.func96 rfl rfl rfl (zAC rfl) ?_;repeat' first|refine Ra ⟨?_⟩|refine R0 c1 ⟨?_⟩|((refine ⟨rfl,?_⟩) <;> conv=>whnf)|((refine ⟨3,rfl,zAC rfl,zAC rfl,?_⟩) <;> conv=>whnf)|((refine ⟨3,rfl,rfl,zAC rfl,zAC rfl,?_⟩) <;> conv=>whnf)|refine Rd (fun h=>⟨?_⟩) fun h=>⟨?_⟩|refine Rb ⟨?_⟩|fail
 refine af.here (fw [.thawB 1 5 132,.thawB 1 8 70] ?_)
 conv=>whnf
 exact ⟨rfl,rfl,rfl,rfl⟩
variable {m:Int}
theorem il (w:Wld) (e:Evn) (r:List Evn):bZ w (e :: r)=((bZ (wDo w e).1 r).1,(wDo w e).2 :: (bZ (wDo w e).1 r).2):=rfl
theorem sI {o:Ovr} (hb:eB o):CN 0 (aG o):=
 ⟨hb,by simp [aG],by simp [aG],fun l hl=>by
  have:l=[]:=by simpa [aG] using hl
  subst this
  simp,by simp [aG],by simp [aG],by simp [aG],by simp [aG],⟨by simp [aG,op0],by simp [aG,op0],by simp [aG,op0]⟩⟩
variable {m:Int}
theorem oq (o:Ovr) (es:List Evn) (hb:eB o) (hok:cu o=false):Con (E m) 28 0 [.agg o.c,.sl (es.map Evn.c)] [] (.tup [.agg w0.c,.sl (bg [])]) []:=by
 have c1:=fF (m:=m) o hb;rw [hok] at c1;refine G0 Tryz.func28 ?_;repeat' first|refine Ra ⟨?_⟩|refine R0 c1 ⟨?_⟩|refine Rd (fun h=>⟨?_⟩) fun h=>⟨?_⟩|refine Rb ⟨?_⟩|fail
 exact Rz
theorem ng (o:Ovr) (es:List Evn) (hb:eB o) (hok:cu o=true) (hl:es.length≤1048576) (h80:¬ es.length≤80):Con (E m) 28 0 [.agg o.c,.sl (es.map Evn.c)] [] (.tup [.agg w0.c,.sl (bg [])]) []:=by
 have e1:(es.map Evn.c).length=es.length:=zAA ..;have c1:=fF (m:=m) o hb;rw [hok] at c1;refine G0 Tryz.func28 ?_;repeat' first|refine Ra ⟨?_⟩|refine R0 c1 ⟨?_⟩|refine Rd (fun h=>⟨?_⟩) fun h=>⟨?_⟩|refine Rb ⟨?_⟩|fail
 exact Rz
theorem sK (o:Ovr) (es:List Evn) (hb:eB o) (he:∀ e∈es,oh e) (hl:es.length≤1048576) :
   Con (E m) 28 0 [.agg o.c,.sl (es.map Evn.c)] [] (.tup [.agg (aR o es).1.c,.sl (bg (aR o es).2)]) []:=by
 have e1:(es.map Evn.c).length=es.length:=zAA ..;have c1:=fF (m:=m) o hb;have c2:=sH (m:=m) o hb;by_cases hok:cu o=true
 · rw [hok] at c1;by_cases h80:es.length≤80
   · have hx:aR o es=bZ (aG o) es:=by rw [aR,if_neg (by simp [hok]; omega)]
     rw [hx];refine G0 Tryz.func28 ?_;repeat' first|refine Ra ⟨?_⟩|refine R0 c1 ⟨?_⟩|refine Rk [] 4 c2 ⟨?_⟩|refine Rd (fun h=>⟨?_⟩) fun h=>⟨?_⟩|refine Rb ⟨?_⟩|fail
     refine Cd.loop2 (fun mq tm S nx=>∃ (i:Nat) (x:Wld) (cs:List Int) (h0:List Hld) (h1:List Hld) (h2:List Hld),mq=(es.length - i)∧tm=[(1,.sl (es.map Evn.c)),(4,.bp 0 0),(6,.own 1),(7,.bp 2 0),(8,.k .i64 i)]∧S=[(0,.box 55 [.nil,.nil,.nil,.k .i64 0,.k .i64 0,.nil,.nil,.nil,.nil,.b false,.k .i64 0,.s [],.s [],.s []]),(1,.own 3 (bg cs)),(2,.box 55 (wcO x 3 4 5 6)),(3,.own 132 (x.leases.map Lse.c)),(4,.deep 121 68 [anH h0,anH h1,anH h2]),(5,.own 3 (bg x.floors)),(6,.own 70 (x.net.map Mes.c))]∧nx=7∧(i≤es.length)∧(aP x=true)∧(CN i x)∧(bZ (aG o) es=((bZ x (es.drop i)).1,cs++(bZ x (es.drop i)).2))∧(cs.length=i)∧(x.holds=[h0,h1,h2])) ?_ ?_
     · refine la [1,4,6,7,8] ?_
       conv=>whnf
       refine ⟨rfl,rfl,_,0,aG o,[],[],[],[],rfl,rfl,rfl,rfl,zAG _,jb hok,sI hb,(by simp),rfl,rfl⟩
     · rintro mq tm S nx ⟨i,x,cs,h0,h1,h2,hn,rfl,rfl,rfl,hi,hxo,hbn,hrun,hcl,hh⟩;have e2:(bg cs).length=cs.length:=zAA ..;obtain ⟨t,v,ho,hw,hs⟩:=br hxo;have hb1:=hbn.up (k:=1048575) (by omega);rcases al es i hi with ⟨rfl,hd⟩|⟨e,r,he',hd,hr,hlt⟩
       · rw [hd] at hrun;have hq:bZ (aG o) es=(x,cs):=by rw [hrun]; simp [bZ]
         rw [hq];have c4:=na (m:=m) x (hb1.w (by omega)) h0 h1 h2 hh;rw [mm hh] at c4 ⊢;repeat' first|refine Ra ⟨?_⟩|refine Rk [] 4 c4 ⟨?_⟩|refine Rd (fun h=>⟨?_⟩) fun h=>⟨?_⟩|refine Rb ⟨?_⟩|fail
         exact Rz
       · rw [hd,il] at hrun;have hev:=he e (zAD he');obtain ⟨g0,g1,g2,hW,c3⟩:=uJ (m:=m) x e (hb1.w (by omega)) ho hw (fun l hl=>(hb1.hs l hl).2) hev h0 h1 h2 hh;have d1:=iS hxo e;have d2:=hbn.do_ ho hw hev;generalize wDo x e=Y at c3 hrun d1 d2 hW;repeat' first|refine Ra ⟨?_⟩|refine Rk [3,4,5,6] 4 c3 ⟨?_⟩|refine Rd (fun h=>⟨?_⟩) fun h=>⟨?_⟩|refine Rb ⟨?_⟩|fail
         refine .here ⟨mq - 1,by omega,?_⟩;refine la [1,4,6,7,8] ?_
         conv=>whnf
         refine ⟨rfl,rfl,i+1,Y.1,cs++[Y.2],g0,g1,g2,(by omega),rfl,?_,rfl,by omega,d1,d2,(by rw [hrun,hr]; simp),(by simp; omega),hW⟩;rw [← ir];rfl
   · have hx:aR o es=(w0,[]):=by rw [aR,if_pos (.inr (by omega))]
     rw [hx];exact ng o es hb hok hl h80
 · have hok:cu o=false:=by simpa using hok
   have hx:aR o es=(w0,[]):=by rw [aR,if_pos (.inl hok)]
   rw [hx];exact oq o es hb hok
end Go.Proofs.YtagejnomlkfndaaGreatDoor
