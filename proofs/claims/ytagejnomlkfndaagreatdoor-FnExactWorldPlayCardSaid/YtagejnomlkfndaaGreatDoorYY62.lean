/- Texts of this claim, set close: lemmas and contracts. -/
import Derived.Test.YtagejnomlkfndaaGreatDoorYY59
set_option linter.unusedSimpArgs false
set_option linter.unusedVariables false
set_option maxHeartbeats 1000000
set_option maxRecDepth 10000
namespace Go.Proofs.YtagejnomlkfndaaGreatDoor
open Go Go.RowKit Go.Ab Go.Par
variable {m:Int}
theorem sWorldPlayBad_con (o:Ovr) (es:List Evn) (hb:gM o) (hok:fF o=false):Con (E m) 28 0 [.agg o.c,.sl (es.map Evn.c)] [] (.tup [.agg w0.c,.sl (ck [])]) []:=by
 have c1:=gY (m:=m) o hb;rw [hok] at c1;refine G0 Tryz.func28 ?_;repeat' first|refine Ra ⟨?_⟩|refine R0 c1 ⟨?_⟩|refine Rd (fun h=>⟨?_⟩) fun h=>⟨?_⟩|refine Rb ⟨?_⟩|fail
 exact Rz
theorem sWorldPlayLong_con (o:Ovr) (es:List Evn) (hb:gM o) (hok:fF o=true) (hl:es.length≤1048576) (h80:¬ es.length≤80):Con (E m) 28 0 [.agg o.c,.sl (es.map Evn.c)] [] (.tup [.agg w0.c,.sl (ck [])]) []:=by
 have e1:(es.map Evn.c).length=es.length:=zAA ..;have c1:=gY (m:=m) o hb;rw [hok] at c1;refine G0 Tryz.func28 ?_;repeat' first|refine Ra ⟨?_⟩|refine R0 c1 ⟨?_⟩|refine Rd (fun h=>⟨?_⟩) fun h=>⟨?_⟩|refine Rb ⟨?_⟩|fail
 exact Rz
theorem sWorldPlay_con (o:Ovr) (es:List Evn) (hb:gM o) (he:∀ e∈es,ql e) (hl:es.length≤1048576) :
   Con (E m) 28 0 [.agg o.c,.sl (es.map Evn.c)] [] (.tup [.agg (worldPlay o es).1.c,.sl (ck (worldPlay o es).2)]) []:=by
 have e1:(es.map Evn.c).length=es.length:=zAA ..;have c1:=gY (m:=m) o hb;have c2:=na (m:=m) o hb;by_cases hok:fF o=true
 · rw [hok] at c1;by_cases h80:es.length≤80
   · have hx:worldPlay o es=playRun (bJ o) es:=by rw [worldPlay,if_neg (by simp [hok]; omega)]
     rw [hx];refine G0 Tryz.func28 ?_;repeat' first|refine Ra ⟨?_⟩|refine R0 c1 ⟨?_⟩|refine Rk [] 4 c2 ⟨?_⟩|refine Rd (fun h=>⟨?_⟩) fun h=>⟨?_⟩|refine Rb ⟨?_⟩|fail
     refine Cd.loop2 (fun mq tm S nx=>∃ (i:Nat) (x:Wld) (cs:List Int) (h0:List Hld) (h1:List Hld) (h2:List Hld),mq=(es.length - i)∧tm=[(1,.sl (es.map Evn.c)),(4,.bp 0 0),(6,.own 1),(7,.bp 2 0),(8,.k .i64 i)]∧S=[(0,.box 55 [.nil,.nil,.nil,.k .i64 0,.k .i64 0,.nil,.nil,.nil,.nil,.b false,.k .i64 0,.s [],.s [],.s []]),(1,.own 3 (ck cs)),(2,.box 55 (wcO x 3 4 5 6)),(3,.own 132 (x.leases.map Lse.c)),(4,.deep 121 68 [anH h0,anH h1,anH h2]),(5,.own 3 (ck x.floors)),(6,.own 70 (x.net.map Mes.c))]∧nx=7∧(i≤es.length)∧(ba x=true)∧(dj i x)∧(playRun (bJ o) es=((playRun x (es.drop i)).1,cs++(playRun x (es.drop i)).2))∧(cs.length=i)∧(x.holds=[h0,h1,h2])) ?_ ?_
     · refine la [1,4,6,7,8] ?_
       conv=>whnf
       refine ⟨rfl,rfl,_,0,bJ o,[],[],[],[],rfl,rfl,rfl,rfl,zAG _,rT hok,Bx hb,(by simp),rfl,rfl⟩
     · rintro mq tm S nx ⟨i,x,cs,h0,h1,h2,hn,rfl,rfl,rfl,hi,hxo,hbn,hrun,hcl,hh⟩;have e2:(ck cs).length=cs.length:=zAA ..;obtain ⟨t,v,ho,hw,hs⟩:=bB hxo;have hb1:=hbn.up (k:=1048575) (by omega);rcases av es i hi with ⟨rfl,hd⟩|⟨e,r,he',hd,hr,hlt⟩
       · rw [hd] at hrun;have hq:playRun (bJ o) es=(x,cs):=by rw [hrun]; simp [playRun]
         rw [hq];have c4:=j8 (m:=m) x (hb1.w (by omega)) h0 h1 h2 hh;rw [dV hh] at c4 ⊢;repeat' first|refine Ra ⟨?_⟩|refine Rk [] 4 c4 ⟨?_⟩|refine Rd (fun h=>⟨?_⟩) fun h=>⟨?_⟩|refine Rb ⟨?_⟩|fail
         exact Rz
       · rw [hd,playRun_cons] at hrun;have hev:=he e (zAD he');obtain ⟨g0,g1,g2,hW,c3⟩:=rc (m:=m) x e (hb1.w (by omega)) ho hw (fun l hl=>(hb1.hs l hl).2) hev h0 h1 h2 hh;have d1:=oS hxo e;have d2:=hbn.do_ ho hw hev;generalize wDo x e=Y at c3 hrun d1 d2 hW;repeat' first|refine Ra ⟨?_⟩|refine Rk [3,4,5,6] 4 c3 ⟨?_⟩|refine Rd (fun h=>⟨?_⟩) fun h=>⟨?_⟩|refine Rb ⟨?_⟩|fail
         refine .here ⟨mq - 1,by omega,?_⟩;refine la [1,4,6,7,8] ?_
         conv=>whnf
         refine ⟨rfl,rfl,i+1,Y.1,cs++[Y.2],g0,g1,g2,(by omega),rfl,?_,rfl,by omega,d1,d2,(by rw [hrun,hr]; simp),(by simp; omega),hW⟩;rw [← ints_snoc];rfl
   · have hx:worldPlay o es=(w0,[]):=by rw [worldPlay,if_pos (.inr (by omega))]
     rw [hx];exact sWorldPlayLong_con o es hb hok hl h80
 · have hok:fF o=false:=by simpa using hok
   have hx:worldPlay o es=(w0,[]):=by rw [worldPlay,if_pos (.inl hok)]
   rw [hx];exact sWorldPlayBad_con o es hb hok
end Go.Proofs.YtagejnomlkfndaaGreatDoor
