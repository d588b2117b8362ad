/- Texts of this claim, set close: lemmas and contracts. -/
import Derived.Test.YtagejnomlkfndaaGreatDoorYY63
import Derived.Test.YtagejnomlkfndaaGreatDoorYY59
set_option linter.unusedSimpArgs false
set_option linter.unusedVariables false
set_option maxHeartbeats 1000000
set_option maxRecDepth 10000
namespace Go.Proofs.YtagejnomlkfndaaGreatDoor
open Go Go.RowKit Go.Ab Go.Par
variable {m:Int}
theorem wT_key2 {w:Wld} {z zs:List aE} (h:z=oZ w.over) (h':zs=hZ w):wTz w z zs=wT w:=by rw [h,h']
theorem iWorldNewO_con (o:Ovr) (hb:gM o):Con (E m) 97 0 [.agg o.c] [] (.agg (wcT (bJ o) 0 1 2 3 4 5 6)) (wT (bJ o)):=by
 have c1:=cH (oa (m:=m) o hb);refine cE ?_;refine bK DS HW Tryz.func97 rfl rfl rfl (zAC rfl) ?_;repeat' first|refine Ra ⟨?_⟩|(refine Rc [] 3 rfl rfl c1 ?_ rfl rfl (Ie rfl) <;> conv=>whnf)|((refine ⟨rfl,?_⟩) <;> conv=>whnf)|((refine ⟨3,rfl,zAC rfl,zAC rfl,?_⟩) <;> conv=>whnf)|((refine ⟨3,rfl,rfl,zAC rfl,zAC rfl,?_⟩) <;> conv=>whnf)|refine Rd (fun h=>⟨?_⟩) fun h=>⟨?_⟩|refine Rb ⟨?_⟩|fail
 refine ak.here ⟨[.thawB 1 5 132,.thawB 1 8 70],[2,3,4,7,5,6,8],?_⟩
 conv=>whnf
 refine ⟨rfl,rfl,rfl,?_⟩;exact wT_key2 (w:=bJ o) (by simp only [bi,co]; rfl) rfl
abbrev plS (x:Wld) (z zs:List aE) (cs:List Int):ac:=[(0,.box 55 [.nil,.nil,.nil,.k .i64 0,.k .i64 0,.nil,.nil,.nil,.nil,.b false,.k .i64 0,.s [],.s [],.s []]),(1,.box 55 (wcT x 3 4 5 6 7 8 9)),(2,.own 3 (ck cs)),(3,.own 66 (x.over.base.map Ent.c)),(4,.deep 32 166 z),(5,.own 166 (x.over.upper.map Mrk.c)),(6,.own 132 (x.leases.map Lse.c)),(7,.deep 121 68 zs),(8,.own 3 (ck x.floors)),(9,.own 70 (x.net.map Mes.c))]
theorem plS_key {x:Wld} {z zs:List aE} {cs:List Int} (h:z=oZ x.over) (h':zs=hZ x):plS x z zs cs=plS x (oZ x.over) (hZ x) cs:=by rw [h,h']
abbrev plR (x:Wld) (z zs:List aE) (cs:List Int):ac:=[(0,.own 66 (x.over.base.map Ent.c)),(1,.deep 32 166 z),(2,.own 166 (x.over.upper.map Mrk.c)),(3,.own 132 (x.leases.map Lse.c)),(4,.deep 121 68 zs),(5,.own 3 (ck x.floors)),(6,.own 70 (x.net.map Mes.c)),(7,.own 3 (ck cs))]
theorem plR_key {x:Wld} {z zs:List aE} {cs:List Int} (h:z=oZ x.over) (h':zs=hZ x):plR x z zs cs=plR x (oZ x.over) (hZ x) cs:=by rw [h,h']
theorem iWorldPlayO_con (o:Ovr) (es:List Evn) (hb:gM o) (he:∀ e∈es,ql e) (hl:es.length≤1048576) :
   Con (E m) 30 0 [.agg o.c,.sl (es.map Evn.c)] [] (.tup [.agg (wcT (worldPlay o es).1 0 1 2 3 4 5 6),.own 7]) (plR (worldPlay o es).1 (oZ (worldPlay o es).1.over) (hZ (worldPlay o es).1) (worldPlay o es).2):=by
 have e1:(es.map Evn.c).length=es.length:=zAA ..;have c1:=iOverOk_con (m:=m) o hb;have c2:=iWorldNewO_con (m:=m) o hb;by_cases hok:fF o=true
 · rw [hok] at c1;by_cases h80:es.length≤80
   · have hx:worldPlay o es=playRun (bJ o) es:=by rw [worldPlay,if_neg (by simp [hok]; omega)]
     rw [hx];refine G0 Tryz.func30 ?_;repeat' first|refine Ra ⟨?_⟩|refine R0 c1 ⟨?_⟩|(refine Rc [] 7 rfl rfl c2 ?_ rfl rfl (Ih rfl) <;> conv=>whnf)|refine Rd (fun h=>⟨?_⟩) fun h=>⟨?_⟩|refine Rb ⟨?_⟩|fail
     refine Cd.loop2 (fun mq tm S nx=>∃ (i:Nat) (x:Wld) (cs:List Int),mq=(es.length - i)∧tm=[(4,.bp 0 0),(6,.bp 1 0),(7,.own 2),(23,.sl (es.map Evn.c)),(24,.k .i64 ((es.map Evn.c).length:Int)),(25,.k .i64 i)]∧S=[(0,.box 55 [.nil,.nil,.nil,.k .i64 0,.k .i64 0,.nil,.nil,.nil,.nil,.b false,.k .i64 0,.s [],.s [],.s []]),(1,.box 55 (wcT x 3 4 5 6 7 8 9)),(2,.own 3 (ck cs)),(3,.own 66 (x.over.base.map Ent.c)),(4,.deep 32 166 (oZ x.over)),(5,.own 166 (x.over.upper.map Mrk.c)),(6,.own 132 (x.leases.map Lse.c)),(7,.deep 121 68 (hZ x)),(8,.own 3 (ck x.floors)),(9,.own 70 (x.net.map Mes.c))]∧nx=10∧(i≤es.length)∧(ba x=true)∧(dj i x)∧(playRun (bJ o) es=((playRun x (es.drop i)).1,cs++(playRun x (es.drop i)).2))∧(cs.length=i)) ?_ ?_
     · refine ⟨[],[4,6,7,23,24,25],[1,10,11,3,4,5,6,7,8,9],?_⟩
       conv=>whnf
       refine ⟨rfl,rfl,_,0,bJ o,[],rfl,rfl,plS_key (x:=bJ o) (cs:=[]) (by simp only [bi,co]) (by simp only [bi,co]),rfl,zAG _,rT hok,Bx hb,by simp,rfl⟩
     · rintro mq tm S nx ⟨i,x,cs,hn,rfl,rfl,rfl,hi,hxo,hbn,hrun,hcl⟩;have e2:(ck cs).length=cs.length:=zAA ..;rcases av es i hi with ⟨rfl,hd⟩|⟨e,r,he',hd,hr,hlt⟩
       · rw [hd] at hrun;have hq:playRun (bJ o) es=(x,cs):=by rw [hrun]; simp [playRun]
         rw [hq];repeat' first|refine Rx ⟨?_⟩|refine Rd (fun h=>⟨?_⟩) fun h=>⟨?_⟩|fail
         refine ak.here ⟨[],[3,4,5,6,7,8,9,2],?_⟩
         conv=>whnf
         refine ⟨rfl,rfl,rfl,?_⟩;exact plR_key (by simp only [bi,co]) (by simp only [bi,co])
       · rw [hd,playRun_cons] at hrun;have hev:=he e (zAD he');have hb1:=hbn.up (k:=1048575) (by omega);have c3:=vO (m:=m) x e (hb1.w (by omega)) (fun _ l hl=>(hb1.hs l hl).2) hev;have hdo:bX x e=wDo x e:=by rw [bX,if_pos hxo]
         rw [hdo] at c3;obtain ⟨t,v,ho,hw,hs⟩:=bB hxo;have d1:=oS hxo e;have d2:=hbn.do_ ho hw hev;generalize wDo x e=Y at c3 hrun d1 d2;repeat' first|refine Ra ⟨?_⟩|(refine ⟨[],_,_,_,_,7,⟨rfl,Jo (w:=x) (q':=.agg e.c) rfl rfl rfl rfl rfl rfl rfl rfl rfl rfl,rfl,c3,rfl,Ih rfl⟩,.inl ⟨[],trivial,rfl,.inl ⟨Jn Y.1 0 1 2 3 4 5 6 .i64 Y.2,JN _⟩,?_⟩⟩ <;> conv=>whnf)|refine Rd (fun h=>⟨?_⟩) fun h=>⟨?_⟩|refine Rb ⟨?_⟩|fail
         refine .here ⟨mq - 1,by omega,?_⟩;refine ⟨[],[4,6,7,23,24,25],[0,1,20,11,12,13,14,15,16,17],?_⟩
         conv=>whnf
         have ei:ck cs++[[.k .i64 Y.2]]=ck (cs++[Y.2]):=(ints_snoc cs Y.2);refine ⟨rfl,rfl,i+1,Y.1,cs++[Y.2],by omega,rfl,Eq.trans ?_ (plS_key (x:=Y.1) (z:=((oZ Y.1.over).map (Hz (mr [] 11))).map (xn [0,1,20,11,12,13,14,15,16,17])) (zs:=((hZ Y.1).map (Hz (mr [] 11))).map (xn [0,1,20,11,12,13,14,15,16,17])) (cs:=cs++[Y.2]) (by simp only [bi,co]) (by simp only [bi,co])),rfl,by omega,d1,d2,by (rw [hrun,hr]; simp),by (simp; omega)⟩;unfold plS;rw [← ei];rfl
   · have hx:worldPlay o es=(w0,[]):=by rw [worldPlay,if_pos (.inr (by omega))]
     rw [hx];refine G0 Tryz.func30 ?_;repeat' first|refine Ra ⟨?_⟩|refine R0 c1 ⟨?_⟩|refine Rd (fun h=>⟨?_⟩) fun h=>⟨?_⟩|refine Rb ⟨?_⟩|fail
     refine ak.here (fw [.thawB 1 0 66,.thawD 1 1 32 166,.thawB 1 2 166,.thawB 1 5 132,.thawD 1 6 121 68,.thawB 1 7 3,.thawB 1 8 70] ?_)
     conv=>whnf
     exact ⟨rfl,rfl,rfl,rfl⟩
 · have hok:fF o=false:=by simpa using hok
   rw [hok] at c1;have hx:worldPlay o es=(w0,[]):=by rw [worldPlay,if_pos (.inl hok)]
   rw [hx];refine G0 Tryz.func30 ?_;repeat' first|refine Ra ⟨?_⟩|refine R0 c1 ⟨?_⟩|refine Rd (fun h=>⟨?_⟩) fun h=>⟨?_⟩|refine Rb ⟨?_⟩|fail
   refine ak.here (fw [.thawB 1 0 66,.thawD 1 1 32 166,.thawB 1 2 166,.thawB 1 5 132,.thawD 1 6 121 68,.thawB 1 7 3,.thawB 1 8 70] ?_)
   conv=>whnf
   exact ⟨rfl,rfl,rfl,rfl⟩
theorem play_cnt:∀ (es:List Evn) (x:Wld),ba x=true→ba (playRun x es).1=true∧tot (playRun x es).1.holds≤tot x.holds+es.length∧(playRun x es).1.leases.length≤x.leases.length+es.length∧(playRun x es).2.length=es.length
 | [],x,h=>⟨h,zAL _,zAL _,rfl⟩
 | e :: r,x,h=>by
   obtain ⟨h1,h2⟩:=Ip x e;obtain ⟨k1,k2,k3,k4⟩:=play_cnt r (wDo x e).1 (oS h e);rw [playRun_cons];refine ⟨k1,?_,?_,?_⟩
   · simp only [List.length_cons]; omega
   · simp only [List.length_cons]; omega
   · simp only [List.length_cons,k4]
theorem worldPlay_cnt (o:Ovr) (es:List Evn):CW (worldPlay o es).1∧l8 (worldPlay o es).1≤400∧(worldPlay o es).2.length≤80:=by
 unfold worldPlay;by_cases hb:fF o=false∨80 < es.length
 · rw [if_pos hb];exact ⟨cw0.1,by rw [cw0.2]; omega,by simp⟩
 · rw [if_neg hb];have h1:fF o=true:=by
    cases h:fF o with
    | true=>rfl
    | false=>exact absurd (.inl h) hb
   have h2:es.length≤80:=by
    refine Decidable.byContradiction fun h=>hb (.inr (by omega))
   obtain ⟨k1,k2,k3,k4⟩:=play_cnt es (bJ o) (rT h1);have t0:tot (bJ o).holds=0:=by simp [bJ,tot]
   have l0:(bJ o).leases.length=0:=by simp [bJ]
   obtain ⟨c1,c2⟩:=FT (n:=0) k1 (by omega) (by omega);exact ⟨c1,by omega,by omega⟩
theorem ni_plR (x:Wld) (cs:List Int):aF (plR x (oZ x.over) (hZ x) cs):=by
 intro p hp;simp only [plR,List.mem_cons,List.not_mem_nil,or_false] at hp;rcases hp with rfl|rfl|rfl|rfl|rfl|rfl|rfl|rfl
 · exact JN x _ (by simp [wT])
 · exact JN x _ (by simp [wT])
 · exact JN x _ (by simp [wT])
 · exact JN x _ (by simp [wT])
 · exact JN x _ (by simp [wT])
 · exact JN x _ (by simp [wT])
 · exact JN x _ (by simp [wT])
 · exact eQ _ _ Jl
theorem dom_plR {c:Nat} {l:List Nat} {x:Wld} {cs:List Int} (h:ltB c l=true):(ltB c l && kC c (plR x (oZ x.over) (hZ x) cs))=true:=by
 simp only [h,kC,cz,eU];rfl
theorem ni_plD (w:Wld) (a b c d e f g h:Nat):ay (.tup [.agg (wcT w a b c d e f g),.own h]):=by
 intro x hx;simp only [List.mem_cons,List.not_mem_nil,or_false] at hx;rcases hx with rfl|rfl
 · exact JO _ _ _ _ _ _ _ _
 · trivial
end Go.Proofs.YtagejnomlkfndaaGreatDoor
