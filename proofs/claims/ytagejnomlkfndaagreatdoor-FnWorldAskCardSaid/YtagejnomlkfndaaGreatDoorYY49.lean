/- Texts of this claim, set close: lemmas and contracts. -/
import Derived.Test.YtagejnomlkfndaaGreatDoorYY37
import Derived.Test.YtagejnomlkfndaaGreatDoorYY28
import Derived.Test.YtagejnomlkfndaaGreatDoorYY32
import Derived.Test.YtagejnomlkfndaaGreatDoorYY22
import Derived.Test.YtagejnomlkfndaaGreatDoorYY23
set_option linter.unusedSimpArgs false
set_option linter.unusedVariables false
set_option maxHeartbeats 1000000
set_option maxRecDepth 10000
namespace Go.Proofs.YtagejnomlkfndaaGreatDoor
open Go Go.RowKit Go.Ab Go.Par
variable {m:Int}
structure SmV (o:Ovr):Prop where
 bl:o.base.length≤20
 base:gG 100 o.base
 ll:o.layers.length≤8
 lay:∀ l∈o.layers,nC 100 l∧l.length≤40
 upper:nC 100 o.upper
 ul:o.upper.length≤40
theorem SmV.bnd {o:Ovr} (h:SmV o):gM o:=
 ⟨fun e he=>by have:=h.base e he; omega,fun l hl=>⟨fun e he=>by have:=(h.lay l hl).1 e he; omega,by have:=(h.lay l hl).2; omega⟩,fun e he=>by have:=h.upper e he; omega,by have:=h.bl; omega,by have:=h.ll; omega,by have:=h.ul; omega⟩
theorem yV {o:Ovr} {x:List Ent × List Ent} (h:bv o=some x):SmV o:=by
 obtain ⟨t,v⟩:=x;obtain ⟨h1,h2,h3,h4⟩:=ce h;obtain ⟨g1,g2,g3⟩:=dz.1 h;obtain ⟨k1,k2,k3,k4⟩:=gz g1;have hu:=nq h3 h4;rw [← g3] at hu;refine ⟨by have:=aN h1; omega,fun e he=>by have:=jF (gE h1 e he); omega,by omega,fun l hl=>?_,fun e he=>by have:=gV hu e he; omega,by have:=dN hu; omega⟩;have hk:=jx _ k3 l hl;exact ⟨fun e he=>by have:=gV hk e he; omega,by have:=dN hk; omega⟩
theorem Hh:SmV ov0:=⟨by simp [ov0],by simp [ov0,gG],by simp [ov0],by simp [ov0],by simp [ov0,nC],by simp [ov0]⟩
theorem Hi {o:Ovr}:SmV (i8 o).1:=by
 cases h:bv o with
 | none=>rw [i8,h]; exact Hh
 | some x=>
   obtain ⟨t',ht⟩:=Fk (o:=o) (t:=x.1) (v:=x.2) h;exact yV ht
theorem Hj {o:Ovr}:SmV (i9 o).1:=by
 cases h:bv o with
 | none=>rw [i9,h]; exact Hh
 | some x=>exact yV (Fl (o:=o) (t:=x.1) (v:=x.2) h)
theorem Hk {o:Ovr} {p:Opn}:SmV (dE o p).1:=by
 cases h:bv o with
 | none=>rw [dE,h]; exact Hh
 | some x=>exact yV (yD (o:=o) (t:=x.1) (v:=x.2) h p).1
theorem qc {o:Ovr} {v:List Ent} (h:gi o=some v):v.length≤16∧gG 100 v:=by
 unfold gi at h;cases hl:eC o with
 | none=>rw [hl] at h; cases h
 | some t=>
   rw [hl] at h;have hv:=(dP h).2.2.1;exact ⟨aN hv,fun e he=>by have:=jF (gE hv e he); omega⟩
theorem Di (l:Bs) (p:Int) (hp:0≤p∧p≤800000) (hl:l.length≤2000) :
   ∃ (o:Ovr) (q:Int),SmV o∧(p≤q∧q≤p+900)∧Con (E m) 134 1 [.bp 0 0] [(0,rd l p)] (.agg o.c) [(0,rd l q)]:=by
 have key:∃ d S',(∃ (o:Ovr) (q:Int),SmV o∧(p≤q∧q≤p+900)∧d=.agg o.c∧S'=[(0,rd l q)])∧Con (E m) 134 1 [.bp 0 0] [(0,rd l p)] d S':=by
  have h1:=Cy (m:=m) l p;have c1:=Cz (m:=m) l p (by omega) hl;generalize jv m l p=T at h1 c1;have c2:=cM (m:=m) l T.2 3 (by omega) (by omega) hl;obtain ⟨k,hk,hk2⟩:=drew (m:=m) l T.2 3 (by omega);rw [hk] at c2;have hT:SmV ⟨T.1,[],[]⟩:=⟨by simp only; omega,h1.2.1,by simp,by simp,by simp [nC],by simp⟩;refine bU iT mix Tryz.func134 rfl rfl rfl (zAC rfl) ?_;repeat' first|refine Ra ⟨?_⟩|refine Rk [0] 1 c1 ⟨?_⟩|refine Rk [0] 0 c2 ⟨?_⟩|refine Rd (fun h=>⟨?_⟩) fun h=>⟨?_⟩|refine Rb ⟨?_⟩|fail
  refine Cd.loop2 (fun mq tm S nx=>∃ (i:Int) (q:Int) (o:Ovr),mq=(i.toNat)∧tm=[(0,.bp 0 0),(2,.bp 1 0),(3,.bp 2 0),(4,.k .i64 i)]∧S=[(0,rd l q),(1,.box 34 [.nil,.nil,.nil]),(2,.box 34 o.c)]∧nx=3∧(0≤i∧i≤k)∧(p≤q∧q≤p+401+50 * (k - i))∧(SmV o)) ?_ ?_
  · refine ⟨[.thawB 3 1 32,.thawB 3 2 166,.ice 2,.ice 4,.ice 5],[0,2,3,4],[0,1,3],?_⟩
    conv=>whnf
    refine ⟨rfl,rfl,_,_,_,⟨T.1,[],[]⟩,rfl,rfl,rfl,rfl,by omega,by omega,hT⟩
  · rintro mq tm S nx ⟨i,q,o,hn,rfl,rfl,rfl,hi,hq,hV⟩;by_cases hi0:0 < i
    · have c3:=uK (m:=m) o hV.bnd;have h4:=At (m:=m) l q;have c4:=Au (m:=m) l q (by omega) hl;generalize ie m l q=L at h4 c4;have hoL:=hV.ll;have hobl:=hV.bl;have houl:=hV.ul;have e1:(o.layers.map cm).length=o.layers.length:=zAA ..;have hX:gM ⟨o.base,o.layers++[L.1],o.upper⟩:=by
       have hv:=hV.bnd;refine ⟨hv.base,fun k hk=>?_,hv.upper,hv.bl,by simp only [zAT,List.length_cons,List.length_nil]; omega,hv.ul⟩;rcases zAu.1 hk with hk|hk
       · exact hv.lay k hk
       · rw [List.mem_singleton.1 hk];exact ⟨fun e he=>by have:=h4.2.1 e he; omega,by omega⟩
      have g1:(o.layers++[L.1]).map cm=o.layers.map cm++[[.sl (L.1.map Mrk.c)]]:=by rw [zAH]; rfl
      have c5:Con (E m) 44 0 [.agg [.sl (o.base.map Ent.c),.sl (o.layers.map cm++[[.sl (L.1.map Mrk.c)]]),.sl (o.upper.map Mrk.c)]] [] (.b (fF ⟨o.base,o.layers++[L.1],o.upper⟩)) []:=by
       have:=gY (m:=m) ⟨o.base,o.layers++[L.1],o.upper⟩ hX
       unfold Ovr.c at this;rw [g1] at this;exact this
      cases hok:fF ⟨o.base,o.layers++[L.1],o.upper⟩ with
      | false=>
        rw [hok] at c5;repeat' first|refine Ra ⟨?_⟩|refine Rk [] 3 c3 ⟨?_⟩|refine Rk [0] 0 c4 ⟨?_⟩|refine R0 c5 ⟨?_⟩|refine Rd (fun h=>⟨?_⟩) fun h=>⟨?_⟩|refine Rb ⟨?_⟩|fail
        refine .here ⟨mq - 1,by omega,?_⟩;refine la [0,2,3,4] ?_
        conv=>whnf
        refine ⟨rfl,rfl,i - 1,L.2,o,(by omega),rfl,rfl,rfl,by omega,by omega,hV⟩
      | true=>
        rw [hok] at c5;have hV2:SmV ⟨o.base,o.layers++[L.1],o.upper⟩:=by
         unfold fF at hok;obtain ⟨x,hx⟩:=Option.isSome_iff_exists.1 hok;exact yV hx
        repeat' first|refine Ra ⟨?_⟩|refine Rk [] 3 c3 ⟨?_⟩|refine Rk [0] 0 c4 ⟨?_⟩|refine R0 c5 ⟨?_⟩|refine Rd (fun h=>⟨?_⟩) fun h=>⟨?_⟩|refine Rb ⟨?_⟩|fail
        refine .here ⟨mq - 1,by omega,?_⟩;refine ⟨[.ice 3,.ice 8,.ice 5],[0,2,3,4],[0,1,2],?_⟩
        conv=>whnf
        refine ⟨rfl,rfl,i - 1,L.2,⟨o.base,o.layers++[L.1],o.upper⟩,(by omega),rfl,?_,rfl,by omega,by omega,hV2⟩;unfold Ovr.c;rw [g1];rfl
    · have c6:=cM (m:=m) l q 12 (by omega) (by omega) hl;obtain ⟨k2,hk3,hk4⟩:=drew (m:=m) l q 12 (by omega);rw [hk3] at c6;have hq1:p≤q∧q≤p+551:=by omega
      repeat' first|refine Ra ⟨?_⟩|refine Rk [0] 0 c6 ⟨?_⟩|refine Rd (fun h=>⟨?_⟩) fun h=>⟨?_⟩|refine Rb ⟨?_⟩|fail
      refine Cd.loop2 (fun mq tm S nx=>∃ (i:Int) (s:Int) (o:Ovr),mq=(i.toNat)∧tm=[(0,.bp 0 0),(2,.bp 1 0),(3,.bp 2 0),(6,.k .i64 i)]∧S=[(0,rd l s),(1,.box 34 [.nil,.nil,.nil]),(2,.box 34 o.c)]∧nx=3∧(0≤i∧i≤k2)∧(p≤s∧s≤p+552+20 * (k2 - i))∧(SmV o)) ?_ ?_
      · refine la [0,2,3,6] ?_
        conv=>whnf
        refine ⟨rfl,rfl,_,_,_,o,rfl,rfl,rfl,rfl,by omega,by omega,hV⟩
      · rintro mq tm S nx ⟨i,s,o,hn,rfl,rfl,rfl,hi,hq,hV⟩;by_cases hi0:0 < i
        · have c7:=fD (m:=m) o hV.bnd;have c8:=cM (m:=m) l s 8 (by omega) (by omega) hl;obtain ⟨k8,hk8,hk9⟩:=drew (m:=m) l s 8 (by omega);rw [hk8] at c8;obtain ⟨t,b,htl,htb,c7⟩:∃ (t:List Ent) (b:Bool),t.length≤16∧gG 100 t∧Con (E m) 119 0 [.agg o.c] [] (.tup [.sl (t.map Ent.c),.b b]) []:=by
           cases hv:gi o with
           | none=>
             rw [hv] at c7;exact ⟨[],false,by simp,by simp [gG],c7⟩
           | some v=>
             rw [hv] at c7;exact ⟨v,true,(qc hv).1,(qc hv).2,c7⟩
          by_cases g0:k8=0
          · have c9:=vD (m:=m) o hV.bnd;have hV2:=Hi (o:=o);generalize i8 o=Y at c9 hV2;repeat' first|refine Ra ⟨?_⟩|refine R0 c7 ⟨?_⟩|refine Rk [0] 0 c8 ⟨?_⟩|refine R0 c9 ⟨?_⟩|refine Rd (fun h=>⟨?_⟩) fun h=>⟨?_⟩|refine Rb ⟨?_⟩|fail
            refine .here ⟨mq - 1,by omega,?_⟩;refine la [0,2,3,6] ?_
            conv=>whnf
            refine ⟨rfl,rfl,i - 1,_,Y.1,(by omega),rfl,rfl,rfl,by omega,by omega,hV2⟩
          · by_cases g1:k8=1
            · have c9:=cM (m:=m) l (s+1) 3 (by omega) (by omega) hl;obtain ⟨k3,hk5,hk6⟩:=drew (m:=m) l (s+1) 3 (by omega);rw [hk5] at c9;by_cases g2:k3=0
              · have c10:=vE (m:=m) o hV.bnd;have hV2:=Hj (o:=o);generalize i9 o=Y at c10 hV2;repeat' first|refine Ra ⟨?_⟩|refine R0 c7 ⟨?_⟩|refine Rk [0] 0 c8 ⟨?_⟩|refine Rk [0] 0 c9 ⟨?_⟩|refine R0 c10 ⟨?_⟩|refine Rd (fun h=>⟨?_⟩) fun h=>⟨?_⟩|refine Rb ⟨?_⟩|fail
                refine .here ⟨mq - 1,by omega,?_⟩;refine la [0,2,3,6] ?_
                conv=>whnf
                refine ⟨rfl,rfl,i - 1,_,Y.1,(by omega),rfl,rfl,rfl,by omega,by omega,hV2⟩
              · repeat' first|refine Ra ⟨?_⟩|refine R0 c7 ⟨?_⟩|refine Rk [0] 0 c8 ⟨?_⟩|refine Rk [0] 0 c9 ⟨?_⟩|refine Rd (fun h=>⟨?_⟩) fun h=>⟨?_⟩|refine Rb ⟨?_⟩|fail
                refine .here ⟨mq - 1,by omega,?_⟩;refine la [0,2,3,6] ?_
                conv=>whnf
                refine ⟨rfl,rfl,i - 1,_,o,(by omega),rfl,rfl,rfl,by omega,by omega,hV⟩
            · have hop:=tX (m:=m) l (s+1) t;have c9:=tY (m:=m) l (s+1) t (by omega) hl (by omega) htb;generalize kp m l (s+1) t=V at hop c9;have c10:=kw (m:=m) o V.1 hV.bnd (jc.big hop.1);have hV2:=Hk (o:=o) (p:=V.1);generalize dE o V.1=Y at c10 hV2;repeat' first|refine Ra ⟨?_⟩|refine R0 c7 ⟨?_⟩|refine Rk [0] 0 c8 ⟨?_⟩|refine Rk [0] 0 c9 ⟨?_⟩|refine R0 c10 ⟨?_⟩|refine Rd (fun h=>⟨?_⟩) fun h=>⟨?_⟩|refine Rb ⟨?_⟩|fail
              refine .here ⟨mq - 1,by omega,?_⟩;refine la [0,2,3,6] ?_
              conv=>whnf
              refine ⟨rfl,rfl,i - 1,V.2,Y.1,(by omega),rfl,rfl,rfl,by omega,by omega,hV2⟩
        · have c7:=jI (m:=m) o hV.bnd;repeat' first|refine Ra ⟨?_⟩|refine R0 c7 ⟨?_⟩|refine Rd (fun h=>⟨?_⟩) fun h=>⟨?_⟩|refine Rb ⟨?_⟩|fail
          refine cv.here (aa ?_)
          conv=>whnf
          refine ⟨rfl,rfl,_,rfl,⟨o,s,hV,by omega,rfl,rfl⟩⟩
 obtain ⟨d,S',⟨o,q,h1,h2,rfl,rfl⟩,hc⟩:=key;exact ⟨o,q,h1,h2,hc⟩
end Go.Proofs.YtagejnomlkfndaaGreatDoor
