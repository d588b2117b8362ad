/- Texts of this claim, set close: lemmas and contracts. -/
import Derived.Test.YtagejnomlkfndaaGreatDoorYY56
import Derived.Test.YtagejnomlkfndaaGreatDoorYY59
import Derived.Test.YtagejnomlkfndaaGreatDoorYY52
import Derived.Test.YtagejnomlkfndaaGreatDoorYY49
import Derived.Test.YtagejnomlkfndaaGreatDoorYY32
import Derived.Test.YtagejnomlkfndaaGreatDoorYY22
import Derived.Test.YtagejnomlkfndaaGreatDoorYY40
import Derived.Test.YtagejnomlkfndaaGreatDoorYY44
import Derived.Test.YtagejnomlkfndaaGreatDoorYY50
import Derived.Test.YtagejnomlkfndaaGreatDoorYY23
set_option linter.unusedSimpArgs false
set_option linter.unusedVariables false
set_option maxHeartbeats 1000000
set_option maxRecDepth 10000
namespace Go.Proofs.YtagejnomlkfndaaGreatDoor
open Go Go.RowKit Go.Ab Go.Par
variable {m:Int}
def Ir (e:Evn):Prop:=e.path.length≤100∧e.op.path.length≤100∧e.op.tgt.length≤100∧e.op.data.length≤100
theorem Ir.b {e:Evn} (h:Ir e):ql e:=by
 obtain ⟨h1,h2,h3,h4⟩:=h;exact ⟨by omega,by unfold jc; omega⟩
theorem BA (l:Bs) (p:Int) (t:List Ent) (n:Int) (hp:0≤p∧p≤900000) (hl:l.length≤2000) (ht:t.length≤17) (hb:gG 100 t) (hn:0≤n∧n≤1000) :
   ∃ (e:Evn) (q:Int),Ir e∧(p≤q∧q≤p+40)∧Con (E m) 135 1 [.bp 0 0,.sl (t.map Ent.c),.k .i64 n] [(0,rd l p)] (.agg e.c) [(0,rd l q)]:=by
 have key:∃ d S',(∃ (e:Evn) (q:Int),d=.agg e.c∧S'=[(0,rd l q)]∧Ir e∧(p≤q∧q≤p+40))∧Con (E m) 135 1 [.bp 0 0,.sl (t.map Ent.c),.k .i64 n] [(0,rd l p)] d S':=by
  have hm:((t.map Ent.c).length:Int)=t.length:=by rw [zAA]
  have hQ:∀ q,(ofV m l q gd).length≤100:=fun q=>gR _ (gc l q (by decide));have hb0:∀ x∈t,x.path.length≤100:=fun x hx=>(hb x hx).1;have f1:∀ q,(ofV m l q [[47],[],[47,97]]).length≤100:=fun q=>(by decide:∀ x∈([[47],[],[47,97]]:List Bs),x.length≤100) _ (gc l _ (by decide));have c1:=gH (m:=m) l p (by omega) hl;refine bU iT mix Tryz.func135 rfl rfl rfl (zAC rfl) ?_;refine Cd.seqS ?_;repeat' first|refine Rx ⟨?_⟩|refine Rd (fun h=>⟨?_⟩) fun h=>⟨?_⟩|fail
  all_goals (try refine Stop.here ?_)
  refine Cd.seqS ?_;repeat' first|refine Ra ⟨?_⟩|refine Rk [0] 0 c1 ⟨?_⟩|refine Rd (fun h=>⟨?_⟩) fun h=>⟨?_⟩|refine Rb ⟨?_⟩|fail
  all_goals (try refine Stop.here ?_)
  refine Cd.cut (fun tm S nx=>∃ (P:Bs) (q:Int),tm=[(0,.bp 0 0),(1,.sl (t.map Ent.c)),(2,.k .i64 n),(6,.bp 1 0),(7,.s P)]∧S=[(0,rd l q),(1,.box 59 (Evn.c ⟨0,0,[],op0,0⟩))]∧nx=2∧(P.length≤100)∧(p≤q∧q≤p+3)) ?_ ?_
  · repeat' first|refine Ra ⟨?_⟩|(refine Rc [0] 0 rfl rfl (cM l _ _ (by omega) (by omega) hl) ?_ <;> conv=>whnf)|(refine ⟨_,_,sB l _ _,fk (DW (by omega)),rfl,?_⟩ <;> conv=>whnf)|refine Rd (fun h=>⟨?_⟩) fun h=>⟨?_⟩|refine Rb ⟨?_⟩|fail
    · refine jR.here (la [0,1,2,6,7] ?_)
      conv=>whnf
      refine ⟨rfl,rfl,_,_,rfl,rfl,rfl,hb0 _ (zAX _),by omega⟩
    all_goals
     refine jR.here (la [0,1,2,6,7] ?_)
     conv=>whnf
     refine ⟨rfl,rfl,_,_,rfl,rfl,rfl,hQ _,by omega⟩
  rintro tm S nx ⟨P,q,rfl,rfl,rfl,hP,hq⟩;have hop:=tX (m:=m) l (q+1) t;have c5:=tY (m:=m) l (q+1) t (by omega) hl (by omega) hb;generalize kp m l (q+1) t=V at hop c5;repeat' first|refine Ra ⟨?_⟩|refine Rk [0] 0 c5 ⟨?_⟩|(refine Rc [0] 0 rfl rfl (cM l _ _ (by omega) (by omega) hl) ?_ <;> conv=>whnf)|refine R0 (qk 1 n) ⟨?_⟩|(refine Rc [0] 0 rfl rfl (fH l _ [0,8,1,5,2] (by omega) hl (by decide) (by decide)) ?_ <;> conv=>whnf)|(refine Rc [0] 0 rfl rfl (fH l _ [-1,3,0] (by omega) hl (by decide) (by decide)) ?_ <;> conv=>whnf)|(refine Rc [0] 0 rfl rfl (fH l _ [-1,12,0] (by omega) hl (by decide) (by decide)) ?_ <;> conv=>whnf)|(refine Rc [0] 0 rfl rfl (oF l _ [[47],[],[47,97]] (by omega) hl (by decide) (by decide)) ?_ <;> conv=>whnf)|refine Rd (fun h=>⟨?_⟩) fun h=>⟨?_⟩|refine Rb ⟨?_⟩|fail
  all_goals
   refine cv.here (aa ?_)
   conv=>whnf
   refine ⟨rfl,rfl,_,rfl,⟨⟨_,_,_,⟨_,_,_,_⟩,_⟩,_,rfl,rfl,⟨?_,?_,?_,?_⟩,?_⟩⟩;all_goals first
    | exact zAG _
    | exact hP
    | exact hop.1.1
    | exact hop.1.2.1
    | exact hop.1.2.2
    | exact f1 _
    | omega
 obtain ⟨d,S',⟨e,q,rfl,rfl,h1,h2⟩,hc⟩:=key;exact ⟨e,q,h1,h2,hc⟩
theorem u5 {o:Ovr} {t v:List Ent} (h:bv o=some (t,v)):gi o=some v:=by
 obtain ⟨g1,g2,g3⟩:=dz.1 h;unfold gi;rw [g1];exact g2
theorem Jm:fF ov0=true:=by decide
theorem BB (l:Bs) (p:Int) (hp:0≤p∧p≤700000) (hl:l.length≤2000) :
   ∃ (w:Wld) (q:Int),(ba w=true∧dj 50 w)∧(p≤q∧q≤p+3500)∧Con (E m) 67 1 [.bp 0 0] [(0,rd l p)] (.agg w.c) [(0,rd l q)]:=by
 have key:∃ d S',(∃ (w:Wld) (q:Int),(ba w=true∧dj 50 w)∧(p≤q∧q≤p+3500)∧d=.agg w.c∧S'=[(0,rd l q)])∧Con (E m) 67 1 [.bp 0 0] [(0,rd l p)] d S':=by
  obtain ⟨o,q,hV,hq,c1⟩:=Di (m:=m) l p (by omega) hl;have c2:=gY (m:=m) o hV.bnd;have c4:=fH (m:=m) l q [12,24,36,48,6,0] (by omega) hl (by decide) (by decide);have hk:=ld (m:=m) l q (ls:=[12,24,36,48,6,0]) (by decide);have hk2:0≤oG m l q [12,24,36,48,6,0]∧oG m l q [12,24,36,48,6,0]≤48:=(by decide:∀ x∈([12,24,36,48,6,0]:List Int),0≤x∧x≤48) _ hk;generalize oG m l q [12,24,36,48,6,0]=K at c4 hk2;by_cases hoo:fF o=true
  · rw [hoo] at c2;obtain ⟨o2,rfl⟩:∃ o2,o2=o:=⟨o,rfl⟩;have ho2:=hoo;have hV2:=hV.bnd;have c3:=na (m:=m) o2 hV2;refine bU iT mix Tryz.func67 rfl rfl rfl (zAC rfl) ?_;repeat' first|refine Ra ⟨?_⟩|refine Rk [0] 0 c1 ⟨?_⟩|refine R0 c2 ⟨?_⟩|refine Rk [] 4 c3 ⟨?_⟩|refine Rk [0] 0 c4 ⟨?_⟩|refine Rd (fun h=>⟨?_⟩) fun h=>⟨?_⟩|refine Rb ⟨?_⟩|fail
    refine Cd.loop2 (fun mq tm S nx=>∃ (i:Int) (s:Int) (x:Wld) (n:Nat) (h0:List Hld) (h1:List Hld) (h2:List Hld),mq=(i.toNat)∧tm=[(0,.bp 0 0),(2,.bp 1 0),(4,.bp 2 0),(5,.k .i64 i)]∧S=[(0,rd l s),(1,.box 55 [.nil,.nil,.nil,.k .i64 0,.k .i64 0,.nil,.nil,.nil,.nil,.b false,.k .i64 0,.s [],.s [],.s []]),(2,.box 55 (wcO x 3 4 5 6)),(3,.own 132 (x.leases.map Lse.c)),(4,.deep 121 68 [anH h0,anH h1,anH h2]),(5,.own 3 (ck x.floors)),(6,.own 70 (x.net.map Mes.c))]∧nx=7∧(0≤i∧i+n≤48)∧(p≤s∧s≤p+910+45 * (48 - i))∧(ba x=true)∧(dj n x)∧(x.holds=[h0,h1,h2])) ?_ ?_
    · refine la [0,2,4,5] ?_
      conv=>whnf
      refine ⟨rfl,rfl,_,K,q+1,bJ o2,0,[],[],[],rfl,rfl,rfl,rfl,by omega,by omega,rT ho2,Bx hV2,rfl⟩
    · rintro mq tm S nx ⟨i,s,x,n,h0,h1,h2,hn,rfl,rfl,rfl,hi,hs,hok,hbn,hh⟩;obtain ⟨t,v,ho,hw,hsv⟩:=bB hok;have hb1:=hbn.up (k:=1048575) (by omega);by_cases hi0:0 < i
      · have c7:=fD (m:=m) x.over hb1.over;have hvw:gi x.over=some v:=u5 ho;rw [hvw] at c7;have hvl:=qc hvw;have e4:(x.net.map Mes.c).length=x.net.length:=zAA ..;obtain ⟨e,s',hE,hs',c8⟩:=BA (m:=m) l s v (x.net.length:Int) (by omega) hl (by omega) hvl.2 (by have:=hw.nl; omega);rw [← e4] at c8;obtain ⟨g0,g1,g2,hW,c9⟩:=rc (m:=m) x e (hb1.w (by omega)) ho hw (fun l hl=>(hb1.hs l hl).2) hE.b h0 h1 h2 hh;have d1:=oS hok e;have d2:=hbn.do_ ho hw hE.b;generalize wDo x e=Y at c9 d1 d2 hW;repeat' first|refine Ra ⟨?_⟩|refine R0 c7 ⟨?_⟩|refine Rk [0] 0 c8 ⟨?_⟩|refine Rk [3,4,5,6] 4 c9 ⟨?_⟩|refine Rd (fun h=>⟨?_⟩) fun h=>⟨?_⟩|refine Rb ⟨?_⟩|fail
        refine .here ⟨mq - 1,by omega,?_⟩;refine la [0,2,4,5] ?_
        conv=>whnf
        refine ⟨rfl,rfl,i - 1,s',Y.1,n+1,g0,g1,g2,(by omega),rfl,rfl,rfl,by omega,by omega,d1,d2,hW⟩
      · have c4:=j8 (m:=m) x (hb1.w (by omega)) h0 h1 h2 hh;rw [dV hh] at c4;repeat' first|refine Ra ⟨?_⟩|refine Rk [] 4 c4 ⟨?_⟩|refine Rd (fun h=>⟨?_⟩) fun h=>⟨?_⟩|refine Rb ⟨?_⟩|fail
        refine cv.here ⟨.agg (wcH x h0 h1 h2),[(0,rd l s)],?_,⟨x,s,⟨hok,hbn.up (by omega)⟩,by omega,congrArg D.agg (dV hh).symm,rfl⟩⟩;refine fz ?_
        conv=>whnf
        exact ⟨rfl,rfl,rfl,rfl⟩
  · have hoo:fF o=false:=by simpa using hoo
    rw [hoo] at c2;obtain ⟨o2,ho2,hV2,rfl⟩:∃ o2:Ovr,fF o2=true∧gM o2∧o2=ov0:=⟨ov0,Jm,Hb,rfl⟩;have c3:=na (m:=m) ov0 hV2;refine bU iT mix Tryz.func67 rfl rfl rfl (zAC rfl) ?_;repeat' first|refine Ra ⟨?_⟩|refine Rk [0] 0 c1 ⟨?_⟩|refine R0 c2 ⟨?_⟩|refine Rk [] 4 c3 ⟨?_⟩|refine Rk [0] 0 c4 ⟨?_⟩|refine Rd (fun h=>⟨?_⟩) fun h=>⟨?_⟩|refine Rb ⟨?_⟩|fail
    refine Cd.loop2 (fun mq tm S nx=>∃ (i:Int) (s:Int) (x:Wld) (n:Nat) (h0:List Hld) (h1:List Hld) (h2:List Hld),mq=(i.toNat)∧tm=[(0,.bp 0 0),(2,.bp 1 0),(4,.bp 2 0),(5,.k .i64 i)]∧S=[(0,rd l s),(1,.box 55 [.nil,.nil,.nil,.k .i64 0,.k .i64 0,.nil,.nil,.nil,.nil,.b false,.k .i64 0,.s [],.s [],.s []]),(2,.box 55 (wcO x 3 4 5 6)),(3,.own 132 (x.leases.map Lse.c)),(4,.deep 121 68 [anH h0,anH h1,anH h2]),(5,.own 3 (ck x.floors)),(6,.own 70 (x.net.map Mes.c))]∧nx=7∧(0≤i∧i+n≤48)∧(p≤s∧s≤p+910+45 * (48 - i))∧(ba x=true)∧(dj n x)∧(x.holds=[h0,h1,h2])) ?_ ?_
    · refine la [0,2,4,5] ?_
      conv=>whnf
      refine ⟨rfl,rfl,_,K,q+1,bJ ov0,0,[],[],[],rfl,rfl,rfl,rfl,by omega,by omega,rT ho2,Bx hV2,rfl⟩
    · rintro mq tm S nx ⟨i,s,x,n,h0,h1,h2,hn,rfl,rfl,rfl,hi,hs,hok,hbn,hh⟩;obtain ⟨t,v,ho,hw,hsv⟩:=bB hok;have hb1:=hbn.up (k:=1048575) (by omega);by_cases hi0:0 < i
      · have c7:=fD (m:=m) x.over hb1.over;have hvw:gi x.over=some v:=u5 ho;rw [hvw] at c7;have hvl:=qc hvw;have e4:(x.net.map Mes.c).length=x.net.length:=zAA ..;obtain ⟨e,s',hE,hs',c8⟩:=BA (m:=m) l s v (x.net.length:Int) (by omega) hl (by omega) hvl.2 (by have:=hw.nl; omega);rw [← e4] at c8;obtain ⟨g0,g1,g2,hW,c9⟩:=rc (m:=m) x e (hb1.w (by omega)) ho hw (fun l hl=>(hb1.hs l hl).2) hE.b h0 h1 h2 hh;have d1:=oS hok e;have d2:=hbn.do_ ho hw hE.b;generalize wDo x e=Y at c9 d1 d2 hW;repeat' first|refine Ra ⟨?_⟩|refine R0 c7 ⟨?_⟩|refine Rk [0] 0 c8 ⟨?_⟩|refine Rk [3,4,5,6] 4 c9 ⟨?_⟩|refine Rd (fun h=>⟨?_⟩) fun h=>⟨?_⟩|refine Rb ⟨?_⟩|fail
        refine .here ⟨mq - 1,by omega,?_⟩;refine la [0,2,4,5] ?_
        conv=>whnf
        refine ⟨rfl,rfl,i - 1,s',Y.1,n+1,g0,g1,g2,(by omega),rfl,rfl,rfl,by omega,by omega,d1,d2,hW⟩
      · have c4:=j8 (m:=m) x (hb1.w (by omega)) h0 h1 h2 hh;rw [dV hh] at c4;repeat' first|refine Ra ⟨?_⟩|refine Rk [] 4 c4 ⟨?_⟩|refine Rd (fun h=>⟨?_⟩) fun h=>⟨?_⟩|refine Rb ⟨?_⟩|fail
        refine cv.here ⟨.agg (wcH x h0 h1 h2),[(0,rd l s)],?_,⟨x,s,⟨hok,hbn.up (by omega)⟩,by omega,congrArg D.agg (dV hh).symm,rfl⟩⟩;refine fz ?_
        conv=>whnf
        exact ⟨rfl,rfl,rfl,rfl⟩
 obtain ⟨d,S',⟨w,q,h1,h2,rfl,rfl⟩,hc⟩:=key;exact ⟨w,q,h1,h2,hc⟩
end Go.Proofs.YtagejnomlkfndaaGreatDoor
