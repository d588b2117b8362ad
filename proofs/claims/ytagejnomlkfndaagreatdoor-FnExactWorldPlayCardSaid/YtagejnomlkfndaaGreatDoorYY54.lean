/- Texts of this claim, set close: lemmas and contracts. -/
import Derived.Test.YtagejnomlkfndaaGreatDoorYY46
import Derived.Test.YtagejnomlkfndaaGreatDoorYY51
import Derived.Test.YtagejnomlkfndaaGreatDoorYY45
import Derived.Test.YtagejnomlkfndaaGreatDoorYY4
import Derived.Test.YtagejnomlkfndaaGreatDoorYY39
set_option linter.unusedSimpArgs false
set_option linter.unusedVariables false
set_option maxHeartbeats 1000000
set_option maxRecDepth 10000
namespace Go.Proofs.YtagejnomlkfndaaGreatDoor
open Go Go.RowKit Go.Ab Go.Par
variable {m:Int}
abbrev bxZ (x w:Wld) (z:List aE) (zs:List aE):ac:=[(0,.box 55 (wcG x 8 9 10 11 12 13 14)),(5,.fr (w.over.base.map Ent.c)),(6,.fr (w.over.layers.map cm)),(7,.fr (w.over.upper.map Mrk.c)),(8,.own 66 (x.over.base.map Ent.c)),(9,.deep 32 166 z),(10,.own 166 (x.over.upper.map Mrk.c)),(11,.own 132 (x.leases.map Lse.c)),(12,.deep 121 68 zs),(13,.own 3 (ck x.floors)),(14,.own 70 (x.net.map Mes.c))]
abbrev bxK (x w:Wld) (zs:List aE):ac:=bxZ x w (oZ x.over) zs
theorem Ep {x w:Wld} {z zs:List aE} (h:z=oZ x.over):bxZ x w z zs=bxK x w zs:=by rw [h]
theorem JU {c:Nat} {l:List Nat} {x w:Wld} {h0 h1 h2:List Hld} (h:ltB c l=true) (hc:Nat.ble 15 c=true):(ltB c l && kC c (bxK x w [anH h0,anH h1,anH h2]))=true:=by
 have hc:=zAC hc;simp only [h,kC,cz,eU,zAx,wcG,j9,nmA,List.append_nil,zBB,zAh,ltB,dL,anH,zBO,zAE,Nat.blt_eq];omega
theorem Bt (w:Wld) (zs:List aE) (hb:dO w) (hok:ba w=true) (h0 h1 h2:List Hld) (hh:w.holds=[h0,h1,h2]) (hz:zs=[anH h0,anH h1,anH h2]) (hne:¬ (w.waits=true∧dg (Go.Par.seen w.over) w.clock w.leases w.op=[])):Con (E m) 77 8 [.bp 0 0] (bxI w zs) (.k .i64 (eI w).2) (bxJ (eI w).1 zs):=by
 have hll:=hb.ll;have hnl:=hb.nl;subst hz;obtain ⟨t,v,ho,hw,hs⟩:=bB hok;have hx:eZ w w.op=dg (Go.Par.seen w.over) w.clock w.leases w.op:=by rw [eZ,if_pos hok]
 have c1:=j6 (m:=m) w w.op hb hb.op;rw [hx,Wld.c,hh] at c1;have hbl:=nw (v:=Go.Par.seen w.over) (clk:=w.clock) (ls:=w.leases) (p:=w.op);cases hwt:w.waits with
 | false=>
   have q:eI w=(w,22):=by rw [eI,if_pos hwt]
   rw [q];refine G0 Tryz.func77 ?_;repeat' first|refine Rx ⟨?_⟩|refine Rd (fun h=>⟨?_⟩) fun h=>⟨?_⟩|fail
   refine ak.here (fw [.anew 1,.close 2,.anew 3,.anew 4] ?_)
   conv=>whnf
   exact ⟨rfl,rfl,rfl,rfl⟩
 | true=>
   have hbr:¬ dg (Go.Par.seen w.over) w.clock w.leases w.op=[]:=fun h=>hne ⟨hwt,h⟩;have q:eI w=({ w with net:=dQ w.net w.count (dg (Go.Par.seen w.over) w.clock w.leases w.op) },20):=by rw [eI,if_neg (by simp [hwt]),if_neg hbr]
   rw [q];have hpos:0 < (dg (Go.Par.seen w.over) w.clock w.leases w.op).length:=List.length_pos_iff.2 hbr;generalize dg (Go.Par.seen w.over) w.clock w.leases w.op=B at c1 hbl hpos;have c2:=Bc (m:=m) w [anH h0,anH h1,anH h2] B hnl (by omega) h0 h1 h2 rfl;have e2:(B.map Lse.c).length=B.length:=zAA ..;refine G0 Tryz.func77 ?_;repeat' first|refine Ra ⟨?_⟩|(refine ⟨[],_,_,_,_,1,⟨rfl,rfl,rfl,c1,rfl,rfl⟩,.inl ⟨[],trivial,rfl,.inl ⟨by simp [ay,aD,aj],by simp [aF,aG,aj,Ent.c,Mrk.c,Opn.c,Lse.c,Hld.c,Mes.c,az,anH]⟩,?_⟩⟩ <;> conv=>whnf)|refine Rk [0,1,2,3,4,5,6,7] 4 c2 ⟨?_⟩|refine Rd (fun h=>⟨?_⟩) fun h=>⟨?_⟩|refine Rb ⟨?_⟩|fail
   exact Rf
theorem xj (w:Wld) (zs:List aE) (hb:dO w) (hok:ba w=true) (h0 h1 h2:List Hld) (hh:w.holds=[h0,h1,h2]) (hz:zs=[anH h0,anH h1,anH h2]) (hwt:w.waits=true) (hbr:dg (Go.Par.seen w.over) w.clock w.leases w.op=[]):Con (E m) 77 8 [.bp 0 0] (bxI w zs) (.k .i64 (eI w).2) (bxK (eI w).1 w zs):=by
 subst hz;have hx:eZ w w.op=dg (Go.Par.seen w.over) w.clock w.leases w.op:=by rw [eZ,if_pos hok]
 have c1:=j6 (m:=m) w w.op hb hb.op;rw [hx,Wld.c,hh] at c1;have c3:=zb (m:=m) w.over w.op hb.over hb.op;have q:eI w=({ w with over:=(dE w.over w.op).1,waits:=false,op:=op0 },0):=by rw [eI,if_neg (by simp [hwt]),if_pos hbr]
 rw [q];rw [hbr] at c1;generalize dE w.over w.op=Y at c3;refine G0 Tryz.func77 ?_;repeat' first|refine Ra ⟨?_⟩|(refine ⟨[],_,_,_,_,1,⟨rfl,rfl,rfl,c1,rfl,rfl⟩,.inl ⟨[],trivial,rfl,.inl ⟨by simp [ay,aD,aj],by simp [aF,aG,aj,Ent.c,Mrk.c,Opn.c,Lse.c,Hld.c,Mes.c,az,anH]⟩,?_⟩⟩ <;> conv=>whnf)|(refine ⟨[],_,_,_,_,3,⟨rfl,rfl,rfl,c3,rfl,Ie rfl⟩,.inl ⟨[],trivial,rfl,.inl ⟨by simp [ay,aD,aj],Hp _⟩,?_⟩⟩ <;> conv=>whnf)|refine Rd (fun h=>⟨?_⟩) fun h=>⟨?_⟩|refine Rb ⟨?_⟩|fail
 refine ak.here ⟨[.anew 1,.close 2,.anew 3,.anew 4],[0,1,2,3,4,5,6,7,9,10,11,12,13,14,15],?_⟩
 conv=>whnf
 refine ⟨rfl,rfl,rfl,?_⟩;exact Ep (x:={ w with over:=Y.1,waits:=false,op:=op0 }) (by rw [bi,co])
theorem DB (w:Wld) (zs:List aE) (p:Opn) (hb:dO w) (hp:jc 1073741823 p) (hok:ba w=true) (h0 h1 h2:List Hld) (hh:w.holds=[h0,h1,h2]) (hz:zs=[anH h0,anH h1,anH h2]) (hne:¬ (w.waits=false∧(aJ (Go.Par.seen w.over) p).2=0∧dg (Go.Par.seen w.over) w.clock w.leases p=[])):Con (E m) 76 8 [.bp 0 0,.agg p.c] (bxI w zs) (.k .i64 (bQ w p).2) (bxJ (bQ w p).1 zs):=by
 obtain ⟨t,v,ho,hw,hs⟩:=bB hok;have hv:=(ce ho).2.2.2;have c1:=eM (m:=m) w.over hb.over;rw [ho] at c1;have c2:=fY (m:=m) v p (bE0 hv) hp.1 hp.2.1 hp.2.2;cases hwt:w.waits with
 | true=>
   have q:bQ w p=(w,21):=by rw [bQ,if_pos hwt]
   rw [q];subst hz;refine G0 Tryz.func76 ?_;repeat' first|refine Rx ⟨?_⟩|refine Rd (fun h=>⟨?_⟩) fun h=>⟨?_⟩|fail
   refine ak.here (fw [.anew 1,.close 2,.anew 3,.anew 4] ?_)
   conv=>whnf
   exact ⟨rfl,rfl,rfl,rfl⟩
 | false=>
   by_cases hd:(aJ v p).2=0
   · have hop:w.op=op0:=by have:=hw.wt; rw [if_neg (by simp [hwt])] at this; exact this
     have hw':OkW v { w with waits:=true,op:=p }:=by
      have:=hw.waitsOn hd (net:=w.net) hw.nl (fun m hm=>.inl hm)
      exact this
     have hok':ba { w with waits:=true,op:=p }=true:=jZ (w:={ w with waits:=true,op:=p }) ho hw'
     have hb':dO { w with waits:=true,op:=p }:=⟨hb.over,hb.ls,hb.ll,hb.hs,hb.hl,hb.fl,hb.nt,hb.nl,hp⟩
     have c3:=Bt (m:=m) { w with waits:=true,op:=p } zs hb' hok' h0 h1 h2 hh hz (fun h=>hne ⟨hwt,by rw [hs]; exact hd,h.2⟩)
     have q:eI { w with waits:=true,op:=p }=bQ w p:=by
      rw [bQ,if_neg (by simp [hwt]),if_neg (by rw [hs]; simp [hd]),eI,if_neg (by simp)];by_cases hbr:dg (Go.Par.seen w.over) w.clock w.leases p=[]
      · rw [if_pos hbr,if_pos hbr];obtain ⟨a,b,c,d,e,f,g,h,i⟩:=w;simp only at hwt hop;subst hwt hop;rfl
      · rw [if_neg hbr,if_neg hbr]
     rw [q] at c3;have qo:(bQ w p).1.over=w.over:=by
      rw [bQ,if_neg (by simp [hwt]),if_neg (by rw [hs]; simp [hd]),if_neg (fun h=>hne ⟨hwt,by rw [hs]; exact hd,h⟩)]
     unfold bxJ bxQ at c3 ⊢;rw [qo] at c3 ⊢;subst hz;refine G0 Tryz.func76 ?_;repeat' first|refine Ra ⟨?_⟩|refine R0 c1 ⟨?_⟩|refine Rk [] 1 c2 ⟨?_⟩|refine Rk [0,1,2,3,4,5,6,7] 4 c3 ⟨?_⟩|refine Rd (fun h=>⟨?_⟩) fun h=>⟨?_⟩|refine Rb ⟨?_⟩|fail
     exact Rf
   · have q:bQ w p=(w,(aJ v p).2):=by rw [bQ,if_neg (by simp [hwt]),if_pos (by rw [hs]; exact hd),hs]
     rw [q];subst hz;refine G0 Tryz.func76 ?_;repeat' first|refine Ra ⟨?_⟩|refine R0 c1 ⟨?_⟩|refine Rk [] 1 c2 ⟨?_⟩|refine Rd (fun h=>⟨?_⟩) fun h=>⟨?_⟩|refine Rb ⟨?_⟩|fail
     refine ak.here (fw [.anew 1,.close 2,.anew 3,.anew 4] ?_)
     conv=>whnf
     exact ⟨rfl,rfl,rfl,rfl⟩
theorem Bu (w:Wld) (zs:List aE) (p:Opn) (hb:dO w) (hp:jc 1073741823 p) (hok:ba w=true) (h0 h1 h2:List Hld) (hh:w.holds=[h0,h1,h2]) (hz:zs=[anH h0,anH h1,anH h2]) (hwt:w.waits=false) (hd:(aJ (Go.Par.seen w.over) p).2=0) (hbr:dg (Go.Par.seen w.over) w.clock w.leases p=[]):Con (E m) 76 8 [.bp 0 0,.agg p.c] (bxI w zs) (.k .i64 (bQ w p).2) (bxK (bQ w p).1 w zs):=by
 obtain ⟨t,v,ho,hw,hs⟩:=bB hok;have hv:=(ce ho).2.2.2;have c1:=eM (m:=m) w.over hb.over;rw [ho] at c1;have c2:=fY (m:=m) v p (bE0 hv) hp.1 hp.2.1 hp.2.2;have hd':(aJ v p).2=0:=by rw [← hs]; exact hd
 have hop:w.op=op0:=by have:=hw.wt; rw [if_neg (by simp [hwt])] at this; exact this
 have hw':OkW v { w with waits:=true,op:=p }:=by
  have:=hw.waitsOn hd' (net:=w.net) hw.nl (fun m hm=>.inl hm)
  exact this
 have hok':ba { w with waits:=true,op:=p }=true:=jZ (w:={ w with waits:=true,op:=p }) ho hw'
 have hb':dO { w with waits:=true,op:=p }:=⟨hb.over,hb.ls,hb.ll,hb.hs,hb.hl,hb.fl,hb.nt,hb.nl,hp⟩
 have c3:=xj (m:=m) { w with waits:=true,op:=p } zs hb' hok' h0 h1 h2 hh hz rfl hbr
 have q:eI { w with waits:=true,op:=p }=bQ w p:=by
  rw [bQ,if_neg (by simp [hwt]),if_neg (by simp [hd]),eI,if_neg (by simp)];rw [if_pos hbr,if_pos hbr];obtain ⟨a,b,c,d,e,f,g,h,i⟩:=w;simp only at hwt hop;subst hwt hop;rfl
 rw [q] at c3;generalize bQ w p=Y at c3;subst hz;refine G0 Tryz.func76 ?_;repeat' first|refine Ra ⟨?_⟩|refine R0 c1 ⟨?_⟩|refine Rk [] 1 c2 ⟨?_⟩|(refine ⟨[0,1,2,3,4,5,6,7],_,_,_,_,7,⟨rfl,rfl,rfl,c3,rfl,JU rfl rfl⟩,.inl ⟨[],trivial,rfl,.inr rfl,?_⟩⟩ <;> conv=>whnf)|refine Rd (fun h=>⟨?_⟩) fun h=>⟨?_⟩|refine Rb ⟨?_⟩|fail
 refine ak.here ⟨[],[0,1,2,3,4,5,6,7,10,11,12,13,14,15,16],?_⟩
 conv=>whnf
 refine ⟨rfl,rfl,rfl,?_⟩;exact Ep (x:=Y.1) (by rw [bi,co])
variable {m:Int}
abbrev wTz (w:Wld) (z zs:List aE):ac:=[(0,.own 66 (w.over.base.map Ent.c)),(1,.deep 32 166 z),(2,.own 166 (w.over.upper.map Mrk.c)),(3,.own 132 (w.leases.map Lse.c)),(4,.deep 121 68 zs),(5,.own 3 (ck w.floors)),(6,.own 70 (w.net.map Mes.c))]
theorem ob {w:Wld} {h0 h1 h2:List Hld} (hh:w.holds=[h0,h1,h2]):hZ w=[anH h0,anH h1,anH h2]:=by
 unfold hZ;rw [hh];rfl
theorem Ii {w:Wld} {z zs:List aE} (h:z=oZ w.over):wTz w z zs=wTz w (oZ w.over) zs:=by rw [h]
theorem vN {c:Nat} {l:List Nat} {w:Wld} {h0 h1 h2:List Hld} (h:ltB c l=true):(ltB c l && kC c (wTz w (oZ w.over) [anH h0,anH h1,anH h2]))=true:=by
 simp only [h,kC,cz,eU];rfl
abbrev cpS (o:Ovr) (clk cnt:Int) (ls:List Lse) (h0 h1 h2:List Hld) (fl:List Int) (nt:List Mes) (wt:Bool) (op:Opn) (z zs:List aE):ac:=[(0,.box 55 (Wld.c ⟨o,clk,cnt,ls,[h0,h1,h2],fl,nt,wt,op⟩)),(1,.box 55 [.nil,.nil,.nil,.k .i64 0,.k .i64 0,.nil,.nil,.nil,.nil,.b false,.k .i64 0,.s [],.s [],.s []]),(2,.box 55 [.own 3,.own 4,.own 5,.k .i64 clk,.k .i64 cnt,.own 6,.own 7,.sl (ck fl),.sl (nt.map Mes.c),.b wt,.k .i64 op.kind,.s op.path,.s op.tgt,.s op.data]),(3,.own 66 (o.base.map Ent.c)),(4,.deep 32 166 z),(5,.own 166 (o.upper.map Mrk.c)),(6,.own 132 (ls.map Lse.c)),(7,.deep 121 68 zs)]
theorem sJ {o:Ovr} {clk cnt:Int} {ls:List Lse} {h0 h1 h2:List Hld} {fl:List Int} {nt:List Mes} {wt:Bool} {op:Opn} {z zs:List aE} (h:z=oZ o):cpS o clk cnt ls h0 h1 h2 fl nt wt op z zs=cpS o clk cnt ls h0 h1 h2 fl nt wt op (oZ o) zs:=by rw [h]
theorem uZ (w:Wld) (hb:dO w) (h0 h1 h2:List Hld) (hh:w.holds=[h0,h1,h2]):Con (E m) 73 0 [.agg w.c] [] (.agg (wcT w 0 1 2 3 4 5 6)) (wTz w (oZ w.over) [anH h0,anH h1,anH h2]):=by
 have hll:=hb.ll;have hfl:=hb.fl;have hnl:=hb.nl;have l0:=(hb.hs h0 (by rw [hh]; simp)).2;have l1:=(hb.hs h1 (by rw [hh]; simp)).2;have l2:=(hb.hs h2 (by rw [hh]; simp)).2;have e2:(w.leases.map Lse.c).length=w.leases.length:=zAA ..;have e3:(ck w.floors).length=w.floors.length:=zAA ..;have e4:(w.net.map Mes.c).length=w.net.length:=zAA ..;have m0:(h0.map Hld.c).length=h0.length:=zAA ..;have m1:(h1.map Hld.c).length=h1.length:=zAA ..;have m2:(h2.map Hld.c).length=h2.length:=zAA ..;have c1:=cH (oa (m:=m) w.over hb.over);clear hb;obtain ⟨o,clk,cnt,ls,hs,fl,nt,wt,op⟩:=w;simp only at hh hll hfl hnl e2 e3 e4 c1;subst hh;refine cE ?_;refine bK DS HW Tryz.func73 rfl rfl rfl (zAC rfl) ?_;repeat' first|refine Ra ⟨?_⟩|(refine Rc [] 3 rfl rfl c1 ?_ rfl rfl (Ie rfl) <;> conv=>whnf)|refine Rd (fun h=>⟨?_⟩) fun h=>⟨?_⟩|refine Rb ⟨?_⟩|fail
 refine Cd.loop2 (fun mq tm S nx=>∃ (i:Nat) (zs:List aE),mq=(3 - i)∧tm=[(1,.bp 0 0),(2,.bp 1 0),(3,.bp 2 0),(17,.sl [cy h0,cy h1,cy h2]),(18,.k .i64 (([cy h0,cy h1,cy h2]:List (List D)).length:Int)),(19,.k .i64 i)]∧S=[(0,.box 55 (Wld.c ⟨o,clk,cnt,ls,[h0,h1,h2],fl,nt,wt,op⟩)),(1,.box 55 [.nil,.nil,.nil,.k .i64 0,.k .i64 0,.nil,.nil,.nil,.nil,.b false,.k .i64 0,.s [],.s [],.s []]),(2,.box 55 [.own 3,.own 4,.own 5,.k .i64 clk,.k .i64 cnt,.own 6,.own 7,.sl (ck fl),.sl (nt.map Mes.c),.b wt,.k .i64 op.kind,.s op.path,.s op.tgt,.s op.data]),(3,.own 66 (o.base.map Ent.c)),(4,.deep 32 166 (oZ o)),(5,.own 166 (o.upper.map Mrk.c)),(6,.own 132 (ls.map Lse.c)),(7,.deep 121 68 zs)]∧nx=8∧(i≤3)∧(zs=[anH h0,anH h1,anH h2].take i)) ?_ ?_
 · refine ⟨[.thawD 2 6 121 68],[1,2,3,17,18,19],[0,1,2,3,4,5,6,7],?_⟩
   conv=>whnf
   refine ⟨rfl,rfl,_,0,[],rfl,rfl,?_,rfl,by omega,rfl⟩;exact sJ (by rw [bi,co])
 · rintro mq tm S nx ⟨i,zs,hn,rfl,rfl,rfl,hi,hz⟩;obtain rfl|rfl|rfl|rfl:i=0∨i=1∨i=2∨i=3:=by omega
   · have hz:zs=[]:=hz;subst hz;repeat' first|refine Rx ⟨?_⟩|refine Rd (fun h=>⟨?_⟩) fun h=>⟨?_⟩|fail
     refine .here ⟨mq - 1,by omega,?_⟩;refine ⟨[],[1,2,3,17,18,19],[0,1,2,3,4,5,6,10],?_⟩
     conv=>whnf
     refine ⟨rfl,rfl,1,[anH h0],by omega,rfl,?_,rfl,by omega,rfl⟩;exact sJ (co _ _)
   · have hz:zs=[anH h0]:=hz;subst hz;repeat' first|refine Ra ⟨?_⟩|((refine ⟨1,_,rfl,rfl,rfl,?_⟩) <;> conv=>whnf)|refine Rd (fun h=>⟨?_⟩) fun h=>⟨?_⟩|refine Rb ⟨?_⟩|fail
     refine .here ⟨mq - 1,by omega,?_⟩;refine ⟨[],[1,2,3,17,18,19],[0,1,2,3,4,5,6,10],?_⟩
     conv=>whnf
     refine ⟨rfl,rfl,2,[anH h0,anH h1],by omega,rfl,?_,rfl,by omega,rfl⟩;exact sJ (co _ _)
   · have hz:zs=[anH h0,anH h1]:=hz;subst hz;repeat' first|refine Ra ⟨?_⟩|((refine ⟨2,_,rfl,rfl,rfl,?_⟩) <;> conv=>whnf)|refine Rd (fun h=>⟨?_⟩) fun h=>⟨?_⟩|refine Rb ⟨?_⟩|fail
     refine .here ⟨mq - 1,by omega,?_⟩;refine ⟨[],[1,2,3,17,18,19],[0,1,2,3,4,5,6,10],?_⟩
     conv=>whnf
     refine ⟨rfl,rfl,3,[anH h0,anH h1,anH h2],by omega,rfl,?_,rfl,by omega,rfl⟩;exact sJ (co _ _)
   · have hz:zs=[anH h0,anH h1,anH h2]:=hz;subst hz;repeat' first|refine Rx ⟨?_⟩|refine Rd (fun h=>⟨?_⟩) fun h=>⟨?_⟩|fail
     refine ak.here ⟨[],[3,4,5,6,7,8,9],?_⟩
     conv=>whnf
     refine ⟨rfl,rfl,rfl,?_⟩;exact Ii (w:=⟨o,clk,cnt,ls,[h0,h1,h2],fl,nt,wt,op⟩) (co _ _)
abbrev oL (w:Wld):ac:=[(5,.own 66 (w.over.base.map Ent.c)),(6,.deep 32 166 (oZ w.over)),(7,.own 166 (w.over.upper.map Mrk.c))]
theorem Ij (o:Ovr):(o.layers.map fun l=>l.map Mrk.c).map (fun xs=>[D.sl xs])=o.layers.map cm:=by
 rw [zBE];rfl
theorem zk (w:Wld):frL (oL w)=[(5,.fr (w.over.base.map Ent.c)),(6,.fr (w.over.layers.map cm)),(7,.fr (w.over.upper.map Mrk.c))]:=by
 simp only [oL,frL,imB,kH,Ij]
abbrev Ik (w:Wld) (zs:List aE):ac:=[(0,.box 55 (wcG w 5 6 7 1 2 3 4)),(1,.own 132 (w.leases.map Lse.c)),(2,.deep 121 68 zs),(3,.own 3 (ck w.floors)),(4,.own 70 (w.net.map Mes.c))]
abbrev Il (w:Wld) (zs:List aE):ac:=[(0,.box 55 (wcG w 5 6 7 8 9 10 11)),(8,.own 132 (w.leases.map Lse.c)),(9,.deep 121 68 zs),(10,.own 3 (ck w.floors)),(11,.own 70 (w.net.map Mes.c))]
abbrev Im (x:Wld) (zs:List aE):ac:=[(0,.box 55 (wcG x 8 9 10 11 12 13 14)),(8,.own 66 (x.over.base.map Ent.c)),(9,.deep 32 166 (oZ x.over)),(10,.own 166 (x.over.upper.map Mrk.c)),(11,.own 132 (x.leases.map Lse.c)),(12,.deep 121 68 zs),(13,.own 3 (ck x.floors)),(14,.own 70 (x.net.map Mes.c))]
theorem eQ {α:Type} (f:α→List D) (l:List α) (h:∀ x,∀ d∈f x,aj d):∀ cs∈l.map f,∀ d∈cs,aj d:=by
 intro cs hcs d hd;obtain ⟨x,_,rfl⟩:=List.mem_map.1 hcs;exact h x d hd
theorem JH (x:Ent):∀ d∈Ent.c x,aj d:=by simp [Ent.c,aj]
theorem Ji (x:Mrk):∀ d∈Mrk.c x,aj d:=by simp [Mrk.c,aj]
theorem Jj (x:Lse):∀ d∈Lse.c x,aj d:=by simp [Lse.c,aj]
theorem JI (x:Hld):∀ d∈Hld.c x,aj d:=by simp [Hld.c,aj]
theorem Jk (x:Mes):∀ d∈Mes.c x,aj d:=by simp [Mes.c,aj]
theorem Jl (x:Int):∀ d∈[D.k .i64 x],aj d:=by simp [aj]
theorem IG (h0 h1 h2:List Hld):∀ z∈[anH h0,anH h1,anH h2],az aj z:=by
 intro z hz;simp only [List.mem_cons,List.not_mem_nil,or_false] at hz;rcases hz with rfl|rfl|rfl <;> exact eQ _ _ JI
theorem IH (o:Ovr):∀ z∈oZ o,az aj z:=by
 intro z hz;obtain ⟨xs,hxs,rfl⟩:=List.mem_map.1 hz;obtain ⟨l,_,rfl⟩:=List.mem_map.1 hxs;exact eQ _ _ Ji
theorem Hx (w:Wld) (a b c d e f g:Nat):∀ x∈wcG w a b c d e f g,aj x:=by simp [wcG,aj]
theorem JJ (w:Wld) (h0 h1 h2:List Hld):aF (Il w [anH h0,anH h1,anH h2]):=by
 intro p hp;simp only [List.mem_cons,List.not_mem_nil,or_false] at hp;rcases hp with rfl|rfl|rfl|rfl|rfl
 · exact Hx _ _ _ _ _ _ _ _
 · exact eQ _ _ Jj
 · exact IG h0 h1 h2
 · exact eQ _ _ Jl
 · exact eQ _ _ Jk
theorem JK (w:Wld) (h0 h1 h2:List Hld):aF (Im w [anH h0,anH h1,anH h2]):=by
 intro p hp;simp only [List.mem_cons,List.not_mem_nil,or_false] at hp;rcases hp with rfl|rfl|rfl|rfl|rfl|rfl|rfl|rfl
 · exact Hx _ _ _ _ _ _ _ _
 · exact eQ _ _ JH
 · exact IH _
 · exact eQ _ _ Ji
 · exact eQ _ _ Jj
 · exact IG h0 h1 h2
 · exact eQ _ _ Jl
 · exact eQ _ _ Jk
section
variable {E:Env} {f:FuncId} {cds:List D} {d:D} {w w':Wld} {zs:List aE} {h0 h1 h2:List Hld}
theorem JL:ro 8 (Ik w zs) (Il w' [anH h0,anH h1,anH h2]) (oL w)=true:=by
 simp only [ro,imB,kH];rfl
theorem JM:ro 8 (Ik w zs) (Im w' [anH h0,anH h1,anH h2]) (oL w)=true:=by
 simp only [ro,imB,kH];rfl
theorem unQ (c:Con E f 8 cds (bxI w zs) d (bxJ w' [anH h0,anH h1,anH h2])) (ho:w'.over=w.over) (hd:ay d):Con E f 8 cds (Ik w zs++oL w) d (Il w' [anH h0,anH h1,anH h2]++oL w):=by
 refine Con.unlend (c.same (fun t=>?_) (fun t=>?_)) JL hd (JJ w' h0 h1 h2)
 · rw [zk];rfl
 · rw [zk,← ho]
   match t with
   | 0=>rfl
   | 1=>rfl
   | 2=>rfl
   | 3=>rfl
   | 4=>rfl
   | 5=>rfl
   | 6=>rfl
   | 7=>rfl
   | 8=>rfl
   | 9=>rfl
   | 10=>rfl
   | 11=>rfl
   | n+12=>rfl
theorem unK (c:Con E f 8 cds (bxI w zs) d (bxK w' w [anH h0,anH h1,anH h2])) (hd:ay d):Con E f 8 cds (Ik w zs++oL w) d (Im w' [anH h0,anH h1,anH h2]++oL w):=by
 refine Con.unlend (c.same (fun t=>?_) (fun t=>?_)) JM hd (JK w' h0 h1 h2)
 · rw [zk];rfl
 · rw [zk]
   match t with
   | 0=>rfl
   | 1=>rfl
   | 2=>rfl
   | 3=>rfl
   | 4=>rfl
   | 5=>rfl
   | 6=>rfl
   | 7=>rfl
   | 8=>rfl
   | 9=>rfl
   | 10=>rfl
   | 11=>rfl
   | 12=>rfl
   | 13=>rfl
   | 14=>rfl
   | n+15=>rfl
end
end Go.Proofs.YtagejnomlkfndaaGreatDoor
