/- Texts of this claim, set close: lemmas and contracts. -/
import Derived.Test.YtagejnomlkfndaaGreatDoorYY40
import Derived.Test.YtagejnomlkfndaaGreatDoorYY33
import Derived.Test.YtagejnomlkfndaaGreatDoorYY38
import Derived.Test.YtagejnomlkfndaaGreatDoorYY37
import Derived.Test.YtagejnomlkfndaaGreatDoorYY4
import Derived.Test.YtagejnomlkfndaaGreatDoorYY34
set_option linter.unusedSimpArgs false
set_option linter.unusedVariables false
set_option maxHeartbeats 1000000
set_option maxRecDepth 10000
namespace Go.Proofs.YtagejnomlkfndaaGreatDoor
open Go Go.RowKit Go.Ab Go.Par
variable {m:Int}
abbrev bxZ (x w:Wld) (z:List av) (zs:List av):ab:=[(0,.box 55 (wcG x 8 9 10 11 12 13 14)),(5,.fr (w.over.base.map Ent.c)),(6,.fr (w.over.layers.map cv)),(7,.fr (w.over.upper.map Mrk.c)),(8,.own 66 (x.over.base.map Ent.c)),(9,.deep 32 166 z),(10,.own 166 (x.over.upper.map Mrk.c)),(11,.own 132 (x.leases.map Lse.c)),(12,.deep 121 68 zs),(13,.own 3 (bg x.floors)),(14,.own 70 (x.net.map Mes.c))]
abbrev bxK (x w:Wld) (zs:List av):ab:=bxZ x w (oZ x.over) zs
theorem Bu {x w:Wld} {z zs:List av} (h:z=oZ x.over):bxZ x w z zs=bxK x w zs:=by rw [h]
theorem GV {c:Nat} {l:List Nat} {x w:Wld} {h0 h1 h2:List Hld} (h:ltB c l=true) (hc:Nat.ble 15 c=true):(ltB c l && gQ c (bxK x w [anH h0,anH h1,anH h2]))=true:=by
 have hc:=zAC hc;simp only [h,gQ,bK,dr,zAv,wcG,iU,nmA,List.append_nil,zAw,zAk,ltB,dH,anH,zBI,zAE,Nat.blt_eq];omega
theorem yH (w:Wld) (zs:List av) (hb:dh w) (hok:aP w=true) (h0 h1 h2:List Hld) (hh:w.holds=[h0,h1,h2]) (hz:zs=[anH h0,anH h1,anH h2]) (hne:¬ (w.waits=true∧cw (Go.Par.seen w.over) w.clock w.leases w.op=[])):Con (E m) 77 8 [.bp 0 0] (bxI w zs) (.k .i64 (dF w).2) (bxJ (dF w).1 zs):=by
 have hll:=hb.ll;have hnl:=hb.nl;subst hz;obtain ⟨t,v,ho,hw,hs⟩:=br hok;have hx:dX w w.op=cw (Go.Par.seen w.over) w.clock w.leases w.op:=by rw [dX,if_pos hok]
 have c1:=iT (m:=m) w w.op hb hb.op;rw [hx,Wld.c,hh] at c1;have hbl:=lQ (v:=Go.Par.seen w.over) (clk:=w.clock) (ls:=w.leases) (p:=w.op);cases hwt:w.waits with
 | false=>
   have q:dF w=(w,22):=by rw [dF,if_pos hwt]
   rw [q];refine G0 Tryz.func77 ?_;repeat' first|refine Rx ⟨?_⟩|refine Rd (fun h=>⟨?_⟩) fun h=>⟨?_⟩|fail
   refine af.here (fw [.anew 1,.close 2,.anew 3,.anew 4] ?_)
   conv=>whnf
   exact ⟨rfl,rfl,rfl,rfl⟩
 | true=>
   have hbr:¬ cw (Go.Par.seen w.over) w.clock w.leases w.op=[]:=fun h=>hne ⟨hwt,h⟩;have q:dF w=({ w with net:=dg w.net w.count (cw (Go.Par.seen w.over) w.clock w.leases w.op) },20):=by rw [dF,if_neg (by simp [hwt]),if_neg hbr]
   rw [q];have hpos:0 < (cw (Go.Par.seen w.over) w.clock w.leases w.op).length:=List.length_pos_iff.2 hbr;generalize cw (Go.Par.seen w.over) w.clock w.leases w.op=B at c1 hbl hpos;have c2:=yE (m:=m) w [anH h0,anH h1,anH h2] B hnl (by omega) h0 h1 h2 rfl;have e2:(B.map Lse.c).length=B.length:=zAA ..;refine G0 Tryz.func77 ?_;repeat' first|refine Ra ⟨?_⟩|(refine ⟨[],_,_,_,_,1,⟨rfl,rfl,rfl,c1,rfl,rfl⟩,.inl ⟨[],trivial,rfl,.inl ⟨by simp [ak,am,ac],by simp [ao,aw,ac,Ent.c,Mrk.c,Opn.c,Lse.c,Hld.c,Mes.c,au,anH]⟩,?_⟩⟩ <;> conv=>whnf)|refine Rk [0,1,2,3,4,5,6,7] 4 c2 ⟨?_⟩|refine Rd (fun h=>⟨?_⟩) fun h=>⟨?_⟩|refine Rb ⟨?_⟩|fail
   exact Rf
theorem uL (w:Wld) (zs:List av) (hb:dh w) (hok:aP w=true) (h0 h1 h2:List Hld) (hh:w.holds=[h0,h1,h2]) (hz:zs=[anH h0,anH h1,anH h2]) (hwt:w.waits=true) (hbr:cw (Go.Par.seen w.over) w.clock w.leases w.op=[]):Con (E m) 77 8 [.bp 0 0] (bxI w zs) (.k .i64 (dF w).2) (bxK (dF w).1 w zs):=by
 subst hz;have hx:dX w w.op=cw (Go.Par.seen w.over) w.clock w.leases w.op:=by rw [dX,if_pos hok]
 have c1:=iT (m:=m) w w.op hb hb.op;rw [hx,Wld.c,hh] at c1;have c3:=n9 (m:=m) w.over w.op hb.over hb.op;have q:dF w=({ w with over:=(cf w.over w.op).1,waits:=false,op:=op0 },0):=by rw [dF,if_neg (by simp [hwt]),if_pos hbr]
 rw [q];rw [hbr] at c1;generalize cf w.over w.op=Y at c3;refine G0 Tryz.func77 ?_;repeat' first|refine Ra ⟨?_⟩|(refine ⟨[],_,_,_,_,1,⟨rfl,rfl,rfl,c1,rfl,rfl⟩,.inl ⟨[],trivial,rfl,.inl ⟨by simp [ak,am,ac],by simp [ao,aw,ac,Ent.c,Mrk.c,Opn.c,Lse.c,Hld.c,Mes.c,au,anH]⟩,?_⟩⟩ <;> conv=>whnf)|(refine ⟨[],_,_,_,_,3,⟨rfl,rfl,rfl,c3,rfl,Ag rfl⟩,.inl ⟨[],trivial,rfl,.inl ⟨by simp [ak,am,ac],lp _⟩,?_⟩⟩ <;> conv=>whnf)|refine Rd (fun h=>⟨?_⟩) fun h=>⟨?_⟩|refine Rb ⟨?_⟩|fail
 refine af.here ⟨[.anew 1,.close 2,.anew 3,.anew 4],[0,1,2,3,4,5,6,7,9,10,11,12,13,14,15],?_⟩
 conv=>whnf
 refine ⟨rfl,rfl,rfl,?_⟩;exact Bu (x:={ w with over:=Y.1,waits:=false,op:=op0 }) (by rw [ax,bj])
theorem AA (w:Wld) (zs:List av) (p:Opn) (hb:dh w) (hp:jK 1073741823 p) (hok:aP w=true) (h0 h1 h2:List Hld) (hh:w.holds=[h0,h1,h2]) (hz:zs=[anH h0,anH h1,anH h2]) (hne:¬ (w.waits=false∧(aC (Go.Par.seen w.over) p).2=0∧cw (Go.Par.seen w.over) w.clock w.leases p=[])):Con (E m) 76 8 [.bp 0 0,.agg p.c] (bxI w zs) (.k .i64 (bA w p).2) (bxJ (bA w p).1 zs):=by
 obtain ⟨t,v,ho,hw,hs⟩:=br hok;have hv:=(cm ho).2.2.2;have c1:=dK (m:=m) w.over hb.over;rw [ho] at c1;have c2:=eI (m:=m) v p (bE0 hv) hp.1 hp.2.1 hp.2.2;cases hwt:w.waits with
 | true=>
   have q:bA w p=(w,21):=by rw [bA,if_pos hwt]
   rw [q];subst hz;refine G0 Tryz.func76 ?_;repeat' first|refine Rx ⟨?_⟩|refine Rd (fun h=>⟨?_⟩) fun h=>⟨?_⟩|fail
   refine af.here (fw [.anew 1,.close 2,.anew 3,.anew 4] ?_)
   conv=>whnf
   exact ⟨rfl,rfl,rfl,rfl⟩
 | false=>
   by_cases hd:(aC v p).2=0
   · have hop:w.op=op0:=by have:=hw.wt; rw [if_neg (by simp [hwt])] at this; exact this
     have hw':OkW v { w with waits:=true,op:=p }:=by
      have:=hw.waitsOn hd (net:=w.net) hw.nl (fun m hm=>.inl hm)
      exact this
     have hok':aP { w with waits:=true,op:=p }=true:=iR (w:={ w with waits:=true,op:=p }) ho hw'
     have hb':dh { w with waits:=true,op:=p }:=⟨hb.over,hb.ls,hb.ll,hb.hs,hb.hl,hb.fl,hb.nt,hb.nl,hp⟩
     have c3:=yH (m:=m) { w with waits:=true,op:=p } zs hb' hok' h0 h1 h2 hh hz (fun h=>hne ⟨hwt,by rw [hs]; exact hd,h.2⟩)
     have q:dF { w with waits:=true,op:=p }=bA w p:=by
      rw [bA,if_neg (by simp [hwt]),if_neg (by rw [hs]; simp [hd]),dF,if_neg (by simp)];by_cases hbr:cw (Go.Par.seen w.over) w.clock w.leases p=[]
      · rw [if_pos hbr,if_pos hbr];obtain ⟨a,b,c,d,e,f,g,h,i⟩:=w;simp only at hwt hop;subst hwt hop;rfl
      · rw [if_neg hbr,if_neg hbr]
     rw [q] at c3;have qo:(bA w p).1.over=w.over:=by
      rw [bA,if_neg (by simp [hwt]),if_neg (by rw [hs]; simp [hd]),if_neg (fun h=>hne ⟨hwt,by rw [hs]; exact hd,h⟩)]
     unfold bxJ bxQ at c3 ⊢;rw [qo] at c3 ⊢;subst hz;refine G0 Tryz.func76 ?_;repeat' first|refine Ra ⟨?_⟩|refine R0 c1 ⟨?_⟩|refine Rk [] 1 c2 ⟨?_⟩|refine Rk [0,1,2,3,4,5,6,7] 4 c3 ⟨?_⟩|refine Rd (fun h=>⟨?_⟩) fun h=>⟨?_⟩|refine Rb ⟨?_⟩|fail
     exact Rf
   · have q:bA w p=(w,(aC v p).2):=by rw [bA,if_neg (by simp [hwt]),if_pos (by rw [hs]; exact hd),hs]
     rw [q];subst hz;refine G0 Tryz.func76 ?_;repeat' first|refine Ra ⟨?_⟩|refine R0 c1 ⟨?_⟩|refine Rk [] 1 c2 ⟨?_⟩|refine Rd (fun h=>⟨?_⟩) fun h=>⟨?_⟩|refine Rb ⟨?_⟩|fail
     refine af.here (fw [.anew 1,.close 2,.anew 3,.anew 4] ?_)
     conv=>whnf
     exact ⟨rfl,rfl,rfl,rfl⟩
theorem yI (w:Wld) (zs:List av) (p:Opn) (hb:dh w) (hp:jK 1073741823 p) (hok:aP w=true) (h0 h1 h2:List Hld) (hh:w.holds=[h0,h1,h2]) (hz:zs=[anH h0,anH h1,anH h2]) (hwt:w.waits=false) (hd:(aC (Go.Par.seen w.over) p).2=0) (hbr:cw (Go.Par.seen w.over) w.clock w.leases p=[]):Con (E m) 76 8 [.bp 0 0,.agg p.c] (bxI w zs) (.k .i64 (bA w p).2) (bxK (bA w p).1 w zs):=by
 obtain ⟨t,v,ho,hw,hs⟩:=br hok;have hv:=(cm ho).2.2.2;have c1:=dK (m:=m) w.over hb.over;rw [ho] at c1;have c2:=eI (m:=m) v p (bE0 hv) hp.1 hp.2.1 hp.2.2;have hd':(aC v p).2=0:=by rw [← hs]; exact hd
 have hop:w.op=op0:=by have:=hw.wt; rw [if_neg (by simp [hwt])] at this; exact this
 have hw':OkW v { w with waits:=true,op:=p }:=by
  have:=hw.waitsOn hd' (net:=w.net) hw.nl (fun m hm=>.inl hm)
  exact this
 have hok':aP { w with waits:=true,op:=p }=true:=iR (w:={ w with waits:=true,op:=p }) ho hw'
 have hb':dh { w with waits:=true,op:=p }:=⟨hb.over,hb.ls,hb.ll,hb.hs,hb.hl,hb.fl,hb.nt,hb.nl,hp⟩
 have c3:=uL (m:=m) { w with waits:=true,op:=p } zs hb' hok' h0 h1 h2 hh hz rfl hbr
 have q:dF { w with waits:=true,op:=p }=bA w p:=by
  rw [bA,if_neg (by simp [hwt]),if_neg (by simp [hd]),dF,if_neg (by simp)];rw [if_pos hbr,if_pos hbr];obtain ⟨a,b,c,d,e,f,g,h,i⟩:=w;simp only at hwt hop;subst hwt hop;rfl
 rw [q] at c3;generalize bA w p=Y at c3;subst hz;refine G0 Tryz.func76 ?_;repeat' first|refine Ra ⟨?_⟩|refine R0 c1 ⟨?_⟩|refine Rk [] 1 c2 ⟨?_⟩|(refine ⟨[0,1,2,3,4,5,6,7],_,_,_,_,7,⟨rfl,rfl,rfl,c3,rfl,GV rfl rfl⟩,.inl ⟨[],trivial,rfl,.inr rfl,?_⟩⟩ <;> conv=>whnf)|refine Rd (fun h=>⟨?_⟩) fun h=>⟨?_⟩|refine Rb ⟨?_⟩|fail
 refine af.here ⟨[],[0,1,2,3,4,5,6,7,10,11,12,13,14,15,16],?_⟩
 conv=>whnf
 refine ⟨rfl,rfl,rfl,?_⟩;exact Bu (x:=Y.1) (by rw [ax,bj])
variable {m:Int}
abbrev wTz (w:Wld) (z zs:List av):ab:=[(0,.own 66 (w.over.base.map Ent.c)),(1,.deep 32 166 z),(2,.own 166 (w.over.upper.map Mrk.c)),(3,.own 132 (w.leases.map Lse.c)),(4,.deep 121 68 zs),(5,.own 3 (bg w.floors)),(6,.own 70 (w.net.map Mes.c))]
theorem mn {w:Wld} {h0 h1 h2:List Hld} (hh:w.holds=[h0,h1,h2]):hZ w=[anH h0,anH h1,anH h2]:=by
 unfold hZ;rw [hh];rfl
theorem Fi {w:Wld} {z zs:List av} (h:z=oZ w.over):wTz w z zs=wTz w (oZ w.over) zs:=by rw [h]
theorem tx {c:Nat} {l:List Nat} {w:Wld} {h0 h1 h2:List Hld} (h:ltB c l=true):(ltB c l && gQ c (wTz w (oZ w.over) [anH h0,anH h1,anH h2]))=true:=by
 simp only [h,gQ,bK,dr];rfl
abbrev cpS (o:Ovr) (clk cnt:Int) (ls:List Lse) (h0 h1 h2:List Hld) (fl:List Int) (nt:List Mes) (wt:Bool) (op:Opn) (z zs:List av):ab:=[(0,.box 55 (Wld.c ⟨o,clk,cnt,ls,[h0,h1,h2],fl,nt,wt,op⟩)),(1,.box 55 [.nil,.nil,.nil,.k .i64 0,.k .i64 0,.nil,.nil,.nil,.nil,.b false,.k .i64 0,.s [],.s [],.s []]),(2,.box 55 [.own 3,.own 4,.own 5,.k .i64 clk,.k .i64 cnt,.own 6,.own 7,.sl (bg fl),.sl (nt.map Mes.c),.b wt,.k .i64 op.kind,.s op.path,.s op.to,.s op.data]),(3,.own 66 (o.base.map Ent.c)),(4,.deep 32 166 z),(5,.own 166 (o.upper.map Mrk.c)),(6,.own 132 (ls.map Lse.c)),(7,.deep 121 68 zs)]
theorem qI {o:Ovr} {clk cnt:Int} {ls:List Lse} {h0 h1 h2:List Hld} {fl:List Int} {nt:List Mes} {wt:Bool} {op:Opn} {z zs:List av} (h:z=oZ o):cpS o clk cnt ls h0 h1 h2 fl nt wt op z zs=cpS o clk cnt ls h0 h1 h2 fl nt wt op (oZ o) zs:=by rw [h]
theorem sG (w:Wld) (hb:dh w) (h0 h1 h2:List Hld) (hh:w.holds=[h0,h1,h2]):Con (E m) 73 0 [.agg w.c] [] (.agg (wcT w 0 1 2 3 4 5 6)) (wTz w (oZ w.over) [anH h0,anH h1,anH h2]):=by
 have hll:=hb.ll;have hfl:=hb.fl;have hnl:=hb.nl;have l0:=(hb.hs h0 (by rw [hh]; simp)).2;have l1:=(hb.hs h1 (by rw [hh]; simp)).2;have l2:=(hb.hs h2 (by rw [hh]; simp)).2;have e2:(w.leases.map Lse.c).length=w.leases.length:=zAA ..;have e3:(bg w.floors).length=w.floors.length:=zAA ..;have e4:(w.net.map Mes.c).length=w.net.length:=zAA ..;have m0:(h0.map Hld.c).length=h0.length:=zAA ..;have m1:(h1.map Hld.c).length=h1.length:=zAA ..;have m2:(h2.map Hld.c).length=h2.length:=zAA ..;have c1:=cH (gz (m:=m) w.over hb.over);clear hb;obtain ⟨o,clk,cnt,ls,hs,fl,nt,wt,op⟩:=w;simp only at hh hll hfl hnl e2 e3 e4 c1;subst hh;refine cE ?_;refine ck tZ BV Tryz.func73 rfl rfl rfl (zAC rfl) ?_;repeat' first|refine Ra ⟨?_⟩|(refine Rc [] 3 rfl rfl c1 ?_ rfl rfl (Ag rfl) <;> conv=>whnf)|refine Rd (fun h=>⟨?_⟩) fun h=>⟨?_⟩|refine Rb ⟨?_⟩|fail
 refine Cd.loop2 (fun mq tm S nx=>∃ (i:Nat) (zs:List av),mq=(3 - i)∧tm=[(1,.bp 0 0),(2,.bp 1 0),(3,.bp 2 0),(17,.sl [db h0,db h1,db h2]),(18,.k .i64 (([db h0,db h1,db h2]:List (List D)).length:Int)),(19,.k .i64 i)]∧S=[(0,.box 55 (Wld.c ⟨o,clk,cnt,ls,[h0,h1,h2],fl,nt,wt,op⟩)),(1,.box 55 [.nil,.nil,.nil,.k .i64 0,.k .i64 0,.nil,.nil,.nil,.nil,.b false,.k .i64 0,.s [],.s [],.s []]),(2,.box 55 [.own 3,.own 4,.own 5,.k .i64 clk,.k .i64 cnt,.own 6,.own 7,.sl (bg fl),.sl (nt.map Mes.c),.b wt,.k .i64 op.kind,.s op.path,.s op.to,.s op.data]),(3,.own 66 (o.base.map Ent.c)),(4,.deep 32 166 (oZ o)),(5,.own 166 (o.upper.map Mrk.c)),(6,.own 132 (ls.map Lse.c)),(7,.deep 121 68 zs)]∧nx=8∧(i≤3)∧(zs=[anH h0,anH h1,anH h2].take i)) ?_ ?_
 · refine ⟨[.thawD 2 6 121 68],[1,2,3,17,18,19],[0,1,2,3,4,5,6,7],?_⟩
   conv=>whnf
   refine ⟨rfl,rfl,_,0,[],rfl,rfl,?_,rfl,by omega,rfl⟩;exact qI (by rw [ax,bj])
 · rintro mq tm S nx ⟨i,zs,hn,rfl,rfl,rfl,hi,hz⟩;obtain rfl|rfl|rfl|rfl:i=0∨i=1∨i=2∨i=3:=by omega
   · have hz:zs=[]:=hz;subst hz;repeat' first|refine Rx ⟨?_⟩|refine Rd (fun h=>⟨?_⟩) fun h=>⟨?_⟩|fail
     refine .here ⟨mq - 1,by omega,?_⟩;refine ⟨[],[1,2,3,17,18,19],[0,1,2,3,4,5,6,10],?_⟩
     conv=>whnf
     refine ⟨rfl,rfl,1,[anH h0],by omega,rfl,?_,rfl,by omega,rfl⟩;exact qI (bj _ _)
   · have hz:zs=[anH h0]:=hz;subst hz;repeat' first|refine Ra ⟨?_⟩|((refine ⟨1,_,rfl,rfl,rfl,?_⟩) <;> conv=>whnf)|refine Rd (fun h=>⟨?_⟩) fun h=>⟨?_⟩|refine Rb ⟨?_⟩|fail
     refine .here ⟨mq - 1,by omega,?_⟩;refine ⟨[],[1,2,3,17,18,19],[0,1,2,3,4,5,6,10],?_⟩
     conv=>whnf
     refine ⟨rfl,rfl,2,[anH h0,anH h1],by omega,rfl,?_,rfl,by omega,rfl⟩;exact qI (bj _ _)
   · have hz:zs=[anH h0,anH h1]:=hz;subst hz;repeat' first|refine Ra ⟨?_⟩|((refine ⟨2,_,rfl,rfl,rfl,?_⟩) <;> conv=>whnf)|refine Rd (fun h=>⟨?_⟩) fun h=>⟨?_⟩|refine Rb ⟨?_⟩|fail
     refine .here ⟨mq - 1,by omega,?_⟩;refine ⟨[],[1,2,3,17,18,19],[0,1,2,3,4,5,6,10],?_⟩
     conv=>whnf
     refine ⟨rfl,rfl,3,[anH h0,anH h1,anH h2],by omega,rfl,?_,rfl,by omega,rfl⟩;exact qI (bj _ _)
   · have hz:zs=[anH h0,anH h1,anH h2]:=hz;subst hz;repeat' first|refine Rx ⟨?_⟩|refine Rd (fun h=>⟨?_⟩) fun h=>⟨?_⟩|fail
     refine af.here ⟨[],[3,4,5,6,7,8,9],?_⟩
     conv=>whnf
     refine ⟨rfl,rfl,rfl,?_⟩;exact Fi (w:=⟨o,clk,cnt,ls,[h0,h1,h2],fl,nt,wt,op⟩) (bj _ _)
abbrev oL (w:Wld):ab:=[(5,.own 66 (w.over.base.map Ent.c)),(6,.deep 32 166 (oZ w.over)),(7,.own 166 (w.over.upper.map Mrk.c))]
theorem Fj (o:Ovr):(o.layers.map fun l=>l.map Mrk.c).map (fun xs=>[D.sl xs])=o.layers.map cv:=by
 rw [zAz];rfl
theorem wJ (w:Wld):frL (oL w)=[(5,.fr (w.over.base.map Ent.c)),(6,.fr (w.over.layers.map cv)),(7,.fr (w.over.upper.map Mrk.c))]:=by
 simp only [oL,frL,imB,ge,Fj]
abbrev Fk (w:Wld) (zs:List av):ab:=[(0,.box 55 (wcG w 5 6 7 1 2 3 4)),(1,.own 132 (w.leases.map Lse.c)),(2,.deep 121 68 zs),(3,.own 3 (bg w.floors)),(4,.own 70 (w.net.map Mes.c))]
abbrev Fl (w:Wld) (zs:List av):ab:=[(0,.box 55 (wcG w 5 6 7 8 9 10 11)),(8,.own 132 (w.leases.map Lse.c)),(9,.deep 121 68 zs),(10,.own 3 (bg w.floors)),(11,.own 70 (w.net.map Mes.c))]
abbrev Fm (x:Wld) (zs:List av):ab:=[(0,.box 55 (wcG x 8 9 10 11 12 13 14)),(8,.own 66 (x.over.base.map Ent.c)),(9,.deep 32 166 (oZ x.over)),(10,.own 166 (x.over.upper.map Mrk.c)),(11,.own 132 (x.leases.map Lse.c)),(12,.deep 121 68 zs),(13,.own 3 (bg x.floors)),(14,.own 70 (x.net.map Mes.c))]
theorem dG {α:Type} (f:α→List D) (l:List α) (h:∀ x,∀ d∈f x,ac d):∀ cs∈l.map f,∀ d∈cs,ac d:=by
 intro cs hcs d hd;obtain ⟨x,_,rfl⟩:=List.mem_map.1 hcs;exact h x d hd
theorem GG (x:Ent):∀ d∈Ent.c x,ac d:=by simp [Ent.c,ac]
theorem Gj (x:Mrk):∀ d∈Mrk.c x,ac d:=by simp [Mrk.c,ac]
theorem Gk (x:Lse):∀ d∈Lse.c x,ac d:=by simp [Lse.c,ac]
theorem GH (x:Hld):∀ d∈Hld.c x,ac d:=by simp [Hld.c,ac]
theorem Gl (x:Mes):∀ d∈Mes.c x,ac d:=by simp [Mes.c,ac]
theorem Fn (x:Int):∀ d∈[D.k .i64 x],ac d:=by simp [ac]
theorem FH (h0 h1 h2:List Hld):∀ z∈[anH h0,anH h1,anH h2],au ac z:=by
 intro z hz;simp only [List.mem_cons,List.not_mem_nil,or_false] at hz;rcases hz with rfl|rfl|rfl <;> exact dG _ _ GH
theorem FI (o:Ovr):∀ z∈oZ o,au ac z:=by
 intro z hz;obtain ⟨xs,hxs,rfl⟩:=List.mem_map.1 hz;obtain ⟨l,_,rfl⟩:=List.mem_map.1 hxs;exact dG _ _ Gj
theorem Et (w:Wld) (a b c d e f g:Nat):∀ x∈wcG w a b c d e f g,ac x:=by simp [wcG,ac]
theorem GI (w:Wld) (h0 h1 h2:List Hld):ao (Fl w [anH h0,anH h1,anH h2]):=by
 intro p hp;simp only [List.mem_cons,List.not_mem_nil,or_false] at hp;rcases hp with rfl|rfl|rfl|rfl|rfl
 · exact Et _ _ _ _ _ _ _ _
 · exact dG _ _ Gk
 · exact FH h0 h1 h2
 · exact dG _ _ Fn
 · exact dG _ _ Gl
theorem GJ (w:Wld) (h0 h1 h2:List Hld):ao (Fm w [anH h0,anH h1,anH h2]):=by
 intro p hp;simp only [List.mem_cons,List.not_mem_nil,or_false] at hp;rcases hp with rfl|rfl|rfl|rfl|rfl|rfl|rfl|rfl
 · exact Et _ _ _ _ _ _ _ _
 · exact dG _ _ GG
 · exact FI _
 · exact dG _ _ Gj
 · exact dG _ _ Gk
 · exact FH h0 h1 h2
 · exact dG _ _ Fn
 · exact dG _ _ Gl
section
variable {E:Env} {f:FuncId} {cds:List D} {d:D} {w w':Wld} {zs:List av} {h0 h1 h2:List Hld}
theorem GK:pu 8 (Fk w zs) (Fl w' [anH h0,anH h1,anH h2]) (oL w)=true:=by
 simp only [pu,imB,ge];rfl
theorem GL:pu 8 (Fk w zs) (Fm w' [anH h0,anH h1,anH h2]) (oL w)=true:=by
 simp only [pu,imB,ge];rfl
theorem unQ (c:Con E f 8 cds (bxI w zs) d (bxJ w' [anH h0,anH h1,anH h2])) (ho:w'.over=w.over) (hd:ak d):Con E f 8 cds (Fk w zs++oL w) d (Fl w' [anH h0,anH h1,anH h2]++oL w):=by
 refine Con.unlend (c.same (fun t=>?_) (fun t=>?_)) GK hd (GI w' h0 h1 h2)
 · rw [wJ];rfl
 · rw [wJ,← ho]
   match t with
   | 0=>rfl
   | 1=>rfl
   | 2=>rfl
   | 3=>rfl
   | 4=>rfl
   | 5=>rfl
   | 6=>rfl
   | 7=>rfl
   | 8=>rfl
   | 9=>rfl
   | 10=>rfl
   | 11=>rfl
   | n+12=>rfl
theorem unK (c:Con E f 8 cds (bxI w zs) d (bxK w' w [anH h0,anH h1,anH h2])) (hd:ak d):Con E f 8 cds (Fk w zs++oL w) d (Fm w' [anH h0,anH h1,anH h2]++oL w):=by
 refine Con.unlend (c.same (fun t=>?_) (fun t=>?_)) GL hd (GJ w' h0 h1 h2)
 · rw [wJ];rfl
 · rw [wJ]
   match t with
   | 0=>rfl
   | 1=>rfl
   | 2=>rfl
   | 3=>rfl
   | 4=>rfl
   | 5=>rfl
   | 6=>rfl
   | 7=>rfl
   | 8=>rfl
   | 9=>rfl
   | 10=>rfl
   | 11=>rfl
   | 12=>rfl
   | 13=>rfl
   | 14=>rfl
   | n+15=>rfl
end
end Go.Proofs.YtagejnomlkfndaaGreatDoor
