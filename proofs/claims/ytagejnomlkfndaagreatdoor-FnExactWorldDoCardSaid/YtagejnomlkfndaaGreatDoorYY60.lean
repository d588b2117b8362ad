/- Texts of this claim, set close: lemmas and contracts. -/
import Derived.Test.YtagejnomlkfndaaGreatDoorYY51
import Derived.Test.YtagejnomlkfndaaGreatDoorYY53
import Derived.Test.YtagejnomlkfndaaGreatDoorYY56
set_option linter.unusedSimpArgs false
set_option linter.unusedVariables false
set_option maxHeartbeats 1000000
set_option maxRecDepth 10000
namespace Go.Proofs.YtagejnomlkfndaaGreatDoor
open Go Go.RowKit Go.Ab Go.Par
variable {m:Int}
theorem FQ (l:List Hld) (g:Hld):(cN l g).length≤l.length+1:=by
 unfold cN;split
 · omega
 · have:=zAa (fun x=>!decide (x.path=g.path)) l
   simp only [zAT,List.length_cons,List.length_nil];omega
theorem FR (w:Wld) (p:Opn):(bQ w p).1.leases=w.leases:=by
 unfold bQ;split
 · rfl
 · split
   · rfl
   · split <;> rfl
theorem Io (w:Wld):(eI w).1.leases=w.leases:=by
 unfold eI;split
 · rfl
 · split <;> rfl
theorem fSx (w:Wld) (x:Mes):tot (dA w x).holds≤tot w.holds+1∧(dA w x).leases.length≤w.leases.length+1:=by
 unfold dA;split
 · unfold ja;split
   · omega
   · have:=zAa (fun l=>!(aW x.who x.hold.path l && decide (l.num≤w.count+1))) w.leases
     refine ⟨by simp,?_⟩;simp only [jY,zAT,List.length_cons,List.length_nil];omega
 · split
   · unfold eY;split
     · refine ⟨?_,by simp⟩;have h1:=ze w.holds x.who.toNat (cN (aO w.holds x.who) x.hold);have h2:=FQ (aO w.holds x.who) x.hold;unfold aO at h1 h2 ⊢;simp only;omega
     · omega
   · split
     · refine ⟨?_,by simp [d7]⟩;have h1:=ze w.holds x.who.toNat (bP (aO w.holds x.who) x.hold.path x.hold.num);have h2:(bP (aO w.holds x.who) x.hold.path x.hold.num).length≤(aO w.holds x.who).length:=zAa _ _;unfold d7;unfold aO at h1 h2 ⊢;simp only;omega
     · split
       · have h2:(jY w.leases x.who x.hold.path x.hold.num).length≤w.leases.length:=zAa _ _;refine ⟨by simp [iy],?_⟩;unfold iy;simp only;omega
       · omega
theorem Ip (w:Wld) (e:Evn):tot (wDo w e).1.holds≤tot w.holds+1∧(wDo w e).1.leases.length≤w.leases.length+1:=by
 unfold wDo;split
 · split
   · exact ⟨Nat.le_succ _,Nat.le_succ _⟩
   · exact ⟨Nat.le_succ _,Nat.le_succ _⟩
 · split
   · rw [jA,FR]; omega
   · split
     · rw [mc,Io]; omega
     · split
       · have h2:(ix w).leases.length≤w.leases.length:=zAa _ _;refine ⟨Nat.le_succ _,?_⟩;simp only;omega
       · split
         · unfold jb;split
           · exact ⟨Nat.le_succ _,Nat.le_succ _⟩
           · split
             · exact ⟨Nat.le_succ _,Nat.le_succ _⟩
             · split
               · exact ⟨Nat.le_succ _,Nat.le_succ _⟩
               · split
                 · exact fSx _ _
                 · exact ⟨Nat.le_succ _,Nat.le_succ _⟩
         · exact ⟨Nat.le_succ _,Nat.le_succ _⟩
theorem FT {w:Wld} {n:Nat} (hok:ba w=true) (h1:w.leases.length≤1048576) (h2:tot w.holds≤1048576):CW w∧l8 w≤w.leases.length+tot w.holds+215:=by
 obtain ⟨t,v,ho,hw,_⟩:=bB hok;obtain ⟨k1,k2⟩:=Hv ho;have a1:=hw.hl;have a2:=hw.fl;have a3:=hw.nl;refine ⟨⟨k1,h1,by omega,fun l hl=>by have:=zd _ l hl; omega,by omega,by omega⟩,?_⟩;unfold l8;omega
theorem cw0:CW w0∧l8 w0=0:=⟨⟨FJ.1,by simp [w0],by simp [w0],by simp [w0],by simp [w0],by simp [w0]⟩,by simp [w0,l8,ov0,ir,tot]⟩
theorem Bz (w:Wld) (e:Evn) (h:l8 w≤1048576):CW (bX w e).1∧l8 (bX w e).1≤l8 w+300:=by
 unfold bX;by_cases hok:ba w=true
 · rw [if_pos hok];obtain ⟨h1,h2⟩:=Ip w e;obtain ⟨t,v,ho,hw,_⟩:=bB hok;have a2:=hw.fl;have ht:w.leases.length+tot w.holds+w.floors.length≤l8 w:=by unfold l8; omega
   obtain ⟨k1,k2⟩:=FT (n:=0) (oS hok e) (by omega) (by omega);exact ⟨k1,by omega⟩
 · rw [if_neg hok];exact ⟨cw0.1,by rw [cw0.2]; omega⟩
theorem BW.n5 {w:Wld} (h:BW w) (hok:ba w=true) (ht:l8 w≤1048576):dj 1048573 w:=by
 obtain ⟨t,v,ho,hw,_⟩:=bB hok;have a2:=hw.fl;have hl:w.leases.length+tot w.holds+w.floors.length≤l8 w:=by unfold l8; omega
 have hb:=h.w;exact ⟨hb.over,hb.ls,by omega,fun l hl'=>⟨(hb.hs l hl').1,by have:=zd _ l hl'; omega⟩,hb.hl,hb.fl,hb.nt,hb.nl,hb.op⟩
theorem bEv.b {e:Evn} (h:bEv e):ql e:=by
 obtain ⟨h1,h2,h3,h4⟩:=h;exact ⟨by omega,by unfold jc; omega⟩
theorem vP (w:Wld) (e:Evn) (hb:BW w) (ht:l8 w≤1048576) (he:bEv e):Con (E m) 23 0 [.agg w.c,.agg e.c] [] (.tup [.agg (bX w e).1.c,.k .i64 (bX w e).2]) []:=by
 by_cases hok:ba w=true
 · exact qm w e ((hb.n5 hok ht).up (by omega)) he.b
 · have hok:ba w=false:=by simpa using hok
   have c1:=l7 (m:=m) w hb.w;rw [hok] at c1;have hx:bX w e=(w0,1):=by rw [bX,hok]; rfl
   rw [hx];refine G0 Tryz.func23 ?_;repeat' first|refine Ra ⟨?_⟩|refine R0 c1 ⟨?_⟩|refine Rd (fun h=>⟨?_⟩) fun h=>⟨?_⟩|refine Rb ⟨?_⟩|fail
   exact Rz
theorem ev_inv (cs:List D) (h:Shp Tryz.prog 89 cs):∃ e:Evn,cs=Evn.c e∧wEv e:=by
 have h2:qH Tryz.prog [3,3,9,85,3] cs:=h.struct_inv Tryz.underlying89;obtain ⟨a,_,rfl,ha,b,_,rfl,hb,c,_,rfl,hc,d,_,rfl,hd,e,_,rfl,he,rfl⟩:=h2;obtain ⟨x,rfl,_⟩:=ha.int_inv Tryz.underlying3;obtain ⟨y,rfl,_⟩:=hb.int_inv Tryz.underlying3;obtain ⟨p,rfl,hp⟩:=hc.str_inv Tryz.underlying9;obtain ⟨o,rfl,ho⟩:=op_inv _ hd;obtain ⟨z,rfl,_⟩:=he.int_inv Tryz.underlying3;exact ⟨⟨x,y,p,o,z⟩,rfl,hp,ho.1,ho.2.1,ho.2.2⟩
theorem Iq {d:D} (h:r8 Tryz.prog 89 d):∃ e:Evn,d=.agg e.c∧wEv e:=by
 obtain ⟨ds,rfl,h1⟩:=h.struct Tryz.underlying89;have h2:qH Tryz.prog [3,3,9,85,3] ds:=h1;obtain ⟨a,_,rfl,ha,b,_,rfl,hb,c,_,rfl,hc,d,_,rfl,hd,e,_,rfl,he,rfl⟩:=h2;obtain ⟨x,rfl,_⟩:=ha.int_inv Tryz.underlying3;obtain ⟨y,rfl,_⟩:=hb.int_inv Tryz.underlying3;obtain ⟨p,rfl,hp⟩:=hc.str_inv Tryz.underlying9;obtain ⟨o,rfl,ho⟩:=op_inv _ hd;obtain ⟨z,rfl,_⟩:=he.int_inv Tryz.underlying3;exact ⟨⟨x,y,p,o,z⟩,rfl,hp,ho.1,ho.2.1,ho.2.2⟩
theorem lEvs_shp {d:D} (h:r8 Tryz.prog 72 d):∃ es:List Evn,d=.sl (es.map Evn.c)∧es.length≤9223372036854775807∧∀ e∈es,wEv e:=by
 have h1:=h.one (fun fs=>by rw [Tryz.underlying72]; simp);obtain ⟨es,hx,hl,he⟩:=qj Tryz.underlying72 ev_inv h1;cases hx;exact ⟨es,rfl,hl,he⟩
end Go.Proofs.YtagejnomlkfndaaGreatDoor
