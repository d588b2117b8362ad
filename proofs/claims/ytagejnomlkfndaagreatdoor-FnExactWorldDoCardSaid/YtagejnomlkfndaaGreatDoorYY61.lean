/- Texts of this claim, set close: lemmas and contracts. -/
import Derived.Test.YtagejnomlkfndaaGreatDoorYY52
import Derived.Test.YtagejnomlkfndaaGreatDoorYY59
import Derived.Test.YtagejnomlkfndaaGreatDoorYY58
import Derived.Test.YtagejnomlkfndaaGreatDoorYY17
set_option linter.unusedSimpArgs false
set_option linter.unusedVariables false
set_option maxHeartbeats 1000000
set_option maxRecDepth 10000
namespace Go.Proofs.YtagejnomlkfndaaGreatDoor
open Go Go.RowKit Go.Ab Go.Par
variable {m:Int}
theorem FQ (l:List Hld) (g:Hld):(cN l g).length≤l.length+1:=by
 unfold cN;split
 · omega
 · have:=zAa (fun x=>!decide (x.path=g.path)) l
   simp only [zAT,List.length_cons,List.length_nil];omega
theorem FR (w:Wld) (p:Opn):(bQ w p).1.leases=w.leases:=by
 unfold bQ;split
 · rfl
 · split
   · rfl
   · split <;> rfl
theorem Io (w:Wld):(eI w).1.leases=w.leases:=by
 unfold eI;split
 · rfl
 · split <;> rfl
theorem FS (w:Wld) (x:Mes):tot (dA w x).holds≤tot w.holds+1∧(dA w x).leases.length≤w.leases.length+1:=by
 unfold dA;split
 · unfold ja;split
   · omega
   · have:=zAa (fun l=>!(aW x.who x.hold.path l && decide (l.num≤w.count+1))) w.leases
     refine ⟨by simp,?_⟩;simp only [jY,zAT,List.length_cons,List.length_nil];omega
 · split
   · unfold eY;split
     · refine ⟨?_,by simp⟩;have h1:=ze w.holds x.who.toNat (cN (aO w.holds x.who) x.hold);have h2:=FQ (aO w.holds x.who) x.hold;unfold aO at h1 h2 ⊢;simp only;omega
     · omega
   · split
     · refine ⟨?_,by simp [d7]⟩;have h1:=ze w.holds x.who.toNat (bP (aO w.holds x.who) x.hold.path x.hold.num);have h2:(bP (aO w.holds x.who) x.hold.path x.hold.num).length≤(aO w.holds x.who).length:=zAa _ _;unfold d7;unfold aO at h1 h2 ⊢;simp only;omega
     · split
       · have h2:(jY w.leases x.who x.hold.path x.hold.num).length≤w.leases.length:=zAa _ _;refine ⟨by simp [iy],?_⟩;unfold iy;simp only;omega
       · omega
theorem Ip (w:Wld) (e:Evn):tot (wDo w e).1.holds≤tot w.holds+1∧(wDo w e).1.leases.length≤w.leases.length+1:=by
 unfold wDo;split
 · split
   · exact ⟨Nat.le_succ _,Nat.le_succ _⟩
   · exact ⟨Nat.le_succ _,Nat.le_succ _⟩
 · split
   · rw [jA,FR]; omega
   · split
     · rw [mc,Io]; omega
     · split
       · have h2:(ix w).leases.length≤w.leases.length:=zAa _ _;refine ⟨Nat.le_succ _,?_⟩;simp only;omega
       · split
         · unfold jb;split
           · exact ⟨Nat.le_succ _,Nat.le_succ _⟩
           · split
             · exact ⟨Nat.le_succ _,Nat.le_succ _⟩
             · split
               · exact ⟨Nat.le_succ _,Nat.le_succ _⟩
               · split
                 · exact FS _ _
                 · exact ⟨Nat.le_succ _,Nat.le_succ _⟩
         · exact ⟨Nat.le_succ _,Nat.le_succ _⟩
theorem FT {w:Wld} {n:Nat} (hok:ba w=true) (h1:w.leases.length≤1048576) (h2:tot w.holds≤1048576):CW w∧l8 w≤w.leases.length+tot w.holds+215:=by
 obtain ⟨t,v,ho,hw,_⟩:=bB hok;obtain ⟨k1,k2⟩:=Hv ho;have a1:=hw.hl;have a2:=hw.fl;have a3:=hw.nl;refine ⟨⟨k1,h1,by omega,fun l hl=>by have:=zd _ l hl; omega,by omega,by omega⟩,?_⟩;unfold l8;omega
theorem cw0:CW w0∧l8 w0=0:=⟨⟨FJ.1,by simp [w0],by simp [w0],by simp [w0],by simp [w0],by simp [w0]⟩,by simp [w0,l8,ov0,ir,tot]⟩
theorem Bz (w:Wld) (e:Evn) (h:l8 w≤1048576):CW (bX w e).1∧l8 (bX w e).1≤l8 w+300:=by
 unfold bX;by_cases hok:ba w=true
 · rw [if_pos hok];obtain ⟨h1,h2⟩:=Ip w e;obtain ⟨t,v,ho,hw,_⟩:=bB hok;have a2:=hw.fl;have ht:w.leases.length+tot w.holds+w.floors.length≤l8 w:=by unfold l8; omega
   obtain ⟨k1,k2⟩:=FT (n:=0) (oS hok e) (by omega) (by omega);exact ⟨k1,by omega⟩
 · rw [if_neg hok];exact ⟨cw0.1,by rw [cw0.2]; omega⟩
theorem BW.n5 {w:Wld} (h:BW w) (hok:ba w=true) (ht:l8 w≤1048576):dj 1048573 w:=by
 obtain ⟨t,v,ho,hw,_⟩:=bB hok;have a2:=hw.fl;have hl:w.leases.length+tot w.holds+w.floors.length≤l8 w:=by unfold l8; omega
 have hb:=h.w;exact ⟨hb.over,hb.ls,by omega,fun l hl'=>⟨(hb.hs l hl').1,by have:=zd _ l hl'; omega⟩,hb.hl,hb.fl,hb.nt,hb.nl,hb.op⟩
theorem bEv.b {e:Evn} (h:bEv e):ql e:=by
 obtain ⟨h1,h2,h3,h4⟩:=h;exact ⟨by omega,by unfold jc; omega⟩
theorem vP (w:Wld) (e:Evn) (hb:BW w) (ht:l8 w≤1048576) (he:bEv e):Con (E m) 23 0 [.agg w.c,.agg e.c] [] (.tup [.agg (bX w e).1.c,.k .i64 (bX w e).2]) []:=by
 by_cases hok:ba w=true
 · exact qm w e ((hb.n5 hok ht).up (by omega)) he.b
 · have hok:ba w=false:=by simpa using hok
   have c1:=l7 (m:=m) w hb.w;rw [hok] at c1;have hx:bX w e=(w0,1):=by rw [bX,hok]; rfl
   rw [hx];refine G0 Tryz.func23 ?_;repeat' first|refine Ra ⟨?_⟩|refine R0 c1 ⟨?_⟩|refine Rd (fun h=>⟨?_⟩) fun h=>⟨?_⟩|refine Rb ⟨?_⟩|fail
   exact Rz
theorem Iq {d:D} (h:r8 Tryz.prog 89 d):∃ e:Evn,d=.agg e.c∧wEv e:=by
 obtain ⟨ds,rfl,h1⟩:=h.struct Tryz.underlying89;have h2:qH Tryz.prog [3,3,9,85,3] ds:=h1;obtain ⟨a,_,rfl,ha,b,_,rfl,hb,c,_,rfl,hc,d,_,rfl,hd,e,_,rfl,he,rfl⟩:=h2;obtain ⟨x,rfl,_⟩:=ha.int_inv Tryz.underlying3;obtain ⟨y,rfl,_⟩:=hb.int_inv Tryz.underlying3;obtain ⟨p,rfl,hp⟩:=hc.str_inv Tryz.underlying9;obtain ⟨o,rfl,ho⟩:=op_inv _ hd;obtain ⟨z,rfl,_⟩:=he.int_inv Tryz.underlying3;exact ⟨⟨x,y,p,o,z⟩,rfl,hp,ho.1,ho.2.1,ho.2.2⟩
variable {m:Int}
theorem JN (w:Wld):aF (wT w):=by
 intro p hp;simp only [List.mem_cons,List.not_mem_nil,or_false] at hp;rcases hp with rfl|rfl|rfl|rfl|rfl|rfl|rfl
 · exact eQ _ _ JH
 · exact IH _
 · exact eQ _ _ Ji
 · exact eQ _ _ Jj
 · intro z hz;obtain ⟨xs,hxs,rfl⟩:=List.mem_map.1 hz;obtain ⟨l,_,rfl⟩:=List.mem_map.1 hxs;exact eQ _ _ JI
 · exact eQ _ _ Jl
 · exact eQ _ _ Jk
theorem JO (w:Wld) (a b c d e f g:Nat):∀ x∈wcT w a b c d e f g,aj x:=by simp [wcT,aj]
theorem Jn (w:Wld) (a b c d e f g:Nat) (k:IntKind) (n:Int):ay (.tup [.agg (wcT w a b c d e f g),.k k n]):=by
 intro x hx;simp only [List.mem_cons,List.not_mem_nil,or_false] at hx;rcases hx with rfl|rfl
 · exact JO _ _ _ _ _ _ _ _
 · trivial
section
variable {S:ac} {a b c d e f g:Nat} {w:Wld} {z1 z2:List aE} {ta tb tb2 tc td te te2 tf tg:TypeId}
theorem Jo {q':D} (h0:lk S a=some (.own ta (w.over.base.map Ent.c))) (h1:lk S b=some (.deep tb tb2 z1)) (h2:lk S c=some (.own tc (w.over.upper.map Mrk.c))) (h3:lk S d=some (.own td (w.leases.map Lse.c))) (h4:lk S e=some (.deep te te2 z2)) (h5:lk S f=some (.own tf (ck w.floors))) (h6:lk S g=some (.own tg (w.net.map Mes.c))) (g1:z1=oZ w.over) (g2:z2=hZ w) (hq:zo [] S q'=some q'):aDs [] S [.agg (wcT w a b c d e f g),q']=some [.agg w.c,q']:=by
 simp only [aDs,arW h0 h1 h2 h3 h4 h5 h6 g1 g2,hq]
end
theorem Jp (w:Wld) (q:D) (hq:fJ (wT w) q=some q):D3 (wT w) [.agg (wcT w 0 1 2 3 4 5 6),q] [.agg w.c,q]:=by
 refine ⟨?_,hq,trivial⟩;have e1:(w.over.layers.map fun l=>l.map Mrk.c).map (fun xs=>[D.sl xs])=w.over.layers.map cm:=by rw [zBE]; rfl
 have e2:(w.holds.map fun l=>l.map Hld.c).map (fun xs=>[D.sl xs])=w.holds.map cy:=by rw [zBE]; rfl
 have h0:lk (wT w) 0=some (.own 66 (w.over.base.map Ent.c)):=rfl;have h1:lk (wT w) 1=some (.deep 32 166 (oZ w.over)):=rfl;have h2:lk (wT w) 2=some (.own 166 (w.over.upper.map Mrk.c)):=rfl;have h3:lk (wT w) 3=some (.own 132 (w.leases.map Lse.c)):=rfl;have h4:lk (wT w) 4=some (.deep 121 68 (hZ w)):=rfl;have h5:lk (wT w) 5=some (.own 3 (ck w.floors)):=rfl;have h6:lk (wT w) 6=some (.own 70 (w.net.map Mes.c)):=rfl;generalize wT w=S at *;simp only [fJ,wcT,me,cR,h0,h1,h2,h3,h4,h5,h6,imB,kH,e1,e2];rfl
end Go.Proofs.YtagejnomlkfndaaGreatDoor
