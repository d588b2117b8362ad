/- Texts of this claim, set close: lemmas and contracts. -/
import Derived.Test.YtagejnomlkfndaaGreatDoorYY48
import Derived.Test.YtagejnomlkfndaaGreatDoorYY42
import Derived.Test.YtagejnomlkfndaaGreatDoorYY38
import Derived.Test.YtagejnomlkfndaaGreatDoorYY39
set_option linter.unusedSimpArgs false
set_option linter.unusedVariables false
set_option maxHeartbeats 1000000
set_option maxRecDepth 10000
namespace Go.Proofs.YtagejnomlkfndaaGreatDoor
open Go Go.RowKit Go.Ab Go.Par
variable {m:Int}
structure CN (n:Nat) (w:Wld):Prop where
 over:eB w.over
 ls:∀ l∈w.leases,E6 l
 ll:w.leases.length≤n
 hs:∀ l∈w.holds,(∀ h∈l,Ea h)∧l.length≤n
 hl:w.holds.length≤1048576
 fl:w.floors.length≤1048576
 nt:∀ x∈w.net,Ea x.hold
 nl:w.net.length≤1048576
 op:jK 1073741823 w.op
theorem CN.w {n:Nat} {w:Wld} (h:CN n w) (hn:n≤1048576):dh w:=
 ⟨h.over,h.ls,zBU h.ll hn,fun l hl=>⟨(h.hs l hl).1,zBU (h.hs l hl).2 hn⟩,h.hl,h.fl,h.nt,h.nl,h.op⟩
theorem dh.n {w:Wld} (h:dh w):CN 1048576 w:=⟨h.over,h.ls,h.ll,h.hs,h.hl,h.fl,h.nt,h.nl,h.op⟩
theorem CN.up {n k:Nat} {w:Wld} (h:CN n w) (hk:n≤k):CN k w:=
 ⟨h.over,h.ls,zBU h.ll hk,fun l hl=>⟨(h.hs l hl).1,zBU (h.hs l hl).2 hk⟩,h.hl,h.fl,h.nt,h.nl,h.op⟩
theorem bndH_bare {p:Bs} {n:Int} (h:p.length≤1073741823):Ea (ba p n):=⟨h,by simp [ba,fG],by simp [ba,fG]⟩
theorem sendN_mem' {net:List Mes} {x y:Mes} (h:y∈bX net x):y∈net∨y=x:=by
 unfold bX at h;split at h
 · simpa using h
 · exact .inl h
theorem CN.send {n:Nat} {w:Wld} (h:CN n w) {x:Mes} (hx:Ea x.hold) (h12:w.net.length≤12):CN n { w with net:=bX w.net x }:=
 ⟨h.over,h.ls,h.ll,h.hs,h.hl,h.fl,fun y hy=>by
  rcases sendN_mem' hy with hy|rfl
  · exact h.nt y hy
  · exact hx,sw h.nl (by omega),h.op⟩
theorem recallN_bnd (cnt:Int):∀ (bars:List Lse) (net:List Mes),(∀ y∈net,Ea y.hold)→net.length≤1048576→(∀ l∈bars,E6 l)→(∀ y∈dg net cnt bars,Ea y.hold)∧(dg net cnt bars).length≤1048576
 | [],net,h1,h2,_=>⟨h1,h2⟩
 | l :: r,net,h1,h2,h3=>by
   rw [kq];refine recallN_bnd cnt r _ (fun y hy=>?_) (sw h2 (by omega)) fun x hx=>h3 x (by simp [hx]);rcases sendN_mem' hy with hy|rfl
   · exact h1 y hy
   · exact bndH_bare (h3 l (by simp))
theorem bars_bnd {w:Wld} {n:Nat} (h:CN n w) {v:List Ent} {p:Opn}:∀ l∈cw v w.clock w.leases p,E6 l:=fun l hl=>h.ls l (List.mem_filter.1 hl).1
theorem CN.write {n:Nat} {w:Wld} (h:CN n w) {t v:List Ent} (ho:bo w.over=some (t,v)) (hw:OkW v w) {p:Opn} (hp:jK 1073741823 p):CN n (bA w p).1:=by
 obtain ⟨v',ho',_⟩:=hw.write ho p;have hov:=vT ho';unfold bA at hov ⊢;split
 · exact h
 · split
   · exact h
   · split
     · rename_i h1 h2 h3;rw [if_neg h1,if_neg h2,if_pos h3] at hov;exact ⟨hov,h.ls,h.ll,h.hs,h.hl,h.fl,h.nt,h.nl,h.op⟩
     · have hr:=recallN_bnd w.count _ _ h.nt h.nl (bars_bnd h (v:=Go.Par.seen w.over) (p:=p));exact ⟨h.over,h.ls,h.ll,h.hs,h.hl,h.fl,hr.1,hr.2,hp⟩
theorem CN.try_ {n:Nat} {w:Wld} (h:CN n w) {t v:List Ent} (ho:bo w.over=some (t,v)) (hw:OkW v w):CN n (dF w).1:=by
 obtain ⟨v',ho',_⟩:=hw.try_ ho;have hov:=vT ho';unfold dF at hov ⊢;split
 · exact h
 · split
   · rename_i h1 h2;rw [if_neg h1,if_pos h2] at hov;exact ⟨hov,h.ls,h.ll,h.hs,h.hl,h.fl,h.nt,h.nl,⟨by simp [op0],by simp [op0],by simp [op0]⟩⟩
   · have hr:=recallN_bnd w.count _ _ h.nt h.nl (bars_bnd h (v:=Go.Par.seen w.over) (p:=w.op));exact ⟨h.over,h.ls,h.ll,h.hs,h.hl,h.fl,hr.1,hr.2,h.op⟩
theorem entGet_bnd {v:List Ent} (hv:ai v=true) (p:Bs):((az v p).getD fG).path.length≤1073741823∧((az v p).getD fG).data.length≤1073741823:=by
 cases hg:az v p with
 | none=>simp [fG]
 | some e=>
   unfold az at hg;split at hg
   · cases hg;simp [AX]
   · have hm:e∈v:=List.mem_of_find?_eq_some hg;exact qG hv e hm
theorem CN.ask {n:Nat} {w:Wld} (h:CN n w) (h12:w.net.length≤12) {t v:List Ent} (ho:bo w.over=some (t,v)) {who:Int} {p:Bs} (hp:p.length≤1073741823):CN (n+1) (ie w who p):=by
 have hv:=(cm ho).2.2.2;have hs:Go.Par.seen w.over=v:=by rw [Go.Par.seen,ho]
 have hg:=entGet_bnd hv p;unfold ie;rw [hs];split
 · exact h.up (Nat.le_succ _)
 · refine ⟨h.over,fun l hl=>?_,?_,fun l hl=>⟨(h.hs l hl).1,Nat.le_succ_of_le (h.hs l hl).2⟩,h.hl,h.fl,fun y hy=>?_,sw h.nl (by omega),h.op⟩
   · rcases zAs.1 hl with hl|hl
     · exact h.ls l (List.mem_filter.1 hl).1
     · rw [List.mem_singleton.1 hl]; exact hp
   · have h1:(iV w.leases who p (w.count+1)).length≤w.leases.length:=zAf _ _;have h2:=h.ll;simp only [zAV,List.length_singleton];omega
   · rcases sendN_mem' hy with hy|rfl
     · exact h.nt y hy
     · exact ⟨hp,hg.1,hg.2⟩
theorem takeH_len (l:List Hld) (g:Hld):(cg l g).length≤l.length+1:=by
 unfold cg;split
 · omega
 · have:(l.filter fun x=>!decide (x.path=g.path)).length≤l.length:=zAf _ _
   simp only [zAV,List.length_singleton];omega
theorem takeH_mem {l:List Hld} {g x:Hld} (h:x∈cg l g):x∈l∨x=g:=by
 unfold cg at h;split at h
 · exact .inl h
 · rcases zAs.1 h with h|h
   · exact .inl (List.mem_filter.1 h).1
   · exact .inr (List.mem_singleton.1 h)
theorem mem_set {α:Type} {l:List α} {i:Nat} {x y:α} (h:y∈l.set i x):y∈l∨y=x:=by
 rcases zBL h with h|h
 · exact .inl h
 · exact .inr h
theorem holdsOf_mem {hs:List (List Hld)} {who:Int} {x:Hld} (h:x∈aK hs who):∃ l∈hs,aK hs who=l:=by
 unfold aK at h ⊢;rw [List.getD_eq_getElem?_getD] at h ⊢;cases hq:hs[who.toNat]? with
 | none=>rw [hq] at h; simp at h
 | some l=>exact ⟨l,zAD hq,by simp⟩
theorem holdsOf_len {n:Nat} {w:Wld} (h:CN n w) (who:Int):(aK w.holds who).length≤n∧∀ x∈aK w.holds who,Ea x:=by
 unfold aK;rw [List.getD_eq_getElem?_getD];cases hq:w.holds[who.toNat]? with
 | none=>simp
 | some l=>exact ⟨(h.hs l (zAD hq)).2,(h.hs l (zAD hq)).1⟩
theorem CN.grant {n:Nat} {w:Wld} (h:CN n w) {who:Int} {g:Hld} (hg:Ea g):CN (n+1) (eC w who g):=by
 unfold eC;split
 · obtain ⟨h1,h2⟩:=holdsOf_len h who;refine ⟨h.over,h.ls,Nat.le_succ_of_le h.ll,fun l hl=>?_,by rw [zAW]; exact h.hl,h.fl,h.nt,h.nl,h.op⟩;rcases mem_set hl with hl|rfl
   · exact ⟨(h.hs l hl).1,Nat.le_succ_of_le (h.hs l hl).2⟩
   · refine ⟨fun x hx=>?_,by have:=takeH_len (aK w.holds who) g; omega⟩;rcases takeH_mem hx with hx|rfl
     · exact h2 x hx
     · exact hg
 · exact h.up (Nat.le_succ _)
theorem CN.recall {n:Nat} {w:Wld} (h:CN n w) {who:Int} {p:Bs} {k:Int} (hp:p.length≤1073741823):CN n (dA w who p k):=by
 unfold dA;obtain ⟨h1,h2⟩:=holdsOf_len h who;refine ⟨h.over,h.ls,h.ll,fun l hl=>?_,by rw [zAW]; exact h.hl,by rw [zAW]; exact h.fl,fun y hy=>?_,sw h.nl (by omega),h.op⟩
 · rcases mem_set hl with hl|rfl
   · exact h.hs l hl
   · exact ⟨fun x hx=>h2 x (List.mem_filter.1 hx).1,zBU (zAf _ _) h1⟩
 · rcases sendN_mem' hy with hy|rfl
   · exact h.nt y hy
   · exact bndH_bare hp
theorem CN.back {n:Nat} {w:Wld} (h:CN n w) {who:Int} {p:Bs} {k:Int}:CN n (gO w who p k):=
 ⟨h.over,fun l hl=>h.ls l (List.mem_filter.1 hl).1,zBU (zAf _ _) h.ll,h.hs,h.hl,h.fl,h.nt,h.nl,h.op⟩
theorem CN.net {n:Nat} {w:Wld} (h:CN n w) {net:List Mes} (hm:∀ x∈net,x∈w.net) (hl:net.length≤1048576):CN n { w with net:=net }:=
 ⟨h.over,h.ls,h.ll,h.hs,h.hl,h.fl,fun x hx=>h.nt x (hm x hx),hl,h.op⟩
theorem CN.tick {n:Nat} {w:Wld} (h:CN n w):CN n (gN w):=
 ⟨h.over,fun l hl=>h.ls l (List.mem_filter.1 hl).1,zBU (zAf _ _) h.ll,h.hs,h.hl,h.fl,h.nt,h.nl,h.op⟩
theorem CN.come {n:Nat} {w:Wld} (h:CN n w) (h12:w.net.length≤12) {t v:List Ent} (ho:bo w.over=some (t,v)) {x:Mes} (hx:Ea x.hold):CN (n+1) (cT w x):=by
 unfold cT;split
 · exact h.ask h12 ho hx.1
 · split
   · exact h.grant hx
   · split
     · exact (h.recall hx.1).up (Nat.le_succ _)
     · split
       · exact h.back.up (Nat.le_succ _)
       · exact h.up (Nat.le_succ _)
theorem CN.netD {n:Nat} {w:Wld} (h:CN n w) (h12:w.net.length≤12) {t v:List Ent} (ho:bo w.over=some (t,v)) (k pos:Int):CN (n+1) (ig w k pos).1:=by
 unfold ig;split
 · exact h.up (Nat.le_succ _)
 · split
   · exact h.up (Nat.le_succ _)
   · rename_i m hm;have hmm:=zAD hm;have hlen:(w.net.eraseIdx pos.toNat).length≤w.net.length:=by rw [zAm]; split <;> omega
     have hb:=h.net (net:=w.net.eraseIdx pos.toNat) (fun x hx=>(zBa _ _).subset hx) (zBU hlen h.nl);split
     · exact (h.send (h.nt m hmm) h12).up (Nat.le_succ _)
     · split
       · exact hb.come (zBU hlen h12) ho (h.nt m hmm)
       · exact hb.up (Nat.le_succ _)
theorem CN.do_ {n:Nat} {w:Wld} (h:CN n w) {t v:List Ent} (ho:bo w.over=some (t,v)) (hw:OkW v w) {e:Evn} (he:oh e):CN (n+1) (wDo w e).1:=by
 unfold wDo;split
 · split
   · exact (h.send (bndH_bare he.path) hw.nl).up (Nat.le_succ _)
   · exact h.up (Nat.le_succ _)
 · split
   · exact (h.write ho hw he.op).up (Nat.le_succ _)
   · split
     · exact (h.try_ ho hw).up (Nat.le_succ _)
     · split
       · exact h.tick.up (Nat.le_succ _)
       · split
         · exact h.netD hw.nl ho _ _
         · exact h.up (Nat.le_succ _)
theorem wC (w:Wld) (e:Evn) (hb:CN 1048575 w) (he:oh e):Con (E m) 23 0 [.agg w.c,.agg e.c] [] (.tup [.agg (bP w e).1.c,.k .i64 (bP w e).2]) []:=by
 have hbw:=hb.w (by omega);have c1:=ob (m:=m) w hbw;by_cases hok:aP w=true
 rotate_left
 · have hok:aP w=false:=by simpa using hok
   rw [hok] at c1;have hx:bP w e=(w0,1):=by rw [bP,hok]; rfl
   rw [hx];refine G0 Tryz.func23 ?_;repeat' first|refine Ra ⟨?_⟩|refine R0 c1 ⟨?_⟩|refine Rd (fun h=>⟨?_⟩) fun h=>⟨?_⟩|refine Rb ⟨?_⟩|fail
   exact Rz
 · rw [hok] at c1;have hx:bP w e=wDo w e:=by rw [bP,if_pos hok]
   rw [hx];obtain ⟨t,v,ho,hw,hs⟩:=br hok;obtain ⟨h0,h1,h2,hh⟩:=Em hw.hl;have c2:=na (m:=m) w hbw h0 h1 h2 hh;obtain ⟨g0,g1,g2,hW,c3⟩:=uJ (m:=m) w e hbw ho hw (fun l hl=>(hb.hs l hl).2) he h0 h1 h2 hh;have hbW:=(hb.do_ ho hw he).w (by omega);have c4:=na (m:=m) (wDo w e).1 hbW g0 g1 g2 hW;rw [mm hW] at c4 ⊢;generalize wDo w e=W at c3 c4;refine G0 Tryz.func23 ?_;repeat' first|refine Ra ⟨?_⟩|refine R0 c1 ⟨?_⟩|refine Rk [] 4 c2 ⟨?_⟩|refine Rk [2,3,4,5] 4 c3 ⟨?_⟩|refine Rk [3,4,5,6] 4 c3 ⟨?_⟩|refine Rk [4,5,6,7] 4 c3 ⟨?_⟩|refine Rk [] 4 c4 ⟨?_⟩|refine Rd (fun h=>⟨?_⟩) fun h=>⟨?_⟩|refine Rb ⟨?_⟩|fail
   exact Rz
variable {m:Int}
theorem CP (l:List Hld) (g:Hld):(cg l g).length≤l.length+1:=by
 unfold cg;split
 · omega
 · have:=zAf (fun x=>!decide (x.path=g.path)) l
   simp only [zAV,List.length_cons,List.length_nil];omega
theorem CQ (w:Wld) (p:Opn):(bA w p).1.leases=w.leases:=by
 unfold bA;split
 · rfl
 · split
   · rfl
   · split <;> rfl
theorem Fg (w:Wld):(dF w).1.leases=w.leases:=by
 unfold dF;split
 · rfl
 · split <;> rfl
theorem CR (w:Wld) (x:Mes):tot (cT w x).holds≤tot w.holds+1∧(cT w x).leases.length≤w.leases.length+1:=by
 unfold cT;split
 · unfold ie;split
   · omega
   · have:=zAf (fun l=>!(aL x.who x.hold.path l && decide (l.num≤w.count+1))) w.leases
     refine ⟨by simp,?_⟩;simp only [iV,zAV,List.length_cons,List.length_nil];omega
 · split
   · unfold eC;split
     · refine ⟨?_,by simp⟩;have h1:=wm w.holds x.who.toNat (cg (aK w.holds x.who) x.hold);have h2:=CP (aK w.holds x.who) x.hold;unfold aK at h1 h2 ⊢;simp only;omega
     · omega
   · split
     · refine ⟨?_,by simp [dA]⟩;have h1:=wm w.holds x.who.toNat (bz (aK w.holds x.who) x.hold.path x.hold.num);have h2:(bz (aK w.holds x.who) x.hold.path x.hold.num).length≤(aK w.holds x.who).length:=zAf _ _;unfold dA;unfold aK at h1 h2 ⊢;simp only;omega
     · split
       · have h2:(iV w.leases x.who x.hold.path x.hold.num).length≤w.leases.length:=zAf _ _;refine ⟨by simp [gO],?_⟩;unfold gO;simp only;omega
       · omega
theorem Bt (w:Wld) (e:Evn):tot (wDo w e).1.holds≤tot w.holds+1∧(wDo w e).1.leases.length≤w.leases.length+1:=by
 unfold wDo;split
 · split
   · exact ⟨Nat.le_succ _,Nat.le_succ _⟩
   · exact ⟨Nat.le_succ _,Nat.le_succ _⟩
 · split
   · rw [ik,CQ]; omega
   · split
     · rw [kv,Fg]; omega
     · split
       · have h2:(gN w).leases.length≤w.leases.length:=zAf _ _;refine ⟨Nat.le_succ _,?_⟩;simp only;omega
       · split
         · unfold ig;split
           · exact ⟨Nat.le_succ _,Nat.le_succ _⟩
           · split
             · exact ⟨Nat.le_succ _,Nat.le_succ _⟩
             · split
               · exact ⟨Nat.le_succ _,Nat.le_succ _⟩
               · split
                 · exact CR _ _
                 · exact ⟨Nat.le_succ _,Nat.le_succ _⟩
         · exact ⟨Nat.le_succ _,Nat.le_succ _⟩
theorem uK {w:Wld} {n:Nat} (hok:aP w=true) (h1:w.leases.length≤1048576) (h2:tot w.holds≤1048576):CW w∧iW w≤w.leases.length+tot w.holds+215:=by
 obtain ⟨t,v,ho,hw,_⟩:=br hok;obtain ⟨k1,k2⟩:=yk ho;have a1:=hw.hl;have a2:=hw.fl;have a3:=hw.nl;refine ⟨⟨k1,h1,by omega,fun l hl=>by have:=wl _ l hl; omega,by omega,by omega⟩,?_⟩;unfold iW;omega
theorem cw0:CW w0∧iW w0=0:=⟨⟨uE.1,by simp [w0],by simp [w0],by simp [w0],by simp [w0],by simp [w0]⟩,by simp [w0,iW,ov0,eT,tot]⟩
theorem yD (w:Wld) (e:Evn) (h:iW w≤1048576):CW (bP w e).1∧iW (bP w e).1≤iW w+300:=by
 unfold bP;by_cases hok:aP w=true
 · rw [if_pos hok];obtain ⟨h1,h2⟩:=Bt w e;obtain ⟨t,v,ho,hw,_⟩:=br hok;have a2:=hw.fl;have ht:w.leases.length+tot w.holds+w.floors.length≤iW w:=by unfold iW; omega
   obtain ⟨k1,k2⟩:=uK (n:=0) (iS hok e) (by omega) (by omega);exact ⟨k1,by omega⟩
 · rw [if_neg hok];exact ⟨cw0.1,by rw [cw0.2]; omega⟩
theorem BW.n5 {w:Wld} (h:BW w) (hok:aP w=true) (ht:iW w≤1048576):CN 1048573 w:=by
 obtain ⟨t,v,ho,hw,_⟩:=br hok;have a2:=hw.fl;have hl:w.leases.length+tot w.holds+w.floors.length≤iW w:=by unfold iW; omega
 have hb:=h.w;exact ⟨hb.over,hb.ls,by omega,fun l hl'=>⟨(hb.hs l hl').1,by have:=wl _ l hl'; omega⟩,hb.hl,hb.fl,hb.nt,hb.nl,hb.op⟩
theorem bEv.b {e:Evn} (h:bEv e):oh e:=by
 obtain ⟨h1,h2,h3,h4⟩:=h;exact ⟨by omega,by unfold jK; omega⟩
theorem tr (w:Wld) (e:Evn) (hb:BW w) (ht:iW w≤1048576) (he:bEv e):Con (E m) 23 0 [.agg w.c,.agg e.c] [] (.tup [.agg (bP w e).1.c,.k .i64 (bP w e).2]) []:=by
 by_cases hok:aP w=true
 · exact wC w e ((hb.n5 hok ht).up (by omega)) he.b
 · have hok:aP w=false:=by simpa using hok
   have c1:=ob (m:=m) w hb.w;rw [hok] at c1;have hx:bP w e=(w0,1):=by rw [bP,hok]; rfl
   rw [hx];refine G0 Tryz.func23 ?_;repeat' first|refine Ra ⟨?_⟩|refine R0 c1 ⟨?_⟩|refine Rd (fun h=>⟨?_⟩) fun h=>⟨?_⟩|refine Rb ⟨?_⟩|fail
   exact Rz
theorem Ep (cs:List D) (h:Shp Tryz.prog 89 cs):∃ e:Evn,cs=Evn.c e∧wEv e:=by
 have h2:oK Tryz.prog [3,3,9,85,3] cs:=h.struct_inv Tryz.underlying89;obtain ⟨a,_,rfl,ha,b,_,rfl,hb,c,_,rfl,hc,d,_,rfl,hd,e,_,rfl,he,rfl⟩:=h2;obtain ⟨x,rfl,_⟩:=ha.int_inv Tryz.underlying3;obtain ⟨y,rfl,_⟩:=hb.int_inv Tryz.underlying3;obtain ⟨p,rfl,hp⟩:=hc.str_inv Tryz.underlying9;obtain ⟨o,rfl,ho⟩:=op_inv _ hd;obtain ⟨z,rfl,_⟩:=he.int_inv Tryz.underlying3;exact ⟨⟨x,y,p,o,z⟩,rfl,hp,ho.1,ho.2.1,ho.2.2⟩
theorem Fh {d:D} (h:p9 Tryz.prog 89 d):∃ e:Evn,d=.agg e.c∧wEv e:=by
 obtain ⟨ds,rfl,h1⟩:=h.struct Tryz.underlying89;have h2:oK Tryz.prog [3,3,9,85,3] ds:=h1;obtain ⟨a,_,rfl,ha,b,_,rfl,hb,c,_,rfl,hc,d,_,rfl,hd,e,_,rfl,he,rfl⟩:=h2;obtain ⟨x,rfl,_⟩:=ha.int_inv Tryz.underlying3;obtain ⟨y,rfl,_⟩:=hb.int_inv Tryz.underlying3;obtain ⟨p,rfl,hp⟩:=hc.str_inv Tryz.underlying9;obtain ⟨o,rfl,ho⟩:=op_inv _ hd;obtain ⟨z,rfl,_⟩:=he.int_inv Tryz.underlying3;exact ⟨⟨x,y,p,o,z⟩,rfl,hp,ho.1,ho.2.1,ho.2.2⟩
theorem Er {d:D} (h:p9 Tryz.prog 72 d):∃ es:List Evn,d=.sl (es.map Evn.c)∧es.length≤9223372036854775807∧∀ e∈es,wEv e:=by
 have h1:=h.one (fun fs=>by rw [Tryz.underlying72]; simp);obtain ⟨es,hx,hl,he⟩:=mh Tryz.underlying72 Ep h1;cases hx;exact ⟨es,rfl,hl,he⟩
end Go.Proofs.YtagejnomlkfndaaGreatDoor
