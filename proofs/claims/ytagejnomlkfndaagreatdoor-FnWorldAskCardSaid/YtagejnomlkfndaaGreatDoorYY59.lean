/- Texts of this claim, set close: lemmas and contracts. -/
import Derived.Test.YtagejnomlkfndaaGreatDoorYY57
set_option linter.unusedSimpArgs false
set_option linter.unusedVariables false
set_option maxHeartbeats 1000000
set_option maxRecDepth 10000
namespace Go.Proofs.YtagejnomlkfndaaGreatDoor
open Go Go.RowKit Go.Ab Go.Par
variable {m:Int}
structure dj (n:Nat) (w:Wld):Prop where
 over:gM w.over
 ls:∀ l∈w.leases,C8 l
 ll:w.leases.length≤n
 hs:∀ l∈w.holds,(∀ h∈l,nE h)∧l.length≤n
 hl:w.holds.length≤1048576
 fl:w.floors.length≤1048576
 nt:∀ x∈w.net,nE x.hold
 nl:w.net.length≤1048576
 op:jc 1073741823 w.op
theorem dj.w {n:Nat} {w:Wld} (h:dj n w) (hn:n≤1048576):dO w:=
 ⟨h.over,h.ls,zAq h.ll hn,fun l hl=>⟨(h.hs l hl).1,zAq (h.hs l hl).2 hn⟩,h.hl,h.fl,h.nt,h.nl,h.op⟩
theorem dO.n {w:Wld} (h:dO w):dj 1048576 w:=⟨h.over,h.ls,h.ll,h.hs,h.hl,h.fl,h.nt,h.nl,h.op⟩
theorem dj.up {n k:Nat} {w:Wld} (h:dj n w) (hk:n≤k):dj k w:=
 ⟨h.over,h.ls,zAq h.ll hk,fun l hl=>⟨(h.hs l hl).1,zAq (h.hs l hl).2 hk⟩,h.hl,h.fl,h.nt,h.nl,h.op⟩
theorem ny {p:Bs} {n:Int} (h:p.length≤1073741823):nE (aZ p n):=⟨h,by simp [aZ,b9],by simp [aZ,b9]⟩
theorem md {net:List Mes} {x y:Mes} (h:y∈bZ net x):y∈net∨y=x:=by
 unfold bZ at h;split at h
 · simpa using h
 · exact .inl h
theorem dj.send {n:Nat} {w:Wld} (h:dj n w) {x:Mes} (hx:nE x.hold) (h12:w.net.length≤12):dj n { w with net:=bZ w.net x }:=
 ⟨h.over,h.ls,h.ll,h.hs,h.hl,h.fl,fun y hy=>by
  rcases md hy with hy|rfl
  · exact h.nt y hy
  · exact hx,j7 h.nl (by omega),h.op⟩
theorem m9 (cnt:Int):∀ (bars:List Lse) (net:List Mes),(∀ y∈net,nE y.hold)→net.length≤1048576→(∀ l∈bars,C8 l)→(∀ y∈dQ net cnt bars,nE y.hold)∧(dQ net cnt bars).length≤1048576
 | [],net,h1,h2,_=>⟨h1,h2⟩
 | l :: r,net,h1,h2,h3=>by
   rw [jz];refine m9 cnt r _ (fun y hy=>?_) (j7 h2 (by omega)) fun x hx=>h3 x (by simp [hx]);rcases md hy with hy|rfl
   · exact h1 y hy
   · exact ny (h3 l (by simp))
theorem Bv {w:Wld} {n:Nat} (h:dj n w) {v:List Ent} {p:Opn}:∀ l∈dg v w.clock w.leases p,C8 l:=fun l hl=>h.ls l (List.mem_filter.1 hl).1
theorem dj.write {n:Nat} {w:Wld} (h:dj n w) {t v:List Ent} (ho:bv w.over=some (t,v)) (hw:OkW v w) {p:Opn} (hp:jc 1073741823 p):dj n (bQ w p).1:=by
 obtain ⟨v',ho',_⟩:=hw.write ho p;have hov:=Ei ho';unfold bQ at hov ⊢;split
 · exact h
 · split
   · exact h
   · split
     · rename_i h1 h2 h3;rw [if_neg h1,if_neg h2,if_pos h3] at hov;exact ⟨hov,h.ls,h.ll,h.hs,h.hl,h.fl,h.nt,h.nl,h.op⟩
     · have hr:=m9 w.count _ _ h.nt h.nl (Bv h (v:=Go.Par.seen w.over) (p:=p));exact ⟨h.over,h.ls,h.ll,h.hs,h.hl,h.fl,hr.1,hr.2,hp⟩
theorem dj.try_ {n:Nat} {w:Wld} (h:dj n w) {t v:List Ent} (ho:bv w.over=some (t,v)) (hw:OkW v w):dj n (eI w).1:=by
 obtain ⟨v',ho',_⟩:=hw.try_ ho;have hov:=Ei ho';unfold eI at hov ⊢;split
 · exact h
 · split
   · rename_i h1 h2;rw [if_neg h1,if_pos h2] at hov;exact ⟨hov,h.ls,h.ll,h.hs,h.hl,h.fl,h.nt,h.nl,⟨by simp [op0],by simp [op0],by simp [op0]⟩⟩
   · have hr:=m9 w.count _ _ h.nt h.nl (Bv h (v:=Go.Par.seen w.over) (p:=w.op));exact ⟨h.over,h.ls,h.ll,h.hs,h.hl,h.fl,hr.1,hr.2,h.op⟩
theorem DC {v:List Ent} (hv:aq v=true) (p:Bs):((aA v p).getD b9).path.length≤1073741823∧((aA v p).getD b9).data.length≤1073741823:=by
 cases hg:aA v p with
 | none=>simp [b9]
 | some e=>
   unfold aA at hg;split at hg
   · cases hg;simp [Af]
   · have hm:e∈v:=List.mem_of_find?_eq_some hg;exact qf hv e hm
theorem dj.ask {n:Nat} {w:Wld} (h:dj n w) (h12:w.net.length≤12) {t v:List Ent} (ho:bv w.over=some (t,v)) {who:Int} {p:Bs} (hp:p.length≤1073741823):dj (n+1) (ja w who p):=by
 have hv:=(ce ho).2.2.2;have hs:Go.Par.seen w.over=v:=by rw [Go.Par.seen,ho]
 have hg:=DC hv p;unfold ja;rw [hs];split
 · exact h.up (Nat.le_succ _)
 · refine ⟨h.over,fun l hl=>?_,?_,fun l hl=>⟨(h.hs l hl).1,Nat.le_succ_of_le (h.hs l hl).2⟩,h.hl,h.fl,fun y hy=>?_,j7 h.nl (by omega),h.op⟩
   · rcases zAu.1 hl with hl|hl
     · exact h.ls l (List.mem_filter.1 hl).1
     · rw [List.mem_singleton.1 hl]; exact hp
   · have h1:(jY w.leases who p (w.count+1)).length≤w.leases.length:=zAa _ _;have h2:=h.ll;simp only [zAT,List.length_singleton];omega
   · rcases md hy with hy|rfl
     · exact h.nt y hy
     · exact ⟨hp,hg.1,hg.2⟩
theorem FN (l:List Hld) (g:Hld):(cN l g).length≤l.length+1:=by
 unfold cN;split
 · omega
 · have:(l.filter fun x=>!decide (x.path=g.path)).length≤l.length:=zAa _ _
   simp only [zAT,List.length_singleton];omega
theorem takeH_mem {l:List Hld} {g x:Hld} (h:x∈cN l g):x∈l∨x=g:=by
 unfold cN at h;split at h
 · exact .inl h
 · rcases zAu.1 h with h|h
   · exact .inl (List.mem_filter.1 h).1
   · exact .inr (List.mem_singleton.1 h)
theorem mSt {α:Type} {l:List α} {i:Nat} {x y:α} (h:y∈l.set i x):y∈l∨y=x:=by
 rcases zAw h with h|h
 · exact .inl h
 · exact .inr h
theorem holdsOf_mem {hs:List (List Hld)} {who:Int} {x:Hld} (h:x∈aO hs who):∃ l∈hs,aO hs who=l:=by
 unfold aO at h ⊢;rw [zBA] at h ⊢;cases hq:hs[who.toNat]? with
 | none=>rw [hq] at h; simp at h
 | some l=>exact ⟨l,zAD hq,by simp⟩
theorem rZ {n:Nat} {w:Wld} (h:dj n w) (who:Int):(aO w.holds who).length≤n∧∀ x∈aO w.holds who,nE x:=by
 unfold aO;rw [zBA];cases hq:w.holds[who.toNat]? with
 | none=>simp
 | some l=>exact ⟨(h.hs l (zAD hq)).2,(h.hs l (zAD hq)).1⟩
theorem dj.grant {n:Nat} {w:Wld} (h:dj n w) {who:Int} {g:Hld} (hg:nE g):dj (n+1) (eY w who g):=by
 unfold eY;split
 · obtain ⟨h1,h2⟩:=rZ h who;refine ⟨h.over,h.ls,Nat.le_succ_of_le h.ll,fun l hl=>?_,by rw [zAS]; exact h.hl,h.fl,h.nt,h.nl,h.op⟩;rcases mSt hl with hl|rfl
   · exact ⟨(h.hs l hl).1,Nat.le_succ_of_le (h.hs l hl).2⟩
   · refine ⟨fun x hx=>?_,by have:=FN (aO w.holds who) g; omega⟩;rcases takeH_mem hx with hx|rfl
     · exact h2 x hx
     · exact hg
 · exact h.up (Nat.le_succ _)
theorem dj.recall {n:Nat} {w:Wld} (h:dj n w) {who:Int} {p:Bs} {k:Int} (hp:p.length≤1073741823):dj n (d7 w who p k):=by
 unfold d7;obtain ⟨h1,h2⟩:=rZ h who;refine ⟨h.over,h.ls,h.ll,fun l hl=>?_,by rw [zAS]; exact h.hl,by rw [zAS]; exact h.fl,fun y hy=>?_,j7 h.nl (by omega),h.op⟩
 · rcases mSt hl with hl|rfl
   · exact h.hs l hl
   · exact ⟨fun x hx=>h2 x (List.mem_filter.1 hx).1,zAq (zAa _ _) h1⟩
 · rcases md hy with hy|rfl
   · exact h.nt y hy
   · exact ny hp
theorem dj.back {n:Nat} {w:Wld} (h:dj n w) {who:Int} {p:Bs} {k:Int}:dj n (iy w who p k):=
 ⟨h.over,fun l hl=>h.ls l (List.mem_filter.1 hl).1,zAq (zAa _ _) h.ll,h.hs,h.hl,h.fl,h.nt,h.nl,h.op⟩
theorem dj.net {n:Nat} {w:Wld} (h:dj n w) {net:List Mes} (hm:∀ x∈net,x∈w.net) (hl:net.length≤1048576):dj n { w with net:=net }:=
 ⟨h.over,h.ls,h.ll,h.hs,h.hl,h.fl,fun x hx=>h.nt x (hm x hx),hl,h.op⟩
theorem dj.tick {n:Nat} {w:Wld} (h:dj n w):dj n (ix w):=
 ⟨h.over,fun l hl=>h.ls l (List.mem_filter.1 hl).1,zAq (zAa _ _) h.ll,h.hs,h.hl,h.fl,h.nt,h.nl,h.op⟩
theorem dj.come {n:Nat} {w:Wld} (h:dj n w) (h12:w.net.length≤12) {t v:List Ent} (ho:bv w.over=some (t,v)) {x:Mes} (hx:nE x.hold):dj (n+1) (dA w x):=by
 unfold dA;split
 · exact h.ask h12 ho hx.1
 · split
   · exact h.grant hx
   · split
     · exact (h.recall hx.1).up (Nat.le_succ _)
     · split
       · exact h.back.up (Nat.le_succ _)
       · exact h.up (Nat.le_succ _)
theorem dj.netD {n:Nat} {w:Wld} (h:dj n w) (h12:w.net.length≤12) {t v:List Ent} (ho:bv w.over=some (t,v)) (k pos:Int):dj (n+1) (jb w k pos).1:=by
 unfold jb;split
 · exact h.up (Nat.le_succ _)
 · split
   · exact h.up (Nat.le_succ _)
   · rename_i m hm;have hmm:=zAD hm;have hlen:(w.net.eraseIdx pos.toNat).length≤w.net.length:=by rw [zAk]; split <;> omega
     have hb:=h.net (net:=w.net.eraseIdx pos.toNat) (fun x hx=>(zBM _ _).subset hx) (zAq hlen h.nl);split
     · exact (h.send (h.nt m hmm) h12).up (Nat.le_succ _)
     · split
       · exact hb.come (zAq hlen h12) ho (h.nt m hmm)
       · exact hb.up (Nat.le_succ _)
theorem dj.do_ {n:Nat} {w:Wld} (h:dj n w) {t v:List Ent} (ho:bv w.over=some (t,v)) (hw:OkW v w) {e:Evn} (he:ql e):dj (n+1) (wDo w e).1:=by
 unfold wDo;split
 · split
   · exact (h.send (ny he.path) hw.nl).up (Nat.le_succ _)
   · exact h.up (Nat.le_succ _)
 · split
   · exact (h.write ho hw he.op).up (Nat.le_succ _)
   · split
     · exact (h.try_ ho hw).up (Nat.le_succ _)
     · split
       · exact h.tick.up (Nat.le_succ _)
       · split
         · exact h.netD hw.nl ho _ _
         · exact h.up (Nat.le_succ _)
theorem qm (w:Wld) (e:Evn) (hb:dj 1048575 w) (he:ql e):Con (E m) 23 0 [.agg w.c,.agg e.c] [] (.tup [.agg (bX w e).1.c,.k .i64 (bX w e).2]) []:=by
 have hbw:=hb.w (by omega);have c1:=l7 (m:=m) w hbw;by_cases hok:ba w=true
 rotate_left
 · have hok:ba w=false:=by simpa using hok
   rw [hok] at c1;have hx:bX w e=(w0,1):=by rw [bX,hok]; rfl
   rw [hx];refine G0 Tryz.func23 ?_;repeat' first|refine Ra ⟨?_⟩|refine R0 c1 ⟨?_⟩|refine Rd (fun h=>⟨?_⟩) fun h=>⟨?_⟩|refine Rb ⟨?_⟩|fail
   exact Rz
 · rw [hok] at c1;have hx:bX w e=wDo w e:=by rw [bX,if_pos hok]
   rw [hx];obtain ⟨t,v,ho,hw,hs⟩:=bB hok;obtain ⟨h0,h1,h2,hh⟩:=Bb hw.hl;have c2:=j8 (m:=m) w hbw h0 h1 h2 hh;obtain ⟨g0,g1,g2,hW,c3⟩:=rc (m:=m) w e hbw ho hw (fun l hl=>(hb.hs l hl).2) he h0 h1 h2 hh;have hbW:=(hb.do_ ho hw he).w (by omega);have c4:=j8 (m:=m) (wDo w e).1 hbW g0 g1 g2 hW;rw [dV hW] at c4 ⊢;generalize wDo w e=W at c3 c4;refine G0 Tryz.func23 ?_;repeat' first|refine Ra ⟨?_⟩|refine R0 c1 ⟨?_⟩|refine Rk [] 4 c2 ⟨?_⟩|refine Rk [2,3,4,5] 4 c3 ⟨?_⟩|refine Rk [3,4,5,6] 4 c3 ⟨?_⟩|refine Rk [4,5,6,7] 4 c3 ⟨?_⟩|refine Rk [] 4 c4 ⟨?_⟩|refine Rd (fun h=>⟨?_⟩) fun h=>⟨?_⟩|refine Rb ⟨?_⟩|fail
   exact Rz
end Go.Proofs.YtagejnomlkfndaaGreatDoor
