/- Texts of this claim, set close: lemmas and contracts. -/
import Derived.Test.YtagejnomlkfndaaGreatDoorYY52
set_option linter.unusedSimpArgs false
set_option linter.unusedVariables false
set_option maxHeartbeats 1000000
set_option maxRecDepth 10000
namespace Go.Proofs.YtagejnomlkfndaaGreatDoor
open Go Go.RowKit Go.Ab Go.Par
variable {m:Int}
theorem rc (w:Wld) (e:Evn) (hb:dO w) {t v:List Ent} (ho:bv w.over=some (t,v)) (hw:OkW v w) (hl:∀ l∈w.holds,l.length≤1048575) (he:ql e) (h0 h1 h2:List Hld) (hh:w.holds=[h0,h1,h2]) :
   ∃ g0 g1 g2,(wDo w e).1.holds=[g0,g1,g2]∧Con (E m) 80 4 [.agg (wcO w 0 1 2 3),.agg e.c] (wlT w 0 1 2 3 [anH h0,anH h1,anH h2]) (.tup [.agg (wcO (wDo w e).1 4 5 6 7),.k .i64 (wDo w e).2]) (wlT (wDo w e).1 4 5 6 7 [anH g0,anH g1,anH g2]):=by
 by_cases k5:e.kind=5∨e.kind=6∨e.kind=7
 · have hq:wDo w e=jb w e.kind e.pos:=by
     unfold wDo;rw [if_neg (by omega),if_neg (by omega),if_neg (by omega),if_neg (by omega),if_pos k5]
   rw [hq];obtain ⟨g0,g1,g2,hg,c1⟩:=Hw (m:=m) w e hb ho hw k5 hl h0 h1 h2 hh;refine ⟨g0,g1,g2,hg,?_⟩;generalize jb w e.kind e.pos=W at c1;obtain ⟨kind,who,p,op,pos⟩:=e;simp only at k5;obtain rfl|rfl|rfl:=k5
   · refine G0 Tryz.func80 ?_;repeat' first|refine Ra ⟨?_⟩|refine Rk [0,1,2,3] 4 c1 ⟨?_⟩|refine Rd (fun h=>⟨?_⟩) fun h=>⟨?_⟩|refine Rb ⟨?_⟩|fail
     exact Rf
   · refine G0 Tryz.func80 ?_;repeat' first|refine Ra ⟨?_⟩|refine Rk [0,1,2,3] 4 c1 ⟨?_⟩|refine Rd (fun h=>⟨?_⟩) fun h=>⟨?_⟩|refine Rb ⟨?_⟩|fail
     exact Rf
   · refine G0 Tryz.func80 ?_;repeat' first|refine Ra ⟨?_⟩|refine Rk [0,1,2,3] 4 c1 ⟨?_⟩|refine Rd (fun h=>⟨?_⟩) fun h=>⟨?_⟩|refine Rb ⟨?_⟩|fail
     exact Rf
 · have hep:=he.path;have heo:=he.op;obtain ⟨kind,who,p,op,pos⟩:=e;simp only at hep heo k5;unfold wDo;by_cases k1:kind=1
   · simp only [if_pos k1];subst k1;have c4:=qe (m:=m) who;have c5:=cY (m:=m) p (by omega);by_cases hw1:dJ who=true
     · rw [hw1] at c4;by_cases hp1:ah p=true
       · rw [hp1] at c5;have q:(dJ who && ah p)=true:=by rw [hw1,hp1]; rfl
         simp only [q,if_true];have c3:=iK (m:=m) w [anH h0,anH h1,anH h2] ⟨1,who,aZ p 0⟩ hb.nl h0 h1 h2 rfl;refine ⟨h0,h1,h2,hh,?_⟩;refine G0 Tryz.func80 ?_;repeat' first|refine Ra ⟨?_⟩|refine R0 c4 ⟨?_⟩|refine R0 c5 ⟨?_⟩|refine Rk [0,1,2,3] 4 c3 ⟨?_⟩|refine Rd (fun h=>⟨?_⟩) fun h=>⟨?_⟩|refine Rb ⟨?_⟩|fail
         exact Rf
       · have hp1:ah p=false:=by simpa using hp1
         rw [hp1] at c5;have q:(dJ who && ah p)=false:=by rw [hw1,hp1]; rfl
         rw [q];simp only [zAF,if_false];refine ⟨h0,h1,h2,hh,?_⟩;refine G0 Tryz.func80 ?_;repeat' first|refine Ra ⟨?_⟩|refine R0 c4 ⟨?_⟩|refine R0 c5 ⟨?_⟩|refine Rd (fun h=>⟨?_⟩) fun h=>⟨?_⟩|refine Rb ⟨?_⟩|fail
         refine ak.here (fw [.anew 0,.close 1,.anew 2,.anew 3] ?_)
         conv=>whnf
         exact ⟨rfl,rfl,rfl,rfl⟩
     · have hw1:dJ who=false:=by simpa using hw1
       rw [hw1] at c4;have q:(dJ who && ah p)=false:=by rw [hw1]; rfl
       rw [q];simp only [zAF,if_false];refine ⟨h0,h1,h2,hh,?_⟩;refine G0 Tryz.func80 ?_;repeat' first|refine Ra ⟨?_⟩|refine R0 c4 ⟨?_⟩|refine Rd (fun h=>⟨?_⟩) fun h=>⟨?_⟩|refine Rb ⟨?_⟩|fail
       refine ak.here (fw [.anew 0,.close 1,.anew 2,.anew 3] ?_)
       conv=>whnf
       exact ⟨rfl,rfl,rfl,rfl⟩
   · rw [if_neg k1];by_cases k2:kind=2
     · simp only [if_pos k2];subst k2;have c3:=Dx (m:=m) w [anH h0,anH h1,anH h2] op hb heo ho h0 h1 h2 hh rfl;refine ⟨h0,h1,h2,(jA w op).trans hh,?_⟩;generalize bQ w op=W at c3;refine G0 Tryz.func80 ?_;repeat' first|refine Ra ⟨?_⟩|refine Rk [0,1,2,3] 4 c3 ⟨?_⟩|refine Rd (fun h=>⟨?_⟩) fun h=>⟨?_⟩|refine Rb ⟨?_⟩|fail
       exact Rf
     · rw [if_neg k2];by_cases k3:kind=3
       · simp only [if_pos k3];subst k3;have c3:=Hs (m:=m) w [anH h0,anH h1,anH h2] hb ho h0 h1 h2 hh rfl;refine ⟨h0,h1,h2,(mc w).trans hh,?_⟩;generalize eI w=W at c3;refine G0 Tryz.func80 ?_;repeat' first|refine Ra ⟨?_⟩|refine Rk [0,1,2,3] 4 c3 ⟨?_⟩|refine Rd (fun h=>⟨?_⟩) fun h=>⟨?_⟩|refine Rb ⟨?_⟩|fail
         exact Rf
       · rw [if_neg k3];by_cases k4:kind=4
         · simp only [if_pos k4];subst k4;have c3:=FE (m:=m) w [anH h0,anH h1,anH h2] hw.clk hb.ll h0 h1 h2 rfl;refine ⟨h0,h1,h2,hh,?_⟩;generalize ix w=W at c3;refine G0 Tryz.func80 ?_;repeat' first|refine Ra ⟨?_⟩|refine Rk [0,1,2,3] 4 c3 ⟨?_⟩|refine Rd (fun h=>⟨?_⟩) fun h=>⟨?_⟩|refine Rb ⟨?_⟩|fail
           exact Rf
         · rw [if_neg k4];simp only [if_neg k5];have k6:¬ kind=5:=fun h=>k5 (.inl h);have k7:¬ kind=6:=fun h=>k5 (.inr (.inl h));have k8:¬ kind=7:=fun h=>k5 (.inr (.inr h));refine ⟨h0,h1,h2,hh,?_⟩;refine G0 Tryz.func80 ?_;repeat' first|refine Rx ⟨?_⟩|refine Rd (fun h=>⟨?_⟩) fun h=>⟨?_⟩|fail
           refine ak.here (fw [.anew 0,.close 1,.anew 2,.anew 3] ?_)
           conv=>whnf
           exact ⟨rfl,rfl,rfl,rfl⟩
variable {m:Int}
theorem j8 (w:Wld) (hb:dO w) (h0 h1 h2:List Hld) (hh:w.holds=[h0,h1,h2]):Con (E m) 81 0 [.agg w.c] [] (.agg (wcO w 0 1 2 3)) [(0,.own 132 (w.leases.map Lse.c)),(1,.deep 121 68 [anH h0,anH h1,anH h2]),(2,.own 3 (ck w.floors)),(3,.own 70 (w.net.map Mes.c))]:=by
 have hll:=hb.ll;have hfl:=hb.fl;have hnl:=hb.nl;have l0:=(hb.hs h0 (by rw [hh]; simp)).2;have l1:=(hb.hs h1 (by rw [hh]; simp)).2;have l2:=(hb.hs h2 (by rw [hh]; simp)).2;have e2:(w.leases.map Lse.c).length=w.leases.length:=zAA ..;have e3:(ck w.floors).length=w.floors.length:=zAA ..;have e4:(w.net.map Mes.c).length=w.net.length:=zAA ..;have m0:(h0.map Hld.c).length=h0.length:=zAA ..;have m1:(h1.map Hld.c).length=h1.length:=zAA ..;have m2:(h2.map Hld.c).length=h2.length:=zAA ..;have c1:=cH (jI (m:=m) w.over hb.over);clear hb;obtain ⟨o,clk,cnt,ls,hs,fl,nt,wt,op⟩:=w;simp only at hh hll hfl hnl e2 e3 e4 c1;subst hh;refine cE ?_;refine bK DS HW Tryz.func81 rfl rfl rfl (zAC rfl) ?_;repeat' first|refine Ra ⟨?_⟩|refine R0 c1 ⟨?_⟩|refine Rd (fun h=>⟨?_⟩) fun h=>⟨?_⟩|refine Rb ⟨?_⟩|fail
 refine Cd.loop2 (fun mq tm S nx=>∃ (i:Nat) (zs:List aE),mq=(3 - i)∧tm=[(1,.bp 0 0),(2,.bp 1 0),(3,.bp 2 0),(4,.k .i64 i)]∧S=[(0,.box 55 (Wld.c ⟨o,clk,cnt,ls,[h0,h1,h2],fl,nt,wt,op⟩)),(1,.box 55 [.nil,.nil,.nil,.k .i64 0,.k .i64 0,.nil,.nil,.nil,.nil,.b false,.k .i64 0,.s [],.s [],.s []]),(2,.box 55 [.sl (o.base.map Ent.c),.sl (o.layers.map cm),.sl (o.upper.map Mrk.c),.k .i64 clk,.k .i64 cnt,.own 3,.own 4,.sl (ck fl),.sl (nt.map Mes.c),.b wt,.k .i64 op.kind,.s op.path,.s op.tgt,.s op.data]),(3,.own 132 (ls.map Lse.c)),(4,.deep 121 68 zs)]∧nx=5∧(i≤3)∧(zs=[anH h0,anH h1,anH h2].take i)) ?_ ?_
 · refine la [1,2,3,4] ?_
   conv=>whnf
   refine ⟨rfl,rfl,_,0,[],rfl,rfl,rfl,rfl,by omega,rfl⟩
 · rintro mq tm S nx ⟨i,zs,hn,rfl,rfl,rfl,hi,hz⟩;obtain rfl|rfl|rfl|rfl:i=0∨i=1∨i=2∨i=3:=by omega
   · have hz:zs=[]:=hz;subst hz;repeat' first|refine Rx ⟨?_⟩|refine Rd (fun h=>⟨?_⟩) fun h=>⟨?_⟩|fail
     refine .here ⟨mq - 1,by omega,?_⟩;refine la [1,2,3,4] ?_
     conv=>whnf
     refine ⟨rfl,rfl,1,[anH h0],(by omega),rfl,rfl,rfl,by omega,rfl⟩
   · have hz:zs=[anH h0]:=hz;subst hz;repeat' first|refine Ra ⟨?_⟩|((refine ⟨1,_,rfl,rfl,rfl,?_⟩) <;> conv=>whnf)|refine Rd (fun h=>⟨?_⟩) fun h=>⟨?_⟩|refine Rb ⟨?_⟩|fail
     refine .here ⟨mq - 1,by omega,?_⟩;refine la [1,2,3,4] ?_
     conv=>whnf
     refine ⟨rfl,rfl,2,[anH h0,anH h1],(by omega),rfl,rfl,rfl,by omega,rfl⟩
   · have hz:zs=[anH h0,anH h1]:=hz;subst hz;repeat' first|refine Ra ⟨?_⟩|((refine ⟨2,_,rfl,rfl,rfl,?_⟩) <;> conv=>whnf)|refine Rd (fun h=>⟨?_⟩) fun h=>⟨?_⟩|refine Rb ⟨?_⟩|fail
     refine .here ⟨mq - 1,by omega,?_⟩;refine la [1,2,3,4] ?_
     conv=>whnf
     refine ⟨rfl,rfl,3,[anH h0,anH h1,anH h2],(by omega),rfl,rfl,rfl,by omega,rfl⟩
   · have hz:zs=[anH h0,anH h1,anH h2]:=hz;subst hz;repeat' first|refine Rx ⟨?_⟩|refine Rd (fun h=>⟨?_⟩) fun h=>⟨?_⟩|fail
     exact Rf
variable {m:Int}
structure dj (n:Nat) (w:Wld):Prop where
 over:gM w.over
 ls:∀ l∈w.leases,C8 l
 ll:w.leases.length≤n
 hs:∀ l∈w.holds,(∀ h∈l,nE h)∧l.length≤n
 hl:w.holds.length≤1048576
 fl:w.floors.length≤1048576
 nt:∀ x∈w.net,nE x.hold
 nl:w.net.length≤1048576
 op:jc 1073741823 w.op
theorem dj.w {n:Nat} {w:Wld} (h:dj n w) (hn:n≤1048576):dO w:=
 ⟨h.over,h.ls,zAq h.ll hn,fun l hl=>⟨(h.hs l hl).1,zAq (h.hs l hl).2 hn⟩,h.hl,h.fl,h.nt,h.nl,h.op⟩
theorem dO.n {w:Wld} (h:dO w):dj 1048576 w:=⟨h.over,h.ls,h.ll,h.hs,h.hl,h.fl,h.nt,h.nl,h.op⟩
theorem dj.up {n k:Nat} {w:Wld} (h:dj n w) (hk:n≤k):dj k w:=
 ⟨h.over,h.ls,zAq h.ll hk,fun l hl=>⟨(h.hs l hl).1,zAq (h.hs l hl).2 hk⟩,h.hl,h.fl,h.nt,h.nl,h.op⟩
theorem ny {p:Bs} {n:Int} (h:p.length≤1073741823):nE (aZ p n):=⟨h,by simp [aZ,b9],by simp [aZ,b9]⟩
theorem md {net:List Mes} {x y:Mes} (h:y∈bZ net x):y∈net∨y=x:=by
 unfold bZ at h;split at h
 · simpa using h
 · exact .inl h
theorem dj.send {n:Nat} {w:Wld} (h:dj n w) {x:Mes} (hx:nE x.hold) (h12:w.net.length≤12):dj n { w with net:=bZ w.net x }:=
 ⟨h.over,h.ls,h.ll,h.hs,h.hl,h.fl,fun y hy=>by
  rcases md hy with hy|rfl
  · exact h.nt y hy
  · exact hx,j7 h.nl (by omega),h.op⟩
theorem m9 (cnt:Int):∀ (bars:List Lse) (net:List Mes),(∀ y∈net,nE y.hold)→net.length≤1048576→(∀ l∈bars,C8 l)→(∀ y∈dQ net cnt bars,nE y.hold)∧(dQ net cnt bars).length≤1048576
 | [],net,h1,h2,_=>⟨h1,h2⟩
 | l :: r,net,h1,h2,h3=>by
   rw [jz];refine m9 cnt r _ (fun y hy=>?_) (j7 h2 (by omega)) fun x hx=>h3 x (by simp [hx]);rcases md hy with hy|rfl
   · exact h1 y hy
   · exact ny (h3 l (by simp))
theorem Bv {w:Wld} {n:Nat} (h:dj n w) {v:List Ent} {p:Opn}:∀ l∈dg v w.clock w.leases p,C8 l:=fun l hl=>h.ls l (List.mem_filter.1 hl).1
theorem dj.write {n:Nat} {w:Wld} (h:dj n w) {t v:List Ent} (ho:bv w.over=some (t,v)) (hw:OkW v w) {p:Opn} (hp:jc 1073741823 p):dj n (bQ w p).1:=by
 obtain ⟨v',ho',_⟩:=hw.write ho p;have hov:=Ei ho';unfold bQ at hov ⊢;split
 · exact h
 · split
   · exact h
   · split
     · rename_i h1 h2 h3;rw [if_neg h1,if_neg h2,if_pos h3] at hov;exact ⟨hov,h.ls,h.ll,h.hs,h.hl,h.fl,h.nt,h.nl,h.op⟩
     · have hr:=m9 w.count _ _ h.nt h.nl (Bv h (v:=Go.Par.seen w.over) (p:=p));exact ⟨h.over,h.ls,h.ll,h.hs,h.hl,h.fl,hr.1,hr.2,hp⟩
theorem dj.try_ {n:Nat} {w:Wld} (h:dj n w) {t v:List Ent} (ho:bv w.over=some (t,v)) (hw:OkW v w):dj n (eI w).1:=by
 obtain ⟨v',ho',_⟩:=hw.try_ ho;have hov:=Ei ho';unfold eI at hov ⊢;split
 · exact h
 · split
   · rename_i h1 h2;rw [if_neg h1,if_pos h2] at hov;exact ⟨hov,h.ls,h.ll,h.hs,h.hl,h.fl,h.nt,h.nl,⟨by simp [op0],by simp [op0],by simp [op0]⟩⟩
   · have hr:=m9 w.count _ _ h.nt h.nl (Bv h (v:=Go.Par.seen w.over) (p:=w.op));exact ⟨h.over,h.ls,h.ll,h.hs,h.hl,h.fl,hr.1,hr.2,h.op⟩
theorem DC {v:List Ent} (hv:aq v=true) (p:Bs):((aA v p).getD b9).path.length≤1073741823∧((aA v p).getD b9).data.length≤1073741823:=by
 cases hg:aA v p with
 | none=>simp [b9]
 | some e=>
   unfold aA at hg;split at hg
   · cases hg;simp [Af]
   · have hm:e∈v:=List.mem_of_find?_eq_some hg;exact qf hv e hm
theorem dj.ask {n:Nat} {w:Wld} (h:dj n w) (h12:w.net.length≤12) {t v:List Ent} (ho:bv w.over=some (t,v)) {who:Int} {p:Bs} (hp:p.length≤1073741823):dj (n+1) (ja w who p):=by
 have hv:=(ce ho).2.2.2;have hs:Go.Par.seen w.over=v:=by rw [Go.Par.seen,ho]
 have hg:=DC hv p;unfold ja;rw [hs];split
 · exact h.up (Nat.le_succ _)
 · refine ⟨h.over,fun l hl=>?_,?_,fun l hl=>⟨(h.hs l hl).1,Nat.le_succ_of_le (h.hs l hl).2⟩,h.hl,h.fl,fun y hy=>?_,j7 h.nl (by omega),h.op⟩
   · rcases zAu.1 hl with hl|hl
     · exact h.ls l (List.mem_filter.1 hl).1
     · rw [List.mem_singleton.1 hl]; exact hp
   · have h1:(jY w.leases who p (w.count+1)).length≤w.leases.length:=zAa _ _;have h2:=h.ll;simp only [zAT,List.length_singleton];omega
   · rcases md hy with hy|rfl
     · exact h.nt y hy
     · exact ⟨hp,hg.1,hg.2⟩
theorem FN (l:List Hld) (g:Hld):(cN l g).length≤l.length+1:=by
 unfold cN;split
 · omega
 · have:(l.filter fun x=>!decide (x.path=g.path)).length≤l.length:=zAa _ _
   simp only [zAT,List.length_singleton];omega
theorem takeH_mem {l:List Hld} {g x:Hld} (h:x∈cN l g):x∈l∨x=g:=by
 unfold cN at h;split at h
 · exact .inl h
 · rcases zAu.1 h with h|h
   · exact .inl (List.mem_filter.1 h).1
   · exact .inr (List.mem_singleton.1 h)
theorem mSt {α:Type} {l:List α} {i:Nat} {x y:α} (h:y∈l.set i x):y∈l∨y=x:=by
 rcases zAw h with h|h
 · exact .inl h
 · exact .inr h
theorem holdsOf_mem {hs:List (List Hld)} {who:Int} {x:Hld} (h:x∈aO hs who):∃ l∈hs,aO hs who=l:=by
 unfold aO at h ⊢;rw [zBA] at h ⊢;cases hq:hs[who.toNat]? with
 | none=>rw [hq] at h; simp at h
 | some l=>exact ⟨l,zAD hq,by simp⟩
theorem rZ {n:Nat} {w:Wld} (h:dj n w) (who:Int):(aO w.holds who).length≤n∧∀ x∈aO w.holds who,nE x:=by
 unfold aO;rw [zBA];cases hq:w.holds[who.toNat]? with
 | none=>simp
 | some l=>exact ⟨(h.hs l (zAD hq)).2,(h.hs l (zAD hq)).1⟩
theorem dj.grant {n:Nat} {w:Wld} (h:dj n w) {who:Int} {g:Hld} (hg:nE g):dj (n+1) (eY w who g):=by
 unfold eY;split
 · obtain ⟨h1,h2⟩:=rZ h who;refine ⟨h.over,h.ls,Nat.le_succ_of_le h.ll,fun l hl=>?_,by rw [zAS]; exact h.hl,h.fl,h.nt,h.nl,h.op⟩;rcases mSt hl with hl|rfl
   · exact ⟨(h.hs l hl).1,Nat.le_succ_of_le (h.hs l hl).2⟩
   · refine ⟨fun x hx=>?_,by have:=FN (aO w.holds who) g; omega⟩;rcases takeH_mem hx with hx|rfl
     · exact h2 x hx
     · exact hg
 · exact h.up (Nat.le_succ _)
theorem dj.recall {n:Nat} {w:Wld} (h:dj n w) {who:Int} {p:Bs} {k:Int} (hp:p.length≤1073741823):dj n (d7 w who p k):=by
 unfold d7;obtain ⟨h1,h2⟩:=rZ h who;refine ⟨h.over,h.ls,h.ll,fun l hl=>?_,by rw [zAS]; exact h.hl,by rw [zAS]; exact h.fl,fun y hy=>?_,j7 h.nl (by omega),h.op⟩
 · rcases mSt hl with hl|rfl
   · exact h.hs l hl
   · exact ⟨fun x hx=>h2 x (List.mem_filter.1 hx).1,zAq (zAa _ _) h1⟩
 · rcases md hy with hy|rfl
   · exact h.nt y hy
   · exact ny hp
theorem dj.back {n:Nat} {w:Wld} (h:dj n w) {who:Int} {p:Bs} {k:Int}:dj n (iy w who p k):=
 ⟨h.over,fun l hl=>h.ls l (List.mem_filter.1 hl).1,zAq (zAa _ _) h.ll,h.hs,h.hl,h.fl,h.nt,h.nl,h.op⟩
theorem dj.net {n:Nat} {w:Wld} (h:dj n w) {net:List Mes} (hm:∀ x∈net,x∈w.net) (hl:net.length≤1048576):dj n { w with net:=net }:=
 ⟨h.over,h.ls,h.ll,h.hs,h.hl,h.fl,fun x hx=>h.nt x (hm x hx),hl,h.op⟩
theorem dj.tick {n:Nat} {w:Wld} (h:dj n w):dj n (ix w):=
 ⟨h.over,fun l hl=>h.ls l (List.mem_filter.1 hl).1,zAq (zAa _ _) h.ll,h.hs,h.hl,h.fl,h.nt,h.nl,h.op⟩
theorem dj.come {n:Nat} {w:Wld} (h:dj n w) (h12:w.net.length≤12) {t v:List Ent} (ho:bv w.over=some (t,v)) {x:Mes} (hx:nE x.hold):dj (n+1) (dA w x):=by
 unfold dA;split
 · exact h.ask h12 ho hx.1
 · split
   · exact h.grant hx
   · split
     · exact (h.recall hx.1).up (Nat.le_succ _)
     · split
       · exact h.back.up (Nat.le_succ _)
       · exact h.up (Nat.le_succ _)
theorem dj.netD {n:Nat} {w:Wld} (h:dj n w) (h12:w.net.length≤12) {t v:List Ent} (ho:bv w.over=some (t,v)) (k pos:Int):dj (n+1) (jb w k pos).1:=by
 unfold jb;split
 · exact h.up (Nat.le_succ _)
 · split
   · exact h.up (Nat.le_succ _)
   · rename_i m hm;have hmm:=zAD hm;have hlen:(w.net.eraseIdx pos.toNat).length≤w.net.length:=by rw [zAk]; split <;> omega
     have hb:=h.net (net:=w.net.eraseIdx pos.toNat) (fun x hx=>(zBM _ _).subset hx) (zAq hlen h.nl);split
     · exact (h.send (h.nt m hmm) h12).up (Nat.le_succ _)
     · split
       · exact hb.come (zAq hlen h12) ho (h.nt m hmm)
       · exact hb.up (Nat.le_succ _)
theorem dj.do_ {n:Nat} {w:Wld} (h:dj n w) {t v:List Ent} (ho:bv w.over=some (t,v)) (hw:OkW v w) {e:Evn} (he:ql e):dj (n+1) (wDo w e).1:=by
 unfold wDo;split
 · split
   · exact (h.send (ny he.path) hw.nl).up (Nat.le_succ _)
   · exact h.up (Nat.le_succ _)
 · split
   · exact (h.write ho hw he.op).up (Nat.le_succ _)
   · split
     · exact (h.try_ ho hw).up (Nat.le_succ _)
     · split
       · exact h.tick.up (Nat.le_succ _)
       · split
         · exact h.netD hw.nl ho _ _
         · exact h.up (Nat.le_succ _)
theorem qm (w:Wld) (e:Evn) (hb:dj 1048575 w) (he:ql e):Con (E m) 23 0 [.agg w.c,.agg e.c] [] (.tup [.agg (bX w e).1.c,.k .i64 (bX w e).2]) []:=by
 have hbw:=hb.w (by omega);have c1:=l7 (m:=m) w hbw;by_cases hok:ba w=true
 rotate_left
 · have hok:ba w=false:=by simpa using hok
   rw [hok] at c1;have hx:bX w e=(w0,1):=by rw [bX,hok]; rfl
   rw [hx];refine G0 Tryz.func23 ?_;repeat' first|refine Ra ⟨?_⟩|refine R0 c1 ⟨?_⟩|refine Rd (fun h=>⟨?_⟩) fun h=>⟨?_⟩|refine Rb ⟨?_⟩|fail
   exact Rz
 · rw [hok] at c1;have hx:bX w e=wDo w e:=by rw [bX,if_pos hok]
   rw [hx];obtain ⟨t,v,ho,hw,hs⟩:=bB hok;obtain ⟨h0,h1,h2,hh⟩:=Bb hw.hl;have c2:=j8 (m:=m) w hbw h0 h1 h2 hh;obtain ⟨g0,g1,g2,hW,c3⟩:=rc (m:=m) w e hbw ho hw (fun l hl=>(hb.hs l hl).2) he h0 h1 h2 hh;have hbW:=(hb.do_ ho hw he).w (by omega);have c4:=j8 (m:=m) (wDo w e).1 hbW g0 g1 g2 hW;rw [dV hW] at c4 ⊢;generalize wDo w e=W at c3 c4;refine G0 Tryz.func23 ?_;repeat' first|refine Ra ⟨?_⟩|refine R0 c1 ⟨?_⟩|refine Rk [] 4 c2 ⟨?_⟩|refine Rk [2,3,4,5] 4 c3 ⟨?_⟩|refine Rk [3,4,5,6] 4 c3 ⟨?_⟩|refine Rk [4,5,6,7] 4 c3 ⟨?_⟩|refine Rk [] 4 c4 ⟨?_⟩|refine Rd (fun h=>⟨?_⟩) fun h=>⟨?_⟩|refine Rb ⟨?_⟩|fail
   exact Rz
end Go.Proofs.YtagejnomlkfndaaGreatDoor
