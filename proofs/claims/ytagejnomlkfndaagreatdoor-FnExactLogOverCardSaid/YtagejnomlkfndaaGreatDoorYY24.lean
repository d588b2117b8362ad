/- Texts of this claim, set close: lemmas and contracts. -/
import Derived.Test.YtagejnomlkfndaaGreatDoorYY21
set_option linter.unusedSimpArgs false
set_option linter.unusedVariables false
namespace Go.Par
open Go.Ab
theorem iG {net:List Mes} {x m:Mes} (h:m∈bZ net x):m∈net∨m=x:=by
 unfold bZ at h;split at h
 · rcases zAu.1 h with h|h
   · exact .inl h
   · exact .inr (List.mem_singleton.1 h)
 · exact .inl h
theorem ly {net:List Mes} {x:Mes} (h:net.length≤12):(bZ net x).length≤12:=by
 unfold bZ;split
 · rw [zAT,List.length_singleton]; omega
 · exact h
theorem rQ {cnt:Int}:∀ {bars:List Lse} {net:List Mes} {m:Mes},m∈dQ net cnt bars→m∈net∨∃ l∈bars,m=⟨3,l.who,aZ l.path cnt⟩
 | [],net,m,h=>.inl h
 | l :: r,net,m,h=>by
   rcases rQ (bars:=r) (net:=bZ net ⟨3,l.who,aZ l.path cnt⟩) h with h|⟨k,hk,e⟩
   · rcases iG h with h|h
     · exact .inl h
     · exact .inr ⟨l,by simp,h⟩
   · exact .inr ⟨k,by simp [hk],e⟩
theorem mY {cnt:Int}:∀ {bars:List Lse} {net:List Mes},net.length≤12→(dQ net cnt bars).length≤12
 | [],net,h=>h
 | l :: r,net,h=>mY (bars:=r) (ly h)
theorem AL {fl:List Int} {who:Int} (h:who.toNat < fl.length):bz fl who=fl[who.toNat]:=by
 simp [bz,List.getD,zAB h]
theorem rR {fl:List Int} {i who:Int} {x:Int} (hi:0≤i∧i.toNat < fl.length) (hw:0≤who):bz (fl.set i.toNat x) who=if who=i then x else bz fl who:=by
 unfold bz List.getD;rw [zAm];by_cases h:who=i
 · subst h; simp [hi.2]
 · have:¬ i.toNat=who.toNat:=by omega
   simp [this,h]
theorem rS {hs:List (List Hld)} {i who:Int} {x:List Hld} (hi:0≤i∧i.toNat < hs.length) (hw:0≤who):aO (hs.set i.toNat x) who=if who=i then x else aO hs who:=by
 unfold aO List.getD;rw [zAm];by_cases h:who=i
 · subst h; simp [hi.2]
 · have:¬ i.toNat=who.toNat:=by omega
   simp [this,h]
theorem holdsOf_mem {hs:List (List Hld)} {who:Int} (h:who.toNat < hs.length):hs[who.toNat]?=some (aO hs who):=by
 simp [aO,List.getD,zAB h]
section
variable {v:List Ent} {w:Wld}
theorem OkW.net (h:OkW v w) {net:List Mes} (hl:net.length≤12) (hm:∀ m∈net,m∈w.net∨((m.kind=1∨m.kind=3)∧(0≤m.who∧m.who≤2)∧ah m.hold.path=true∧0≤m.hold.num∧m.hold.num≤w.count∧m.hold=aZ m.hold.path m.hold.num)):OkW v { w with net:=net }:=
 ⟨h.clk,h.cnt,h.hl,h.fl,hl,h.fb,h.ls,h.lu,h.hs,h.hu,h.so,fun m hmm=>by
  rcases hm m hmm with h1|⟨a,b,c,d,e,f⟩
  · exact h.nt m h1
  · exact ⟨by omega,b,c,d,e,.inr f⟩,fun m hmm hk=>by
  rcases hm m hmm with h1|⟨a,_⟩
  · exact h.gr m h1 hk
  · omega,fun m hmm hk=>by
  rcases hm m hmm with h1|⟨a,_⟩
  · exact h.bk m h1 hk
  · omega,h.wt⟩
theorem OkW.less (h:OkW v w) {net:List Mes} (hl:net.length≤12) (hm:∀ m∈net,m∈w.net):OkW v { w with net:=net }:=h.net hl fun m hmm=>.inl (hm m hmm)
theorem So.view {v':List Ent} (hv:∀ l∈w.leases,w.clock < l.til→aA v' l.path=aA v l.path) {who:Int} {h:Hld} (k:So v w who h):So v' w who h:=by
 rcases k with k|⟨a,b,l,c,d,e,f,g⟩
 · exact .inl k
 · have:=hv l c f
   rw [e] at this;rw [← this] at a b;exact .inr ⟨a,b,l,c,d,e,f,g⟩
theorem OkW.turn (h:OkW v w) {v':List Ent} (hv:∀ l∈w.leases,w.clock < l.til→aA v' l.path=aA v l.path) (o:Ovr):OkW v' { w with over:=o,waits:=false,op:=op0 }:=
 ⟨h.clk,h.cnt,h.hl,h.fl,h.nl,h.fb,h.ls,h.lu,h.hs,h.hu,fun i l hl x hx=>(h.so i l hl x hx).view hv,h.nt,fun m hm hk hf=>(h.gr m hm hk hf).view hv,h.bk,rfl⟩
theorem Ee {ls:List Lse} {clk:Int} {p:Opn} (hv:aq v=true) (hc:(aJ v p).2=0) (hb:dg v clk ls p=[]):∀ l∈ls,clk < l.til→aA (aJ v p).1 l.path=aA v l.path:=by
 intro l hl ht;have h1:=List.filter_eq_nil_iff.1 hb l hl;simp only [cf,if_pos hc,ht,decide_true,zAx,decide_eq_true_eq] at h1;rw [gI hv (gS hv p)] at h1;have h2:=Decidable.not_not.1 h1;unfold aA;rw [h2]
theorem OkW.waitsOn (h:OkW v w) {p:Opn} (hp:(aJ v p).2=0) {net:List Mes} (hl:net.length≤12) (hm:∀ m∈net,m∈w.net∨∃ l∈w.leases,m=⟨3,l.who,aZ l.path w.count⟩):OkW v { w with net:=net,waits:=true,op:=p }:=by
 have k:=h.net hl fun m hmm=>by
  rcases hm m hmm with h1|⟨l,h1,rfl⟩
  · exact .inl h1
  · obtain ⟨a,b,c,d,_⟩:=h.ls l h1;refine .inr ⟨.inr rfl,a,b,?_,?_,rfl⟩
    · show 0≤w.count
      omega
    · show w.count≤w.count
      omega
 exact ⟨k.clk,k.cnt,k.hl,k.fl,k.nl,k.fb,k.ls,k.lu,k.hs,k.hu,k.so,k.nt,k.gr,k.bk,hp⟩
theorem AM {ls:List Lse} {clk:Int} {p:Opn} {l:Lse} (h:l∈dg v clk ls p):l∈ls:=(List.mem_filter.1 h).1
theorem ux {bars:List Lse} (hb:∀ l∈bars,l∈w.leases):∀ m∈dQ w.net w.count bars,m∈w.net∨∃ l∈w.leases,m=⟨3,l.who,aZ l.path w.count⟩:=fun m hm=>by
 rcases rQ hm with h|⟨l,h1,h2⟩
 · exact .inl h
 · exact .inr ⟨l,hb l h1,h2⟩
theorem OkW.write {t:List Ent} (ho:bv w.over=some (t,v)) (h:OkW v w) (p:Opn):∃ v',bv (bQ w p).1.over=some (t,v')∧OkW v' (bQ w p).1:=by
 have hs:seen w.over=v:=by rw [seen,ho]
 obtain ⟨_,_,_,hv⟩:=ce ho;unfold bQ;rw [hs];split
 · exact ⟨v,ho,h⟩
 · rename_i hw;split
   · exact ⟨v,ho,h⟩
   · rename_i hc;have hc:(aJ v p).2=0:=Decidable.not_not.1 hc;split
     · rename_i hb;have hop:w.op=op0:=by have:=h.wt; rwa [if_neg hw] at this
       have hwf:w.waits=false:=by simpa using hw
       have k:=h.turn (Ee hv hc hb) (dE w.over p).1;refine ⟨_,(yD ho p).1,?_⟩;have e:({ w with over:=(dE w.over p).1 }:Wld)={ w with over:=(dE w.over p).1,waits:=false,op:=op0 }:=by rw [← hop,← hwf]
       rw [e];exact k
     · exact ⟨v,ho,h.waitsOn hc (mY h.nl) (ux fun l hl=>AM hl)⟩
theorem OkW.try_ {t:List Ent} (ho:bv w.over=some (t,v)) (h:OkW v w):∃ v',bv (eI w).1.over=some (t,v')∧OkW v' (eI w).1:=by
 have hs:seen w.over=v:=by rw [seen,ho]
 obtain ⟨_,_,_,hv⟩:=ce ho;unfold eI;rw [hs];split
 · exact ⟨v,ho,h⟩
 · rename_i hw;have hw:w.waits=true:=by simpa using hw
   have hc:(aJ v w.op).2=0:=by have:=h.wt; rwa [if_pos hw] at this
   split
   · rename_i hb;exact ⟨_,(yD ho w.op).1,h.turn (Ee hv hc hb) (dE w.over w.op).1⟩
   · refine ⟨v,ho,?_⟩;have k:=h.waitsOn hc (mY h.nl) (ux (bars:=dg v w.clock w.leases w.op) fun l hl=>AM hl);rw [← hw] at k;exact k
theorem OkW.tick (h:OkW v w):OkW v (ix w):=by
 have hc:=h.clk;have ht:0≤eX w.clock∧eX w.clock≤10000∧w.clock≤eX w.clock:=by unfold eX; split <;> omega
 have so:∀ {who:Int} {x:Hld},So v w who x→So v (ix w) who x:=by
  intro who x k;by_cases hx:x.til≤eX w.clock
  · exact .inl hx
  · rcases k with k|⟨a,b,l,c,d,e,f,g,i⟩
    · omega
    · refine .inr ⟨a,b,l,List.mem_filter.2 ⟨c,?_⟩,d,e,?_,g,i⟩
      · simp only [decide_eq_true_eq]; omega
      · show eX w.clock < l.til
        omega
 exact ⟨⟨ht.1,ht.2.1⟩,h.cnt,h.hl,h.fl,h.nl,h.fb,fun l hl=>by
  obtain ⟨a,b,c,d,e⟩:=h.ls l (List.mem_filter.1 hl).1;refine ⟨a,b,c,d,?_⟩;show l.til≤eX w.clock+5
  omega,h.lu.sublist zBU,h.hs,h.hu,fun i l hl x hx=>so (h.so i l hl x hx),h.nt,fun m hm hk hf=>so (h.gr m hm hk hf),h.bk,h.wt⟩
theorem OkW.ask (h:OkW v w) (hs:seen w.over=v) {who:Int} {p:Bs} (hw:0≤who∧who≤2) (hp:ah p=true):OkW v (ja w who p):=by
 unfold ja;rw [hs];split
 · exact h
 · rename_i hn;have hcn:w.count < 10000:=by
    have:=fun h=>hn (.inr h)
    omega
   have hc:=h.cnt;have lse:∀ l∈jY w.leases who p (w.count+1)++[(⟨who,p,w.count+1,w.clock+5⟩:Lse)],(l∈w.leases∧¬ (l.who=who∧l.path=p))∨l=⟨who,p,w.count+1,w.clock+5⟩:=by
    intro l hl;rcases zAu.1 hl with hl|hl
    · obtain ⟨h1,h2⟩:=List.mem_filter.1 hl;have hln:=(h.ls l h1).2.2.2.1;have h3:decide (l.num≤w.count+1)=true:=decide_eq_true (by omega);refine .inl ⟨h1,fun hx=>?_⟩;simp [aW,hx.1,hx.2,h3] at h2
    · exact .inr (List.mem_singleton.1 hl)
   have so:∀ {i:Int} {x:Hld},x.num≤w.count→So v w i x→So v { w with count:=w.count+1,leases:=jY w.leases who p (w.count+1)++[(⟨who,p,w.count+1,w.clock+5⟩:Lse)],net:=bZ w.net ⟨2,who,⟨p,(aA v p).isSome,(aA v p).getD b9,w.count+1,w.clock+5⟩⟩ } i x:=by
    intro i x hxn k;rcases k with k|⟨a,b,l,c,d,e,f,g,j⟩
    · exact .inl k
    · by_cases hx:l.who=who∧l.path=p
      · have:=(h.ls l c).2.2.2.2
        refine .inr ⟨a,b,⟨who,p,w.count+1,w.clock+5⟩,by simp,by rw [← d]; exact hx.1.symm,by rw [← e]; exact hx.2.symm,?_,?_,?_⟩
        · show w.clock < w.clock+5
          omega
        · show x.num≤w.count+1
          omega
        · show x.til≤w.clock+5
          omega
      · refine .inr ⟨a,b,l,List.mem_append_left _ (List.mem_filter.2 ⟨c,?_⟩),d,e,f,g,j⟩
        have:aW who p l=false:=by
         simp only [aW,zAr,decide_eq_false_iff_not];by_cases h1:l.who=who
         · exact .inr fun h2=>hx ⟨h1,h2⟩
         · exact .inl h1
        simp [this]
   refine ⟨h.clk,⟨by show 0≤w.count+1; omega,by show w.count+1≤10000; omega⟩,h.hl,h.fl,ly h.nl,fun f hf=>?_,fun l hl=>?_,?_,fun l hl x hx=>?_,h.hu,fun i l hl x hx=>so (h.hs l (zAD hl) x hx).2.2 (h.so i l hl x hx),fun m hm=>?_,fun m hm hk hf=>?_,fun m hm hk=>?_,h.wt⟩
   · have:=h.fb f hf
     refine ⟨this.1,?_⟩;show f≤w.count+1
     omega
   · rcases lse l hl with ⟨h1,_⟩|rfl
     · obtain ⟨a,b,c,d,e⟩:=h.ls l h1;refine ⟨a,b,c,?_,e⟩;show l.num≤w.count+1
       omega
     · refine ⟨hw,hp,?_,?_,?_⟩
       · show 1≤w.count+1
         omega
       · show w.count+1≤w.count+1
         omega
       · show w.clock+5≤w.clock+5
         omega
   · rw [List.pairwise_append];refine ⟨h.lu.sublist zBU,by simp,fun a ha b hb=>?_⟩;rw [List.mem_singleton] at hb;subst hb;rcases lse a (List.mem_append_left _ ha) with ⟨_,h2⟩|h2
     · exact h2
     · subst h2
       have:=(h.ls _ (List.mem_filter.1 ha).1).2.2.2.1
       simp only at this;omega
   · obtain ⟨a,b,c⟩:=h.hs l hl x hx;refine ⟨a,b,?_⟩;show x.num≤w.count+1
     omega
   · rcases iG hm with h1|rfl
     · obtain ⟨a,b,c,d,e,f⟩:=h.nt m h1;refine ⟨a,b,c,d,?_,f⟩;show m.hold.num≤w.count+1
       omega
     · refine ⟨by simp,hw,hp,?_,?_,.inl rfl⟩
       · show 0≤w.count+1
         omega
       · show w.count+1≤w.count+1
         omega
   · rcases iG hm with h1|rfl
     · exact so (h.nt m h1).2.2.2.2.1 (h.gr m h1 hk hf)
     · refine .inr ⟨rfl,rfl,⟨who,p,w.count+1,w.clock+5⟩,by simp,rfl,rfl,?_,?_,?_⟩
       · show w.clock < w.clock+5
         omega
       · show w.count+1≤w.count+1
         omega
       · show w.clock+5≤w.clock+5
         omega
   · rcases iG hm with h1|rfl
     · exact h.bk m h1 hk
     · simp at hk
theorem p8 {α:Type} {l:List α} {i:Nat} {x y:α} (h:y∈l.set i x):y=x∨y∈l:=by
 rcases zAw h with h|h
 · exact .inr h
 · exact .inl h
theorem takeH_mem {l:List Hld} {h x:Hld} (k:x∈cN l h):x∈l∨(x=h∧l.any (fun y=>decide (y.path=h.path) && decide (h.num≤y.num))=false):=by
 unfold cN at k;split at k
 · exact .inl k
 · rename_i hn;rcases zAu.1 k with k|k
   · exact .inl (List.mem_filter.1 k).1
   · exact .inr ⟨List.mem_singleton.1 k,by simpa using hn⟩
theorem CY {l:List Hld} {h:Hld} (k:l.Pairwise fun a b=>a.path≠b.path):(cN l h).Pairwise fun a b=>a.path≠b.path:=by
 unfold cN;split
 · exact k
 · rw [List.pairwise_append];refine ⟨k.sublist zBU,by simp,fun a ha b hb=>?_⟩;rw [List.mem_singleton] at hb;subst hb
   have:=(List.mem_filter.1 ha).2
   simpa using this
theorem OkW.grant (h:OkW v w) {m:Mes} (hm:m∈w.net) (hk:m.kind=2) {net:List Mes} (hl:net.length≤12) (hn:∀ x∈net,x∈w.net):OkW v (eY { w with net:=net } m.who m.hold):=by
 unfold eY;split
 · rename_i hc;obtain ⟨_,hw,hp,h0,h1,_⟩:=h.nt m hm;have hlt:m.who.toNat < w.holds.length:=by rw [h.hl]; omega
   have hget:=holdsOf_mem (hs:=w.holds) hlt;have hmem:=zAD hget;have hS:=h.gr m hm hk hc.2;refine ⟨h.clk,h.cnt,by show (w.holds.set _ _).length=3; rw [zAS]; exact h.hl,h.fl,hl,h.fb,h.ls,h.lu,fun l hl x hx=>?_,fun l hl=>?_,fun i l hl x hx=>?_,fun x hx=>h.nt x (hn x hx),fun x hx=>h.gr x (hn x hx),fun x hx hk4=>?_,h.wt⟩
   · rcases p8 hl with rfl|hl
     · rcases takeH_mem hx with hx|⟨rfl,_⟩
       · exact h.hs _ hmem x hx
       · exact ⟨hp,h0,h1⟩
     · exact h.hs l hl x hx
   · rcases p8 hl with rfl|hl
     · exact CY (h.hu _ hmem)
     · exact h.hu l hl
   · have hl':(w.holds.set m.who.toNat (cN (aO w.holds m.who) m.hold))[i]?=some l:=hl;rw [zAm] at hl';split at hl'
     · rename_i hi;subst hi;simp only [hlt,if_true,zAV] at hl';subst hl';have e:((m.who.toNat:Nat):Int)=m.who:=Int.toNat_of_nonneg hw.1;rcases takeH_mem hx with hx|⟨rfl,_⟩
       · exact h.so _ _ hget x hx
       · rw [e]; exact hS
     · exact h.so i l hl' x hx
   · obtain ⟨c1,c2⟩:=h.bk x (hn x hx) hk4;have hxw:=(h.nt x (hn x hx)).2.1;refine ⟨c1,fun y hy hyp=>?_⟩;have hy':y∈aO (w.holds.set m.who.toNat (cN (aO w.holds m.who) m.hold)) x.who:=hy;rw [rS ⟨hw.1,hlt⟩ hxw.1] at hy';split at hy'
     · rename_i he;rcases takeH_mem hy' with hy'|⟨rfl,_⟩
       · rw [← he] at hy';exact c2 y hy' hyp
       · have hc2:bz w.floors m.who < m.hold.num:=hc.2;rw [he] at c1;omega
     · exact c2 y hy' hyp
 · exact h.less hl hn
theorem OkW.recall (h:OkW v w) {m:Mes} (hm:m∈w.net) {net:List Mes} (hl:net.length≤12) (hn:∀ x∈net,x∈w.net):OkW v (d7 { w with net:=net } m.who m.hold.path m.hold.num):=by
 obtain ⟨_,hw,hp,h0,h1,_⟩:=h.nt m hm;have hlt:m.who.toNat < w.holds.length:=by rw [h.hl]; omega
 have hlf:m.who.toNat < w.floors.length:=by rw [h.fl]; omega
 have hget:=holdsOf_mem (hs:=w.holds) hlt;have hmem:=zAD hget;have hf0:bz w.floors m.who∈w.floors:=by rw [AL hlf]; exact zAX _
 have lv:∀ {x:Hld},x∈bP (aO w.holds m.who) m.hold.path m.hold.num→x∈aO w.holds m.who∧(x.path=m.hold.path→m.hold.num < x.num):=by
  intro x hx;obtain ⟨a,b⟩:=List.mem_filter.1 hx;refine ⟨a,fun e=>?_⟩;simp [e] at b;exact b
 have fl2:∀ {i:Int},0≤i→bz w.floors i≤bz (w.floors.set m.who.toNat (max (bz w.floors m.who) m.hold.num)) i:=by
  intro i hi;rw [rR ⟨hw.1,hlf⟩ hi];split
  · rename_i e; subst e; omega
  · omega
 have nm:∀ {x:Mes},x∈(d7 { w with net:=net } m.who m.hold.path m.hold.num).net→x∈w.net∨x=⟨4,m.who,aZ m.hold.path m.hold.num⟩:=by
  intro x hx;rcases iG hx with hx|hx
  · exact .inl (hn x hx)
  · exact .inr hx
 refine ⟨h.clk,h.cnt,by show (w.holds.set _ _).length=3; rw [zAS]; exact h.hl,by show (w.floors.set _ _).length=3; rw [zAS]; exact h.fl,ly hl,fun f hf=>?_,h.ls,h.lu,fun l hl x hx=>?_,fun l hl=>?_,fun i l hl x hx=>?_,fun x hx=>?_,fun x hx hk hf=>?_,fun x hx hk=>?_,h.wt⟩
 · have hf':f∈w.floors.set m.who.toNat (max (bz w.floors m.who) m.hold.num):=hf
   have:=h.fb _ hf0
   rcases p8 hf' with rfl|hf'
   · show 0≤max (bz w.floors m.who) m.hold.num∧max (bz w.floors m.who) m.hold.num≤w.count
     omega
   · exact h.fb f hf'
 · rcases p8 hl with rfl|hl
   · exact h.hs _ hmem x (lv hx).1
   · exact h.hs l hl x hx
 · rcases p8 hl with rfl|hl
   · exact (h.hu _ hmem).sublist zBU
   · exact h.hu l hl
 · have hl':(w.holds.set m.who.toNat (bP (aO w.holds m.who) m.hold.path m.hold.num))[i]?=some l:=hl;rw [zAm] at hl';split at hl'
   · rename_i hi;subst hi;simp only [hlt,if_true,zAV] at hl';subst hl';exact h.so _ _ hget x (lv hx).1
   · exact h.so i l hl' x hx
 · rcases nm hx with hx|rfl
   · exact h.nt x hx
   · exact ⟨by simp,hw,hp,h0,h1,.inr rfl⟩
 · rcases nm hx with hx|rfl
   · exact h.gr x hx hk (Int.lt_of_le_of_lt (fl2 (h.nt x hx).2.1.1) hf)
   · simp at hk
 · have set:aO (d7 { w with net:=net } m.who m.hold.path m.hold.num).holds x.who=if x.who=m.who then bP (aO w.holds m.who) m.hold.path m.hold.num else aO w.holds x.who:=by
     refine rS ⟨hw.1,hlt⟩ ?_;rcases nm hx with hx|rfl
     · exact (h.nt x hx).2.1.1
     · exact hw.1
   rw [set];rcases nm hx with hx|rfl
   · obtain ⟨c1,c2⟩:=h.bk x hx hk;refine ⟨Int.le_trans c1 (fl2 (h.nt x hx).2.1.1),fun y hy hyp=>?_⟩;split at hy
     · rename_i e;refine c2 y ?_ hyp;rw [e];exact (lv hy).1
     · exact c2 y hy hyp
   · refine ⟨?_,fun y hy hyp=>?_⟩
     · show m.hold.num≤bz (w.floors.set m.who.toNat (max (bz w.floors m.who) m.hold.num)) m.who
       rw [rR ⟨hw.1,hlf⟩ hw.1,if_pos rfl];omega
     · simp only [if_true] at hy;exact (lv hy).2 hyp
theorem OkW.back (h:OkW v w) {m:Mes} (hm:m∈w.net) (hk:m.kind=4) {net:List Mes} (hl:net.length≤12) (hn:∀ x∈net,x∈w.net):OkW v (iy { w with net:=net } m.who m.hold.path m.hold.num):=by
 obtain ⟨_,hw,_⟩:=h.nt m hm;obtain ⟨c1,c2⟩:=h.bk m hm hk;have so:∀ {i:Int} {x:Hld},(i=m.who→x.path=m.hold.path→m.hold.num < x.num)→So v w i x→So v (iy { w with net:=net } m.who m.hold.path m.hold.num) i x:=by
  intro i x hx k;rcases k with k|⟨a,b,l,c,d,e,f,g,j⟩
  · exact .inl k
  · refine .inr ⟨a,b,l,List.mem_filter.2 ⟨c,?_⟩,d,e,f,g,j⟩;by_cases hq:l.who=m.who∧l.path=m.hold.path
    · have:=hx (by rw [← d]; exact hq.1) (by rw [← e]; exact hq.2)
      have h2:¬ l.num≤m.hold.num:=by omega
      simp [h2]
    · have:aW m.who m.hold.path l=false:=by
        simp only [aW,zAr,decide_eq_false_iff_not];by_cases h1:l.who=m.who
        · exact .inr fun h2=>hq ⟨h1,h2⟩
        · exact .inl h1
      simp [this]
 refine ⟨h.clk,h.cnt,h.hl,h.fl,hl,h.fb,fun l hl=>h.ls l (List.mem_filter.1 hl).1,h.lu.sublist zBU,h.hs,h.hu,fun i l hl x hx=>?_,fun x hx=>h.nt x (hn x hx),fun x hx hk2 hf=>?_,fun x hx=>h.bk x (hn x hx),h.wt⟩
 · refine so (fun hi hp=>?_) (h.so i l hl x hx);refine c2 x ?_ hp
   have:m.who.toNat=i:=by omega
   have hget:=holdsOf_mem (hs:=w.holds) (who:=m.who) (by rw [h.hl]; omega);rw [this] at hget
   have:=zAb (hget.symm.trans hl)
   rw [this];exact hx
 · refine so (fun hi hp=>?_) (h.gr x (hn x hx) hk2 hf);have hf':bz w.floors x.who < x.hold.num:=hf;rw [hi] at hf';omega
theorem OkW.copy (h:OkW v w) {m:Mes} (hm:m∈w.net):OkW v { w with net:=bZ w.net m }:=h.less (ly h.nl) fun x hx=>by
 rcases iG hx with hx|rfl
 · exact hx
 · exact hm
theorem OkW.come {t:List Ent} (ho:bv w.over=some (t,v)) (h:OkW v w) {m:Mes} (hm:m∈w.net) {net:List Mes} (hl:net.length≤12) (hn:∀ x∈net,x∈w.net) :
   (dA { w with net:=net } m).over=w.over∧OkW v (dA { w with net:=net } m):=by
 have k:=h.less hl hn;have hs:seen w.over=v:=by rw [seen,ho]
 obtain ⟨_,hw,hp,_⟩:=h.nt m hm;unfold dA;split
 · refine ⟨?_,k.ask hs hw hp⟩;unfold ja;split <;> rfl
 · split
   · rename_i hk;refine ⟨?_,h.grant hm hk hl hn⟩;unfold eY;split <;> rfl
   · split
     · exact ⟨rfl,h.recall hm hl hn⟩
     · split
       · rename_i hk;exact ⟨rfl,h.back hm hk hl hn⟩
       · exact ⟨rfl,k⟩
theorem OkW.netD {t:List Ent} (ho:bv w.over=some (t,v)) (h:OkW v w) (k pos:Int):(jb w k pos).1.over=w.over∧OkW v (jb w k pos).1:=by
 unfold jb;split
 · exact ⟨rfl,h⟩
 · split
   · exact ⟨rfl,h⟩
   · rename_i m hm;have hmem:=zAD hm;have hl:(w.net.eraseIdx pos.toNat).length≤12:=by
      have:=h.nl
      rw [zAk];split <;> omega
     have hn:∀ x∈w.net.eraseIdx pos.toNat,x∈w.net:=fun x hx=>List.mem_of_mem_eraseIdx hx;split
     · exact ⟨rfl,h.copy hmem⟩
     · split
       · exact h.come ho hmem hl hn
       · exact ⟨rfl,h.less hl hn⟩
theorem OkW.do_ {t:List Ent} (ho:bv w.over=some (t,v)) (h:OkW v w) (e:Evn):∃ v',bv (wDo w e).1.over=some (t,v')∧OkW v' (wDo w e).1:=by
 unfold wDo;split
 · split
   · rename_i hb;simp only [dJ,zAE,decide_eq_true_eq] at hb;refine ⟨v,ho,h.net (ly h.nl) fun m hm=>?_⟩;rcases iG hm with hm|rfl
     · exact .inl hm
     · refine .inr ⟨.inl rfl,hb.1,hb.2,?_,?_,rfl⟩
       · exact Int.le_refl _
       · exact h.cnt.1
   · exact ⟨v,ho,h⟩
 · split
   · exact h.write ho e.op
   · split
     · exact h.try_ ho
     · split
       · exact ⟨v,ho,h.tick⟩
       · split
         · obtain ⟨a,b⟩:=h.netD ho e.kind e.pos;exact ⟨v,by rw [a]; exact ho,b⟩
         · exact ⟨v,ho,h⟩
end
theorem H7 {o:Ovr} {t v:List Ent} (ho:bv o=some (t,v)):OkW v (bJ o):=by
 refine ⟨by simp [bJ],by simp [bJ],rfl,rfl,by simp [bJ],?_,by simp [bJ],by simp [bJ],?_,?_,?_,by simp [bJ],by simp [bJ],by simp [bJ],rfl⟩
 · intro f hf;simp [bJ] at hf;subst hf;simp [bJ]
 · intro l hl;simp [bJ] at hl;subst hl
   simp
 · intro l hl;simp [bJ] at hl;subst hl
   simp
 · intro i l hl x hx
   have:l∈(bJ o).holds:=zAD hl
   simp [bJ] at this;subst this;simp at hx
theorem oS {w:Wld} (h:ba w=true) (e:Evn):ba (wDo w e).1=true:=by
 obtain ⟨t,v,h1,h2,_⟩:=bB h;obtain ⟨v',h3,h4⟩:=h2.do_ h1 e;exact jZ h3 h4
theorem rT {o:Ovr} (h:fF o=true):ba (bJ o)=true:=by
 unfold fF at h;cases ho:bv o with
 | none=>rw [ho] at h; cases h
 | some x=>exact jZ (t:=x.1) (v:=x.2) ho (H7 ho)
end Go.Par
