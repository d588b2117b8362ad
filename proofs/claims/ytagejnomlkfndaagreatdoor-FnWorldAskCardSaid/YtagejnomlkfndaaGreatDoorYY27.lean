/- Texts of this claim, set close: lemmas and contracts. -/
import Derived.Test.YtagejnomlkfndaaGreatDoorYY26
import Derived.Test.YtagejnomlkfndaaGreatDoorYY21
import Derived.Test.YtagejnomlkfndaaGreatDoorYY4
import Derived.Test.YtagejnomlkfndaaGreatDoorYY24
set_option linter.unusedSimpArgs false
set_option linter.unusedVariables false
set_option maxHeartbeats 1000000
set_option maxRecDepth 10000
namespace Go.Proofs.YtagejnomlkfndaaGreatDoor
open Go Go.RowKit Go.Ab Go.Par
variable {m:Int}
def cm (l:List Mrk):List D:=[.sl (l.map Mrk.c)]
end Go.Proofs.YtagejnomlkfndaaGreatDoor
namespace Go.Par
open Go.Ab Go.Proofs.YtagejnomlkfndaaGreatDoor
def Ovr.c (o:Ovr):List D:=[.sl (o.base.map Ent.c),.sl (o.layers.map cm),.sl (o.upper.map Mrk.c)]
end Go.Par
namespace Go.Proofs.YtagejnomlkfndaaGreatDoor
open Go Go.RowKit Go.Ab Go.Par
variable {m:Int}
structure gM (o:Ovr):Prop where
 base:∀ e∈o.base,e.path.length≤1073741823∧e.data.length≤1073741823
 lay:∀ l∈o.layers,(∀ e∈l,e.path.length≤1073741823∧e.data.length≤1073741823)∧l.length≤1048576
 upper:∀ e∈o.upper,e.path.length≤1073741823∧e.data.length≤1073741823
 bl:o.base.length≤1048576
 ll:o.layers.length≤1048576
 ul:o.upper.length≤1048576
theorem gM.b4 {o:Ovr} (h:gM o):∀ e∈o.base,e.path.length≤1073741824∧e.data.length≤1073741824:=fun e he=>by have:=h.base e he; omega
def trD:Option (List Ent × List Ent)→D
 | some x=>.tup [.sl (x.1.map Ent.c),.sl (x.2.map Ent.c),.b true]
 | none=>.tup [.sl [],.sl [],.b false]
theorem oU (t:List Ent) (l:List Mrk) (r:List (List Mrk)):dU t (l :: r)=match bj l t with|some u=>dU u r|none=>none:=rfl
theorem j5 (o:Ovr) (hb:gM o):Con (E m) 126 0 [.agg o.c] [] (trD (bv o)) []:=by
 have hbl:=hb.bl;have hll:=hb.ll;have hul:=hb.ul;have e1:(o.layers.map cm).length=o.layers.length:=zAA ..;have c1:=gQ (m:=m) o.base hb.b4;have c2:=lY (m:=m) o.base (by omega);cases h1:aq o.base with
 | false=>
   rw [h1] at c1;have hx:bv o=none:=by simp [bv,eC,h1]
   rw [hx];refine G0 Tryz.func126 ?_;repeat' first|refine Ra ⟨?_⟩|refine R0 c1 ⟨?_⟩|refine Rd (fun h=>⟨?_⟩) fun h=>⟨?_⟩|refine Rb ⟨?_⟩|fail
   exact Rz
 | true=>
   rw [h1] at c1;by_cases h2:o.layers.length≤4
   · have hx:bv o=match dU o.base o.layers with|some t=>(match bj o.upper t with|some v=>if o.upper=eA t v then some (t,v) else none|none=>none)|none=>none:=by
       unfold bv eC;rw [if_pos ⟨h1,h2⟩] <;> cases dU o.base o.layers <;> rfl
     refine G0 Tryz.func126 ?_;repeat' first|refine Ra ⟨?_⟩|refine R0 c1 ⟨?_⟩|refine Rk [] 1 c2 ⟨?_⟩|refine Rd (fun h=>⟨?_⟩) fun h=>⟨?_⟩|refine Rb ⟨?_⟩|fail
     refine Cd.loop2 (fun mq tm S nx=>∃ (i:Nat) (now:List Ent),mq=(o.layers.length - i)∧tm=[(1,.bp 0 0),(5,.sl (now.map Ent.c)),(26,.sl (o.layers.map cm)),(27,.k .i64 ((o.layers.map cm).length:Int)),(28,.k .i64 i)]∧S=[(0,.box 34 o.c)]∧nx=1∧(i≤o.layers.length)∧(dU o.base o.layers=dU now (o.layers.drop i))∧(aq now=true)) ?_ ?_
     · refine li [5] [1,5,26,27,28] ?_
       conv=>whnf
       refine ⟨rfl,rfl,_,0,o.base,rfl,rfl,rfl,rfl,by omega,rfl,h1⟩
     · rintro mq tm S nx ⟨i,now,hn,rfl,rfl,rfl,hi,hS,hok⟩;have hnl:=aN hok;rcases av o.layers i hi with ⟨rfl,hd⟩|⟨l,r,hl',hd,hr,hlt⟩
       · rw [hd] at hS;have c3:=p9 (m:=m) o.upper now hb.upper (bE0 hok);rw [hx,hS];simp only [dU];cases hv:bj o.upper now with
         | none=>
           rw [hv] at c3;simp only [Option.getD_none,Option.isSome_none] at c3;repeat' first|refine Ra ⟨?_⟩|refine Rk [] 1 c3 ⟨?_⟩|refine Rd (fun h=>⟨?_⟩) fun h=>⟨?_⟩|refine Rb ⟨?_⟩|fail
           exact Rz
         | some v=>
           rw [hv] at c3;simp only [Option.getD_some,Option.isSome_some] at c3;have k1:=dP hv;have c4:=j0 (m:=m) now v hok k1.2.2.1;have kd:=dN (nq hok k1.2.2.1);have c5:=kJ (m:=m) o.upper (eA now v) hul (by omega);by_cases hu:o.upper=eA now v
           · rw [decide_eq_true hu] at c5;simp only [if_pos hu];repeat' first|refine Ra ⟨?_⟩|refine Rk [] 1 c3 ⟨?_⟩|refine Rk [] 1 c4 ⟨?_⟩|refine R0 c5 ⟨?_⟩|refine Rd (fun h=>⟨?_⟩) fun h=>⟨?_⟩|refine Rb ⟨?_⟩|fail
             exact Rz
           · rw [decide_eq_false hu] at c5;simp only [if_neg hu];repeat' first|refine Ra ⟨?_⟩|refine Rk [] 1 c3 ⟨?_⟩|refine Rk [] 1 c4 ⟨?_⟩|refine R0 c5 ⟨?_⟩|refine Rd (fun h=>⟨?_⟩) fun h=>⟨?_⟩|refine Rb ⟨?_⟩|fail
             exact Rz
       · rw [hd,oU] at hS;have c3:=p9 (m:=m) l now (hb.lay l (zAD hl')).1 (bE0 hok);cases hv:bj l now with
         | none=>
           rw [hv] at c3 hS;simp only [Option.getD_none,Option.isSome_none] at c3;simp only at hS;rw [hx,hS];repeat' first|refine Ra ⟨?_⟩|refine Rk [] 1 c3 ⟨?_⟩|refine Rd (fun h=>⟨?_⟩) fun h=>⟨?_⟩|refine Rb ⟨?_⟩|fail
           exact Rz
         | some v=>
           rw [hv] at c3 hS;simp only [Option.getD_some,Option.isSome_some] at c3;simp only at hS;have k1:=dP hv;repeat' first|refine Ra ⟨?_⟩|refine Rk [] 1 c3 ⟨?_⟩|refine Rd (fun h=>⟨?_⟩) fun h=>⟨?_⟩|refine Rb ⟨?_⟩|fail
           refine .here ⟨mq - 1,by omega,?_⟩;refine li [5] [1,5,26,27,28] ?_
           conv=>whnf
           refine ⟨rfl,rfl,i+1,v,(by omega),rfl,rfl,rfl,by omega,(by rw [hS,hr]),k1.2.2.1⟩
   · have hx:bv o=none:=by simp [bv,eC,h2]
     rw [hx];refine G0 Tryz.func126 ?_;repeat' first|refine Ra ⟨?_⟩|refine R0 c1 ⟨?_⟩|refine Rd (fun h=>⟨?_⟩) fun h=>⟨?_⟩|refine Rb ⟨?_⟩|fail
     exact Rz
theorem iOverOk_con (o:Ovr) (hb:gM o):Con (E m) 51 0 [.agg o.c] [] (.b (fF o)) []:=by
 have c1:=j5 (m:=m) o hb;unfold fF;cases h:bv o;all_goals
  rw [h] at c1;refine G0 Tryz.func51 ?_;repeat' first|refine Ra ⟨?_⟩|refine R0 c1 ⟨?_⟩|refine Rd (fun h=>⟨?_⟩) fun h=>⟨?_⟩|refine Rb ⟨?_⟩|fail
  exact Rf
def vwD:Option (List Ent × List Ent)→D
 | some x=>.tup [.sl (x.2.map Ent.c),.b true]
 | none=>.tup [.sl [],.b false]
theorem eM (o:Ovr) (hb:gM o):Con (E m) 137 0 [.agg o.c] [] (vwD (bv o)) []:=by
 have c1:=j5 (m:=m) o hb;cases h:bv o;all_goals
  rw [h] at c1;refine G0 Tryz.func137 ?_;repeat' first|refine Ra ⟨?_⟩|refine R0 c1 ⟨?_⟩|refine Rd (fun h=>⟨?_⟩) fun h=>⟨?_⟩|refine Rb ⟨?_⟩|fail
  exact Rf
variable {m:Int}
theorem jx:∀ (ls:List (List Mrk)) {t u:List Ent},dU t ls=some u→∀ l∈ls,aR l=true
 | [],t,u,h=>by simp
 | k :: r,t,u,h=>by
   rw [oU] at h;cases hl:bj k t with
   | none=>rw [hl] at h; cases h
   | some x=>
     rw [hl] at h;intro l hm;rcases List.mem_cons.1 hm with rfl|hm
     · exact (dP hl).1
     · exact jx r h l hm
theorem Ei {o:Ovr} {t v:List Ent} (h:bv o=some (t,v)):gM o:=by
 obtain ⟨h1,h2,h3,h4⟩:=ce h;obtain ⟨g1,g2,g3⟩:=dz.1 h;obtain ⟨k1,k2,k3,k4⟩:=gz g1;have hu:=nq h3 h4;rw [← g3] at hu;refine ⟨fun e he=>by have:=jF (gE h1 e he); omega,fun l hl=>?_,fun e he=>by have:=gV hu e he; omega,by have:=aN h1; omega,by omega,by have:=dN hu; omega⟩;have hk:=jx _ k3 l hl;exact ⟨fun e he=>by have:=gV hk e he; omega,by have:=dN hk; omega⟩
theorem overRun_cons (o:Ovr) (p:Opn) (r:List Opn):overRun o (p :: r)=((overRun (dE o p).1 r).1,(dE o p).2 :: (overRun (dE o p).1 r).2):=rfl
theorem over_cases (o:Ovr) (ops:List Opn):(∃ t v,overBad o ops=false∧fF o=true∧bv o=some (t,v)∧ops.length≤30)∨(overBad o ops=true∧(fF o=false∨(fF o=true∧¬ ops.length≤30))):=by
 unfold overBad fF;cases h:bv o with
 | none=>simp
 | some x=>
   by_cases hl:ops.length≤30
   · exact .inl ⟨x.1,x.2,by simp; omega,rfl,rfl,hl⟩
   · exact .inr ⟨by simp; omega,.inr ⟨rfl,hl⟩⟩
variable {m:Int}
end Go.Proofs.YtagejnomlkfndaaGreatDoor
namespace Go.Par
open Go.Ab Go.Proofs.YtagejnomlkfndaaGreatDoor
def Lse.c (l:Lse):List D:=[.k .i64 l.who,.s l.path,.k .i64 l.num,.k .i64 l.til]
def Hld.c (h:Hld):List D:=[.s h.path,.b h.has,.s h.ent.path,.b h.ent.dir,.s h.ent.data,.k .i64 h.num,.k .i64 h.til]
def Mes.c (x:Mes):List D:=[.k .i64 x.kind,.k .i64 x.who,.s x.hold.path,.b x.hold.has,.s x.hold.ent.path,.b x.hold.ent.dir,.s x.hold.ent.data,.k .i64 x.hold.num,.k .i64 x.hold.til]
def Evn.c (e:Evn):List D:=[.k .i64 e.kind,.k .i64 e.who,.s e.path,.k .i64 e.op.kind,.s e.op.path,.s e.op.tgt,.s e.op.data,.k .i64 e.pos]
end Go.Par
namespace Go.Proofs.YtagejnomlkfndaaGreatDoor
open Go Go.RowKit Go.Ab Go.Par
variable {m:Int}
def cy (l:List Hld):List D:=[.sl (l.map Hld.c)]
def anH (l:List Hld):aE:=.an (l.map Hld.c)
end Go.Proofs.YtagejnomlkfndaaGreatDoor
namespace Go.Par
open Go.Ab Go.Proofs.YtagejnomlkfndaaGreatDoor
def Wld.c (w:Wld):List D:=[.sl (w.over.base.map Ent.c),.sl (w.over.layers.map cm),.sl (w.over.upper.map Mrk.c),.k .i64 w.clock,.k .i64 w.count,.sl (w.leases.map Lse.c),.sl (w.holds.map cy),.sl (ck w.floors),.sl (w.net.map Mes.c),.b w.waits,.k .i64 w.op.kind,.s w.op.path,.s w.op.tgt,.s w.op.data]
end Go.Par
namespace Go.Proofs.YtagejnomlkfndaaGreatDoor
open Go Go.RowKit Go.Ab Go.Par
variable {m:Int}
def wcO (w:Wld) (a b c d:Nat):List D:=[.sl (w.over.base.map Ent.c),.sl (w.over.layers.map cm),.sl (w.over.upper.map Mrk.c),.k .i64 w.clock,.k .i64 w.count,.own a,.own b,.own c,.own d,.b w.waits,.k .i64 w.op.kind,.s w.op.path,.s w.op.tgt,.s w.op.data]
abbrev el (x y:Lse):Bool:=decide (x.who=y.who) && (decide (x.path=y.path) && (decide (x.num=y.num) && (decide (x.til=y.til) && true)))
abbrev eh (x y:Hld):Bool:=decide (x.path=y.path) && ((x.has == y.has) && (decide (x.ent.path=y.ent.path) && ((x.ent.dir == y.ent.dir) && (decide (x.ent.data=y.ent.data) && (decide (x.num=y.num) && (decide (x.til=y.til) && true))))))
theorem Hc (x:Hld):eh x x=true:=by simp [eh]
theorem ID {x y:Hld} (h:x≠y):eh x y=false:=by
 rw [← zAZ];intro hf;apply h;obtain ⟨a,b,⟨c,d,e⟩,f,g⟩:=x;obtain ⟨a',b',⟨c',d',e'⟩,f',g'⟩:=y;simp [eh] at hf;simp [hf]
abbrev es (x y:Mes):Bool:=decide (x.kind=y.kind) && (decide (x.who=y.who) && (decide (x.hold.path=y.hold.path) && ((x.hold.has == y.hold.has) && (decide (x.hold.ent.path=y.hold.ent.path) && ((x.hold.ent.dir == y.hold.ent.dir) && (decide (x.hold.ent.data=y.hold.ent.data) && (decide (x.hold.num=y.hold.num) && (decide (x.hold.til=y.hold.til) && true))))))))
def ixL {α:Type} (f:α→Bool) (l:List α):Int:=match l.findIdx? f with
 | some i=>(i:Int)
 | none=>-1
theorem lZ {α:Type} {f:α→Bool} {l:List α} {i:Nat} {x:α} (ha:(l.take i).all (fun y=>!f y)=true) (h:l[i]?=some x) (hf:f x=true):ixL f l=(i:Int):=by
 have hi:=(List.getElem?_eq_some_iff.1 h).1
 have:l.findIdx? f=some i:=by
  rw [List.findIdx?_eq_some_iff_getElem];refine ⟨hi,by rw [(List.getElem?_eq_some_iff.1 h).2]; exact hf,fun j hj=>?_⟩
  have:=zAs.1 ha l[j] (List.mem_take_iff_getElem.2 ⟨j,by omega,rfl⟩)
  simpa using this
 rw [ixL,this]
theorem qa2 {α:Type} {f:α→Bool} {l:List α} {i:Nat} (ha:(l.take i).all (fun y=>!f y)=true) (hi:l.length≤i):ixL f l=-1:=by
 rw [zAc hi] at ha
 have:l.findIdx? f=none:=by
  rw [List.findIdx?_eq_none_iff];intro x hx;simpa using zAs.1 ha x hx
 rw [ixL,this]
theorem eD {α:Type} (f:α→Bool) (l:List α):(ixL f l=-1∧∀ x∈l,f x=false)∨∃ (i:Nat) (x:α),ixL f l=(i:Int)∧l[i]?=some x∧f x=true∧(l.take i).all (fun y=>!f y)=true:=by
 unfold ixL;cases h:l.findIdx? f with
 | none=>exact .inl ⟨rfl,List.findIdx?_eq_none_iff.1 h⟩
 | some i=>
   obtain ⟨hi,h1,h2⟩:=List.findIdx?_eq_some_iff_getElem.1 h;refine .inr ⟨i,l[i],rfl,zAB hi,h1,zAs.2 fun y hy=>?_⟩;obtain ⟨j,hj,rfl⟩:=List.mem_take_iff_getElem.1 hy
   have:=h2 j (by omega)
   simpa using this
theorem f7 (n a b:Int):Con (E m) 138 0 [.k .i64 n,.k .i64 a,.k .i64 b] [] (.b (decide (a≤n) && decide (n≤b))) []:=by
 by_cases h1:a≤n
 · refine G0 Tryz.func138 ?_;repeat' first|refine Rx ⟨?_⟩|refine Rd (fun h=>⟨?_⟩) fun h=>⟨?_⟩|fail
   exact Rf
 · refine G0 Tryz.func138 ?_;repeat' first|refine Rx ⟨?_⟩|refine Rd (fun h=>⟨?_⟩) fun h=>⟨?_⟩|fail
   exact Rf
theorem nv (n:Int):Con (E m) 74 0 [.k .i64 n] [] (.b (dJ n)) []:=by
 have c1:=f7 (m:=m) n 0 2;refine G0 Tryz.func74 ?_;repeat' first|refine Ra ⟨?_⟩|refine R0 c1 ⟨?_⟩|refine Rd (fun h=>⟨?_⟩) fun h=>⟨?_⟩|refine Rb ⟨?_⟩|fail
 exact Rf
theorem Fo (t:List Bs) (p:Bs) (ht:t.length≤1048576):Con (E m) 262 0 [.sl (strs t),.s p] [] (.k .i64 (ixL (fun x=>decide (p=x)) t)) []:=by
 have e1:(strs t).length=t.length:=zAA ..;refine G0 Tryz.func262 ?_;repeat' first|refine Rx ⟨?_⟩|refine Rd (fun h=>⟨?_⟩) fun h=>⟨?_⟩|fail
 refine Cd.loop2 (fun mq tm S nx=>∃ (i:Nat),mq=(t.length - i)∧tm=[(0,.sl (strs t)),(1,.s p),(7,.k .i64 ((strs t).length:Int)),(8,.k .i64 i)]∧S=[]∧nx=0∧(i≤t.length)∧((t.take i).all (fun x=>!decide (p=x))=true)) ?_ ?_
 · refine la [0,1,7,8] ?_
   conv=>whnf
   refine ⟨rfl,rfl,_,0,rfl,rfl,rfl,rfl,by omega,by simp⟩
 · rintro mq tm S nx ⟨i,hn,rfl,rfl,rfl,hi,ha⟩;by_cases hlt:i < t.length
   · have g1:t[i]?=some t[i]:=zAB hlt;generalize t[i]=x at g1;by_cases hxy:p=x
     · rw [lZ ha g1 (decide_eq_true hxy)];repeat' first|refine Rx ⟨?_⟩|refine Rd (fun h=>⟨?_⟩) fun h=>⟨?_⟩|fail
       exact Rf
     · repeat' first|refine Rx ⟨?_⟩|refine Rd (fun h=>⟨?_⟩) fun h=>⟨?_⟩|fail
       refine .here ⟨mq - 1,by omega,?_⟩;refine la [0,1,7,8] ?_
       conv=>whnf
       refine ⟨rfl,rfl,i+1,(by omega),rfl,rfl,rfl,by omega,bN ha g1 (by simpa using hxy)⟩
   · rw [qa2 ha (by omega)];repeat' first|refine Rx ⟨?_⟩|refine Rd (fun h=>⟨?_⟩) fun h=>⟨?_⟩|fail
     exact Rf
theorem l4 (t:List Bs) (p:Bs) (ht:t.length≤1048576):Con (E m) 210 0 [.sl (strs t),.s p] [] (.b (decide (p∈t))) []:=by
 have c1:=Fo (m:=m) t p ht;rcases eD (fun x=>decide (p=x)) t with ⟨h1,h2⟩|⟨i,x,h1,h2,h3,_⟩
 · rw [h1] at c1
   have:decide (p∈t)=false:=decide_eq_false fun h=>by simpa using h2 p h
   rw [this];refine G0 Tryz.func210 ?_;repeat' first|refine Ra ⟨?_⟩|refine R0 c1 ⟨?_⟩|refine Rd (fun h=>⟨?_⟩) fun h=>⟨?_⟩|refine Rb ⟨?_⟩|fail
   exact Rf
 · rw [h1] at c1
   have:decide (p∈t)=true:=decide_eq_true (by have:=of_decide_eq_true h3; subst this; exact zAD h2)
   rw [this];refine G0 Tryz.func210 ?_;repeat' first|refine Ra ⟨?_⟩|refine R0 c1 ⟨?_⟩|refine Rd (fun h=>⟨?_⟩) fun h=>⟨?_⟩|refine Rb ⟨?_⟩|fail
   exact Rf
theorem yI (l:Lse) (who:Int) (p:Bs):Con (E m) 259 2 [.agg l.c,.bp 0 0,.bp 1 0] [(0,.box 3 [.k .i64 who]),(1,.box 9 [.s p])] (.b (aW who p l)) [(0,.box 3 [.k .i64 who]),(1,.box 9 [.s p])]:=by
 by_cases h1:l.who=who
 · refine G0 Tryz.func259 ?_;repeat' first|refine Rx ⟨?_⟩|refine Rd (fun h=>⟨?_⟩) fun h=>⟨?_⟩|fail
   refine Rg ⟨?_⟩
   first|rfl|(simp_all [aW]; done)|(simp [aW] <;> (repeat' split) <;> omega)|(simp only [aW]; repeat' split) <;> first|omega|(simp_all; done)|(simp_all; omega)|(rw [zAK]; simp [*,aW] <;> omega)
 · refine G0 Tryz.func259 ?_;repeat' first|refine Rx ⟨?_⟩|refine Rd (fun h=>⟨?_⟩) fun h=>⟨?_⟩|fail
   refine Rg ⟨?_⟩
   first|rfl|(simp_all [aW]; done)|(simp [aW] <;> (repeat' split) <;> omega)|(simp only [aW]; repeat' split) <;> first|omega|(simp_all; done)|(simp_all; omega)|(rw [zAK]; simp [*,aW] <;> omega)
theorem AP (ls:List Lse) (who:Int) (p:Bs) (hl:ls.length≤1048576):Con (E m) 211 2 [.sl (ls.map Lse.c),.fn 259 [0,1]] [(0,.box 3 [.k .i64 who]),(1,.box 9 [.s p])] (.k .i64 (ixL (aW who p) ls)) [(0,.box 3 [.k .i64 who]),(1,.box 9 [.s p])]:=by
 have e1:(ls.map Lse.c).length=ls.length:=zAA ..;refine G0 Tryz.func211 ?_;repeat' first|refine Rx ⟨?_⟩|refine Rd (fun h=>⟨?_⟩) fun h=>⟨?_⟩|fail
 refine Cd.loop2 (fun mq tm S nx=>∃ (i:Nat),mq=(ls.length - i)∧tm=[(0,.sl (ls.map Lse.c)),(1,.fn 259 [0,1]),(7,.k .i64 ((ls.map Lse.c).length:Int)),(8,.k .i64 i)]∧S=[(0,.box 3 [.k .i64 who]),(1,.box 9 [.s p])]∧nx=2∧(i≤ls.length)∧((ls.take i).all (fun x=>!aW who p x)=true)) ?_ ?_
 · refine la [0,1,7,8] ?_
   conv=>whnf
   refine ⟨rfl,rfl,_,0,rfl,rfl,rfl,rfl,by omega,by simp⟩
 · rintro mq tm S nx ⟨i,hn,rfl,rfl,rfl,hi,ha⟩;by_cases hlt:i < ls.length
   · have g1:ls[i]?=some ls[i]:=zAB hlt;generalize ls[i]=x at g1;have c1:=yI (m:=m) x who p;cases hx:aW who p x with
     | true=>
       rw [hx] at c1;rw [lZ ha g1 hx];repeat' first|refine Ra ⟨?_⟩|refine Rk [0,1] 0 c1 ⟨?_⟩|refine Rd (fun h=>⟨?_⟩) fun h=>⟨?_⟩|refine Rb ⟨?_⟩|fail
       exact Rf
     | false=>
       rw [hx] at c1;repeat' first|refine Ra ⟨?_⟩|refine Rk [0,1] 0 c1 ⟨?_⟩|refine Rd (fun h=>⟨?_⟩) fun h=>⟨?_⟩|refine Rb ⟨?_⟩|fail
       refine .here ⟨mq - 1,by omega,?_⟩;refine la [0,1,7,8] ?_
       conv=>whnf
       refine ⟨rfl,rfl,i+1,(by omega),rfl,rfl,rfl,by omega,bN ha g1 (by simp [hx])⟩
   · rw [qa2 ha (by omega)];repeat' first|refine Rx ⟨?_⟩|refine Rd (fun h=>⟨?_⟩) fun h=>⟨?_⟩|fail
     exact Rf
theorem gX (ls:List Lse) (who:Int) (p:Bs) (hl:ls.length≤1048576):Con (E m) 206 0 [.sl (ls.map Lse.c),.k .i64 who,.s p] [] (.k .i64 (ixL (aW who p) ls)) []:=by
 have c1:=AP (m:=m) ls who p hl;refine G0 Tryz.func206 ?_;repeat' first|refine Ra ⟨?_⟩|refine Rk [0,1] 0 c1 ⟨?_⟩|refine Rd (fun h=>⟨?_⟩) fun h=>⟨?_⟩|refine Rb ⟨?_⟩|fail
 exact Rf
abbrev hb (p:Bs) (h:Hld):Bool:=decide (h.path=p)
theorem AQ (h:Hld) (p:Bs):Con (E m) 261 1 [.agg h.c,.bp 0 0] [(0,.box 9 [.s p])] (.b (hb p h)) [(0,.box 9 [.s p])]:=by
 refine G0 Tryz.func261 ?_;repeat' first|refine Rx ⟨?_⟩|refine Rd (fun h=>⟨?_⟩) fun h=>⟨?_⟩|fail
 exact Rf
theorem C5 (ls:List Hld) (p:Bs) (hl:ls.length≤1048576):Con (E m) 260 1 [.sl (ls.map Hld.c),.fn 261 [0]] [(0,.box 9 [.s p])] (.k .i64 (ixL (hb p) ls)) [(0,.box 9 [.s p])]:=by
 have e1:(ls.map Hld.c).length=ls.length:=zAA ..;refine G0 Tryz.func260 ?_;repeat' first|refine Rx ⟨?_⟩|refine Rd (fun h=>⟨?_⟩) fun h=>⟨?_⟩|fail
 refine Cd.loop2 (fun mq tm S nx=>∃ (i:Nat),mq=(ls.length - i)∧tm=[(0,.sl (ls.map Hld.c)),(1,.fn 261 [0]),(7,.k .i64 ((ls.map Hld.c).length:Int)),(8,.k .i64 i)]∧S=[(0,.box 9 [.s p])]∧nx=1∧(i≤ls.length)∧((ls.take i).all (fun x=>!hb p x)=true)) ?_ ?_
 · refine la [0,1,7,8] ?_
   conv=>whnf
   refine ⟨rfl,rfl,_,0,rfl,rfl,rfl,rfl,by omega,by simp⟩
 · rintro mq tm S nx ⟨i,hn,rfl,rfl,rfl,hi,ha⟩;by_cases hlt:i < ls.length
   · have g1:ls[i]?=some ls[i]:=zAB hlt;generalize ls[i]=x at g1;have c1:=AQ (m:=m) x p;cases hx:hb p x with
     | true=>
       rw [hx] at c1;rw [lZ ha g1 hx];repeat' first|refine Ra ⟨?_⟩|refine Rk [0] 0 c1 ⟨?_⟩|refine Rd (fun h=>⟨?_⟩) fun h=>⟨?_⟩|refine Rb ⟨?_⟩|fail
       exact Rf
     | false=>
       rw [hx] at c1;repeat' first|refine Ra ⟨?_⟩|refine Rk [0] 0 c1 ⟨?_⟩|refine Rd (fun h=>⟨?_⟩) fun h=>⟨?_⟩|refine Rb ⟨?_⟩|fail
       refine .here ⟨mq - 1,by omega,?_⟩;refine la [0,1,7,8] ?_
       conv=>whnf
       refine ⟨rfl,rfl,i+1,(by omega),rfl,rfl,rfl,by omega,bN ha g1 (by simp [hx])⟩
   · rw [qa2 ha (by omega)];repeat' first|refine Rx ⟨?_⟩|refine Rd (fun h=>⟨?_⟩) fun h=>⟨?_⟩|fail
     exact Rf
theorem du (ls:List Hld) (p:Bs) (hl:ls.length≤1048576):Con (E m) 207 0 [.sl (ls.map Hld.c),.s p] [] (.k .i64 (ixL (hb p) ls)) []:=by
 have c1:=C5 (m:=m) ls p hl;refine G0 Tryz.func207 ?_;repeat' first|refine Ra ⟨?_⟩|refine Rk [0] 0 c1 ⟨?_⟩|refine Rd (fun h=>⟨?_⟩) fun h=>⟨?_⟩|refine Rb ⟨?_⟩|fail
 exact Rf
theorem uy {α:Type} (a b:List α) (n:Nat) (h:a.length=n):(a++b).take n=a:=by
 rw [List.take_append_of_le_length (by omega),zAc (by omega)]
theorem C6 {α:Type} (f:α→List D) (l:List α) (i:Nat) (hi:i < l.length) (z:List D) :
   ((((l.map f).take i++((l.map f).take (l.map f).length).drop (i+1)++(l.map f).drop (i+((l.map f).length - (i+1)))).take (i+((l.map f).length - (i+1))))++List.replicate ((l.map f).length - (i+((l.map f).length - (i+1)))) z ++
     ((l.map f).take i++((l.map f).take (l.map f).length).drop (i+1)++(l.map f).drop (i+((l.map f).length - (i+1)))).drop (l.map f).length).take (i+((l.map f).length - (i+1)))=(l.eraseIdx i).map f:=by
 have e0:(l.map f).take (l.map f).length=l.map f:=zAP;rw [e0,zAA];have e1:((l.map f).take i++(l.map f).drop (i+1)).length=i+(l.length - (i+1)):=by simp; omega
 rw [uy _ _ _ e1,zAl,uy _ _ _ e1,List.eraseIdx_eq_take_drop_succ,zAH,zBW,zBX]
theorem jy (l:List Lse) (i:Nat) (hi:i < l.length) (hl:l.length≤1048576):Con (E m) 212 1 [.own 0,.k .i64 (i:Int),.k .i64 ((i:Int)+1)] [(0,.own 132 (l.map Lse.c))] (.own 1) [(1,.own 132 ((l.eraseIdx i).map Lse.c))]:=by
 have e1:(l.map Lse.c).length=l.length:=zAA ..;rw [← C6 Lse.c l i hi (cellsOf (.agg [.k .i64 0,.s [],.k .i64 0,.k .i64 0]))];refine cVE ?_;refine bK tF Ce Tryz.func212 rfl rfl rfl (zAC rfl) ?_;repeat' first|refine Ra ⟨?_⟩|((refine ⟨i,i+1,l.length,rfl,by omega,by rw [e1],by omega,by omega,by omega,?_⟩) <;> conv=>whnf)|((refine ⟨i,rfl,zAG _,by omega,?_⟩) <;> conv=>whnf)|((refine ⟨i+1,by omega,by omega,by omega,?_⟩) <;> conv=>whnf)|((refine ⟨by omega,by omega,by omega,?_⟩) <;> conv=>whnf)|((refine ⟨i+((l.map Lse.c).length - (i+1)),by omega,(l.map Lse.c).length,by rw [e1],by omega,by simp; omega,?_⟩) <;> conv=>whnf)|((refine ⟨by omega,by simp; omega,?_⟩) <;> conv=>whnf)|refine Rd (fun h=>⟨?_⟩) fun h=>⟨?_⟩|refine Rb ⟨?_⟩|fail
 refine ak.here (fw [.trim 6] ?_)
 conv=>whnf
 exact ⟨rfl,rfl,rfl,rfl⟩
theorem dC (l:List Hld) (i:Nat) (hi:i < l.length) (hl:l.length≤1048576):Con (E m) 214 1 [.own 0,.k .i64 (i:Int),.k .i64 ((i:Int)+1)] [(0,.own 68 (l.map Hld.c))] (.own 1) [(1,.own 68 ((l.eraseIdx i).map Hld.c))]:=by
 have e1:(l.map Hld.c).length=l.length:=zAA ..;rw [← C6 Hld.c l i hi (cellsOf (.agg [.s [],.b false,.s [],.b false,.s [],.k .i64 0,.k .i64 0]))];refine cVE ?_;refine bK tF Ce Tryz.func214 rfl rfl rfl (zAC rfl) ?_;repeat' first|refine Ra ⟨?_⟩|((refine ⟨i,i+1,l.length,rfl,by omega,by rw [e1],by omega,by omega,by omega,?_⟩) <;> conv=>whnf)|((refine ⟨i,rfl,zAG _,by omega,?_⟩) <;> conv=>whnf)|((refine ⟨i+1,by omega,by omega,by omega,?_⟩) <;> conv=>whnf)|((refine ⟨by omega,by omega,by omega,?_⟩) <;> conv=>whnf)|((refine ⟨i+((l.map Hld.c).length - (i+1)),by omega,(l.map Hld.c).length,by rw [e1],by omega,by simp; omega,?_⟩) <;> conv=>whnf)|((refine ⟨by omega,by simp; omega,?_⟩) <;> conv=>whnf)|refine Rd (fun h=>⟨?_⟩) fun h=>⟨?_⟩|refine Rb ⟨?_⟩|fail
 refine ak.here (fw [.trim 6] ?_)
 conv=>whnf
 exact ⟨rfl,rfl,rfl,rfl⟩
theorem uz (l:List Mes) (i:Nat) (hi:i < l.length) (hl:l.length≤1048576):Con (E m) 149 1 [.own 0,.k .i64 (i:Int),.k .i64 ((i:Int)+1)] [(0,.own 70 (l.map Mes.c))] (.own 1) [(1,.own 70 ((l.eraseIdx i).map Mes.c))]:=by
 have e1:(l.map Mes.c).length=l.length:=zAA ..;rw [← C6 Mes.c l i hi (cellsOf (.agg [.k .i64 0,.k .i64 0,.s [],.b false,.s [],.b false,.s [],.k .i64 0,.k .i64 0]))];refine cVE ?_;refine bK tF Ce Tryz.func149 rfl rfl rfl (zAC rfl) ?_;repeat' first|refine Ra ⟨?_⟩|((refine ⟨i,i+1,l.length,rfl,by omega,by rw [e1],by omega,by omega,by omega,?_⟩) <;> conv=>whnf)|((refine ⟨i,rfl,zAG _,by omega,?_⟩) <;> conv=>whnf)|((refine ⟨i+1,by omega,by omega,by omega,?_⟩) <;> conv=>whnf)|((refine ⟨by omega,by omega,by omega,?_⟩) <;> conv=>whnf)|((refine ⟨i+((l.map Mes.c).length - (i+1)),by omega,(l.map Mes.c).length,by rw [e1],by omega,by simp; omega,?_⟩) <;> conv=>whnf)|((refine ⟨by omega,by simp; omega,?_⟩) <;> conv=>whnf)|refine Rd (fun h=>⟨?_⟩) fun h=>⟨?_⟩|refine Rb ⟨?_⟩|fail
 refine ak.here (fw [.trim 6] ?_)
 conv=>whnf
 exact ⟨rfl,rfl,rfl,rfl⟩
end Go.Proofs.YtagejnomlkfndaaGreatDoor
