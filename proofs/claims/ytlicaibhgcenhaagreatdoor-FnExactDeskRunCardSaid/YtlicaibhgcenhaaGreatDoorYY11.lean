/- Texts of this claim, set close: lemmas and contracts. -/
import Derived.Test.YtlicaibhgcenhaaGreatDoorYY10
set_option linter.unusedSimpArgs false
set_option linter.unusedVariables false
set_option maxHeartbeats 1000000
set_option maxRecDepth 10000
namespace Go.Proofs.YtlicaibhgcenhaaGreatDoor
open Go Go.RowKit Go.Ab Go.Par
variable {m:Int}
end Go.Proofs.YtlicaibhgcenhaaGreatDoor
namespace Go.Par
open Go.Ab Go.Proofs.YtlicaibhgcenhaaGreatDoor
def Lse.c (l:Lse):List D:=[.k .i64 l.who,.s l.path,.k .i64 l.num,.k .i64 l.til]
def Hld.c (h:Hld):List D:=[.s h.path,.b h.has,.s h.ent.path,.b h.ent.dir,.s h.ent.data,.k .i64 h.num,.k .i64 h.til]
def Mes.c (x:Mes):List D:=[.k .i64 x.kind,.k .i64 x.who,.s x.hold.path,.b x.hold.has,.s x.hold.ent.path,.b x.hold.ent.dir,.s x.hold.ent.data,.k .i64 x.hold.num,.k .i64 x.hold.til]
def Evn.c (e:Evn):List D:=[.k .i64 e.kind,.k .i64 e.who,.s e.path,.k .i64 e.op.kind,.s e.op.path,.s e.op.tgt,.s e.op.data,.k .i64 e.pos]
end Go.Par
namespace Go.Proofs.YtlicaibhgcenhaaGreatDoor
open Go Go.RowKit Go.Ab Go.Par
variable {m:Int}
def gy (l:List Hld):List D:=[.sl (l.map Hld.c)]
def anH (l:List Hld):br:=.an (l.map Hld.c)
end Go.Proofs.YtlicaibhgcenhaaGreatDoor
namespace Go.Par
open Go.Ab Go.Proofs.YtlicaibhgcenhaaGreatDoor
def Wld.c (w:Wld):List D:=[.sl (w.over.base.map Ent.c),.sl (w.over.layers.map c8),.sl (w.over.upper.map Mrk.c),.k .i64 w.clock,.k .i64 w.count,.sl (w.leases.map Lse.c),.sl (w.holds.map gy),.sl (i7 w.floors),.sl (w.net.map Mes.c),.b w.waits,.k .i64 w.op.kind,.s w.op.path,.s w.op.tgt,.s w.op.data]
end Go.Par
namespace Go.Proofs.YtlicaibhgcenhaaGreatDoor
open Go Go.RowKit Go.Ab Go.Par
variable {m:Int}
def wcO (w:Wld) (a b c d:Nat):List D:=[.sl (w.over.base.map Ent.c),.sl (w.over.layers.map c8),.sl (w.over.upper.map Mrk.c),.k .i64 w.clock,.k .i64 w.count,.own a,.own b,.own c,.own d,.b w.waits,.k .i64 w.op.kind,.s w.op.path,.s w.op.tgt,.s w.op.data]
abbrev el (x y:Lse):Bool:=decide (x.who=y.who) && (decide (x.path=y.path) && (decide (x.num=y.num) && (decide (x.til=y.til) && true)))
abbrev eh (x y:Hld):Bool:=decide (x.path=y.path) && ((x.has == y.has) && (decide (x.ent.path=y.ent.path) && ((x.ent.dir == y.ent.dir) && (decide (x.ent.data=y.ent.data) && (decide (x.num=y.num) && (decide (x.til=y.til) && true))))))
theorem GC (x:Hld):eh x x=true:=by simp [eh]
theorem Hp {x y:Hld} (h:x≠y):eh x y=false:=by
 rw [← zAa];intro hf;apply h;obtain ⟨a,b,⟨c,d,e⟩,f,g⟩:=x;obtain ⟨a',b',⟨c',d',e'⟩,f',g'⟩:=y;simp [eh] at hf;simp [hf]
abbrev es (x y:Mes):Bool:=decide (x.kind=y.kind) && (decide (x.who=y.who) && (decide (x.hold.path=y.hold.path) && ((x.hold.has == y.hold.has) && (decide (x.hold.ent.path=y.hold.ent.path) && ((x.hold.ent.dir == y.hold.ent.dir) && (decide (x.hold.ent.data=y.hold.ent.data) && (decide (x.hold.num=y.hold.num) && (decide (x.hold.til=y.hold.til) && true))))))))
def ixL {α:Type} (f:α→Bool) (l:List α):Int:=match l.findIdx? f with
 | some i=>(i:Int)
 | none=>-1
theorem mF {α:Type} {f:α→Bool} {l:List α} {i:Nat} {x:α} (ha:(l.take i).all (fun y=>!f y)=true) (h:l[i]?=some x) (hf:f x=true):ixL f l=(i:Int):=by
 have hi:=(List.getElem?_eq_some_iff.1 h).1
 have:l.findIdx? f=some i:=by
  rw [List.findIdx?_eq_some_iff_getElem];refine ⟨hi,by rw [(List.getElem?_eq_some_iff.1 h).2]; exact hf,fun j hj=>?_⟩
  have:=zAr.1 ha l[j] (List.mem_take_iff_getElem.2 ⟨j,by omega,rfl⟩)
  simpa using this
 rw [ixL,this]
theorem oW {α:Type} {f:α→Bool} {l:List α} {i:Nat} (ha:(l.take i).all (fun y=>!f y)=true) (hi:l.length≤i):ixL f l=-1:=by
 rw [zAf hi] at ha
 have:l.findIdx? f=none:=by
  rw [List.findIdx?_eq_none_iff];intro x hx;simpa using zAr.1 ha x hx
 rw [ixL,this]
theorem fO {α:Type} (f:α→Bool) (l:List α):(ixL f l=-1∧∀ x∈l,f x=false)∨∃ (i:Nat) (x:α),ixL f l=(i:Int)∧l[i]?=some x∧f x=true∧(l.take i).all (fun y=>!f y)=true:=by
 unfold ixL;cases h:l.findIdx? f with
 | none=>exact .inl ⟨rfl,List.findIdx?_eq_none_iff.1 h⟩
 | some i=>
   obtain ⟨hi,h1,h2⟩:=List.findIdx?_eq_some_iff_getElem.1 h;refine .inr ⟨i,l[i],rfl,zAB hi,h1,zAr.2 fun y hy=>?_⟩;obtain ⟨j,hj,rfl⟩:=List.mem_take_iff_getElem.1 hy
   have:=h2 j (by omega)
   simpa using this
theorem eU (n a b:Int):Con (E m) 102 0 [.k .i64 n,.k .i64 a,.k .i64 b] [] (.b (decide (a≤n) && decide (n≤b))) []:=by
 by_cases h1:a≤n
 · refine G0 Tryz.func102 ?_;repeat' first|refine Rx ⟨?_⟩|refine Rd (fun h=>⟨?_⟩) fun h=>⟨?_⟩|fail
   exact Rf
 · refine G0 Tryz.func102 ?_;repeat' first|refine Rx ⟨?_⟩|refine Rd (fun h=>⟨?_⟩) fun h=>⟨?_⟩|fail
   exact Rf
theorem mG (n:Int):Con (E m) 143 0 [.k .i64 n] [] (.b (dA n)) []:=by
 have c1:=eU (m:=m) n 0 2;refine G0 Tryz.func143 ?_;repeat' first|refine Ra ⟨?_⟩|refine R0 c1 ⟨?_⟩|refine Rd (fun h=>⟨?_⟩) fun h=>⟨?_⟩|refine Rb ⟨?_⟩|fail
 exact Rf
theorem Dn (t:List Bs) (p:Bs) (ht:t.length≤1048576):Con (E m) 111 0 [.sl (strs t),.s p] [] (.k .i64 (ixL (fun x=>decide (p=x)) t)) []:=by
 have e1:(strs t).length=t.length:=zAA ..;refine G0 Tryz.func111 ?_;repeat' first|refine Rx ⟨?_⟩|refine Rd (fun h=>⟨?_⟩) fun h=>⟨?_⟩|fail
 refine Cd.loop2 (fun mq tm S nx=>∃ (i:Nat),mq=(t.length - i)∧tm=[(0,.sl (strs t)),(1,.s p),(7,.k .i64 ((strs t).length:Int)),(8,.k .i64 i)]∧S=[]∧nx=0∧(i≤t.length)∧((t.take i).all (fun x=>!decide (p=x))=true)) ?_ ?_
 · refine la [0,1,7,8] ?_
   conv=>whnf
   refine ⟨rfl,rfl,_,0,rfl,rfl,rfl,rfl,by omega,by simp⟩
 · rintro mq tm S nx ⟨i,hn,rfl,rfl,rfl,hi,ha⟩;by_cases hlt:i < t.length
   · have g1:t[i]?=some t[i]:=zAB hlt;generalize t[i]=x at g1;by_cases hxy:p=x
     · rw [mF ha g1 (decide_eq_true hxy)];repeat' first|refine Rx ⟨?_⟩|refine Rd (fun h=>⟨?_⟩) fun h=>⟨?_⟩|fail
       exact Rf
     · repeat' first|refine Rx ⟨?_⟩|refine Rd (fun h=>⟨?_⟩) fun h=>⟨?_⟩|fail
       refine .here ⟨mq - 1,by omega,?_⟩;refine la [0,1,7,8] ?_
       conv=>whnf
       refine ⟨rfl,rfl,i+1,(by omega),rfl,rfl,rfl,by omega,bA ha g1 (by simpa using hxy)⟩
   · rw [oW ha (by omega)];repeat' first|refine Rx ⟨?_⟩|refine Rd (fun h=>⟨?_⟩) fun h=>⟨?_⟩|fail
     exact Rf
theorem oX (t:List Bs) (p:Bs) (ht:t.length≤1048576):Con (E m) 50 0 [.sl (strs t),.s p] [] (.b (decide (p∈t))) []:=by
 have c1:=Dn (m:=m) t p ht;rcases fO (fun x=>decide (p=x)) t with ⟨h1,h2⟩|⟨i,x,h1,h2,h3,_⟩
 · rw [h1] at c1
   have:decide (p∈t)=false:=decide_eq_false fun h=>by simpa using h2 p h
   rw [this];refine G0 Tryz.func50 ?_;repeat' first|refine Ra ⟨?_⟩|refine R0 c1 ⟨?_⟩|refine Rd (fun h=>⟨?_⟩) fun h=>⟨?_⟩|refine Rb ⟨?_⟩|fail
   exact Rf
 · rw [h1] at c1
   have:decide (p∈t)=true:=decide_eq_true (by have:=of_decide_eq_true h3; subst this; exact zAD h2)
   rw [this];refine G0 Tryz.func50 ?_;repeat' first|refine Ra ⟨?_⟩|refine R0 c1 ⟨?_⟩|refine Rd (fun h=>⟨?_⟩) fun h=>⟨?_⟩|refine Rb ⟨?_⟩|fail
   exact Rf
theorem xq (l:Lse) (who:Int) (p:Bs):Con (E m) 233 2 [.agg l.c,.bp 0 0,.bp 1 0] [(0,.box 3 [.k .i64 who]),(1,.box 9 [.s p])] (.b (aI who p l)) [(0,.box 3 [.k .i64 who]),(1,.box 9 [.s p])]:=by
 by_cases h1:l.who=who
 · refine G0 Tryz.func233 ?_;repeat' first|refine Rx ⟨?_⟩|refine Rd (fun h=>⟨?_⟩) fun h=>⟨?_⟩|fail
   refine Rg ⟨?_⟩
   first|rfl|(simp_all [aI]; done)|(simp [aI] <;> (repeat' split) <;> omega)|(simp only [aI]; repeat' split) <;> first|omega|(simp_all; done)|(simp_all; omega)|(rw [zAI]; simp [*,aI] <;> omega)
 · refine G0 Tryz.func233 ?_;repeat' first|refine Rx ⟨?_⟩|refine Rd (fun h=>⟨?_⟩) fun h=>⟨?_⟩|fail
   refine Rg ⟨?_⟩
   first|rfl|(simp_all [aI]; done)|(simp [aI] <;> (repeat' split) <;> omega)|(simp only [aI]; repeat' split) <;> first|omega|(simp_all; done)|(simp_all; omega)|(rw [zAI]; simp [*,aI] <;> omega)
theorem y5 (ls:List Lse) (who:Int) (p:Bs) (hl:ls.length≤1048576):Con (E m) 232 2 [.sl (ls.map Lse.c),.fn 233 [0,1]] [(0,.box 3 [.k .i64 who]),(1,.box 9 [.s p])] (.k .i64 (ixL (aI who p) ls)) [(0,.box 3 [.k .i64 who]),(1,.box 9 [.s p])]:=by
 have e1:(ls.map Lse.c).length=ls.length:=zAA ..;refine G0 Tryz.func232 ?_;repeat' first|refine Rx ⟨?_⟩|refine Rd (fun h=>⟨?_⟩) fun h=>⟨?_⟩|fail
 refine Cd.loop2 (fun mq tm S nx=>∃ (i:Nat),mq=(ls.length - i)∧tm=[(0,.sl (ls.map Lse.c)),(1,.fn 233 [0,1]),(7,.k .i64 ((ls.map Lse.c).length:Int)),(8,.k .i64 i)]∧S=[(0,.box 3 [.k .i64 who]),(1,.box 9 [.s p])]∧nx=2∧(i≤ls.length)∧((ls.take i).all (fun x=>!aI who p x)=true)) ?_ ?_
 · refine la [0,1,7,8] ?_
   conv=>whnf
   refine ⟨rfl,rfl,_,0,rfl,rfl,rfl,rfl,by omega,by simp⟩
 · rintro mq tm S nx ⟨i,hn,rfl,rfl,rfl,hi,ha⟩;by_cases hlt:i < ls.length
   · have g1:ls[i]?=some ls[i]:=zAB hlt;generalize ls[i]=x at g1;have c1:=xq (m:=m) x who p;cases hx:aI who p x with
     | true=>
       rw [hx] at c1;rw [mF ha g1 hx];repeat' first|refine Ra ⟨?_⟩|refine Rk [0,1] 0 c1 ⟨?_⟩|refine Rd (fun h=>⟨?_⟩) fun h=>⟨?_⟩|refine Rb ⟨?_⟩|fail
       exact Rf
     | false=>
       rw [hx] at c1;repeat' first|refine Ra ⟨?_⟩|refine Rk [0,1] 0 c1 ⟨?_⟩|refine Rd (fun h=>⟨?_⟩) fun h=>⟨?_⟩|refine Rb ⟨?_⟩|fail
       refine .here ⟨mq - 1,by omega,?_⟩;refine la [0,1,7,8] ?_
       conv=>whnf
       refine ⟨rfl,rfl,i+1,(by omega),rfl,rfl,rfl,by omega,bA ha g1 (by simp [hx])⟩
   · rw [oW ha (by omega)];repeat' first|refine Rx ⟨?_⟩|refine Rd (fun h=>⟨?_⟩) fun h=>⟨?_⟩|fail
     exact Rf
theorem jy (ls:List Lse) (who:Int) (p:Bs) (hl:ls.length≤1048576):Con (E m) 171 0 [.sl (ls.map Lse.c),.k .i64 who,.s p] [] (.k .i64 (ixL (aI who p) ls)) []:=by
 have c1:=y5 (m:=m) ls who p hl;refine G0 Tryz.func171 ?_;repeat' first|refine Ra ⟨?_⟩|refine Rk [0,1] 0 c1 ⟨?_⟩|refine Rd (fun h=>⟨?_⟩) fun h=>⟨?_⟩|refine Rb ⟨?_⟩|fail
 exact Rf
abbrev hb (p:Bs) (h:Hld):Bool:=decide (h.path=p)
theorem y6 (h:Hld) (p:Bs):Con (E m) 235 1 [.agg h.c,.bp 0 0] [(0,.box 9 [.s p])] (.b (hb p h)) [(0,.box 9 [.s p])]:=by
 refine G0 Tryz.func235 ?_;repeat' first|refine Rx ⟨?_⟩|refine Rd (fun h=>⟨?_⟩) fun h=>⟨?_⟩|fail
 exact Rf
theorem A3 (ls:List Hld) (p:Bs) (hl:ls.length≤1048576):Con (E m) 234 1 [.sl (ls.map Hld.c),.fn 235 [0]] [(0,.box 9 [.s p])] (.k .i64 (ixL (hb p) ls)) [(0,.box 9 [.s p])]:=by
 have e1:(ls.map Hld.c).length=ls.length:=zAA ..;refine G0 Tryz.func234 ?_;repeat' first|refine Rx ⟨?_⟩|refine Rd (fun h=>⟨?_⟩) fun h=>⟨?_⟩|fail
 refine Cd.loop2 (fun mq tm S nx=>∃ (i:Nat),mq=(ls.length - i)∧tm=[(0,.sl (ls.map Hld.c)),(1,.fn 235 [0]),(7,.k .i64 ((ls.map Hld.c).length:Int)),(8,.k .i64 i)]∧S=[(0,.box 9 [.s p])]∧nx=1∧(i≤ls.length)∧((ls.take i).all (fun x=>!hb p x)=true)) ?_ ?_
 · refine la [0,1,7,8] ?_
   conv=>whnf
   refine ⟨rfl,rfl,_,0,rfl,rfl,rfl,rfl,by omega,by simp⟩
 · rintro mq tm S nx ⟨i,hn,rfl,rfl,rfl,hi,ha⟩;by_cases hlt:i < ls.length
   · have g1:ls[i]?=some ls[i]:=zAB hlt;generalize ls[i]=x at g1;have c1:=y6 (m:=m) x p;cases hx:hb p x with
     | true=>
       rw [hx] at c1;rw [mF ha g1 hx];repeat' first|refine Ra ⟨?_⟩|refine Rk [0] 0 c1 ⟨?_⟩|refine Rd (fun h=>⟨?_⟩) fun h=>⟨?_⟩|refine Rb ⟨?_⟩|fail
       exact Rf
     | false=>
       rw [hx] at c1;repeat' first|refine Ra ⟨?_⟩|refine Rk [0] 0 c1 ⟨?_⟩|refine Rd (fun h=>⟨?_⟩) fun h=>⟨?_⟩|refine Rb ⟨?_⟩|fail
       refine .here ⟨mq - 1,by omega,?_⟩;refine la [0,1,7,8] ?_
       conv=>whnf
       refine ⟨rfl,rfl,i+1,(by omega),rfl,rfl,rfl,by omega,bA ha g1 (by simp [hx])⟩
   · rw [oW ha (by omega)];repeat' first|refine Rx ⟨?_⟩|refine Rd (fun h=>⟨?_⟩) fun h=>⟨?_⟩|fail
     exact Rf
theorem eo (ls:List Hld) (p:Bs) (hl:ls.length≤1048576):Con (E m) 172 0 [.sl (ls.map Hld.c),.s p] [] (.k .i64 (ixL (hb p) ls)) []:=by
 have c1:=A3 (m:=m) ls p hl;refine G0 Tryz.func172 ?_;repeat' first|refine Ra ⟨?_⟩|refine Rk [0] 0 c1 ⟨?_⟩|refine Rd (fun h=>⟨?_⟩) fun h=>⟨?_⟩|refine Rb ⟨?_⟩|fail
 exact Rf
theorem th {α:Type} (a b:List α) (n:Nat) (h:a.length=n):(a++b).take n=a:=by
 rw [List.take_append_of_le_length (by omega),zAf (by omega)]
theorem A4 {α:Type} (f:α→List D) (l:List α) (i:Nat) (hi:i < l.length) (z:List D) :
   ((((l.map f).take i++((l.map f).take (l.map f).length).drop (i+1)++(l.map f).drop (i+((l.map f).length - (i+1)))).take (i+((l.map f).length - (i+1))))++List.replicate ((l.map f).length - (i+((l.map f).length - (i+1)))) z ++
     ((l.map f).take i++((l.map f).take (l.map f).length).drop (i+1)++(l.map f).drop (i+((l.map f).length - (i+1)))).drop (l.map f).length).take (i+((l.map f).length - (i+1)))=(l.eraseIdx i).map f:=by
 have e0:(l.map f).take (l.map f).length=l.map f:=zAN;rw [e0,zAA];have e1:((l.map f).take i++(l.map f).drop (i+1)).length=i+(l.length - (i+1)):=by simp; omega
 rw [th _ _ _ e1,zAi,th _ _ _ e1,List.eraseIdx_eq_take_drop_succ,zAK,zBU,zBf]
theorem oY (l:List Lse) (i:Nat) (hi:i < l.length) (hl:l.length≤1048576):Con (E m) 263 1 [.own 0,.k .i64 (i:Int),.k .i64 ((i:Int)+1)] [(0,.own 93 (l.map Lse.c))] (.own 1) [(1,.own 93 ((l.eraseIdx i).map Lse.c))]:=by
 have e1:(l.map Lse.c).length=l.length:=zAA ..;rw [← A4 Lse.c l i hi (cellsOf (.agg [.k .i64 0,.s [],.k .i64 0,.k .i64 0]))];refine cVE ?_;refine dO yn EG Tryz.func263 rfl rfl rfl (zAF rfl) ?_;repeat' first|refine Ra ⟨?_⟩|((refine ⟨i,i+1,l.length,rfl,by omega,by rw [e1],by omega,by omega,by omega,?_⟩) <;> conv=>whnf)|((refine ⟨i,rfl,zAG _,by omega,?_⟩) <;> conv=>whnf)|((refine ⟨i+1,by omega,by omega,by omega,?_⟩) <;> conv=>whnf)|((refine ⟨by omega,by omega,by omega,?_⟩) <;> conv=>whnf)|((refine ⟨i+((l.map Lse.c).length - (i+1)),by omega,(l.map Lse.c).length,by rw [e1],by omega,by simp; omega,?_⟩) <;> conv=>whnf)|((refine ⟨by omega,by simp; omega,?_⟩) <;> conv=>whnf)|refine Rd (fun h=>⟨?_⟩) fun h=>⟨?_⟩|refine Rb ⟨?_⟩|fail
 refine ai.here (fw [.trim 6] ?_)
 conv=>whnf
 exact ⟨rfl,rfl,rfl,rfl⟩
theorem fX (l:List Hld) (i:Nat) (hi:i < l.length) (hl:l.length≤1048576):Con (E m) 264 1 [.own 0,.k .i64 (i:Int),.k .i64 ((i:Int)+1)] [(0,.own 152 (l.map Hld.c))] (.own 1) [(1,.own 152 ((l.eraseIdx i).map Hld.c))]:=by
 have e1:(l.map Hld.c).length=l.length:=zAA ..;rw [← A4 Hld.c l i hi (cellsOf (.agg [.s [],.b false,.s [],.b false,.s [],.k .i64 0,.k .i64 0]))];refine cVE ?_;refine dO yn EG Tryz.func264 rfl rfl rfl (zAF rfl) ?_;repeat' first|refine Ra ⟨?_⟩|((refine ⟨i,i+1,l.length,rfl,by omega,by rw [e1],by omega,by omega,by omega,?_⟩) <;> conv=>whnf)|((refine ⟨i,rfl,zAG _,by omega,?_⟩) <;> conv=>whnf)|((refine ⟨i+1,by omega,by omega,by omega,?_⟩) <;> conv=>whnf)|((refine ⟨by omega,by omega,by omega,?_⟩) <;> conv=>whnf)|((refine ⟨i+((l.map Hld.c).length - (i+1)),by omega,(l.map Hld.c).length,by rw [e1],by omega,by simp; omega,?_⟩) <;> conv=>whnf)|((refine ⟨by omega,by simp; omega,?_⟩) <;> conv=>whnf)|refine Rd (fun h=>⟨?_⟩) fun h=>⟨?_⟩|refine Rb ⟨?_⟩|fail
 refine ai.here (fw [.trim 6] ?_)
 conv=>whnf
 exact ⟨rfl,rfl,rfl,rfl⟩
theorem A5 (l:List Mes) (i:Nat) (hi:i < l.length) (hl:l.length≤1048576):Con (E m) 213 1 [.own 0,.k .i64 (i:Int),.k .i64 ((i:Int)+1)] [(0,.own 154 (l.map Mes.c))] (.own 1) [(1,.own 154 ((l.eraseIdx i).map Mes.c))]:=by
 have e1:(l.map Mes.c).length=l.length:=zAA ..;rw [← A4 Mes.c l i hi (cellsOf (.agg [.k .i64 0,.k .i64 0,.s [],.b false,.s [],.b false,.s [],.k .i64 0,.k .i64 0]))];refine cVE ?_;refine dO yn EG Tryz.func213 rfl rfl rfl (zAF rfl) ?_;repeat' first|refine Ra ⟨?_⟩|((refine ⟨i,i+1,l.length,rfl,by omega,by rw [e1],by omega,by omega,by omega,?_⟩) <;> conv=>whnf)|((refine ⟨i,rfl,zAG _,by omega,?_⟩) <;> conv=>whnf)|((refine ⟨i+1,by omega,by omega,by omega,?_⟩) <;> conv=>whnf)|((refine ⟨by omega,by omega,by omega,?_⟩) <;> conv=>whnf)|((refine ⟨i+((l.map Mes.c).length - (i+1)),by omega,(l.map Mes.c).length,by rw [e1],by omega,by simp; omega,?_⟩) <;> conv=>whnf)|((refine ⟨by omega,by simp; omega,?_⟩) <;> conv=>whnf)|refine Rd (fun h=>⟨?_⟩) fun h=>⟨?_⟩|refine Rb ⟨?_⟩|fail
 refine ai.here (fw [.trim 6] ?_)
 conv=>whnf
 exact ⟨rfl,rfl,rfl,rfl⟩
variable {m:Int}
def Do (l:Lse):Prop:=l.path.length≤1073741823
def rf (h:Hld):Prop:=h.path.length≤1073741823∧h.ent.path.length≤1073741823∧h.ent.data.length≤1073741823
structure du (w:Wld):Prop where
 over:gq w.over
 ls:∀ l∈w.leases,Do l
 ll:w.leases.length≤1048576
 hs:∀ l∈w.holds,(∀ h∈l,rf h)∧l.length≤1048576
 hl:w.holds.length≤1048576
 fl:w.floors.length≤1048576
 nt:∀ x∈w.net,rf x.hold
 nl:w.net.length≤1048576
 op:nD 1073741823 w.op
theorem gP {n i:Nat} (h:i < n):(List.range n).drop i=i :: (List.range n).drop (i+1):=by
 rw [List.drop_eq_getElem_cons (by simpa using h)]
 simp
theorem dV (n:Nat):(List.range n).drop n=[]:=by simp
theorem F5 {ls:List Lse} {i:Nat} {l:Lse} (h:ls[i]?=some l):decide (ixL (aI l.who l.path) ls=(i:Int))=(ls.take i).all fun k=>!aI l.who l.path k:=by
 have hl:aI l.who l.path l=true:=by simp [aI]
 cases ha:(ls.take i).all fun k=>!aI l.who l.path k with
 | true=>rw [mF ha h hl]; simp
 | false=>
   refine decide_eq_false fun he=>?_;rcases fO (aI l.who l.path) ls with ⟨h1,_⟩|⟨j,x,h1,h2,h3,h4⟩
   · omega
   · have:j=i:=by omega
     subst this;rw [h4] at ha;cases ha
theorem F6 {ls:List Hld} {i:Nat} {h:Hld} (g:ls[i]?=some h):decide (ixL (hb h.path) ls=(i:Int))=(ls.take i).all fun k=>!decide (k.path=h.path):=by
 have hl:hb h.path h=true:=by simp
 cases ha:(ls.take i).all fun k=>!decide (k.path=h.path) with
 | true=>rw [mF (f:=hb h.path) ha g hl]; simp
 | false=>
   refine decide_eq_false fun he=>?_;rcases fO (hb h.path) ls with ⟨h1,_⟩|⟨j,x,h1,h2,h3,h4⟩
   · omega
   · have:j=i:=by omega
     subst this;rw [h4] at ha;cases ha
def xr (cnt:Int) (net:List Mes):Bool:=decide (net.length≤12) && net.all (d7 cnt)
theorem Dp (w:Wld) (hb:du w):Con (E m) 103 0 [.agg w.c] [] (.b (xr w.count w.net)) []:=by
 have hnl:=hb.nl;have e1:(w.net.map Mes.c).length=w.net.length:=zAA ..;by_cases hl:w.net.length≤12
 · have hx:xr w.count w.net=w.net.all (d7 w.count):=by simp [xr,hl]
   rw [hx];refine G0 Tryz.func103 ?_;repeat' first|refine Rx ⟨?_⟩|refine Rd (fun h=>⟨?_⟩) fun h=>⟨?_⟩|fail
   refine Cd.loop2 (fun mq tm S nx=>∃ (i:Nat),mq=(w.net.length - i)∧tm=[(1,.bp 0 0),(10,.sl (w.net.map Mes.c)),(11,.k .i64 ((w.net.map Mes.c).length:Int)),(12,.k .i64 i)]∧S=[(0,.box 54 w.c)]∧nx=1∧(i≤w.net.length)∧(w.net.all (d7 w.count)=(w.net.drop i).all (d7 w.count))) ?_ ?_
   · refine la [1,10,11,12] ?_
     conv=>whnf
     refine ⟨rfl,rfl,_,0,rfl,rfl,rfl,rfl,zAG _,rfl⟩
   · rintro mq tm S nx ⟨i,hn,rfl,rfl,rfl,hi,ha⟩;rcases au w.net i hi with ⟨rfl,hd⟩|⟨x,r,hx',hd,hr,hlt⟩
     · rw [hd] at ha;rw [ha];repeat' first|refine Rx ⟨?_⟩|refine Rd (fun h=>⟨?_⟩) fun h=>⟨?_⟩|fail
       exact Rf
     · rw [hd] at ha;have hbx:=hb.nt x (zAD hx');obtain ⟨k,who,⟨p,has,⟨ep,ed,eb⟩,num,til⟩⟩:=x;have c1:=eU (m:=m) k 1 4;have c2:=mG (m:=m) who;have c3:=bP (m:=m) p (by have:=hbx.1; simp only at this; omega);have c4:=eU (m:=m) num 0 w.count;cases hm:d7 w.count ⟨k,who,⟨p,has,⟨ep,ed,eb⟩,num,til⟩⟩ with
       | true=>
         simp only [d7,bE,eZ,zAC,zAe,decide_eq_true_eq,Hld.mk.injEq,Ent.mk.injEq,true_and] at hm;obtain ⟨⟨⟨⟨⟨⟨b1,b2⟩,b3⟩,b4⟩,b5⟩,b6⟩,b7⟩:=hm;rw [decide_eq_true b1,decide_eq_true b2] at c1;rw [b3] at c2;rw [b4] at c3;rw [decide_eq_true b5,decide_eq_true b6] at c4;have hr':w.net.all (d7 w.count)=(w.net.drop (i+1)).all (d7 w.count):=by rw [ha,hr]; simp [d7,bE,eZ, *]
         by_cases h2:k=2
         · repeat' first|refine Ra ⟨?_⟩|refine R0 c1 ⟨?_⟩|refine R0 c2 ⟨?_⟩|refine R0 c3 ⟨?_⟩|refine R0 c4 ⟨?_⟩|refine Rd (fun h=>⟨?_⟩) fun h=>⟨?_⟩|refine Rb ⟨?_⟩|fail
           refine .here ⟨mq - 1,by omega,?_⟩;refine la [1,10,11,12] ?_
           conv=>whnf
           refine ⟨rfl,rfl,i+1,(by omega),rfl,rfl,rfl,by omega,hr'⟩
         · obtain ⟨q1,⟨q2,q3,q4⟩,q5⟩:has=false∧(ep=[]∧ed=false∧eb=[])∧til=0:=by
             rcases b7 with h|h
             · exact absurd h h2
             · exact h
           subst q1 q2 q3 q4 q5;have e9:=GC ⟨p,false,⟨[],false,[]⟩,num,0⟩;repeat' first|refine Ra ⟨?_⟩|refine R0 c1 ⟨?_⟩|refine R0 c2 ⟨?_⟩|refine R0 c3 ⟨?_⟩|refine R0 c4 ⟨?_⟩|refine Rd (fun h=>⟨?_⟩) fun h=>⟨?_⟩|refine Rb ⟨?_⟩|fail
           refine .here ⟨mq - 1,by omega,?_⟩;refine la [1,10,11,12] ?_
           conv=>whnf
           refine ⟨rfl,rfl,i+1,(by omega),rfl,rfl,rfl,by omega,hr'⟩
       | false=>
         have hf:w.net.all (d7 w.count)=false:=cr hx' hm;rw [hf];simp only [d7,bE,eZ] at hm;repeat' first|refine Ra ⟨?_⟩|refine R0 c1 ⟨?_⟩|refine R0 c2 ⟨?_⟩|refine R0 c3 ⟨?_⟩|refine R0 c4 ⟨?_⟩|refine Rd (fun h=>⟨?_⟩) fun h=>⟨?_⟩|refine Rb ⟨?_⟩|fail
         all_goals first|exact Rf|(exfalso; simp_all; done)
 · have hx:xr w.count w.net=false:=by simp [xr,hl]
   rw [hx];refine G0 Tryz.func103 ?_;repeat' first|refine Rx ⟨?_⟩|refine Rd (fun h=>⟨?_⟩) fun h=>⟨?_⟩|fail
   exact Rf
theorem xt (w:Wld) (hb:du w) (hc:0≤w.clock∧w.clock≤10000):Con (E m) 104 0 [.agg w.c] [] (.b (uu w.count w.clock w.leases)) []:=by
 have hll:=hb.ll;have e1:(w.leases.map Lse.c).length=w.leases.length:=zAA ..;unfold uu;refine G0 Tryz.func104 ?_;repeat' first|refine Rx ⟨?_⟩|refine Rd (fun h=>⟨?_⟩) fun h=>⟨?_⟩|fail
 refine Cd.loop2 (fun mq tm S nx=>∃ (i:Nat),mq=(w.leases.length - i)∧tm=[(1,.bp 0 0),(6,.sl (w.leases.map Lse.c)),(7,.k .i64 ((w.leases.map Lse.c).length:Int)),(8,.k .i64 i)]∧S=[(0,.box 54 w.c)]∧nx=1∧(i≤w.leases.length)∧((List.range w.leases.length).all (l6 w.count w.clock w.leases)=((List.range w.leases.length).drop i).all (l6 w.count w.clock w.leases))) ?_ ?_
 · refine la [1,6,7,8] ?_
   conv=>whnf
   refine ⟨rfl,rfl,_,0,rfl,rfl,rfl,rfl,zAG _,rfl⟩
 · rintro mq tm S nx ⟨i,hn,rfl,rfl,rfl,hi,ha⟩;by_cases hlt:i < w.leases.length
   · have hx':w.leases[i]?=some w.leases[i]:=zAB hlt;generalize w.leases[i]=x at hx';rw [gP hlt] at ha;have hbx:=hb.ls x (zAD hx');have e2:=F5 hx';have c1:=mG (m:=m) x.who;have c2:=bP (m:=m) x.path (by unfold Do at hbx; omega);have c3:=eU (m:=m) x.num 1 w.count;have c4:=jy (m:=m) w.leases x.who x.path hll;cases hm:l6 w.count w.clock w.leases i with
     | true=>
       have hr':(List.range w.leases.length).all (l6 w.count w.clock w.leases)=((List.range w.leases.length).drop (i+1)).all (l6 w.count w.clock w.leases):=by rw [ha]; simp [hm]
       rw [l6,hx'] at hm;simp only [zAC,decide_eq_true_eq] at hm;obtain ⟨⟨⟨⟨⟨b1,b2⟩,b3⟩,b4⟩,b5⟩,b6⟩:=hm;rw [b6] at e2;have b7:=of_decide_eq_true e2;rw [b1] at c1;rw [b2] at c2;rw [decide_eq_true b3,decide_eq_true b4] at c3;rw [b7] at c4;repeat' first|refine Ra ⟨?_⟩|refine R0 c1 ⟨?_⟩|refine R0 c2 ⟨?_⟩|refine R0 c3 ⟨?_⟩|refine R0 c4 ⟨?_⟩|refine Rd (fun h=>⟨?_⟩) fun h=>⟨?_⟩|refine Rb ⟨?_⟩|fail
       refine .here ⟨mq - 1,by omega,?_⟩;refine la [1,6,7,8] ?_
       conv=>whnf
       refine ⟨rfl,rfl,i+1,(by omega),rfl,rfl,rfl,by omega,hr'⟩
     | false=>
       have hf:(List.range w.leases.length).all (l6 w.count w.clock w.leases)=false:=by rw [ha]; simp [hm]
       rw [hf];rw [l6,hx'] at hm;simp only [← e2] at hm;repeat' first|refine Ra ⟨?_⟩|refine R0 c1 ⟨?_⟩|refine R0 c2 ⟨?_⟩|refine R0 c3 ⟨?_⟩|refine R0 c4 ⟨?_⟩|refine Rd (fun h=>⟨?_⟩) fun h=>⟨?_⟩|refine Rb ⟨?_⟩|fail
       all_goals first|exact Rf|(exfalso; simp_all; done)
   · have:i=w.leases.length:=by omega
     subst this;rw [dV] at ha;rw [ha];repeat' first|refine Rx ⟨?_⟩|refine Rd (fun h=>⟨?_⟩) fun h=>⟨?_⟩|fail
     exact Rf
theorem y7 (w:Wld) (hb:du w):Con (E m) 105 0 [.agg w.c] [] (.b (w.holds.all (nG w.count))) []:=by
 have hhl:=hb.hl;have e1:(w.holds.map gy).length=w.holds.length:=zAA ..;refine G0 Tryz.func105 ?_;repeat' first|refine Rx ⟨?_⟩|refine Rd (fun h=>⟨?_⟩) fun h=>⟨?_⟩|fail
 refine Cd.loop2 (fun mq tm S nx=>∃ (i:Nat),mq=(w.holds.length - i)∧tm=[(1,.bp 0 0),(8,.sl (w.holds.map gy)),(9,.k .i64 ((w.holds.map gy).length:Int)),(10,.k .i64 i)]∧S=[(0,.box 54 w.c)]∧nx=1∧(i≤w.holds.length)∧(w.holds.all (nG w.count)=(w.holds.drop i).all (nG w.count))) ?_ ?_
 · refine la [1,8,9,10] ?_
   conv=>whnf
   refine ⟨rfl,rfl,_,0,rfl,rfl,rfl,rfl,zAG _,rfl⟩
 · rintro mq tm S nx ⟨i,hn,rfl,rfl,rfl,hi,ha⟩;rcases au w.holds i hi with ⟨rfl,hd⟩|⟨hs,r,hx',hd,hr,hlt⟩
   · rw [hd] at ha;rw [ha];repeat' first|refine Rx ⟨?_⟩|refine Rd (fun h=>⟨?_⟩) fun h=>⟨?_⟩|fail
     exact Rf
   · rw [hd] at ha;obtain ⟨hbx,hln⟩:=hb.hs hs (zAD hx');have e3:(hs.map Hld.c).length=hs.length:=zAA ..;repeat' first|refine Rx ⟨?_⟩|refine Rd (fun h=>⟨?_⟩) fun h=>⟨?_⟩|fail
     obtain ⟨mo,hmo⟩:∃ mo,mo=mq:=⟨_,rfl⟩;subst hmo;have hno:=hn;refine Cd.loop2 (fun mq tm S nx=>∃ (k:Nat),mq=(hs.length - k)∧tm=[(1,.bp 0 0),(4,.sl (hs.map Hld.c)),(8,.sl (w.holds.map gy)),(9,.k .i64 ((w.holds.map gy).length:Int)),(10,.k .i64 i),(14,.sl (hs.map Hld.c)),(15,.k .i64 ((hs.map Hld.c).length:Int)),(16,.k .i64 k)]∧S=[(0,.box 54 w.c)]∧nx=1∧(k≤hs.length)∧(nG w.count hs=((List.range hs.length).drop k).all (uv w.count hs))) ?_ ?_
     · refine la [1,4,8,9,10,14,15,16] ?_
       conv=>whnf
       refine ⟨rfl,rfl,_,0,rfl,rfl,rfl,rfl,zAG _,rfl⟩
     · rintro mq tm S nx ⟨k,hn,rfl,rfl,rfl,hk,hp⟩;by_cases hkl:k < hs.length
       · have hy:hs[k]?=some hs[k]:=zAB hkl;generalize hs[k]=x at hy;rw [gP hkl] at hp;have hbh:=hbx x (zAD hy);have e2:=F6 hy;have c1:=bP (m:=m) x.path (by have:=hbh.1; omega);have c2:=eU (m:=m) x.num 0 w.count;have c3:=eo (m:=m) hs x.path hln;cases hm:uv w.count hs k with
         | true=>
           have hr':nG w.count hs=((List.range hs.length).drop (k+1)).all (uv w.count hs):=by rw [hp]; simp [hm]
           rw [uv,hy] at hm;simp only [zAC,decide_eq_true_eq] at hm;obtain ⟨⟨⟨b1,b2⟩,b3⟩,b4⟩:=hm;rw [b4] at e2;have b7:=of_decide_eq_true e2;rw [b1] at c1;rw [decide_eq_true b2,decide_eq_true b3] at c2;rw [b7] at c3;repeat' first|refine Ra ⟨?_⟩|refine R0 c1 ⟨?_⟩|refine R0 c2 ⟨?_⟩|refine R0 c3 ⟨?_⟩|refine Rd (fun h=>⟨?_⟩) fun h=>⟨?_⟩|refine Rb ⟨?_⟩|fail
           refine .here ⟨mq - 1,by omega,?_⟩;refine la [1,4,8,9,10,14,15,16] ?_
           conv=>whnf
           refine ⟨rfl,rfl,k+1,(by omega),rfl,rfl,rfl,by omega,hr'⟩
         | false=>
           have hf:w.holds.all (nG w.count)=false:=cr hx' (by rw [hp]; simp [hm]);rw [hf];rw [uv,hy] at hm;simp only [← e2] at hm;repeat' first|refine Ra ⟨?_⟩|refine R0 c1 ⟨?_⟩|refine R0 c2 ⟨?_⟩|refine R0 c3 ⟨?_⟩|refine Rd (fun h=>⟨?_⟩) fun h=>⟨?_⟩|refine Rb ⟨?_⟩|fail
           all_goals first|exact Rf|(exfalso; simp_all; done)
       · have:k=hs.length:=by omega
         subst this;rw [dV] at hp;repeat' first|refine Rx ⟨?_⟩|refine Rd (fun h=>⟨?_⟩) fun h=>⟨?_⟩|fail
         refine .here ⟨mo - 1,by omega,?_⟩;refine la [1,8,9,10] ?_
         conv=>whnf
         refine ⟨rfl,rfl,i+1,(by omega),rfl,rfl,rfl,by omega,(by rw [ha,hr]; simp [hp])⟩
theorem E5 (p:Opn):decide (p=op0)=(decide (p.kind=0) && (decide (p.path=[]) && (decide (p.tgt=[]) && (decide (p.data=[]) && true)))):=by
 obtain ⟨a,b,c,d⟩:=p;simp [op0,zAI]
theorem A6 (v:List Ent) (w:Wld) (hb:du w) (hv:af v=true):Con (E m) 106 0 [.agg w.c,.sl (v.map Ent.c)] [] (.b (jH v w)) []:=by
 have hop:=hb.op;have c1:=ju (m:=m) v w.op (bE0 hv) hop.1 hop.2.1 hop.2.2;unfold jH;cases hw:w.waits with
 | false=>
   rw [if_neg (by simp),E5];refine G0 Tryz.func106 ?_;repeat' first|refine Ra ⟨?_⟩|refine Rk [] 1 c1 ⟨?_⟩|refine Rd (fun h=>⟨?_⟩) fun h=>⟨?_⟩|refine Rb ⟨?_⟩|fail
   exact Rf
 | true=>
   rw [if_pos rfl];refine G0 Tryz.func106 ?_;repeat' first|refine Ra ⟨?_⟩|refine Rk [] 1 c1 ⟨?_⟩|refine Rd (fun h=>⟨?_⟩) fun h=>⟨?_⟩|refine Rb ⟨?_⟩|fail
   exact Rf
theorem ti (v:List Ent) (w:Wld) (hb:du w) (hv:af v=true) (who:Int) (h:Hld):Con (E m) 173 0 [.agg w.c,.sl (v.map Ent.c),.k .i64 who,.agg h.c] [] (.b (gw v h && l5 w.clock w.leases who h)) []:=by
 have hll:=hb.ll;have c1:=oN (m:=m) v h.path (bE0 hv);have c2:=jy (m:=m) w.leases who h.path hll;rw [if_pos hv] at c1;have hsn:gw v h=(decide ((am v h.path).isSome=h.has) && decide ((am v h.path).getD eZ=h.ent)):=rfl;have hlo:l5 w.clock w.leases who h=match dw w.leases who h.path with
  | some l=>decide (w.clock < l.til) && decide (h.num≤l.num) && decide (h.til≤l.til)
  | none=>false:=rfl
 have ends:∀ (g:Ent) (has:Bool),nv (am v h.path)=.tup [.agg g.c,.b has]→(am v h.path).isSome=has→(am v h.path).getD eZ=g→Con (E m) 173 0 [.agg w.c,.sl (v.map Ent.c),.k .i64 who,.agg h.c] [] (.b (gw v h && l5 w.clock w.leases who h)) []:=by
  intro g has g1 g2 g3;rw [g1] at c1;rw [g2,g3] at hsn;have e3:ee h.ent g=decide (g=h.ent):=by
   by_cases q:g=h.ent
   · rw [decide_eq_true q,q]; exact EX _
   · rw [decide_eq_false q]; exact EY fun e=>q e.symm
  by_cases q1:has=h.has
  · by_cases q2:g=h.ent
    · have q3:gw v h=true:=by rw [hsn,decide_eq_true q1,decide_eq_true q2]; rfl
      rw [q3,zBA];rw [decide_eq_true q2] at e3;rcases fO (aI who h.path) w.leases with ⟨h1,h2⟩|⟨i,l,h1,h2,h3,h4⟩
      · have:dw w.leases who h.path=none:=by
          rw [dw,List.find?_eq_none];intro x hx;rw [h2 x hx]
          simp
        rw [this] at hlo;simp only at hlo;rw [hlo];rw [h1] at c2;subst q1;have q0:(h.has == h.has)=true:=by simp
        refine G0 Tryz.func173 ?_;repeat' first|refine Ra ⟨?_⟩|refine R0 c1 ⟨?_⟩|refine R0 c2 ⟨?_⟩|refine Rd (fun h=>⟨?_⟩) fun h=>⟨?_⟩|refine Rb ⟨?_⟩|fail
        exact Rf
      · have:dw w.leases who h.path=some l:=by
          have hi:=(List.getElem?_eq_some_iff.1 h2).1;rw [dw,List.find?_eq_some_iff_getElem];refine ⟨h3,i,hi,(List.getElem?_eq_some_iff.1 h2).2,fun j hj=>?_⟩
          have:=zAr.1 h4 w.leases[j] (List.mem_take_iff_getElem.2 ⟨j,by omega,rfl⟩)
          simpa using this
        rw [this] at hlo;simp only at hlo;rw [hlo];rw [h1] at c2;subst q1;have q0:(h.has == h.has)=true:=by simp
        refine G0 Tryz.func173 ?_;repeat' first|refine Ra ⟨?_⟩|refine R0 c1 ⟨?_⟩|refine R0 c2 ⟨?_⟩|refine Rd (fun h=>⟨?_⟩) fun h=>⟨?_⟩|refine Rb ⟨?_⟩|fail
        all_goals exact Rf
    · have q3:gw v h=false:=by rw [hsn,decide_eq_false q2]; simp
      rw [q3,zAh];rw [decide_eq_false q2] at e3;subst q1;have q0:(h.has == h.has)=true:=by simp
      refine G0 Tryz.func173 ?_;repeat' first|refine Ra ⟨?_⟩|refine R0 c1 ⟨?_⟩|refine R0 c2 ⟨?_⟩|refine Rd (fun h=>⟨?_⟩) fun h=>⟨?_⟩|refine Rb ⟨?_⟩|fail
      exact Rf
  · have q3:gw v h=false:=by rw [hsn,decide_eq_false q1]; simp
    rw [q3,zAh];have q4:(h.has == has)=false:=by simpa using fun e=>q1 e.symm
    refine G0 Tryz.func173 ?_;repeat' first|refine Ra ⟨?_⟩|refine R0 c1 ⟨?_⟩|refine R0 c2 ⟨?_⟩|refine Rd (fun h=>⟨?_⟩) fun h=>⟨?_⟩|refine Rb ⟨?_⟩|fail
    exact Rf
 cases hg:am v h.path with
 | none=>exact ends eZ false (by rw [hg]; rfl) (by rw [hg]; rfl) (by rw [hg]; rfl)
 | some g=>exact ends g true (by rw [hg]; rfl) (by rw [hg]; rfl) (by rw [hg]; rfl)
variable {m:Int}
theorem oZ {n:Int} (h:dA n=true):∃ k:Nat,n=(k:Int)∧k < 3:=by
 simp only [dA,zAC,decide_eq_true_eq] at h;exact ⟨n.toNat,by omega,by omega⟩
theorem l9 {fl:List Int} {k:Nat} {f:Int} (h:fl[k]?=some f):bq fl (k:Int)=f:=by
 simp [bq,List.getD,h]
theorem fY {hs:List (List Hld)} {k:Nat} {l:List Hld} (h:hs[k]?=some l):aJ hs (k:Int)=l:=by
 simp [aJ,List.getD,h]
theorem A7 {v:List Ent} {clk:Int} {ls:List Lse} {who:Int} {h:Hld} (hc:clk < h.til):soV v clk ls who h=(gw v h && l5 clk ls who h):=by
 rw [soV,decide_eq_false (by omega),zAs]
theorem xu {v:List Ent} {clk:Int} {ls:List Lse} {who:Int} {h:Hld} (hc:¬ clk < h.til):soV v clk ls who h=true:=by
 rw [soV,decide_eq_true (by omega),Bool.true_or]
def qT (v:List Ent) (w:Wld):Bool:=((List.range w.holds.length).all fun i=>(aJ w.holds (i:Int)).all (soV v w.clock w.leases i)) && w.net.all (iE v w)
theorem A8 (v:List Ent) (w:Wld) (hb:du w) (hv:af v=true) (hfl:w.floors.length=3) (hwho:∀ x∈w.net,dA x.who=true):Con (E m) 107 0 [.agg w.c,.sl (v.map Ent.c)] [] (.b (qT v w)) []:=by
 have hhl:=hb.hl;have hnl:=hb.nl;have e1:(w.holds.map gy).length=w.holds.length:=zAA ..;have e2:(w.net.map Mes.c).length=w.net.length:=zAA ..;refine G0 Tryz.func107 ?_;repeat' first|refine Rx ⟨?_⟩|refine Rd (fun h=>⟨?_⟩) fun h=>⟨?_⟩|fail
 refine Cd.loop2 (fun mq tm S nx=>∃ (i:Nat),mq=(w.holds.length - i)∧tm=[(1,.sl (v.map Ent.c)),(2,.bp 0 0),(13,.sl (w.holds.map gy)),(14,.k .i64 ((w.holds.map gy).length:Int)),(15,.k .i64 i)]∧S=[(0,.box 54 w.c)]∧nx=1∧(i≤w.holds.length)∧(((List.range w.holds.length).all fun i=>(aJ w.holds (i:Int)).all (soV v w.clock w.leases i))=(((List.range w.holds.length).drop i).all fun i=>(aJ w.holds (i:Int)).all (soV v w.clock w.leases i)))) ?_ ?_
 · refine la [1,2,13,14,15] ?_
   conv=>whnf
   refine ⟨rfl,rfl,_,0,rfl,rfl,rfl,rfl,zAG _,rfl⟩
 · rintro mq tm S nx ⟨i,hn,rfl,rfl,rfl,hi,ha⟩;by_cases hlt:i < w.holds.length
   · have hx':w.holds[i]?=some w.holds[i]:=zAB hlt;generalize w.holds[i]=hs at hx';rw [gP hlt,List.all_cons,fY hx'] at ha;obtain ⟨hbx,hln⟩:=hb.hs hs (zAD hx');have e3:(hs.map Hld.c).length=hs.length:=zAA ..;repeat' first|refine Rx ⟨?_⟩|refine Rd (fun h=>⟨?_⟩) fun h=>⟨?_⟩|fail
     obtain ⟨mo,hmo⟩:∃ mo,mo=mq:=⟨_,rfl⟩;subst hmo;have hno:=hn;refine Cd.loop2 (fun mq tm S nx=>∃ (k:Nat),mq=(hs.length - k)∧tm=[(1,.sl (v.map Ent.c)),(2,.bp 0 0),(5,.k .i64 i),(13,.sl (w.holds.map gy)),(14,.k .i64 ((w.holds.map gy).length:Int)),(15,.k .i64 i),(20,.sl (hs.map Hld.c)),(21,.k .i64 ((hs.map Hld.c).length:Int)),(22,.k .i64 k)]∧S=[(0,.box 54 w.c)]∧nx=1∧(k≤hs.length)∧(hs.all (soV v w.clock w.leases i)=(hs.drop k).all (soV v w.clock w.leases i))) ?_ ?_
     · refine la [1,2,5,13,14,15,20,21,22] ?_
       conv=>whnf
       refine ⟨rfl,rfl,_,0,rfl,rfl,rfl,rfl,zAG _,rfl⟩
     · rintro mq tm S nx ⟨k,hn,rfl,rfl,rfl,hk,hp⟩;rcases (au hs k hk).symm with ⟨x,r,hy,hd,hr,hlt2⟩|⟨rfl,hd⟩
       · rw [hd,List.all_cons] at hp;have c1:=ti (m:=m) v w hb hv i x;by_cases hc:w.clock < x.til
         · rw [A7 hc] at hp;cases hs:gw v x && l5 w.clock w.leases i x with
           | true=>
             rw [hs] at c1 hp;repeat' first|refine Ra ⟨?_⟩|refine R0 c1 ⟨?_⟩|refine Rd (fun h=>⟨?_⟩) fun h=>⟨?_⟩|refine Rb ⟨?_⟩|fail
             refine .here ⟨mq - 1,by omega,?_⟩;refine la [1,2,5,13,14,15,20,21,22] ?_
             conv=>whnf
             refine ⟨rfl,rfl,k+1,(by omega),rfl,rfl,rfl,by omega,(by rw [hp,hr]; simp)⟩
           | false=>
             rw [hs] at c1 hp;have hf:qT v w=false:=by rw [qT,ha,hp]; simp
             rw [hf];repeat' first|refine Ra ⟨?_⟩|refine R0 c1 ⟨?_⟩|refine Rd (fun h=>⟨?_⟩) fun h=>⟨?_⟩|refine Rb ⟨?_⟩|fail
             exact Rf
         · rw [xu hc] at hp;repeat' first|refine Rx ⟨?_⟩|refine Rd (fun h=>⟨?_⟩) fun h=>⟨?_⟩|fail
           refine .here ⟨mq - 1,by omega,?_⟩;refine la [1,2,5,13,14,15,20,21,22] ?_
           conv=>whnf
           refine ⟨rfl,rfl,k+1,(by omega),rfl,rfl,rfl,by omega,(by rw [hp,hr]; simp)⟩
       · rw [hd] at hp;repeat' first|refine Rx ⟨?_⟩|refine Rd (fun h=>⟨?_⟩) fun h=>⟨?_⟩|fail
         refine .here ⟨mo - 1,by omega,?_⟩;refine la [1,2,13,14,15] ?_
         conv=>whnf
         refine ⟨rfl,rfl,i+1,(by omega),rfl,rfl,rfl,by omega,(by rw [ha,hp]; simp)⟩
   · have hie:i=w.holds.length:=by omega
     subst hie;rw [dV] at ha;have hx:qT v w=w.net.all (iE v w):=by rw [qT,ha]; simp
     rw [hx];repeat' first|refine Rx ⟨?_⟩|refine Rd (fun h=>⟨?_⟩) fun h=>⟨?_⟩|fail
     refine Cd.loop2 (fun mq tm S nx=>∃ (i:Nat),mq=(w.net.length - i)∧tm=[(1,.sl (v.map Ent.c)),(2,.bp 0 0),(42,.sl (w.net.map Mes.c)),(43,.k .i64 ((w.net.map Mes.c).length:Int)),(44,.k .i64 i)]∧S=[(0,.box 54 w.c)]∧nx=1∧(i≤w.net.length)∧(w.net.all (iE v w)=(w.net.drop i).all (iE v w))) ?_ ?_
     · refine la [1,2,42,43,44] ?_
       conv=>whnf
       refine ⟨rfl,rfl,_,0,rfl,rfl,rfl,rfl,zAG _,rfl⟩
     · rintro mq tm S nx ⟨i,hn,rfl,rfl,rfl,hi,ha⟩;rcases au w.net i hi with ⟨rfl,hd⟩|⟨x,r,hx',hd,hr,hlt⟩
       · rw [hd] at ha;rw [ha];repeat' first|refine Rx ⟨?_⟩|refine Rd (fun h=>⟨?_⟩) fun h=>⟨?_⟩|fail
         exact Rf
       · rw [hd,List.all_cons] at ha;obtain ⟨k,hk1,hk2⟩:=oZ (hwho x (zAD hx'));obtain ⟨kind,who,h⟩:=x;simp only at hk1;subst hk1;have g1:w.floors[k]?=some (w.floors[k]'(by omega)):=zAB (by omega);generalize w.floors[k]'(by omega)=f at g1;have g2:=l9 g1;have c1:=ti (m:=m) v w hb hv k h;by_cases q1:kind=2
         · by_cases q2:w.clock < h.til
           · by_cases q3:f < h.num
             · have q4:iE v w ⟨kind,k,h⟩=(gw v h && l5 w.clock w.leases k h):=by
                 rw [iE,A7 q2];simp only [g2];rw [decide_eq_true q1,decide_eq_false (by omega)]
                 simp
               rw [q4] at ha;subst q1;cases hs:gw v h && l5 w.clock w.leases k h with
               | true=>
                 rw [hs] at c1 ha;repeat' first|refine Ra ⟨?_⟩|refine R0 c1 ⟨?_⟩|refine Rd (fun h=>⟨?_⟩) fun h=>⟨?_⟩|refine Rb ⟨?_⟩|fail
                 refine .here ⟨mq - 1,by omega,?_⟩;refine la [1,2,42,43,44] ?_
                 conv=>whnf
                 refine ⟨rfl,rfl,i+1,(by omega),rfl,rfl,rfl,by omega,(by rw [ha,hr]; simp)⟩
               | false=>
                 rw [hs] at c1 ha;rw [zAh] at ha;rw [ha];repeat' first|refine Ra ⟨?_⟩|refine R0 c1 ⟨?_⟩|refine Rd (fun h=>⟨?_⟩) fun h=>⟨?_⟩|refine Rb ⟨?_⟩|fail
                 exact Rf
             · have q4:iE v w ⟨kind,k,h⟩=true:=by
                 rw [iE];simp only [g2];rw [decide_eq_true (by omega:h.num≤f)]
                 simp
               rw [q4] at ha;subst q1;repeat' first|refine Rx ⟨?_⟩|refine Rd (fun h=>⟨?_⟩) fun h=>⟨?_⟩|fail
               refine .here ⟨mq - 1,by omega,?_⟩;refine la [1,2,42,43,44] ?_
               conv=>whnf
               refine ⟨rfl,rfl,i+1,(by omega),rfl,rfl,rfl,by omega,(by rw [ha,hr]; simp)⟩
           · have q4:iE v w ⟨kind,k,h⟩=true:=by
               rw [iE,xu q2]
               simp
             rw [q4] at ha;subst q1;repeat' first|refine Rx ⟨?_⟩|refine Rd (fun h=>⟨?_⟩) fun h=>⟨?_⟩|fail
             refine .here ⟨mq - 1,by omega,?_⟩;refine la [1,2,42,43,44] ?_
             conv=>whnf
             refine ⟨rfl,rfl,i+1,(by omega),rfl,rfl,rfl,by omega,(by rw [ha,hr]; simp)⟩
         · have q4:iE v w ⟨kind,k,h⟩=true:=by
             rw [iE,decide_eq_false q1]
             simp
           rw [q4] at ha;repeat' first|refine Rx ⟨?_⟩|refine Rd (fun h=>⟨?_⟩) fun h=>⟨?_⟩|fail
           refine .here ⟨mq - 1,by omega,?_⟩;refine la [1,2,42,43,44] ?_
           conv=>whnf
           refine ⟨rfl,rfl,i+1,(by omega),rfl,rfl,rfl,by omega,(by rw [ha,hr]; simp)⟩
theorem F7 {hs:List Hld} (hu:hs.Pairwise fun a b=>a.path≠b.path) {p:Bs} {n:Int} {i:Nat} {x:Hld} (h:hs[i]?=some x) (hx:hb p x=true):(hs.all fun h=>!(decide (h.path=p) && decide (h.num≤n)))=!decide (x.num≤n):=by
 have hx:x.path=p:=of_decide_eq_true hx;have hi:=(List.getElem?_eq_some_iff.1 h).1;have hxe:=(List.getElem?_eq_some_iff.1 h).2;rw [zAz] at hu;by_cases q:x.num≤n
 · rw [decide_eq_true q];exact cr h (by simp [hx,q])
 · rw [decide_eq_false q,zAR,zAr];intro y hy;obtain ⟨j,hj,rfl⟩:=List.mem_iff_getElem.1 hy;by_cases e:j=i
   · subst e; rw [hxe]; simp [q]
   · have:hs[j].path≠p:=by
       rcases zBJ e with g|g
       · have:=hu j i hj hi g; rw [hxe,hx] at this; exact this
       · have:=hu i j hi hj g; rw [hxe,hx] at this; exact fun e=>this e.symm
     simp [this]
theorem A9 (w:Wld) (hb:du w) (hhl:w.holds.length=3) (hfl:w.floors.length=3) (hwho:∀ x∈w.net,dA x.who=true) (hu:∀ l∈w.holds,l.Pairwise fun a b=>a.path≠b.path):Con (E m) 108 0 [.agg w.c] [] (.b (w.net.all (ly w))) []:=by
 have hnl:=hb.nl;have e2:(w.net.map Mes.c).length=w.net.length:=zAA ..;refine G0 Tryz.func108 ?_;repeat' first|refine Rx ⟨?_⟩|refine Rd (fun h=>⟨?_⟩) fun h=>⟨?_⟩|fail
 refine Cd.loop2 (fun mq tm S nx=>∃ (i:Nat),mq=(w.net.length - i)∧tm=[(1,.bp 0 0),(7,.sl (w.net.map Mes.c)),(8,.k .i64 ((w.net.map Mes.c).length:Int)),(9,.k .i64 i)]∧S=[(0,.box 54 w.c)]∧nx=1∧(i≤w.net.length)∧(w.net.all (ly w)=(w.net.drop i).all (ly w))) ?_ ?_
 · refine la [1,7,8,9] ?_
   conv=>whnf
   refine ⟨rfl,rfl,_,0,rfl,rfl,rfl,rfl,zAG _,rfl⟩
 · rintro mq tm S nx ⟨i,hn,rfl,rfl,rfl,hi,ha⟩;rcases au w.net i hi with ⟨rfl,hd⟩|⟨x,r,hx',hd,hr,hlt⟩
   · rw [hd] at ha;rw [ha];repeat' first|refine Rx ⟨?_⟩|refine Rd (fun h=>⟨?_⟩) fun h=>⟨?_⟩|fail
     exact Rf
   · rw [hd,List.all_cons] at ha;obtain ⟨k,hk1,hk2⟩:=oZ (hwho x (zAD hx'));obtain ⟨kind,who,h⟩:=x;simp only at hk1;subst hk1;have g1:w.floors[k]?=some (w.floors[k]'(by omega)):=zAB (by omega);generalize w.floors[k]'(by omega)=f at g1;have g2:=l9 g1;have g3:w.holds[k]?=some (w.holds[k]'(by omega)):=zAB (by omega);generalize w.holds[k]'(by omega)=hs at g3;have g4:=fY g3;have hbx:=hb.hs hs (zAD g3);have c1:=eo (m:=m) hs h.path hbx.2;have q:ly w ⟨kind,k,h⟩=(!decide (kind=4) || (decide (h.num≤f) && hs.all fun x=>!(decide (x.path=h.path) && decide (x.num≤h.num)))):=by
      rw [ly];simp only [g2,g4]
     rw [q] at ha;by_cases q1:kind=4
     · rw [decide_eq_true q1] at ha;subst q1;by_cases q2:h.num≤f
       · rw [decide_eq_true q2] at ha;rcases fO (Go.Proofs.YtlicaibhgcenhaaGreatDoor.hb h.path) hs with ⟨h1,h2⟩|⟨j,y,h1,h2,h3,h4⟩
         · rw [h1] at c1;have q3:(hs.all fun x=>!(decide (x.path=h.path) && decide (x.num≤h.num)))=true:=by
            rw [zAr];intro y hy
            have:=h2 y hy
            simp only [decide_eq_false_iff_not] at this;simp [this]
           rw [q3] at ha;repeat' first|refine Ra ⟨?_⟩|refine R0 c1 ⟨?_⟩|refine Rd (fun h=>⟨?_⟩) fun h=>⟨?_⟩|refine Rb ⟨?_⟩|fail
           refine .here ⟨mq - 1,by omega,?_⟩;refine la [1,7,8,9] ?_
           conv=>whnf
           refine ⟨rfl,rfl,i+1,(by omega),rfl,rfl,rfl,by omega,(by rw [ha,hr]; simp)⟩
         · rw [h1] at c1;rw [F7 (hu hs (zAD g3)) h2 h3] at ha;by_cases q3:y.num≤h.num
           · rw [decide_eq_true q3] at ha;simp only [zAS,zBb,Bool.or_false,zAh] at ha;rw [ha];repeat' first|refine Ra ⟨?_⟩|refine R0 c1 ⟨?_⟩|refine Rd (fun h=>⟨?_⟩) fun h=>⟨?_⟩|refine Rb ⟨?_⟩|fail
             exact Rf
           · rw [decide_eq_false q3] at ha;repeat' first|refine Ra ⟨?_⟩|refine R0 c1 ⟨?_⟩|refine Rd (fun h=>⟨?_⟩) fun h=>⟨?_⟩|refine Rb ⟨?_⟩|fail
             refine .here ⟨mq - 1,by omega,?_⟩;refine la [1,7,8,9] ?_
             conv=>whnf
             refine ⟨rfl,rfl,i+1,(by omega),rfl,rfl,rfl,by omega,(by rw [ha,hr]; simp)⟩
       · rw [decide_eq_false q2] at ha;simp only [zAS,zAh,Bool.or_false] at ha;rw [ha];repeat' first|refine Ra ⟨?_⟩|refine R0 c1 ⟨?_⟩|refine Rd (fun h=>⟨?_⟩) fun h=>⟨?_⟩|refine Rb ⟨?_⟩|fail
         exact Rf
     · rw [decide_eq_false q1] at ha;repeat' first|refine Ra ⟨?_⟩|refine R0 c1 ⟨?_⟩|refine Rd (fun h=>⟨?_⟩) fun h=>⟨?_⟩|refine Rb ⟨?_⟩|fail
       refine .here ⟨mq - 1,by omega,?_⟩;refine la [1,7,8,9] ?_
       conv=>whnf
       refine ⟨rfl,rfl,i+1,(by omega),rfl,rfl,rfl,by omega,(by rw [ha,hr]; simp)⟩
variable {m:Int}
def Ba (w:Wld):Prop:=0≤w.clock∧w.clock≤10000∧0≤w.count∧w.count≤10000∧w.holds.length=3∧w.floors.length=3
instance (w:Wld):Decidable (Ba w):=by unfold Ba; infer_instance
theorem xv {v:List Ent} {w:Wld} (h:¬ Ba w):db v w=false:=by
 rw [← zAa,xp];exact fun g=>h ⟨g.clk.1,g.clk.2,g.cnt.1,g.cnt.2,g.hl,g.fl⟩
theorem y8 {v:List Ent} {w:Wld} (h:Ba w):db v w=((w.floors.all fun f=>decide (0≤f) && decide (f≤w.count)) && xr w.count w.net && uu w.count w.clock w.leases && w.holds.all (nG w.count) && jH v w && qT v w && w.net.all (ly w)):=by
 obtain ⟨h1,h2,h3,h4,h5,h6⟩:=h;have e1:ip w=(decide (w.net.length≤12) && w.floors.all fun f=>decide (0≤f) && decide (f≤w.count)):=by
  simp [ip,h1,h2,h3,h4,h5,h6]
 have e2:(List.range 3).all (lq v w)=(w.holds.all (nG w.count) && (List.range w.holds.length).all fun i=>(aJ w.holds (i:Int)).all (soV v w.clock w.leases i)):=by
  rw [h5];obtain ⟨a,b,c,hh⟩:∃ a b c,w.holds=[a,b,c]:=by
   match hq:w.holds,h5 with
   | [a,b,c],_=>exact ⟨a,b,c,rfl⟩
  have hr:List.range 3=[0,1,2]:=rfl;rw [hr];simp only [List.all_cons,List.all_nil,Bool.and_true,lq,hh,aJ];rw [zAI]; simp only [zAC];constructor
  · rintro ⟨⟨a1,a2⟩,⟨b1,b2⟩,c1,c2⟩; exact ⟨⟨a1,b1,c1⟩,a2,b2,c2⟩
  · rintro ⟨⟨a1,b1,c1⟩,a2,b2,c2⟩; exact ⟨⟨a1,a2⟩,⟨b1,b2⟩,c1,c2⟩
 have e3:(w.net.all fun x=>d7 w.count x && iE v w x && ly w x)=(w.net.all (d7 w.count) && w.net.all (iE v w) && w.net.all (ly w)):=by
  rw [zAI];simp only [zAC,zAr];exact ⟨fun h=>⟨⟨fun x hx=>(h x hx).1.1,fun x hx=>(h x hx).1.2⟩,fun x hx=>(h x hx).2⟩,fun h x hx=>⟨⟨h.1.1 x hx,h.1.2 x hx⟩,h.2 x hx⟩⟩
 rw [db,e1,e2,e3,qT,xr];rw [zAI]; simp only [zAC];constructor
 · rintro ⟨⟨⟨⟨⟨a1,a2⟩,a3⟩,a4⟩,a5,a6⟩,⟨a7,a8⟩,a9⟩; exact ⟨⟨⟨⟨⟨⟨a2,a1,a7⟩,a3⟩,a5⟩,a4⟩,a6,a8⟩,a9⟩
 · rintro ⟨⟨⟨⟨⟨⟨a2,a1,a7⟩,a3⟩,a5⟩,a4⟩,a6,a8⟩,a9⟩; exact ⟨⟨⟨⟨⟨a1,a2⟩,a3⟩,a4⟩,a5,a6⟩,⟨a7,a8⟩,a9⟩
theorem kT (w:Wld) (hb:du w):Con (E m) 48 0 [.agg w.c] [] (.b (aL w)) []:=by
 have hhl:=hb.hl;have hfl:=hb.fl;have e1:(w.holds.map gy).length=w.holds.length:=zAA ..;have e2:(i7 w.floors).length=w.floors.length:=zAA ..;have c1:=fD (m:=m) w.over hb.over;have c2:=eU (m:=m) w.clock 0 10000;have c3:=eU (m:=m) w.count 0 10000;cases h:aQ w.over with
 | none=>
   have hx:aL w=false:=by rw [aL,h]
   rw [hx];rw [h] at c1;refine G0 Tryz.func48 ?_;repeat' first|refine Ra ⟨?_⟩|refine R0 c1 ⟨?_⟩|refine R0 c2 ⟨?_⟩|refine R0 c3 ⟨?_⟩|refine Rd (fun h=>⟨?_⟩) fun h=>⟨?_⟩|refine Rb ⟨?_⟩|fail
   exact Rf
 | some tv=>
   obtain ⟨t,v⟩:=tv;have hv:=(bu h).2.2.2;have hx:aL w=db v w:=by rw [aL,h]
   rw [hx];rw [h] at c1;by_cases hn:Ba w
   · obtain ⟨g1,g2,g3,g4,g5,g6⟩:=hn;rw [y8 ⟨g1,g2,g3,g4,g5,g6⟩];rw [decide_eq_true g1,decide_eq_true g2] at c2;rw [decide_eq_true g3,decide_eq_true g4] at c3;have d1:=Dp (m:=m) w hb;have d2:=xt (m:=m) w hb ⟨g1,g2⟩;have d3:=y7 (m:=m) w hb;have d4:=A6 (m:=m) v w hb hv;refine G0 Tryz.func48 ?_;repeat' first|refine Ra ⟨?_⟩|refine R0 c1 ⟨?_⟩|refine R0 c2 ⟨?_⟩|refine R0 c3 ⟨?_⟩|refine Rd (fun h=>⟨?_⟩) fun h=>⟨?_⟩|refine Rb ⟨?_⟩|fail
     refine Cd.loop2 (fun mq tm S nx=>∃ (i:Nat),mq=(w.floors.length - i)∧tm=[(1,.bp 0 0),(3,.sl (v.map Ent.c)),(38,.sl (i7 w.floors)),(39,.k .i64 ((i7 w.floors).length:Int)),(40,.k .i64 i)]∧S=[(0,.box 54 w.c)]∧nx=1∧(i≤w.floors.length)∧((w.floors.all fun f=>decide (0≤f) && decide (f≤w.count))=((w.floors.drop i).all fun f=>decide (0≤f) && decide (f≤w.count)))) ?_ ?_
     · refine la [1,3,38,39,40] ?_
       conv=>whnf
       refine ⟨rfl,rfl,_,0,rfl,rfl,rfl,rfl,zAG _,rfl⟩
     · rintro mq tm S nx ⟨i,hn,rfl,rfl,rfl,hi,ha⟩;rcases au w.floors i hi with ⟨rfl,hd⟩|⟨f,r,hx',hd,hr,hlt⟩
       · rw [hd] at ha;rw [ha];cases q1:xr w.count w.net with
         | false=>
           rw [q1] at d1;repeat' first|refine Ra ⟨?_⟩|refine R0 d1 ⟨?_⟩|refine Rd (fun h=>⟨?_⟩) fun h=>⟨?_⟩|refine Rb ⟨?_⟩|fail
           exact Rf
         | true=>
           rw [q1] at d1;cases q2:uu w.count w.clock w.leases with
           | false=>
             rw [q2] at d2;repeat' first|refine Ra ⟨?_⟩|refine R0 d1 ⟨?_⟩|refine R0 d2 ⟨?_⟩|refine Rd (fun h=>⟨?_⟩) fun h=>⟨?_⟩|refine Rb ⟨?_⟩|fail
             exact Rf
           | true=>
             rw [q2] at d2;cases q3:w.holds.all (nG w.count) with
             | false=>
               rw [q3] at d3;repeat' first|refine Ra ⟨?_⟩|refine R0 d1 ⟨?_⟩|refine R0 d2 ⟨?_⟩|refine R0 d3 ⟨?_⟩|refine Rd (fun h=>⟨?_⟩) fun h=>⟨?_⟩|refine Rb ⟨?_⟩|fail
               exact Rf
             | true=>
               rw [q3] at d3;have hwho:∀ x∈w.net,dA x.who=true:=by
                intro x hx;rw [xr,zAC] at q1
                have:=zAr.1 q1.2 x hx
                simp only [d7,zAC] at this;exact this.1.1.1.1.2
               have hu:∀ l∈w.holds,l.Pairwise fun a b=>a.path≠b.path:=fun l hl=>(oU.1 (zAr.1 q3 l hl)).2;have d5:=A8 (m:=m) v w hb hv g6 hwho;have d6:=A9 (m:=m) w hb g5 g6 hwho hu;cases q4:jH v w with
               | false=>
                 rw [q4] at d4;repeat' first|refine Ra ⟨?_⟩|refine R0 d1 ⟨?_⟩|refine R0 d2 ⟨?_⟩|refine R0 d3 ⟨?_⟩|refine R0 d4 ⟨?_⟩|refine Rd (fun h=>⟨?_⟩) fun h=>⟨?_⟩|refine Rb ⟨?_⟩|fail
                 exact Rf
               | true=>
                 rw [q4] at d4;cases q5:qT v w with
                 | false=>
                   rw [q5] at d5;repeat' first|refine Ra ⟨?_⟩|refine R0 d1 ⟨?_⟩|refine R0 d2 ⟨?_⟩|refine R0 d3 ⟨?_⟩|refine R0 d4 ⟨?_⟩|refine R0 d5 ⟨?_⟩|refine Rd (fun h=>⟨?_⟩) fun h=>⟨?_⟩|refine Rb ⟨?_⟩|fail
                   exact Rf
                 | true=>
                   rw [q5] at d5;repeat' first|refine Ra ⟨?_⟩|refine R0 d1 ⟨?_⟩|refine R0 d2 ⟨?_⟩|refine R0 d3 ⟨?_⟩|refine R0 d4 ⟨?_⟩|refine R0 d5 ⟨?_⟩|refine R0 d6 ⟨?_⟩|refine Rd (fun h=>⟨?_⟩) fun h=>⟨?_⟩|refine Rb ⟨?_⟩|fail
                   exact Rf
       · rw [hd,List.all_cons] at ha;have c4:=eU (m:=m) f 0 w.count;cases hf:decide (0≤f) && decide (f≤w.count) with
         | true=>
           rw [hf] at c4 ha;repeat' first|refine Ra ⟨?_⟩|refine R0 c4 ⟨?_⟩|refine Rd (fun h=>⟨?_⟩) fun h=>⟨?_⟩|refine Rb ⟨?_⟩|fail
           refine .here ⟨mq - 1,by omega,?_⟩;refine la [1,3,38,39,40] ?_
           conv=>whnf
           refine ⟨rfl,rfl,i+1,(by omega),rfl,rfl,rfl,by omega,(by rw [ha,hr]; simp)⟩
         | false=>
           rw [hf] at c4 ha;rw [ha];repeat' first|refine Ra ⟨?_⟩|refine R0 c4 ⟨?_⟩|refine Rd (fun h=>⟨?_⟩) fun h=>⟨?_⟩|refine Rb ⟨?_⟩|fail
           exact Rf
   · rw [xv hn];by_cases g1:0≤w.clock∧w.clock≤10000
     · rw [decide_eq_true g1.1,decide_eq_true g1.2] at c2;by_cases g2:0≤w.count∧w.count≤10000
       · rw [decide_eq_true g2.1,decide_eq_true g2.2] at c3;by_cases g3:w.holds.length=3
         · have g4:¬ w.floors.length=3:=fun e=>hn ⟨g1.1,g1.2,g2.1,g2.2,g3,e⟩;refine G0 Tryz.func48 ?_;repeat' first|refine Ra ⟨?_⟩|refine R0 c1 ⟨?_⟩|refine R0 c2 ⟨?_⟩|refine R0 c3 ⟨?_⟩|refine Rd (fun h=>⟨?_⟩) fun h=>⟨?_⟩|refine Rb ⟨?_⟩|fail
           exact Rf
         · refine G0 Tryz.func48 ?_;repeat' first|refine Ra ⟨?_⟩|refine R0 c1 ⟨?_⟩|refine R0 c2 ⟨?_⟩|refine R0 c3 ⟨?_⟩|refine Rd (fun h=>⟨?_⟩) fun h=>⟨?_⟩|refine Rb ⟨?_⟩|fail
           exact Rf
       · have q:(decide (0≤w.count) && decide (w.count≤10000))=false:=by rw [← zAa]; simpa using g2
         rw [q] at c3;refine G0 Tryz.func48 ?_;repeat' first|refine Ra ⟨?_⟩|refine R0 c1 ⟨?_⟩|refine R0 c2 ⟨?_⟩|refine R0 c3 ⟨?_⟩|refine Rd (fun h=>⟨?_⟩) fun h=>⟨?_⟩|refine Rb ⟨?_⟩|fail
         exact Rf
     · have q:(decide (0≤w.clock) && decide (w.clock≤10000))=false:=by rw [← zAa]; simpa using g1
       rw [q] at c2;refine G0 Tryz.func48 ?_;repeat' first|refine Ra ⟨?_⟩|refine R0 c1 ⟨?_⟩|refine R0 c2 ⟨?_⟩|refine R0 c3 ⟨?_⟩|refine Rd (fun h=>⟨?_⟩) fun h=>⟨?_⟩|refine Rb ⟨?_⟩|fail
       exact Rf
theorem qU (w:Wld) (p:Opn) (hb:du w) (hp:nD 1073741823 p) {t v:List Ent} (ho:aQ w.over=some (t,v)):Con (E m) 49 0 [.agg w.c,.agg p.c] [] (.own 0) [(0,.own 9 (strs (bV v p)))]:=by
 have hv:=(bu ho).2.2.2;have c1:=fD (m:=m) w.over hb.over;rw [ho] at c1;have c2:=ju (m:=m) v p (bE0 hv) hp.1 hp.2.1 hp.2.2;unfold bV;by_cases h:(ao v p).2=0
 · rw [if_pos h];have hk:=gM hv p;have c3:=qL (m:=m) v (ao v p).1 (bE0 hv) (bE0 hk);refine G0 Tryz.func49 ?_;repeat' first|refine Ra ⟨?_⟩|refine R0 c1 ⟨?_⟩|refine Rk [] 1 c2 ⟨?_⟩|refine Rk [] 1 c3 ⟨?_⟩|refine Rd (fun h=>⟨?_⟩) fun h=>⟨?_⟩|refine Rb ⟨?_⟩|fail
   exact Rf
 · rw [if_neg h];refine G0 Tryz.func49 ?_;repeat' first|refine Ra ⟨?_⟩|refine R0 c1 ⟨?_⟩|refine Rk [] 1 c2 ⟨?_⟩|refine Rd (fun h=>⟨?_⟩) fun h=>⟨?_⟩|refine Rb ⟨?_⟩|fail
   exact Rf
theorem tj (w:Wld) (p:Opn) (hb:du w) (hp:nD 1073741823 p):Con (E m) 15 0 [.agg w.c,.agg p.c] [] (.own 0) [(0,.own 93 ((gO w p).map Lse.c))]:=by
 have hll:=hb.ll;have e1:(w.leases.map Lse.c).length=w.leases.length:=zAA ..;have c1:=kT (m:=m) w hb;cases hok:aL w with
 | false=>
   rw [hok] at c1;have hx:gO w p=[]:=by simp [gO,hok]
   rw [hx];refine G0 Tryz.func15 ?_;repeat' first|refine Ra ⟨?_⟩|refine R0 c1 ⟨?_⟩|refine Rd (fun h=>⟨?_⟩) fun h=>⟨?_⟩|refine Rb ⟨?_⟩|fail
   exact Rf
 | true=>
   rw [hok] at c1;obtain ⟨t,v,ho,hw,hs⟩:=bi hok;have hx:gO w p=dT v w.clock w.leases p:=by simp [gO,hok,hs]
   rw [hx];have hv:=(bu ho).2.2.2;have c2:=qU (m:=m) w p hb hp ho;have htl:(bV v p).length≤1048576:=by
    unfold bV;split
    · have:=fJ v (ao v p).1
      omega
    · simp
   unfold dT;refine G0 Tryz.func15 ?_;repeat' first|refine Ra ⟨?_⟩|refine R0 c1 ⟨?_⟩|refine Rk [] 1 c2 ⟨?_⟩|refine Rd (fun h=>⟨?_⟩) fun h=>⟨?_⟩|refine Rb ⟨?_⟩|fail
   refine Cd.loop2 (fun mq tm S nx=>∃ (i:Nat) (A:List Lse),mq=(w.leases.length - i)∧tm=[(2,.bp 0 0),(5,.sl (strs (bV v p))),(6,.own 1),(16,.sl (w.leases.map Lse.c)),(17,.k .i64 ((w.leases.map Lse.c).length:Int)),(18,.k .i64 i)]∧S=[(0,.box 54 w.c),(1,.own 93 (A.map Lse.c))]∧nx=2∧(i≤w.leases.length)∧(A=(w.leases.take i).filter (fun l=>decide (w.clock < l.til) && decide (l.path∈bV v p)))∧(A.length≤i)) ?_ ?_
   · refine li [5] [2,5,6,16,17,18] ?_
     conv=>whnf
     refine ⟨rfl,rfl,_,0,[],rfl,rfl,rfl,rfl,zAG _,(by simp),by simp⟩
   · rintro mq tm S nx ⟨i,A,hn,rfl,rfl,rfl,hi,hA,hAl⟩;have e2:(A.map Lse.c).length=A.length:=zAA ..;rcases au w.leases i hi with ⟨rfl,hd⟩|⟨x,r,hx',hd,hr,hlt⟩
     · rw [zAN] at hA;subst hA;repeat' first|refine Rx ⟨?_⟩|refine Rd (fun h=>⟨?_⟩) fun h=>⟨?_⟩|fail
       exact Rf
     · have c3:=oX (m:=m) (bV v p) x.path htl;have hstep:∀ B,B=(w.leases.take i).filter (fun l=>decide (w.clock < l.til) && decide (l.path∈bV v p))++(if w.clock < x.til∧x.path∈bV v p then [x] else [])→B=(w.leases.take (i+1)).filter (fun l=>decide (w.clock < l.til) && decide (l.path∈bV v p)):=by
        intro B hB;rw [hB,zAX,hx',zAg];congr 1
        by_cases q1:w.clock < x.til <;> by_cases q2:x.path∈bV v p <;> simp [q1,q2]
       by_cases q1:w.clock < x.til
       · by_cases q2:x.path∈bV v p
         · rw [decide_eq_true q2] at c3;repeat' first|refine Ra ⟨?_⟩|refine R0 c3 ⟨?_⟩|refine Rd (fun h=>⟨?_⟩) fun h=>⟨?_⟩|refine Rb ⟨?_⟩|fail
           refine .here ⟨mq - 1,by omega,?_⟩;refine la [2,5,6,16,17,18] ?_
           conv=>whnf
           refine ⟨rfl,rfl,i+1,A++[x],(by omega),rfl,?_,rfl,by omega,(by rw [← hstep _ rfl,if_pos ⟨q1,q2⟩,hA]),(by simp; omega)⟩;rw [zAK];rfl
         · rw [decide_eq_false q2] at c3;repeat' first|refine Ra ⟨?_⟩|refine R0 c3 ⟨?_⟩|refine Rd (fun h=>⟨?_⟩) fun h=>⟨?_⟩|refine Rb ⟨?_⟩|fail
           refine .here ⟨mq - 1,by omega,?_⟩;refine la [2,5,6,16,17,18] ?_
           conv=>whnf
           refine ⟨rfl,rfl,i+1,A,(by omega),rfl,rfl,rfl,by omega,(by rw [← hstep _ rfl,if_neg (fun h=>q2 h.2),hA]; simp),(by omega)⟩
       · repeat' first|refine Rx ⟨?_⟩|refine Rd (fun h=>⟨?_⟩) fun h=>⟨?_⟩|fail
         refine .here ⟨mq - 1,by omega,?_⟩;refine la [2,5,6,16,17,18] ?_
         conv=>whnf
         refine ⟨rfl,rfl,i+1,A,(by omega),rfl,rfl,rfl,by omega,(by rw [← hstep _ rfl,if_neg (fun h=>q1 h.1),hA]; simp),(by omega)⟩
def rdD:Option Hld→D
 | some h=>.tup [.agg h.ent.c,.b h.has,.b true]
 | none=>.tup [.agg [.s [],.b false,.s []],.b false,.b false]
theorem tk (w:Wld) (who:Int) (p:Bs) (hb:du w):Con (E m) 218 0 [.agg w.c,.k .i64 who,.s p] [] (rdD (bK w who p)) []:=by
 have c1:=kT (m:=m) w hb;have c2:=mG (m:=m) who;cases hok:aL w with
 | false=>
   rw [hok] at c1;have hx:bK w who p=none:=by simp [bK,hok]
   rw [hx];refine G0 Tryz.func218 ?_;repeat' first|refine Ra ⟨?_⟩|refine R0 c1 ⟨?_⟩|refine R0 c2 ⟨?_⟩|refine Rd (fun h=>⟨?_⟩) fun h=>⟨?_⟩|refine Rb ⟨?_⟩|fail
   exact Rf
 | true=>
   rw [hok] at c1;cases hwh:dA who with
   | false=>
     rw [hwh] at c2;have hx:bK w who p=none:=by simp [bK,hwh]
     rw [hx];refine G0 Tryz.func218 ?_;repeat' first|refine Ra ⟨?_⟩|refine R0 c1 ⟨?_⟩|refine R0 c2 ⟨?_⟩|refine Rd (fun h=>⟨?_⟩) fun h=>⟨?_⟩|refine Rb ⟨?_⟩|fail
     exact Rf
   | true=>
     rw [hwh] at c2;obtain ⟨k,rfl,hk⟩:=oZ hwh;obtain ⟨t,v,ho,hw,hs⟩:=bi hok;have hl:=hw.hl;have g3:w.holds[k]?=some (w.holds[k]'(by omega)):=zAB (by omega);generalize w.holds[k]'(by omega)=hs at g3;have g4:=fY g3;have hbx:=hb.hs hs (zAD g3);have hu:=hw.hu hs (zAD g3);have c3:=eo (m:=m) hs p hbx.2;have hx:bK w k p=hs.find? fun h=>decide (h.path=p) && decide (w.clock < h.til):=by rw [bK,hok,hwh,g4]; rfl
     rw [hx];rcases fO (Go.Proofs.YtlicaibhgcenhaaGreatDoor.hb p) hs with ⟨h1,h2⟩|⟨j,y,h1,h2,h3,h4⟩
     · rw [h1] at c3
       have:(hs.find? fun h=>decide (h.path=p) && decide (w.clock < h.til))=none:=by
        rw [List.find?_eq_none];intro x hx
        have:=h2 x hx
        simp only [decide_eq_false_iff_not] at this;simp [this]
       rw [this];refine G0 Tryz.func218 ?_;repeat' first|refine Ra ⟨?_⟩|refine R0 c1 ⟨?_⟩|refine R0 c2 ⟨?_⟩|refine R0 c3 ⟨?_⟩|refine Rd (fun h=>⟨?_⟩) fun h=>⟨?_⟩|refine Rb ⟨?_⟩|fail
       exact Rf
     · rw [h1] at c3;have hyp:y.path=p:=of_decide_eq_true h3;have hj:=(List.getElem?_eq_some_iff.1 h2).1;by_cases q:w.clock < y.til
       · have:(hs.find? fun h=>decide (h.path=p) && decide (w.clock < h.til))=some y:=by
           rw [List.find?_eq_some_iff_getElem];refine ⟨by simp [hyp,q],j,hj,(List.getElem?_eq_some_iff.1 h2).2,fun i hi=>?_⟩
           have:=zAr.1 h4 hs[i] (List.mem_take_iff_getElem.2 ⟨i,by omega,rfl⟩)
           simp only [zAJ,decide_eq_false_iff_not] at this;simp [this]
         rw [this];refine G0 Tryz.func218 ?_;repeat' first|refine Ra ⟨?_⟩|refine R0 c1 ⟨?_⟩|refine R0 c2 ⟨?_⟩|refine R0 c3 ⟨?_⟩|refine Rd (fun h=>⟨?_⟩) fun h=>⟨?_⟩|refine Rb ⟨?_⟩|fail
         exact Rf
       · have:(hs.find? fun h=>decide (h.path=p) && decide (w.clock < h.til))=none:=by
           rw [List.find?_eq_none];intro x hx;obtain ⟨i,hi,rfl⟩:=List.mem_iff_getElem.1 hx;rw [zAz] at hu;have hye:=(List.getElem?_eq_some_iff.1 h2).2;by_cases e:i=j
           · subst e; rw [hye]; simp [q]
           · have:hs[i].path≠p:=by
               rcases zBJ e with g|g
               · have:=hu i j hi hj g; rw [hye,hyp] at this; exact this
               · have:=hu j i hj hi g; rw [hye,hyp] at this; exact fun e=>this e.symm
             simp [this]
         rw [this];refine G0 Tryz.func218 ?_;repeat' first|refine Ra ⟨?_⟩|refine R0 c1 ⟨?_⟩|refine R0 c2 ⟨?_⟩|refine R0 c3 ⟨?_⟩|refine Rd (fun h=>⟨?_⟩) fun h=>⟨?_⟩|refine Rb ⟨?_⟩|fail
         exact Rf
end Go.Proofs.YtlicaibhgcenhaaGreatDoor
