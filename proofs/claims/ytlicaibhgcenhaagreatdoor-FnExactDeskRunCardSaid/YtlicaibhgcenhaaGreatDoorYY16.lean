/- Texts of this claim, set close: lemmas and contracts. -/
import Derived.Test.YtlicaibhgcenhaaGreatDoorYY15
import Derived.Test.YtlicaibhgcenhaaGreatDoorYY10
import Derived.Test.YtlicaibhgcenhaaGreatDoorYY4
import Derived.Test.YtlicaibhgcenhaaGreatDoorYY8
set_option linter.unusedSimpArgs false
set_option linter.unusedVariables false
set_option maxHeartbeats 1000000
set_option maxRecDepth 10000
namespace Go.Proofs.YtlicaibhgcenhaaGreatDoor
open Go Go.RowKit Go.Ab Go.Par
variable {m:Int}
structure cR (n:Nat) (w:Wld):Prop where
 over:gq w.over
 ls:∀ l∈w.leases,Do l
 ll:w.leases.length≤n
 hs:∀ l∈w.holds,(∀ h∈l,rf h)∧l.length≤n
 hl:w.holds.length≤1048576
 fl:w.floors.length≤1048576
 nt:∀ x∈w.net,rf x.hold
 nl:w.net.length≤1048576
 op:nD 1073741823 w.op
theorem cR.w {n:Nat} {w:Wld} (h:cR n w) (hn:n≤1048576):du w:=
 ⟨h.over,h.ls,zAo h.ll hn,fun l hl=>⟨(h.hs l hl).1,zAo (h.hs l hl).2 hn⟩,h.hl,h.fl,h.nt,h.nl,h.op⟩
theorem cR.up {n k:Nat} {w:Wld} (h:cR n w) (hk:n≤k):cR k w:=
 ⟨h.over,h.ls,zAo h.ll hk,fun l hl=>⟨(h.hs l hl).1,zAo (h.hs l hl).2 hk⟩,h.hl,h.fl,h.nt,h.nl,h.op⟩
theorem p9 {p:Bs} {n:Int} (h:p.length≤1073741823):rf (bE p n):=⟨h,by simp [bE,eZ],by simp [bE,eZ]⟩
theorem lc {net:List Mes} {x y:Mes} (h:y∈cq net x):y∈net∨y=x:=by
 unfold cq at h;split at h
 · simpa using h
 · exact .inl h
theorem cR.send {n:Nat} {w:Wld} (h:cR n w) {x:Mes} (hx:rf x.hold) (h12:w.net.length≤12):cR n { w with net:=cq w.net x }:=
 ⟨h.over,h.ls,h.ll,h.hs,h.hl,h.fl,fun y hy=>by
  rcases lc hy with hy|rfl
  · exact h.nt y hy
  · exact hx,km h.nl (by omega),h.op⟩
theorem ma (cnt:Int):∀ (bars:List Lse) (net:List Mes),(∀ y∈net,rf y.hold)→net.length≤1048576→(∀ l∈bars,Do l)→(∀ y∈dz net cnt bars,rf y.hold)∧(dz net cnt bars).length≤1048576
 | [],net,h1,h2,_=>⟨h1,h2⟩
 | l :: r,net,h1,h2,h3=>by
   rw [kW];refine ma cnt r _ (fun y hy=>?_) (km h2 (by omega)) fun x hx=>h3 x (by simp [hx]);rcases lc hy with hy|rfl
   · exact h1 y hy
   · exact p9 (h3 l (by simp))
theorem zi {w:Wld} {n:Nat} (h:cR n w) {v:List Ent} {p:Opn}:∀ l∈dT v w.clock w.leases p,Do l:=fun l hl=>h.ls l (List.mem_filter.1 hl).1
theorem cR.write {n:Nat} {w:Wld} (h:cR n w) {t v:List Ent} (ho:aQ w.over=some (t,v)) (hw:OkW v w) {p:Opn} (hp:nD 1073741823 p):cR n (cD w p).1:=by
 obtain ⟨v',ho',_⟩:=hw.write ho p;have hov:=xm ho';unfold cD at hov ⊢;split
 · exact h
 · split
   · exact h
   · split
     · rename_i h1 h2 h3;rw [if_neg h1,if_neg h2,if_pos h3] at hov;exact ⟨hov,h.ls,h.ll,h.hs,h.hl,h.fl,h.nt,h.nl,h.op⟩
     · have hr:=ma w.count _ _ h.nt h.nl (zi h (v:=Go.Par.seen w.over) (p:=p));exact ⟨h.over,h.ls,h.ll,h.hs,h.hl,h.fl,hr.1,hr.2,hp⟩
theorem cR.try_ {n:Nat} {w:Wld} (h:cR n w) {t v:List Ent} (ho:aQ w.over=some (t,v)) (hw:OkW v w):cR n (gB w).1:=by
 obtain ⟨v',ho',_⟩:=hw.try_ ho;have hov:=xm ho';unfold gB at hov ⊢;split
 · exact h
 · split
   · rename_i h1 h2;rw [if_neg h1,if_pos h2] at hov;exact ⟨hov,h.ls,h.ll,h.hs,h.hl,h.fl,h.nt,h.nl,⟨by simp [op0],by simp [op0],by simp [op0]⟩⟩
   · have hr:=ma w.count _ _ h.nt h.nl (zi h (v:=Go.Par.seen w.over) (p:=w.op));exact ⟨h.over,h.ls,h.ll,h.hs,h.hl,h.fl,hr.1,hr.2,h.op⟩
theorem Bq {v:List Ent} (hv:af v=true) (p:Bs):((am v p).getD eZ).path.length≤1073741823∧((am v p).getD eZ).data.length≤1073741823:=by
 cases hg:am v p with
 | none=>simp [eZ]
 | some e=>
   unfold am at hg;split at hg
   · cases hg;simp [qz]
   · have hm:e∈v:=List.mem_of_find?_eq_some hg;exact o7 hv e hm
theorem cR.ask {n:Nat} {w:Wld} (h:cR n w) (h12:w.net.length≤12) {t v:List Ent} (ho:aQ w.over=some (t,v)) {who:Int} {p:Bs} (hp:p.length≤1073741823):cR (n+1) (jI w who p):=by
 have hv:=(bu ho).2.2.2;have hs:Go.Par.seen w.over=v:=by rw [Go.Par.seen,ho]
 have hg:=Bq hv p;unfold jI;rw [hs];split
 · exact h.up (Nat.le_succ _)
 · refine ⟨h.over,fun l hl=>?_,?_,fun l hl=>⟨(h.hs l hl).1,Nat.le_succ_of_le (h.hs l hl).2⟩,h.hl,h.fl,fun y hy=>?_,km h.nl (by omega),h.op⟩
   · rcases zAt.1 hl with hl|hl
     · exact h.ls l (List.mem_filter.1 hl).1
     · rw [List.mem_singleton.1 hl]; exact hp
   · have h1:(jc w.leases who p (w.count+1)).length≤w.leases.length:=zAV _ _;have h2:=h.ll;simp only [zAL,zAw];omega
   · rcases lc hy with hy|rfl
     · exact h.nt y hy
     · exact ⟨hp,hg.1,hg.2⟩
theorem Dy (l:List Hld) (g:Hld):(cC l g).length≤l.length+1:=by
 unfold cC;split
 · omega
 · have:(l.filter fun x=>!decide (x.path=g.path)).length≤l.length:=zAV _ _
   simp only [zAL,zAw];omega
theorem takeH_mem {l:List Hld} {g x:Hld} (h:x∈cC l g):x∈l∨x=g:=by
 unfold cC at h;split at h
 · exact .inl h
 · rcases zAt.1 h with h|h
   · exact .inl (List.mem_filter.1 h).1
   · exact .inr (List.mem_singleton.1 h)
theorem Cn {α:Type} {l:List α} {i:Nat} {x y:α} (h:y∈l.set i x):y∈l∨y=x:=by
 rcases zBC h with h|h
 · exact .inl h
 · exact .inr h
theorem holdsOf_mem {hs:List (List Hld)} {who:Int} {x:Hld} (h:x∈aJ hs who):∃ l∈hs,aJ hs who=l:=by
 unfold aJ at h ⊢;rw [zAl] at h ⊢;cases hq:hs[who.toNat]? with
 | none=>rw [hq] at h; simp at h
 | some l=>exact ⟨l,zAD hq,by simp⟩
theorem qY {n:Nat} {w:Wld} (h:cR n w) (who:Int):(aJ w.holds who).length≤n∧∀ x∈aJ w.holds who,rf x:=by
 unfold aJ;rw [zAl];cases hq:w.holds[who.toNat]? with
 | none=>simp
 | some l=>exact ⟨(h.hs l (zAD hq)).2,(h.hs l (zAD hq)).1⟩
theorem cR.grant {n:Nat} {w:Wld} (h:cR n w) {who:Int} {g:Hld} (hg:rf g):cR (n+1) (gx w who g):=by
 unfold gx;split
 · obtain ⟨h1,h2⟩:=qY h who;refine ⟨h.over,h.ls,Nat.le_succ_of_le h.ll,fun l hl=>?_,by rw [zAd]; exact h.hl,h.fl,h.nt,h.nl,h.op⟩;rcases Cn hl with hl|rfl
   · exact ⟨(h.hs l hl).1,Nat.le_succ_of_le (h.hs l hl).2⟩
   · refine ⟨fun x hx=>?_,by have:=Dy (aJ w.holds who) g; omega⟩;rcases takeH_mem hx with hx|rfl
     · exact h2 x hx
     · exact hg
 · exact h.up (Nat.le_succ _)
theorem cR.recall {n:Nat} {w:Wld} (h:cR n w) {who:Int} {p:Bs} {k:Int} (hp:p.length≤1073741823):cR n (fd w who p k):=by
 unfold fd;obtain ⟨h1,h2⟩:=qY h who;refine ⟨h.over,h.ls,h.ll,fun l hl=>?_,by rw [zAd]; exact h.hl,by rw [zAd]; exact h.fl,fun y hy=>?_,km h.nl (by omega),h.op⟩
 · rcases Cn hl with hl|rfl
   · exact h.hs l hl
   · exact ⟨fun x hx=>h2 x (List.mem_filter.1 hx).1,zAo (zAV _ _) h1⟩
 · rcases lc hy with hy|rfl
   · exact h.nt y hy
   · exact p9 hp
theorem cR.back {n:Nat} {w:Wld} (h:cR n w) {who:Int} {p:Bs} {k:Int}:cR n (lx w who p k):=
 ⟨h.over,fun l hl=>h.ls l (List.mem_filter.1 hl).1,zAo (zAV _ _) h.ll,h.hs,h.hl,h.fl,h.nt,h.nl,h.op⟩
theorem cR.net {n:Nat} {w:Wld} (h:cR n w) {net:List Mes} (hm:∀ x∈net,x∈w.net) (hl:net.length≤1048576):cR n { w with net:=net }:=
 ⟨h.over,h.ls,h.ll,h.hs,h.hl,h.fl,fun x hx=>h.nt x (hm x hx),hl,h.op⟩
theorem cR.tick {n:Nat} {w:Wld} (h:cR n w):cR n (lr w):=
 ⟨h.over,fun l hl=>h.ls l (List.mem_filter.1 hl).1,zAo (zAV _ _) h.ll,h.hs,h.hl,h.fl,h.nt,h.nl,h.op⟩
theorem cR.come {n:Nat} {w:Wld} (h:cR n w) (h12:w.net.length≤12) {t v:List Ent} (ho:aQ w.over=some (t,v)) {x:Mes} (hx:rf x.hold):cR (n+1) (dU w x):=by
 unfold dU;split
 · exact h.ask h12 ho hx.1
 · split
   · exact h.grant hx
   · split
     · exact (h.recall hx.1).up (Nat.le_succ _)
     · split
       · exact h.back.up (Nat.le_succ _)
       · exact h.up (Nat.le_succ _)
theorem cR.netD {n:Nat} {w:Wld} (h:cR n w) (h12:w.net.length≤12) {t v:List Ent} (ho:aQ w.over=some (t,v)) (k pos:Int):cR (n+1) (ki w k pos).1:=by
 unfold ki;split
 · exact h.up (Nat.le_succ _)
 · split
   · exact h.up (Nat.le_succ _)
   · rename_i m hm;have hmm:=zAD hm;have hlen:(w.net.eraseIdx pos.toNat).length≤w.net.length:=by rw [zAu]; split <;> omega
     have hb:=h.net (net:=w.net.eraseIdx pos.toNat) (fun x hx=>(zBc _ _).subset hx) (zAo hlen h.nl);split
     · exact (h.send (h.nt m hmm) h12).up (Nat.le_succ _)
     · split
       · exact hb.come (zAo hlen h12) ho (h.nt m hmm)
       · exact hb.up (Nat.le_succ _)
theorem cR.do_ {n:Nat} {w:Wld} (h:cR n w) {t v:List Ent} (ho:aQ w.over=some (t,v)) (hw:OkW v w) {e:Evn} (he:vY e):cR (n+1) (wDo w e).1:=by
 unfold wDo;split
 · split
   · exact (h.send (p9 he.path) hw.nl).up (Nat.le_succ _)
   · exact h.up (Nat.le_succ _)
 · split
   · exact (h.write ho hw he.op).up (Nat.le_succ _)
   · split
     · exact (h.try_ ho hw).up (Nat.le_succ _)
     · split
       · exact h.tick.up (Nat.le_succ _)
       · split
         · exact h.netD hw.nl ho _ _
         · exact h.up (Nat.le_succ _)
variable {m:Int}
variable {m:Int}
theorem zj {o:Ovr} (hb:gq o):cR 0 (av o):=
 ⟨hb,by simp [av],by simp [av],fun l hl=>by
  have:l=[]:=by simpa [av] using hl
  subst this
  simp,by simp [av],by simp [av],by simp [av],by simp [av],⟨by simp [av,op0],by simp [av,op0],by simp [av,op0]⟩⟩
variable {m:Int}
end Go.Proofs.YtlicaibhgcenhaaGreatDoor
namespace Go.Par
open Go.Ab
def bH (s:Bs):List Bs:=(cut 32 s).filter fun l=>!decide (l=[])
def ii (c:Int):Bs:=
 if c=0 then [102,105,110,101] else if c=1 then [98,97,100] else if c=2∨c=22 then [110,111,110,101] else if c=3 then [110,111,116,100,105,114] else if c=4 then [116,104,101,114,101] else if c=5 then [105,115,100,105,114]
 else if c=6 then [107,101,112,116] else if c=7 then [117,110,100,101,114] else if c=8 then [114,111,111,109] else if c=20 then [119,97,105,116] else [98,117,115,121]
def qa (l:Bs):Int:=l.foldl (fun n b=>n * 10+((b.toNat:Int) - 48)) 0
def pf (s:Bs):Bool:=decide (s.head?=some 45)
def qb (s:Bs):Bs:=if pf s then s.drop 1 else s
def Co (neg:Bool) (d:Bs):Option Int:=
 if d=[]∨17 < d.length∨(d.head?=some 48∧(neg=true∨1 < d.length))∨d.all dR=false then none else some (if neg then 0 - qa d else qa d)
def cA (s:Bs):Option Int:=Co (pf s) (qb s)
def bj (t:List Ent) (p:Bs):List Bs × Int:=
 if af t=false∨(p≠[47]∧ac p=false) then ([],1) else match am t p with
  | none=>([],2)
  | some e=>if e.dir then (jY t p,0) else ([],3)
def evT (k:Int):Evn:=⟨k,0,[],op0,0⟩
def fF (k:Bs):Int:=if k=[103,105,118,101] then 5 else if k=[108,111,115,101] then 6 else if k=[99,111,112,121] then 7 else 0
def nN (k:Bs) (r:List Bs):Option Evn:=
 if 1≤aO k then (aV (k :: r)).map fun p=>⟨2,0,[],p,0⟩
 else if k=[97,115,107] then (match r with
  | [a,b]=>(cA a).map fun n=>⟨1,n,b,op0,0⟩
  | _=>none)
 else if k=[116,114,121] then (if r=[] then some (evT 3) else none)
 else if k=[116,105,99,107] then (if r=[] then some (evT 4) else none)
 else if 1≤fF k then (match r with
  | [a]=>(cA a).map fun n=>⟨fF k,0,[],op0,n⟩
  | _=>none)
 else none
def tC:List Bs→Option Evn
 | []=>none
 | k :: r=>nN k r
def pg (w:Wld) (n:Int) (p:Bs):Bs:=match bK w n p with
 | none=>[45]
 | some h=>if h.has then b8 h.ent else [110,111,110,101]
def tD (v:List Ent) (p:Bs):List Bs:=if (bj v p).2=0 then (bj v p).1++[[101,110,100]] else [ii (bj v p).2]
def gR (n:Nat):Bs:=if n < 10 then [UInt8.ofNat (48+n)] else [UInt8.ofNat (48+n / 10),UInt8.ofNat (48+n % 10)]
def d8 (w:Wld) (k:Bs) (r:List Bs):Option (List Bs):=
 if k=[114,101,97,100] then (match r with
  | [a,p]=>(cA a).map fun n=>[pg w n p]
  | _=>none)
 else if k=[116,114,101,101] then (if r=[] then some ((seen w.over).map b8++[[101,110,100]]) else none)
 else if k=[108,105,115,116] then (match r with
  | [p]=>some (tD (seen w.over) p)
  | _=>none)
 else if k=[117,112,112,101,114] then (if r=[] then some (w.over.upper.map bX++[[101,110,100]]) else none)
 else if k=[110,101,116] then (if r=[] then some [gR w.net.length++[32]++gR w.leases.length] else none)
 else none
def nO (w:Wld):List Bs→Option (List Bs)
 | []=>none
 | k :: r=>d8 w k r
def ld (k:Bs):Int:=if k=[112,117,115,104] then 1 else if k=[102,108,97,116] then 2 else if k=[115,105,110,107] then 3 else 0
def zk (o:Ovr) (k:Bs):Ovr × Bool:=if ld k=1 then ey o else if ld k=2 then ez o else (fC o,true)
def cS (w:Wld) (k:Bs):Wld × Bs:=
 if w.waits=true∨w.leases≠[] then (w,[98,117,115,121]) else if (zk w.over k).2 then ({ w with over:=(zk w.over k).1 },[102,105,110,101]) else (w,[114,111,111,109])
def bB (w:Wld) (ws:List Bs):Wld × List Bs:=match tC ws with
 | some e=>((wDo w e).1,[ii (wDo w e).2])
 | none=>match nO w ws with
   | some l=>(w,l)
   | none=>if ws.length=1∧1≤ld (bL ws 0) then ((cS w (bL ws 0)).1,[(cS w (bL ws 0)).2]) else (w,[[119,104,97,116]])
def aN (l:List Bs):Bs:=(l.map fun x=>x++[10]).flatten
def bm:Nat→Wld→Bs→List Bs→Bs
 | _,_,out,[]=>out
 | i,w,out,l :: r=>if bH l=[] then bm (i+1) w out r
   else if 200≤i∨20000 < out.length then out++[102,117,108,108,10]
   else bm (i+1) (bB w (bH l)).1 (out++aN (bB w (bH l)).2) r
def aT (s:Bs):Bs:=if 20000 < s.length then [108,111,110,103,10] else bm 0 (av ov0) [] (cut 10 s)
theorem qc (l:Bs) (c:UInt8):qa (l++[c])=qa l * 10+((c.toNat:Int) - 48):=by simp [qa]
def Fh:Nat→Int
 | 0=>1
 | k+1=>10 * Fh k
theorem ko {c:UInt8}:dR c=true↔48≤c.toNat∧c.toNat≤57:=by simp [dR]
theorem Cp:∀ (i:Nat) (l:Bs),l.length=i→l.all dR=true→0≤qa l∧qa l+1≤Fh i
 | 0,l,h,_=>by
   rw [List.eq_nil_of_length_eq_zero h];decide
 | i+1,l,h,ha=>by
   have hne:l≠[]:=by rintro rfl; simp at h
   have e:=zBa hne;have hl:l.dropLast.length=i:=by simp; omega
   have ha1:l.dropLast.all dR=true:=zAr.2 fun x hx=>zAr.1 ha x (List.dropLast_subset _ hx);have ha2:=ko.1 (zAr.1 ha _ (List.getLast_mem hne));have ih:=Cp i l.dropLast hl ha1;rw [← e,qc,Fh];omega
theorem Ga {i:Nat} (h:i≤17):Fh i≤100000000000000000:=by
 have:∀ i:Fin 18,Fh i.val≤100000000000000000:=by decide
 exact this ⟨i,by omega⟩
theorem zl {l:Bs} (h:l.length≤17) (ha:l.all dR=true):0≤qa l∧qa l≤100000000000000000:=by
 have h1:=Cp l.length l rfl ha;have h2:=Ga h;omega
theorem Dz (t:List Ent) (o:Opn):0≤cj t o∧cj t o≤8:=by
 have hu:∀ p,aY t p=0∨aY t p=2∨aY t p=3:=fun p=>by
  rw [sF];split
  · omega
  · split <;> omega
 have hn:∀ p,0≤cL t p∧cL t p≤8:=fun p=>by
  have:=hu p
  unfold cL;repeat' split
  all_goals omega
 unfold cj;repeat' split
 · exact hn _
 · have:=hn o.path
   unfold dG;repeat' split
   all_goals omega
 · have:=hu o.tgt
   unfold cz;repeat' split
   all_goals omega
 · unfold eI;repeat' split
   all_goals omega
theorem zm (t:List Ent) (o:Opn):0≤(ao t o).2∧(ao t o).2≤8:=by
 have:=Dz t o
 unfold ao;repeat' split
 all_goals simp
 all_goals omega
def fP (c:Int):Prop:=(0≤c∧c≤8)∨(20≤c∧c≤22)
theorem zn (w:Wld) (e:Evn):fP (wDo w e).2:=by
 have h0:fP 0:=.inl ⟨by omega,by omega⟩;have h1:fP 1:=.inl ⟨by omega,by omega⟩;have h20:fP 20:=.inr ⟨by omega,by omega⟩;have h21:fP 21:=.inr ⟨by omega,by omega⟩;have h22:fP 22:=.inr ⟨by omega,by omega⟩;unfold wDo;split
 · split
   · exact h0
   · exact h1
 · split
   · unfold cD;repeat' split
     · exact h21
     · exact .inl (zm _ _)
     · exact h0
     · exact h20
   · split
     · unfold gB;repeat' split
       · exact h22
       · exact h0
       · exact h20
     · split
       · exact h0
       · split
         · unfold ki;repeat' split
           all_goals first|exact h22|exact h0
         · exact h1
theorem OkW.lay {v:List Ent} {w:Wld} (h:OkW v w) (o:Ovr):OkW v { w with over:=o }:=
 ⟨h.clk,h.cnt,h.hl,h.fl,h.nl,h.fb,h.ls,h.lu,h.hs,h.hu,h.so,h.nt,h.gr,h.bk,h.wt⟩
theorem qd {o:Ovr} {t v:List Ent} (h:aQ o=some (t,v)) (k:Bs):∃ t',aQ (zk o k).1=some (t',v):=by
 unfold zk;split
 · exact Dk h
 · split
   · exact ⟨t,Dl h⟩
   · exact ⟨t,Dm h⟩
theorem G7 {w:Wld} (h:aL w=true) (k:Bs):aL (cS w k).1=true:=by
 obtain ⟨t,v,h1,h2,_⟩:=bi h;unfold cS;split
 · exact h
 · split
   · obtain ⟨t',h3⟩:=qd h1 k;exact kS (w:={ w with over:=(zk w.over k).1 }) h3 (h2.lay _)
   · exact h
theorem rK {w:Wld} (h:aL w=true) (ws:List Bs):aL (bB w ws).1=true:=by
 unfold bB;split
 · exact A2 h _
 · split
   · exact h
   · split
     · exact G7 h _
     · exact h
def Hx (w:Wld) (L:List (Int × Bs)):Prop:=(∀ l∈w.leases,(l.who,l.path)∈L)∧∀ m∈w.net,m.kind=1→(m.who,m.hold.path)∈L
def few (i:Nat) (w:Wld):Prop:=∃ (L:List (Int × Bs)) (g:Nat),L.length+g≤i∧Hx w L∧w.leases.length≤g
theorem xC {i j:Nat} {w:Wld} (h:few i w) (hj:i≤j):few j w:=by
 obtain ⟨L,g,h1,h2,h3⟩:=h;exact ⟨L,g,by omega,h2,h3⟩
theorem Gb {i:Nat} {w:Wld} (h:few i w) (o:Ovr):few i { w with over:=o }:=h
theorem xD {i:Nat} {w:Wld} (h:few i w) {net:List Mes} (hm:∀ m∈net,m.kind=1→m∈w.net):few i { w with net:=net }:=by
 obtain ⟨L,g,h1,h2,h3⟩:=h;exact ⟨L,g,h1,⟨h2.1,fun m k1 k2=>h2.2 m (hm m k1 k2) k2⟩,h3⟩
theorem tE {i:Nat} {w:Wld} (h:few i w) (cnt:Int) (bars:List Lse):few i { w with net:=dz w.net cnt bars }:=xD h fun m hm hk=>by
 rcases l7 hm with hm|⟨l,_,rfl⟩
 · exact hm
 · exact absurd hk (by show (3:Int)≠1; decide)
theorem zo {i:Nat} {w:Wld} (h:few i w) {x:Mes} (hx:x.kind≠1∨x∈w.net):few i { w with net:=cq w.net x }:=xD h fun m hm hk=>by
 rcases eF hm with hm|rfl
 · exact hm
 · exact hx.resolve_left fun h=>h hk
theorem zp {i:Nat} {w:Wld} (h:few i w) {ls:List Lse} (hs:∀ l∈ls,l∈w.leases) (hl:ls.length≤w.leases.length):few i { w with leases:=ls }:=by
 obtain ⟨L,g,h1,h2,h3⟩:=h;exact ⟨L,g,h1,⟨fun l hl=>h2.1 l (hs l hl),h2.2⟩,by simp only; omega⟩
theorem DA {i:Nat} {w:Wld} (h:few i w) (p:Opn):few i (cD w p).1:=by
 unfold cD;repeat' split
 · exact h
 · exact h
 · exact h
 · exact tE h _ _
theorem Gd {i:Nat} {w:Wld} (h:few i w):few i (gB w).1:=by
 unfold gB;repeat' split
 · exact h
 · exact h
 · exact tE h _ _
theorem Ge {i:Nat} {w:Wld} (h:few i w) (who:Int) (p:Bs) (n:Int):few i { w with leases:=jc w.leases who p n }:=
 zp h (fun l hl=>(List.mem_filter.1 hl).1) (zAV _ _)
theorem Gf {i:Nat} {w:Wld} (h:few i w) {who:Int} {p:Bs} {m:Mes} (hm:m∈w.net) (hk:m.kind=1) (h1:m.who=who) (h2:m.hold.path=p) {net:List Mes} (hn:∀ x∈net,x∈w.net):few (i+1) (jI { w with net:=net } who p):=by
 obtain ⟨L,g,a1,a2,a3⟩:=h;have hin:(who,p)∈L:=by rw [← h1,← h2]; exact a2.2 m hm hk
 unfold jI;split
 · exact ⟨L,g,by omega,⟨a2.1,fun x hx=>a2.2 x (hn x hx)⟩,a3⟩
 · refine ⟨L,g+1,by omega,⟨fun l hl=>?_,fun x hx hxk=>?_⟩,?_⟩
   · rcases zAt.1 hl with hl|hl
     · exact a2.1 l (List.mem_filter.1 hl).1
     · rw [List.mem_singleton.1 hl]; exact hin
   · rcases eF hx with hx|rfl
     · exact a2.2 x (hn x hx) hxk
     · exact absurd hxk (by show (2:Int)≠1; decide)
   · have:(jc w.leases who p (w.count+1)).length≤w.leases.length:=zAV _ _
     simp only [zAL,zAw];omega
theorem G8 {i:Nat} {w:Wld} (h:few i w) (e:Evn):few (i+1) (wDo w e).1:=by
 have hup:=xC h (Nat.le_succ i);unfold wDo;split
 · split
   · obtain ⟨L,g,a1,a2,a3⟩:=h;refine ⟨(e.who,e.path) :: L,g,by simp; omega,⟨fun l hl=>List.mem_cons_of_mem _ (a2.1 l hl),fun m hm hk=>?_⟩,a3⟩;rcases eF hm with hm|rfl
     · exact List.mem_cons_of_mem _ (a2.2 m hm hk)
     · exact List.mem_cons_self
   · exact hup
 · split
   · exact DA hup _
   · split
     · exact Gd hup
     · split
       · exact zp (w:={ w with clock:=fE w.clock }) hup (fun l hl=>(List.mem_filter.1 hl).1) (zAV _ _)
       · split
         · unfold ki;split
           · exact hup
           · split
             · exact hup
             · rename_i m hm;have hmem:=zAD hm;have hn:∀ x∈w.net.eraseIdx e.pos.toNat,x∈w.net:=fun x hx=>List.mem_of_mem_eraseIdx hx;have hd:=xD hup fun x hx _=>hn x hx;split
               · exact zo hup (.inr hmem)
               · split
                 · unfold dU;split
                   · exact Gf h hmem ‹_› rfl rfl hn
                   · split
                     · unfold gx;split
                       · exact hd
                       · exact hd
                     · split
                       · exact zo (w:={ w with net:=w.net.eraseIdx e.pos.toNat,holds:=_,floors:=_ }) hd (.inl (by show (4:Int)≠1; decide))
                       · split
                         · exact Ge hd _ _ _
                         · exact hd
                 · exact hd
         · exact hup
theorem zq {i:Nat} {w:Wld} (h:few i w) (ws:List Bs):few (i+1) (bB w ws).1:=by
 have hup:=xC h (Nat.le_succ i);unfold bB;split
 · exact G8 h _
 · split
   · exact hup
   · split
     · unfold cS;split
       · exact hup
       · split
         · exact Gb hup _
         · exact hup
     · exact hup
theorem Cq {α:Type} [DecidableEq α]:∀ (l m:List α),l.Nodup→(∀ x∈l,x∈m)→l.length≤m.length
 | [],m,_,_=>zAG _
 | a :: r,m,hn,hs=>by
   rw [List.nodup_cons] at hn;have ha:=hs a (by simp)
   have:=Cq r (m.erase a) hn.2 fun x hx=>(List.mem_erase_of_ne (fun e=>hn.1 (by rw [← e]; exact hx))).2 (hs x (by simp [hx]))
   rw [List.length_erase_of_mem ha] at this
   have:=List.length_pos_of_mem ha
   simp
   omega
theorem Cr {i:Nat} {w:Wld} {v:List Ent} (h:few i w) (hw:OkW v w):2 * w.leases.length≤i:=by
 obtain ⟨L,g,h1,h2,h3⟩:=h;have hn:(w.leases.map fun l=>(l.who,l.path)).Nodup:=by
  unfold List.Nodup;rw [zBE];exact hw.lu.imp fun hab e=>hab ⟨congrArg Prod.fst e,congrArg Prod.snd e⟩
 have:=Cq _ L hn fun x hx=>by
  obtain ⟨l,hl,rfl⟩:=List.mem_map.1 hx;exact h2.1 l hl
 rw [zAA] at this;omega
theorem Ct (o:Ovr):few 0 (av o):=⟨[],0,by simp,⟨by simp [av],by simp [av]⟩,by simp [av]⟩
def nls (s:Bs):Nat:=(s.filter fun b=>decide (b=10)).length
theorem Gg (a b:Bs):nls (a++b)=nls a+nls b:=by simp [nls]
theorem zr {s:Bs} {i:Nat} {b:UInt8} (h:s[i]?=some b):nls (s.take (i+1))=nls (s.take i)+if b=10 then 1 else 0:=by
 have:s.take (i+1)=s.take i++[b]:=by rw [zAX,h]; rfl
 rw [this,Gg];congr 1
 unfold nls;by_cases hb:b=10
 · subst hb; rfl
 · simp [hb]
theorem Br (s:Bs):nls s≤s.length:=zAV _ _
theorem fQ:∀ (ls:List Bs) (i:Nat) (w:Wld) (out:Bs),∃ z,bm i w out ls=out++z
 | [],i,w,out=>⟨[],by simp [bm]⟩
 | l :: r,i,w,out=>by
   unfold bm;split
   · exact fQ r _ _ _
   · split
     · exact ⟨_,rfl⟩
     · obtain ⟨z,hz⟩:=fQ r (i+1) (bB w (bH l)).1 (out++aN (bB w (bH l)).2);exact ⟨_,by rw [hz,zAi]⟩
theorem nP:∀ (a b:List Bs) (i:Nat) (w:Wld) (out:Bs),∃ z,bm i w out (a++b)=bm i w out a++z
 | [],b,i,w,out=>fQ b i w out
 | l :: r,b,i,w,out=>by
   rw [zAm];unfold bm;split
   · exact nP r b _ _ _
   · split
     · exact ⟨[],by simp⟩
     · exact nP r b _ _ _
theorem mb:∀ (a:List Bs) (i:Nat) (w:Wld) (out:Bs),bm i w out (a++[[]])=bm i w out a
 | [],i,w,out=>by
   show bm i w out [[]]=out
   unfold bm;rw [if_pos (show bH []=[] from rfl)]
   rfl
 | l :: r,i,w,out=>by
   rw [zAm];unfold bm;rw [mb r,mb r]
theorem mI (c:UInt8):∀ (q r:Bs),cut c (q++c :: r)=cut c q++cut c r
 | [],r=>by simp [cut]
 | x :: q,r=>by
   by_cases hx:x=c
   · rw [zAm,cut,if_pos hx,cut,if_pos hx,mI c q r];rfl
   · obtain ⟨a,t,h1,h2⟩:=lN c x q hx;rw [h2,zAm,cut,if_neg hx,mI c q r,h1];rfl
theorem xE:∀ s:Bs,(cut 10 s).length=nls s+1
 | []=>rfl
 | x :: r=>by
   have ih:=xE r;by_cases hx:x=10
   · rw [cut,if_pos hx,List.length_cons,ih];simp [nls,hx]
   · obtain ⟨a,t,h1,h2⟩:=lN 10 x r hx;rw [h1] at ih;rw [h2];simp [nls,hx] at ih ⊢;omega
theorem Bt {s:Bs} (hs:s.length≤20000) {k:Nat} (hk:k=0∨s[k - 1]?=some 10) (hkl:k≤s.length):∃ z,aT s=aT (s.take k)++z:=by
 have h1:¬ 20000 < s.length:=by omega
 have h2:¬ 20000 < (s.take k).length:=by rw [zAW]; omega
 unfold aT;rw [if_neg h1,if_neg h2];rcases hk with rfl|hk
 · obtain ⟨z,hz⟩:=fQ (cut 10 s) 0 (av ov0) [];refine ⟨z,?_⟩;rw [hz];rfl
 · obtain ⟨hi,he⟩:=List.getElem?_eq_some_iff.1 hk;by_cases h0:k=0
   · subst h0;obtain ⟨z,hz⟩:=fQ (cut 10 s) 0 (av ov0) [];exact ⟨z,by rw [hz]; rfl⟩
   · have e1:s=s.take (k - 1)++10 :: s.drop k:=by
       have:=zAv (k - 1) s
       rw [List.drop_eq_getElem_cons hi,he,show k - 1+1=k by omega] at this
       exact this.symm
     have e2:s.take k=s.take (k - 1)++[10]:=by
      have:s.take (k - 1+1)=s.take (k - 1)++[10]:=by rw [zAX,hk]; rfl
      rwa [show k - 1+1=k by omega] at this
     have e3:cut 10 (s.take k)=cut 10 (s.take (k - 1))++[[]]:=by rw [e2,mI]; rfl
     rw [e3,mb];obtain ⟨z,hz⟩:=nP (cut 10 (s.take (k - 1))) (cut 10 (s.drop k)) 0 (av ov0) [];refine ⟨z,?_⟩;rw [← hz,← mI,← e1]
def gz:Wld→List Bs→Wld
 | w,[]=>w
 | w,l :: r=>gz (if bH l=[] then w else (bB w (bH l)).1) r
theorem tF:∀ (ls:List Bs) {w:Wld},aL w=true→aL (gz w ls)=true
 | [],w,h=>h
 | l :: r,w,h=>by
   unfold gz;split
   · exact tF r h
   · exact tF r (rK h _)
theorem lf:∀ (a b:List Bs) (i:Nat) (w:Wld) (out:Bs),i+a.length≤200→(bm i w out a).length≤20000→bm i w out (a++b)=bm (i+a.length) (gz w a) (bm i w out a) b
 | [],b,i,w,out,_,_=>rfl
 | l :: r,b,i,w,out,hi,ho=>by
   rw [List.length_cons] at hi;unfold bm at ho;rw [zAm]
   conv=>lhs; unfold bm
   have e:i+(l :: r).length=i+1+r.length:=by simp; omega
   rw [e];have e2:bm i w out (l :: r)=if bH l=[] then bm (i+1) w out r else if 200≤i∨20000 < out.length then out++[102,117,108,108,10] else bm (i+1) (bB w (bH l)).1 (out++aN (bB w (bH l)).2) r:=by
    conv=>lhs; unfold bm
   rw [e2];unfold gz;by_cases hw:bH l=[]
   · rw [if_pos hw] at ho;simp only [if_pos hw];exact lf r b (i+1) w out (by omega) ho
   · rw [if_neg hw] at ho;simp only [if_neg hw];by_cases hl:200≤i∨20000 < out.length
     · rw [if_pos hl,zAL] at ho;rcases hl with hl|hl <;> omega
     · rw [if_neg hl] at ho;simp only [if_neg hl];exact lf r b (i+1) _ _ (by omega) ho
theorem lg:∀ (ls:List Bs) (i k:Nat) (w:Wld) (p out:Bs),i+k+ls.length≤200→(bm i w out ls).length+p.length≤20000→bm (i+k) w (p++out) ls=p++bm i w out ls
 | [],i,k,w,p,out,_,_=>rfl
 | l :: r,i,k,w,p,out,hi,ho=>by
   rw [List.length_cons] at hi;unfold bm at ho ⊢;split
   · rename_i hw;rw [if_pos hw] at ho
     have:=lg r (i+1) k w p out (by omega) ho
     rwa [show i+1+k=i+k+1 by omega] at this
   · rename_i hw;rw [if_neg hw] at ho;by_cases hl:200≤i∨20000 < out.length
     · rw [if_pos hl,zAL] at ho;rcases hl with hl|hl <;> omega
     · rw [if_neg hl] at ho;obtain ⟨z,hz⟩:=fQ r (i+1) (bB w (bH l)).1 (out++aN (bB w (bH l)).2);have hlen:=congrArg List.length hz;simp only [zAL] at hlen;rw [if_neg hl,if_neg (by rw [zAL]; omega),zAi]
       have:=lg r (i+1) k (bB w (bH l)).1 p (out++aN (bB w (bH l)).2) (by omega) ho
       rwa [show i+1+k=i+k+1 by omega] at this
def lh:Bs:=[109,97,107,101,32,47,122,122,10,112,117,116,32,47,122,122,47,122,32,49,10,114,109,32,47,122,122,47,122,10,114,109,100,105,114,32,47,122,122,10]
def vZ:Bs:=[102,105,110,101,10,102,105,110,101,10,102,105,110,101,10,102,105,110,101,10]
theorem zt (s:Bs):cut 10 (lh++s)=[[109,97,107,101,32,47,122,122],[112,117,116,32,47,122,122,47,122,32,49],[114,109,32,47,122,122,47,122],[114,109,100,105,114,32,47,122,122]]++cut 10 s:=by
 have h:=mI 10 [109,97,107,101,32,47,122,122,10,112,117,116,32,47,122,122,47,122,32,49,10,114,109,32,47,122,122,47,122,10,114,109,100,105,114,32,47,122,122] s;rw [show cut 10 [109,97,107,101,32,47,122,122,10,112,117,116,32,47,122,122,47,122,32,49,10,114,109,32,47,122,122,47,122,10,114,109,100,105,114,32,47,122,122]=[[109,97,107,101,32,47,122,122],[112,117,116,32,47,122,122,47,122,32,49],[114,109,32,47,122,122,47,122],[114,109,100,105,114,32,47,122,122]] from by decide +kernel] at h
 rw [← h];rfl
theorem zu:gz (av ov0) [[109,97,107,101,32,47,122,122],[112,117,116,32,47,122,122,47,122,32,49],[114,109,32,47,122,122,47,122],[114,109,100,105,114,32,47,122,122]]=av ov0∧bm 0 (av ov0) [] [[109,97,107,101,32,47,122,122],[112,117,116,32,47,122,122,47,122,32,49],[114,109,32,47,122,122,47,122],[114,109,100,105,114,32,47,122,122]]=vZ:=by decide +kernel
theorem Bu {s:Bs} (h1:s.length≤19800) (h2:(aT s).length≤19600) (h3:nls s≤191):aT (lh++s)=vZ++aT s:=by
 have e1:¬ 20000 < s.length:=by omega
 have e2:¬ 20000 < (lh++s).length:=by rw [zAL]; have:lh.length=40:=rfl; omega
 unfold aT at h2 ⊢;rw [if_neg e1] at h2 ⊢;rw [if_neg e2,zt];obtain ⟨w1,w2⟩:=zu;rw [lf _ _ _ _ _ (by decide) (by rw [w2]; decide),w1,w2];have hl:=xE s
 have:=lg (cut 10 s) 0 4 (av ov0) vZ [] (by omega) (by have:vZ.length=20:=rfl; omega)
 rw [List.append_nil] at this;exact this
theorem DB (c:Int):(ii c).length≤6:=by
 unfold ii;repeat' split
 all_goals decide
structure Gh (v:List Ent) (w:Wld):Prop where
 ov:∃ t,aQ w.over=some (t,v)
 wt:w.waits=false
 ls:w.leases=[]
theorem nQ {v:List Ent} {w:Wld} (h:Gh v w) (p:Opn):Gh (ao v p).1 (wDo w ⟨2,0,[],p,0⟩).1∧(wDo w ⟨2,0,[],p,0⟩).2=(ao v p).2:=by
 obtain ⟨⟨t,ho⟩,h2,h3⟩:=h;have hv:=(bu ho).2.2.2;have hs:seen w.over=v:=by rw [seen,ho]
 have hb:dT v w.clock w.leases p=[]:=by rw [h3]; rfl
 have e:wDo w ⟨2,0,[],p,0⟩=cD w p:=rfl;rw [e,cD,if_neg (by rw [h2]; simp),hs];by_cases hc:(ao v p).2=0
 · rw [if_neg (by simp [hc]),if_pos hb];obtain ⟨d1,d2,_⟩:=xl ho p;exact ⟨⟨⟨t,d1⟩,h2,h3⟩,hc.symm⟩
 · rw [if_pos hc,Ho hv hc];exact ⟨⟨⟨t,ho⟩,h2,h3⟩,rfl⟩
def je:Opn:=⟨2,[47,99],[],[110]⟩
def rmC:Opn:=⟨3,[47,99],[],[]⟩
def mc:Opn:=⟨1,[47,98],[],[]⟩
def Gi (v:List Ent):Bs:=aN [ii (ao v je).2]++(aN [ii (ao (ao v je).1 rmC).2]++(aN [ii (ao (ao (ao v je).1 rmC).1 mc).2] ++
 aN ((ao (ao (ao v je).1 rmC).1 mc).1.map b8++[[101,110,100]])))
def zv:List Bs:=[[112,117,116,32,47,99,32,110],[114,109,32,47,99],[109,97,107,101,32,47,98],[116,114,101,101]]
theorem jf (c:Int):(aN [ii c]).length≤7:=by
 have:=DB c
 simp [aN];omega
theorem Cu:bH [112,117,116,32,47,99,32,110]=[[112,117,116],[47,99],[110]]∧tC [[112,117,116],[47,99],[110]]=some ⟨2,0,[],je,0⟩:=by decide +kernel
theorem Fi:bH [114,109,32,47,99]=[[114,109],[47,99]]∧tC [[114,109],[47,99]]=some ⟨2,0,[],rmC,0⟩:=by decide +kernel
theorem zw:bH [109,97,107,101,32,47,98]=[[109,97,107,101],[47,98]]∧tC [[109,97,107,101],[47,98]]=some ⟨2,0,[],mc,0⟩:=by decide +kernel
theorem Cv:bH [116,114,101,101]=[[116,114,101,101]]∧tC [[116,114,101,101]]=none:=by decide +kernel
theorem DC (w:Wld):nO w [[116,114,101,101]]=some ((seen w.over).map b8++[[101,110,100]]):=by
 show d8 w [116,114,101,101] []=_
 unfold d8;rw [if_neg (by decide),if_pos rfl,if_pos rfl]
theorem Gj {v:List Ent} {w:Wld} (h:Gh v w) {i:Nat} {out:Bs} (hi:i+4≤200) (ho:out.length≤19000):bm i w out zv=out++Gi v:=by
 obtain ⟨c1,k1⟩:=nQ h je;obtain ⟨c2,k2⟩:=nQ c1 rmC;obtain ⟨c3,k3⟩:=nQ c2 mc;have hs:seen (wDo (wDo (wDo w ⟨2,0,[],je,0⟩).1 ⟨2,0,[],rmC,0⟩).1 ⟨2,0,[],mc,0⟩).1.over=(ao (ao (ao v je).1 rmC).1 mc).1:=by
  obtain ⟨t,ht⟩:=c3.ov;rw [seen,ht]
 have l1:bB w [[112,117,116],[47,99],[110]]=((wDo w ⟨2,0,[],je,0⟩).1,[ii (ao v je).2]):=by rw [bB,Cu.2,← k1]
 have l2:bB (wDo w ⟨2,0,[],je,0⟩).1 [[114,109],[47,99]]=((wDo (wDo w ⟨2,0,[],je,0⟩).1 ⟨2,0,[],rmC,0⟩).1,[ii (ao (ao v je).1 rmC).2]):=by rw [bB,Fi.2,← k2]
 have l3:bB (wDo (wDo w ⟨2,0,[],je,0⟩).1 ⟨2,0,[],rmC,0⟩).1 [[109,97,107,101],[47,98]]=((wDo (wDo (wDo w ⟨2,0,[],je,0⟩).1 ⟨2,0,[],rmC,0⟩).1 ⟨2,0,[],mc,0⟩).1,[ii (ao (ao (ao v je).1 rmC).1 mc).2]):=by rw [bB,zw.2,← k3]
 have l4:=DC (wDo (wDo (wDo w ⟨2,0,[],je,0⟩).1 ⟨2,0,[],rmC,0⟩).1 ⟨2,0,[],mc,0⟩).1;rw [hs] at l4;have b1:=jf (ao v je).2;have b2:=jf (ao (ao v je).1 rmC).2;have b3:=jf (ao (ao (ao v je).1 rmC).1 mc).2;generalize (wDo (wDo (wDo w ⟨2,0,[],je,0⟩).1 ⟨2,0,[],rmC,0⟩).1 ⟨2,0,[],mc,0⟩).1=w3 at l3 l4;generalize (wDo (wDo w ⟨2,0,[],je,0⟩).1 ⟨2,0,[],rmC,0⟩).1=w2 at l2 l3;generalize (wDo w ⟨2,0,[],je,0⟩).1=w1 at l1 l2;unfold zv Gi;rw [bm,Cu.1,if_neg (by simp),if_neg (by omega),l1];simp only;rw [bm,Fi.1,if_neg (by simp),if_neg (by rw [zAL]; omega),l2];simp only;rw [bm,zw.1,if_neg (by simp),if_neg (by simp only [zAL]; omega),l3];simp only;rw [bm,Cv.1,if_neg (by simp),if_neg (by simp only [zAL]; omega),bB,Cv.2];simp only;rw [l4];simp only [bm,zAi]
def lj (k:Bs) (s:Bs):Bs:=s++(10 :: k++[10,112,117,116,32,47,99,32,110,10,114,109,32,47,99,10,109,97,107,101,32,47,98,10,116,114,101,101])
theorem DD (s:Bs) {k:Bs} (hk:k=[112,117,115,104]∨k=[115,105,110,107]):cut 10 (lj k s)=cut 10 s++(k :: zv):=by
 unfold lj;rw [zAm,mI];congr 1
 rcases hk with rfl|rfl <;> decide +kernel
theorem Fj {k:Bs} (hk:k=[112,117,115,104]∨k=[115,105,110,107]) (w:Wld):bH k=[k]∧bB w [k]=((cS w k).1,[(cS w k).2]):=by
 have h:bH k=[k]∧tC [k]=none∧1≤ld k∧k≠[116,114,101,101]∧k≠[117,112,112,101,114]∧k≠[110,101,116]∧k≠[114,101,97,100]∧k≠[108,105,115,116]:=by rcases hk with rfl|rfl <;> decide +kernel
 obtain ⟨h1,h2,h3,h4,h5,h6,h8,h9⟩:=h;refine ⟨h1,?_⟩;have e0:bL [k] 0=k:=rfl;have h7:nO w [k]=none:=by
  show d8 w k []=none
  unfold d8;rw [if_neg h8,if_neg h4,if_neg h9,if_neg h5,if_neg h6]
 rw [bB,h2];simp only;rw [h7];simp only;rw [if_pos ⟨rfl,h3⟩,e0]
theorem Fk {s:Bs} (h1:s.length≤19910) (h2:(aT s).length≤16000) (h3:nls s≤191) {k:Bs} (hk:k=[112,117,115,104]∨k=[115,105,110,107]) :
   aT (lj k s)=bm (nls s+2) (cS (gz (av ov0) (cut 10 s)) k).1 (aT s++aN [(cS (gz (av ov0) (cut 10 s)) k).2]) zv:=by
 have hkl:k.length=4:=by rcases hk with rfl|rfl <;> rfl
 have e1:¬ 20000 < s.length:=by omega
 have e2:¬ 20000 < (lj k s).length:=by unfold lj; simp; omega
 have hl:=xE s;unfold aT at h2 ⊢;rw [if_neg e1] at h2 ⊢;rw [if_neg e2,DD s hk,lf _ _ _ _ _ (by omega) (by omega)];obtain ⟨g1,g2⟩:=Fj hk (gz (av ov0) (cut 10 s));rw [bm,g1,if_neg (by simp),if_neg (by omega),g2];simp only;rw [show 0+(cut 10 s).length+1=nls s+2 by omega]
theorem Gk {s:Bs} (h1:s.length≤19910) (h2:(aT s).length≤16000) (h3:nls s≤191) {k:Bs} (hk:k=[112,117,115,104]∨k=[115,105,110,107]) :
   ∃ z,aT (lj k s)=aT s++(aN [(cS (gz (av ov0) (cut 10 s)) k).2]++z):=by
 rw [Fk h1 h2 h3 hk];obtain ⟨z,hz⟩:=fQ zv (nls s+2) (cS (gz (av ov0) (cut 10 s)) k).1 (aT s++aN [(cS (gz (av ov0) (cut 10 s)) k).2]);exact ⟨z,by rw [hz,zAi]⟩
theorem Fl {s:Bs} (h1:s.length≤19910) (h2:(aT s).length≤16000) (h3:nls s≤191) {k:Bs} (hk:k=[112,117,115,104]∨k=[115,105,110,107])
   (hf:(cS (gz (av ov0) (cut 10 s)) k).2=[102,105,110,101]):aT (lj k s)=aT s++([102,105,110,101,10]++Gi (seen (gz (av ov0) (cut 10 s)).over)):=by
 rw [Fk h1 h2 h3 hk,hf];have hok:=tF (cut 10 s) (w:=av ov0) (jx (by decide +kernel));generalize gz (av ov0) (cut 10 s)=w at hf hok;obtain ⟨t,v,ho,hw,hs⟩:=bi hok;have hc:Gh v (cS w k).1:=by
  unfold cS at hf ⊢;split at hf
  · exact absurd (show ([98,117,115,121]:Bs)=[102,105,110,101] from hf) (by decide)
  · rename_i hq;rw [if_neg hq];split at hf
    · rename_i hl;rw [if_pos hl];exact ⟨qd ho k,by simpa using fun h=>hq (.inl h),by simpa using fun h=>hq (.inr h)⟩
    · exact absurd (show ([114,111,111,109]:Bs)=[102,105,110,101] from hf) (by decide)
 rw [hs,Gj hc (by omega) (by rw [zAL]; have:(aN [[102,105,110,101]]).length=5:=rfl; omega),zAi];rfl
theorem xF (w:Wld) (k:Bs):(cS w k).2=[98,117,115,121]∨(cS w k).2=[102,105,110,101]∨(cS w k).2=[114,111,111,109]:=by
 unfold cS;split
 · exact .inl rfl
 · split
   · exact .inr (.inl rfl)
   · exact .inr (.inr rfl)
end Go.Par
namespace Go.Proofs.YtlicaibhgcenhaaGreatDoor
open Go Go.RowKit Go.Ab Go.Par
variable {m:Int}
theorem G9 {t:List Ent} (h:af t=true):re 1073741823 t:=fun e he=>by have:=eE (dm h e he); omega
theorem uB (s:Bs) (hs:s.length≤1073741823):Con (E m) 266 0 [.s s] [] (.s (Par.pathName s)) []:=by
 have h1:=nu (m:=m) s (by omega);cases hok:ac s with
 | false=>
   simp only [hok] at h1;have hx:Par.pathName s=[]:=by simp [Par.pathName,hok]
   rw [hx];refine G0 Tryz.func266 ?_;repeat' first|refine Ra ⟨?_⟩|refine Rk [] 1 h1 ⟨?_⟩|refine Rd (fun h=>⟨?_⟩) fun h=>⟨?_⟩|refine Rb ⟨?_⟩|fail
   exact Rf
 | true=>
   simp only [hok,if_true] at h1;obtain ⟨w,a,hn,hw,ha,hl,he⟩:=iU hok;have hx:Par.pathName s=a:=by rw [he,sy hw ha hl]
   have hg:((bz s).map fun l=>[D.s l])[w.length]?=some [.s a]:=by rw [hn]; simp
   have hm:((bz s).map fun l=>[D.s l]).length=w.length+1:=by rw [hn]; simp
   rw [hx];generalize (bz s).map (fun l=>[D.s l])=X at h1 hg hm;refine G0 Tryz.func266 ?_;repeat' first|refine Ra ⟨?_⟩|refine Rk [] 1 h1 ⟨?_⟩|(refine ⟨w.length,by rw [hm]; omega,by omega,?_⟩ <;> conv=>whnf)|(refine ⟨_,hg,?_⟩ <;> conv=>whnf)|refine Rd (fun h=>⟨?_⟩) fun h=>⟨?_⟩|refine Rb ⟨?_⟩|fail
   exact Rf
theorem rm (t:List Ent) (p:Bs) (hb:re 1073741823 t) (hp:p.length≤1073741823) (hc:(bj t p).2≠0):Con (E m) 219 0 [.sl (t.map Ent.c),.s p] [] (.tup [.sl [],.k .i64 (bj t p).2]) []:=by
 have hb':∀ e∈t,e.path.length≤1073741824∧e.data.length≤1073741824:=fun e he=>⟨Nat.le_succ_of_le (hb e he).1,Nat.le_succ_of_le (hb e he).2⟩;have c1:=dX (m:=m) t hb';have c2:=bP (m:=m) p (by omega);have c3:=oN (m:=m) t p hb';unfold bj at hc ⊢;cases hok:af t with
 | false=>
   rw [if_pos (.inl rfl)];rw [hok] at c1;refine G0 Tryz.func219 ?_;repeat' first|refine Ra ⟨?_⟩|refine R0 c1 ⟨?_⟩|refine Rd (fun h=>⟨?_⟩) fun h=>⟨?_⟩|refine Rb ⟨?_⟩|fail
   exact Rzi
 | true=>
   rw [hok] at c1 c3 hc;simp only [if_true] at c3;by_cases h1:p≠[47]∧ac p=false
   · rw [if_pos (.inr h1)];have h2:¬ p=[47]:=h1.1;rw [h1.2] at c2;refine G0 Tryz.func219 ?_;repeat' first|refine Ra ⟨?_⟩|refine R0 c1 ⟨?_⟩|refine R0 c2 ⟨?_⟩|refine Rd (fun h=>⟨?_⟩) fun h=>⟨?_⟩|refine Rb ⟨?_⟩|fail
     exact Rzi
   · have hq:¬ (true=false∨(p≠[47]∧ac p=false)):=by simpa using h1
     rw [if_neg hq] at hc ⊢;have h2:p=[47]∨(¬ p=[47]∧ac p=true):=by
      by_cases h:p=[47]
      · exact .inl h
      · refine .inr ⟨h,?_⟩;cases hpo:ac p with
        | true=>rfl
        | false=>exact absurd ⟨h,hpo⟩ h1
     cases hg:am t p with
     | none=>
       rw [hg] at c3;rcases h2 with rfl|⟨h3,h4⟩
       · simp [am] at hg
       · rw [h4] at c2;refine G0 Tryz.func219 ?_;repeat' first|refine Ra ⟨?_⟩|refine R0 c1 ⟨?_⟩|refine R0 c2 ⟨?_⟩|refine R0 c3 ⟨?_⟩|refine Rd (fun h=>⟨?_⟩) fun h=>⟨?_⟩|refine Rb ⟨?_⟩|fail
         exact Rzi
     | some e=>
       rw [hg] at c3 hc;simp only at hc ⊢;have hd:e.dir=false:=by
        cases hd:e.dir with
        | false=>rfl
        | true=>rw [hd] at hc; exact absurd rfl hc
       rw [hd];obtain ⟨p',d',q'⟩:=e;simp only at hd;subst hd;rcases h2 with rfl|⟨h3,h4⟩
       · simp [am,qz] at hg
       · rw [h4] at c2;refine G0 Tryz.func219 ?_;repeat' first|refine Ra ⟨?_⟩|refine R0 c1 ⟨?_⟩|refine R0 c2 ⟨?_⟩|refine R0 c3 ⟨?_⟩|refine Rd (fun h=>⟨?_⟩) fun h=>⟨?_⟩|refine Rb ⟨?_⟩|fail
         exact Rzi
theorem uC (t:List Ent) (p:Bs) (hb:re 1073741823 t) (hl:t.length≤1073741823) (hp:p.length≤1073741823) (hc:(bj t p).2=0):Con (E m) 219 0 [.sl (t.map Ent.c),.s p] [] (.tup [.own 0,.k .i64 0]) [(0,.own 9 ((bj t p).1.map fun l=>[.s l]))]:=by
 have hb':∀ e∈t,e.path.length≤1073741824∧e.data.length≤1073741824:=fun e he=>⟨Nat.le_succ_of_le (hb e he).1,Nat.le_succ_of_le (hb e he).2⟩;have e1:(t.map Ent.c).length=t.length:=zAA ..;have c1:=dX (m:=m) t hb';have c2:=bP (m:=m) p (by omega);have c3:=oN (m:=m) t p hb';have hx:af t=true∧(p=[47]∨(¬ p=[47]∧ac p=true))∧∃ e,am t p=some e∧e.dir=true∧(bj t p).1=jY t p:=by
  unfold bj at hc ⊢;split at hc
  · exact absurd hc (by decide)
  · rename_i h1;have h2:af t=true:=by
     cases h:af t with
     | true=>rfl
     | false=>exact absurd (.inl h) h1
    refine ⟨h2,?_,?_⟩
    · by_cases h:p=[47]
      · exact .inl h
      · refine .inr ⟨h,?_⟩;cases hpo:ac p with
        | true=>rfl
        | false=>exact absurd (.inr ⟨h,hpo⟩) h1
    · rw [if_neg h1];cases hg:am t p with
      | none=>rw [hg] at hc; exact absurd (show (2:Int)=0 from hc) (by decide)
      | some e=>
        rw [hg] at hc;simp only at hc;cases hd:e.dir with
        | false=>rw [hd] at hc; exact absurd (show (3:Int)=0 from hc) (by decide)
        | true=>exact ⟨e,rfl,hd,by simp only [hd,if_true]⟩
 obtain ⟨hok,h2,e,hg,hd,hk⟩:=hx;rw [hk];rw [hok] at c1 c3;simp only [if_true] at c3;rw [hg] at c3;obtain ⟨p',d',q'⟩:=e;simp only at hd;subst hd;have main:∀ (i:Nat) (xs:List (List D)),True:=fun _ _=>trivial;rcases h2 with h3|⟨h3,h4⟩
 all_goals (try rw [h4] at c2)
 all_goals
  refine G0 Tryz.func219 ?_;repeat' first|refine Ra ⟨?_⟩|refine R0 c1 ⟨?_⟩|refine R0 c2 ⟨?_⟩|refine R0 c3 ⟨?_⟩|(refine bt h3 ?_ <;> conv=>whnf)|(refine bf h3 ?_ <;> conv=>whnf)|refine Rd (fun h=>⟨?_⟩) fun h=>⟨?_⟩|refine Rb ⟨?_⟩|fail
  refine Cd.loop2 (fun mq tm S nx=>∃ (i:Nat) (xs:List (List D)),mq=(t.length - i)∧tm=[(1,.s p),(8,.own 0),(34,.sl (t.map Ent.c)),(35,.k .i64 (t.map Ent.c).length),(36,.k .i64 i)]∧S=[(0,.own 9 xs)]∧nx=1∧(i≤t.length)∧(xs=(jY (t.take i) p).map fun l=>[.s l])) ?_ ?_
  · refine la [1,8,34,35,36] ?_
    conv=>whnf
    refine ⟨rfl,rfl,_,0,[],rfl,rfl,rfl,rfl,zAG _,rfl⟩
  · rintro mq tm S nx ⟨i,xs,hn,rfl,rfl,rfl,hi,hx⟩;have hxl:xs.length≤i:=by rw [hx,zAA]; have:=oC (t.take i) p; rw [zAW] at this; omega
    rcases au t i hi with ⟨rfl,hd⟩|⟨x,r,hx',hd,hr,hlt⟩
    · rw [zAN] at hx;rw [← hx];repeat' first|refine Rx ⟨?_⟩|refine Rd (fun h=>⟨?_⟩) fun h=>⟨?_⟩|fail
      exact Rf
    · have hbx:=hb x (zAD hx');have c4:=oD (m:=m) x.path (by omega);have c5:=uB (m:=m) x.path (by omega);have hs:=vv t p hx';by_cases hp:ae x.path=p
      · rw [if_pos hp] at hs;repeat' first|refine Ra ⟨?_⟩|refine R0 c4 ⟨?_⟩|refine R0 c5 ⟨?_⟩|refine Rd (fun h=>⟨?_⟩) fun h=>⟨?_⟩|refine Rb ⟨?_⟩|fail
        refine .here ⟨mq - 1,by omega,?_⟩;refine la [1,8,34,35,36] ?_
        conv=>whnf
        refine ⟨rfl,rfl,i+1,_,(by omega),rfl,rfl,rfl,by omega,(by rw [hs,hx,zAK]; rfl)⟩
      · rw [if_neg hp,List.append_nil] at hs;repeat' first|refine Ra ⟨?_⟩|refine R0 c4 ⟨?_⟩|refine R0 c5 ⟨?_⟩|refine Rd (fun h=>⟨?_⟩) fun h=>⟨?_⟩|refine Rb ⟨?_⟩|fail
        refine .here ⟨mq - 1,by omega,?_⟩;refine la [1,8,34,35,36] ?_
        conv=>whnf
        refine ⟨rfl,rfl,i+1,_,(by omega),rfl,rfl,rfl,by omega,(by rw [hs,hx])⟩
theorem uD (t:List Ent) (p:Bs) (hb:re 1073741823 t) (hl:t.length≤1073741823) (hp:p.length≤1073741823):Con (E m) 68 0 [.sl (t.map Ent.c),.s p] [] (.tup [.own 0,.k .i64 (bj t p).2]) [(0,.own 9 ((bj t p).1.map fun l=>[.s l]))]:=by
 have hb':∀ e∈t,e.path.length≤1073741824∧e.data.length≤1073741824:=fun e he=>⟨Nat.le_succ_of_le (hb e he).1,Nat.le_succ_of_le (hb e he).2⟩;have c1:=jm (m:=m) t hb';have c2:=cc (m:=m) p (by omega);have c3:=dH (m:=m) t p (by omega);have c4:=vx (m:=m) t p (by omega) hb;unfold bj;cases hok:af t with
 | false=>
   rw [if_pos (.inl rfl)];rw [hok] at c1;refine G0 Tryz.func68 ?_;repeat' first|refine Ra ⟨?_⟩|refine R0 c1 ⟨?_⟩|refine Rd (fun h=>⟨?_⟩) fun h=>⟨?_⟩|refine Rb ⟨?_⟩|fail
   exact Rf
 | true=>
   rw [hok] at c1;by_cases h1:p≠[47]∧ac p=false
   · rw [if_pos (.inr h1)];have h2:¬ p=[47]:=h1.1;rw [h1.2] at c2;refine G0 Tryz.func68 ?_;repeat' first|refine Ra ⟨?_⟩|refine R0 c1 ⟨?_⟩|refine R0 c2 ⟨?_⟩|refine Rd (fun h=>⟨?_⟩) fun h=>⟨?_⟩|refine Rb ⟨?_⟩|fail
     exact Rf
   · have hq:¬ (true=false∨(p≠[47]∧ac p=false)):=by simpa using h1
     rw [if_neg hq];have h2:p=[47]∨(¬ p=[47]∧ac p=true):=by
      by_cases h:p=[47]
      · exact .inl h
      · refine .inr ⟨h,?_⟩;cases hpo:ac p with
        | true=>rfl
        | false=>exact absurd ⟨h,hpo⟩ h1
     cases hg:am t p with
     | none=>
       rw [hg] at c3;rcases h2 with rfl|⟨h3,h4⟩
       · simp [am] at hg
       · rw [h4] at c2;refine G0 Tryz.func68 ?_;repeat' first|refine Ra ⟨?_⟩|refine R0 c1 ⟨?_⟩|refine R0 c2 ⟨?_⟩|refine R0 c3 ⟨?_⟩|refine Rd (fun h=>⟨?_⟩) fun h=>⟨?_⟩|refine Rb ⟨?_⟩|fail
         exact Rf
     | some e=>
       rw [hg] at c3;obtain ⟨p',d',q'⟩:=e;simp only;rcases h2 with h3|⟨h3,h4⟩
       · cases d'
         · rw [h3] at hg;simp [am,qz] at hg
         · refine G0 Tryz.func68 ?_;repeat' first|refine Ra ⟨?_⟩|refine R0 c1 ⟨?_⟩|refine R0 c3 ⟨?_⟩|refine Rk [] 1 c4 ⟨?_⟩|(refine bt h3 ?_ <;> conv=>whnf)|refine Rd (fun h=>⟨?_⟩) fun h=>⟨?_⟩|refine Rb ⟨?_⟩|fail
           exact Rf
       · rw [h4] at c2;cases d'
         · refine G0 Tryz.func68 ?_;repeat' first|refine Ra ⟨?_⟩|refine R0 c1 ⟨?_⟩|refine R0 c2 ⟨?_⟩|refine R0 c3 ⟨?_⟩|(refine bf h3 ?_ <;> conv=>whnf)|refine Rd (fun h=>⟨?_⟩) fun h=>⟨?_⟩|refine Rb ⟨?_⟩|fail
           exact Rf
         · refine G0 Tryz.func68 ?_;repeat' first|refine Ra ⟨?_⟩|refine R0 c1 ⟨?_⟩|refine R0 c2 ⟨?_⟩|refine R0 c3 ⟨?_⟩|refine Rk [] 1 c4 ⟨?_⟩|(refine bf h3 ?_ <;> conv=>whnf)|refine Rd (fun h=>⟨?_⟩) fun h=>⟨?_⟩|refine Rb ⟨?_⟩|fail
           exact Rf
theorem v6 (c:Int) (hc:fP c):Con (E m) 75 0 [.k .i64 c] [] (.s (ii c)) []:=by
 obtain rfl|rfl|rfl|rfl|rfl|rfl|rfl|rfl|rfl|rfl|rfl|rfl:c=0∨c=1∨c=2∨c=3∨c=4∨c=5∨c=6∨c=7∨c=8∨c=20∨c=21∨c=22:=by
  unfold fP at hc;omega
 all_goals
  refine G0 Tryz.func75 ?_;repeat' first|refine Rx ⟨?_⟩|refine Rd (fun h=>⟨?_⟩) fun h=>⟨?_⟩|fail
  exact Rf
theorem tG (c:Int) (hc:fP c):Con (E m) 127 0 [.k .i64 c] [] (.s (ii c++[10])) []:=by
 obtain rfl|rfl|rfl|rfl|rfl|rfl|rfl|rfl|rfl|rfl|rfl|rfl:c=0∨c=1∨c=2∨c=3∨c=4∨c=5∨c=6∨c=7∨c=8∨c=20∨c=21∨c=22:=by
  unfold fP at hc;omega
 · refine G0 Tryz.func127 ?_;repeat' first|refine Ra ⟨?_⟩|(refine ⟨0,rfl,by decide,?_⟩ <;> conv=>whnf)|(refine ⟨_,rfl,?_⟩ <;> conv=>whnf)|refine Rd (fun h=>⟨?_⟩) fun h=>⟨?_⟩|refine Rb ⟨?_⟩|fail
   exact Rf
 · refine G0 Tryz.func127 ?_;repeat' first|refine Ra ⟨?_⟩|(refine ⟨1,rfl,by decide,?_⟩ <;> conv=>whnf)|(refine ⟨_,rfl,?_⟩ <;> conv=>whnf)|refine Rd (fun h=>⟨?_⟩) fun h=>⟨?_⟩|refine Rb ⟨?_⟩|fail
   exact Rf
 · refine G0 Tryz.func127 ?_;repeat' first|refine Ra ⟨?_⟩|(refine ⟨2,rfl,by decide,?_⟩ <;> conv=>whnf)|(refine ⟨_,rfl,?_⟩ <;> conv=>whnf)|refine Rd (fun h=>⟨?_⟩) fun h=>⟨?_⟩|refine Rb ⟨?_⟩|fail
   exact Rf
 · refine G0 Tryz.func127 ?_;repeat' first|refine Ra ⟨?_⟩|(refine ⟨3,rfl,by decide,?_⟩ <;> conv=>whnf)|(refine ⟨_,rfl,?_⟩ <;> conv=>whnf)|refine Rd (fun h=>⟨?_⟩) fun h=>⟨?_⟩|refine Rb ⟨?_⟩|fail
   exact Rf
 · refine G0 Tryz.func127 ?_;repeat' first|refine Ra ⟨?_⟩|(refine ⟨4,rfl,by decide,?_⟩ <;> conv=>whnf)|(refine ⟨_,rfl,?_⟩ <;> conv=>whnf)|refine Rd (fun h=>⟨?_⟩) fun h=>⟨?_⟩|refine Rb ⟨?_⟩|fail
   exact Rf
 · refine G0 Tryz.func127 ?_;repeat' first|refine Ra ⟨?_⟩|(refine ⟨5,rfl,by decide,?_⟩ <;> conv=>whnf)|(refine ⟨_,rfl,?_⟩ <;> conv=>whnf)|refine Rd (fun h=>⟨?_⟩) fun h=>⟨?_⟩|refine Rb ⟨?_⟩|fail
   exact Rf
 · refine G0 Tryz.func127 ?_;repeat' first|refine Ra ⟨?_⟩|(refine ⟨6,rfl,by decide,?_⟩ <;> conv=>whnf)|(refine ⟨_,rfl,?_⟩ <;> conv=>whnf)|refine Rd (fun h=>⟨?_⟩) fun h=>⟨?_⟩|refine Rb ⟨?_⟩|fail
   exact Rf
 · refine G0 Tryz.func127 ?_;repeat' first|refine Ra ⟨?_⟩|(refine ⟨7,rfl,by decide,?_⟩ <;> conv=>whnf)|(refine ⟨_,rfl,?_⟩ <;> conv=>whnf)|refine Rd (fun h=>⟨?_⟩) fun h=>⟨?_⟩|refine Rb ⟨?_⟩|fail
   exact Rf
 · refine G0 Tryz.func127 ?_;repeat' first|refine Ra ⟨?_⟩|(refine ⟨8,rfl,by decide,?_⟩ <;> conv=>whnf)|(refine ⟨_,rfl,?_⟩ <;> conv=>whnf)|refine Rd (fun h=>⟨?_⟩) fun h=>⟨?_⟩|refine Rb ⟨?_⟩|fail
   exact Rf
 · refine G0 Tryz.func127 ?_;repeat' first|refine Ra ⟨?_⟩|(refine ⟨0,rfl,by decide,?_⟩ <;> conv=>whnf)|(refine ⟨_,rfl,?_⟩ <;> conv=>whnf)|refine Rd (fun h=>⟨?_⟩) fun h=>⟨?_⟩|refine Rb ⟨?_⟩|fail
   exact Rf
 · refine G0 Tryz.func127 ?_;repeat' first|refine Ra ⟨?_⟩|(refine ⟨1,rfl,by decide,?_⟩ <;> conv=>whnf)|(refine ⟨_,rfl,?_⟩ <;> conv=>whnf)|refine Rd (fun h=>⟨?_⟩) fun h=>⟨?_⟩|refine Rb ⟨?_⟩|fail
   exact Rf
 · refine G0 Tryz.func127 ?_;repeat' first|refine Ra ⟨?_⟩|(refine ⟨2,rfl,by decide,?_⟩ <;> conv=>whnf)|(refine ⟨_,rfl,?_⟩ <;> conv=>whnf)|refine Rd (fun h=>⟨?_⟩) fun h=>⟨?_⟩|refine Rb ⟨?_⟩|fail
   exact Rf
end Go.Proofs.YtlicaibhgcenhaaGreatDoor
