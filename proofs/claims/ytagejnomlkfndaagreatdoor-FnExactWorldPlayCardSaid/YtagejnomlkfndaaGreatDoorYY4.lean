/- Texts of this claim, set close: lemmas and contracts. -/
import Derived.Test.YtagejnomlkfndaaGreatDoorYY3
import Derived.Shelf.SlSortCmp.WholeK
import Derived.Shelf.SlSortCmp.NoneTotal
set_option linter.unusedVariables false
set_option linter.unusedSimpArgs false
namespace Go.Ab
open Go Go.RowKit Go.Proofs Go.Sort
section
variable {α:Type} {enc:α→List Value} {c:α→List D} {k:Nat}
theorem kU (hv:∀ x,(enc x).length=k) (ls:List α):(ls.flatMap enc).length=ls.length * k:=by
 induction ls with
 | nil=>simp
 | cons x r ih=>rw [List.flatMap_cons,zAT,hv,ih,List.length_cons,Nat.succ_mul,Nat.add_comm]
theorem pD (hv:∀ x,(enc x).length=k):∀ (ls:List α) (i j:Nat),j < k→(ls.flatMap enc)[i * k+j]?=(ls[i]?).bind fun x=>(enc x)[j]?
 | [],i,j,_=>by simp
 | x :: r,0,j,hj=>by
   rw [List.flatMap_cons,zBi,zBK,zAU (by rw [hv]; exact hj)];rfl
 | x :: r,i+1,j,hj=>by
   have ih:=pD hv r i j hj;rw [List.flatMap_cons,zAW (by rw [hv,Nat.succ_mul]; omega),hv];have e:(i+1) * k+j - k=i * k+j:=by rw [Nat.succ_mul]; omega
   rw [e,ih];rfl
theorem tD [Inhabited α] (hv:∀ x,(enc x).length=k) (hk:0 < k) (ls:List α):(flatK enc k ls.toArray).toList=ls.flatMap enc:=by
 refine zBP fun t=>?_;by_cases ht:t < ls.length * k
 · have hi:t / k < ls.length:=Nat.div_lt_of_lt_mul (by rw [Nat.mul_comm]; exact ht);have hj:t % k < k:=Nat.mod_lt _ hk;have hz:t < (flatK enc k ls.toArray).size:=by simpa using ht
   have e:t=t / k * k+t % k:=(Nat.div_add_mod' t k).symm;have hR:(ls.flatMap enc)[t]?=some ((enc ls[t / k])[t % k]'(by rw [hv]; exact hj)):=by
    conv=>lhs; rw [e]
    rw [pD hv _ _ _ hj,zAB hi];exact zAB (by rw [hv]; exact hj)
   rw [hR,zBe,zBg hz];have h1:=get_flatK enc k ls.toArray t (by simpa using ht);rw [getElem!_pos _ t hz] at h1;rw [h1];congr 1
   have h2:ls.toArray[t / k]! = ls[t / k]:=by rw [getElem!_pos _ (t / k) (by simpa using hi)]; rfl
   rw [h2,getElem!_pos _ (t % k) (by rw [hv]; exact hj)]
 · rw [List.getElem?_eq_none (by simpa using ht),List.getElem?_eq_none (by rw [kU hv]; omega)]
structure wv (enc:α→List Value) (c:α→List D) (k:Nat):Prop where
 len:∀ x,(enc x).length=k
 lenD:∀ x,(c x).length=k
 one:∀ x,∀ u∈enc x,u.oneCell'=true
 rel:∀ (w:World) (Av:Nat→Prop) (x:α) (j:Nat) (d:D),(c x)[j]?=some d→∃ u,(enc x)[j]?=some u∧VI w Av d u
 inv:∀ (w:World) (Av:Nat→Prop) (x:α) (j:Nat) (d:D) (u:Value),(c x)[j]?=some d→VI w Av d u→(enc x)[j]?=some u
variable {w:World} {Av:Nat→Prop}
theorem I0 (h:wv enc c k) (ls:List α):Rows (VI w Av) k (ls.map c) (ls.flatMap enc):=by
 refine ⟨by rw [kU h.len,zAA],fun cs hcs=>?_,fun u hu=>?_,fun i j cs d hc hd'=>?_⟩
 · obtain ⟨l,_,rfl⟩:=List.mem_map.1 hcs;exact h.lenD l
 · obtain ⟨l,_,hl⟩:=List.mem_flatMap.1 hu;exact h.one l u hl
 · simp only [zAO,Option.map_eq_some_iff] at hc;obtain ⟨l,hl',rfl⟩:=hc;have hj:j < k:=by
    rw [← h.lenD l];exact (List.getElem?_eq_some_iff.1 hd').1
   obtain ⟨u,hu,hv⟩:=h.rel w Av l j d hd';exact ⟨u,by rw [pD h.len _ _ _ hj,hl']; exact hu,hv⟩
theorem I1 (h:wv enc c k) (hk:0 < k) {ls:List α} {us:List Value} (hr:Rows (VI w Av) k (ls.map c) us):us=ls.flatMap enc:=by
 have hl:us.length=ls.length * k:=by have:=hr.len; simpa using this
 refine zBP fun t=>?_;by_cases ht:t < ls.length * k
 · have hi:t / k < ls.length:=Nat.div_lt_of_lt_mul (by rw [Nat.mul_comm]; exact ht);have hj:t % k < k:=Nat.mod_lt _ hk;have e:t=t / k * k+t % k:=(Nat.div_add_mod' t k).symm;have hd:(c ls[t / k])[t % k]?=some ((c ls[t / k])[t % k]'(by rw [h.lenD]; exact hj)):=zAB _;obtain ⟨u,hu,hv⟩:=hr.at_ (t / k) (t % k) (c ls[t / k]) _ (by rw [zAO,zAB hi]; rfl) hd;have h1:=h.inv w Av _ _ _ _ hd hv;rw [e,hu,pD h.len _ _ _ hj,zAB hi];exact h1.symm
 · rw [List.getElem?_eq_none (by omega),List.getElem?_eq_none (by rw [kU h.len]; omega)]
end
theorem EL (d:Array Value) (c:Array Value):(Sort.putCells id 0 d c).size=c.size:=by simp [Sort.putCells]
theorem EM (zs:List Value) (c:Array Value) (h:zs.length≤c.size):(Sort.putCells id 0 zs.toArray c).toList.take zs.length=zs:=by
 refine zBP fun i=>?_;by_cases hi:i < zs.length
 · rw [List.getElem?_take_of_lt hi,zBe];unfold Sort.putCells;rw [Array.getElem?_mapIdx,zBg (by omega),zAB hi];simp only [Option.map_some];rw [if_pos ⟨zAG _,by simpa using hi⟩];simp [hi]
 · rw [List.getElem?_eq_none_iff.2 (by simp; omega),List.getElem?_eq_none_iff.2 (by omega)]
theorem HS {w:World} {g n:Nat} {d:Array Value} {cur:Array Value} {e:TypeId} {fz:Nat × Nat} (os:Array Obj) (h:w.heap[g]?=some (.cells cur e fz)) :
   (Sort.grow (Sort.putRow id (Sort.ahead w n) g 0 d) os).heap[g]?=some (.cells (Sort.putCells id 0 d cur) e fz):=by
 have hg:g < w.heap.size:=by
  by_cases hg:g < w.heap.size
  · exact hg
  · rw [Array.getElem?_eq_none (by omega)] at h; cases h
 have h1:(Sort.putRow id (Sort.ahead w n) g 0 d).heap[g]?=some (.cells (Sort.putCells id 0 d cur) e fz):=by
  simp only [Sort.putRow,Sort.mapBlock,Sort.ahead,Array.getElem?_modify,if_true,h,Option.map_some,Sort.onCells]
 have h2:(Sort.putRow id (Sort.ahead w n) g 0 d).heap.size=w.heap.size:=by simp [Sort.putRow,Sort.mapBlock,Sort.ahead]
 simp only [Sort.grow];rw [zBf (by rw [h2]; exact hg),h1]
theorem HT {w:World} {g n:Nat} {d:Array Value} (os:Array Obj) {F:Nat→Prop} (hF:F g):Fr F w (Sort.grow (Sort.putRow id (Sort.ahead w n) g 0 d) os):=by
 have h2:(Sort.putRow id (Sort.ahead w n) g 0 d).heap.size=w.heap.size:=by simp [Sort.putRow,Sort.mapBlock,Sort.ahead]
 refine ⟨rfl,rfl,rfl,by simp only [Sort.grow,Array.size_append,h2]; omega,fun k hk hn=>?_⟩;have hne:g≠k:=by rintro rfl; exact hn hF
 simp only [Sort.grow];rw [zBf (by rw [h2]; exact hk)];simp only [Sort.putRow,Sort.mapBlock,Sort.ahead,Array.getElem?_modify,hne,if_false]
theorem HU {w:World} {g:Nat} {cur:Array Value} {e:TypeId} {F:Array Value} (h:w.heap[g]?=some (.cells cur e (0,0))) (ht:cur.toList.take F.size=F.toList):Sort.Holds id w g 0 F:=by
 intro j hj;have h1:cur[j]?=some F[j]! := by
  have this:(cur.toList.take F.size)[j]?=(F.toList)[j]?:=by rw [ht]
  rw [List.getElem?_take_of_lt hj,zBe,zBe] at this;rw [this,getElem!_pos _ j hj];exact zBg hj
 refine ⟨?_,?_⟩
 · simp only [World.cell?,h];simp [h1]
 · simp [World.frozen?,h]
theorem VA.fn_inv {w:World} {Av:Nat→Prop} {ρ:Nat→Option Value} {g:FuncId} {v:Value} (h:VA w Av ρ (.fn g []) v):v=.func (.func g) #[] #[]:=by
 cases h with
 | im h=>cases h; rfl
 | fn hl hh=>
   rename_i us;cases us with
   | nil=>rfl
   | cons a b=>simp at hl
section
variable {E:Env} {f:FuncId} {α:Type} [Inhabited α] {enc:α→List Value} {c:α→List D} {k:Nat}
theorem EN {et:TypeId} {ls ls':List α} {td:List D} {tv:List Value} (hT:∀ (w:World) (Av:Nat→Prop) (ρ:Nat→Option Value) (vs:List Value),td.length=vs.length→(∀ (i:Nat) (d:D) (u:Value),td[i]?=some d→vs[i]?=some u→VG w Av ρ d u)→vs=tv)
   (h:wv enc c k) (hk:0 < k) (hce:E.P.cellsOf et=k) (hf:kN E.P f) (hlen:ls'.length=ls.length)
   (h0:ls=[]→∀ (w:World),Calls E.P f (.slice none 0 0 :: tv).toArray w fun e w'=>e=.returned (.tuple #[])∧w'=w)
   (h1:∀ (b cap:Nat) (w:World),HoldsK enc k w b 0 ls.toArray→b < w.heap.size→Calls E.P f (.slice (some ⟨b,0,none⟩) ls.length cap :: tv).toArray w fun e w'=>e=.returned (.tuple #[])∧∃ n os,w'=sortWorldK enc k w b 0 n ls'.toArray os) :
   Con E f 1 (.own 0 :: td) [(0,.own et (ls.map c))] (.tup []) [(0,.own et (ls'.map c))]:=by
 refine ⟨hf,fun w vs ρ G hl hG hGh ha hs hdis hd hg=>?_⟩
 match vs,hl,ha with
 | v0 :: vs,hl,ha=>
   have hv1:nmv ρ 0=some v0:=by
    cases ha 0 (.own 0) v0 rfl rfl with
    | atom h=>
      cases h with
      | im h=>cases h
      | own h _=>exact h
   obtain rfl:=hT _ _ _ vs (by simpa using hl) (fun i d u h1 h2=>ha (i+1) d u (by simpa using h1) (by simpa using h2));obtain ⟨u,us,hu,ho,hr⟩:=hs 0 _ rfl;rw [dt hu (cJ ho)] at hv1;obtain rfl:=zAb hv1;have hv0:=hu;rw [hce] at ho hr;obtain rfl:=I1 h hk hr;obtain ⟨ho1,ho2⟩:=ho;have lk0:∀ (t:Nat) (b:Blk) (zs:List α),lk [(0,Blk.own et (zs.map c))] t=some b→t=0∧b=.own et (zs.map c):=by
    intro t b zs hb;rw [au] at hb;split at hb
    · rename_i ht; cases hb; exact ⟨ht.symm,rfl⟩
    · simp [lk] at hb
   have hd1:Dis [(0,Blk.own et (ls'.map c))] ρ:=fun t t' b b' x hb hb' _ _ _ _=>by rw [(lk0 _ _ _ hb).1,(lk0 _ _ _ hb').1]
   have hh:∀ x,eH [(0,Blk.own et (ls'.map c))] ρ x→w.heap.size≤x∨eH [(0,Blk.own et (ls.map c))] ρ x:=by
    rintro x ⟨t,b,hb,_,hx⟩;obtain ⟨rfl,rfl⟩:=lk0 _ _ _ hb;exact .inr ⟨0,_,rfl,rfl,hx⟩
   rcases ho2 with ⟨rfl,hn⟩|⟨b,cap,cur,rfl,hb0,hgc,hnc,hcm,hcs,htk⟩
   · have hls:ls=[]:=by simpa using hn
     subst hls;obtain rfl:ls'=[]:=List.length_eq_zero_iff.1 hlen;refine (h0 rfl w).mono ?_;rintro e w' ⟨he,rfl⟩;exact ⟨_,ρ,he,.tup (ds:=[]) (us:=[]) rfl (fun i d u h=>by simp at h),hs,hd1,hh,fun _ u _ h=>⟨u,h,.refl u⟩,Fr.refl _ _⟩
   · simp only [zAA] at hcs htk hnc;have hlt:b < w.heap.size:=by
      by_cases hlt:b < w.heap.size
      · exact hlt
      · rw [Array.getElem?_eq_none (by omega)] at hgc; cases hgc
     have hF1:(flatK enc k ls.toArray).toList=ls.flatMap enc:=tD h.len hk ls;have hFs:(flatK enc k ls.toArray).size=ls.length * k:=by simp
     have hholds:HoldsK enc k w b 0 ls.toArray:=HU hgc (by rw [hF1,hFs]; exact htk);have hcall:=h1 b cap w hholds hlt;rw [zAA] at hv0 hu;simp only [zAA];refine hcall.mono ?_;rintro e w' ⟨he,n,os,rfl⟩;have hF:eH [(0,Blk.own et (ls.map c))] ρ b:=⟨0,_,rfl,rfl,by rw [hv0]; rfl⟩;have hF2:(flatK enc k ls'.toArray).toList=ls'.flatMap enc:=tD h.len hk ls';have hFa:flatK enc k ls'.toArray=(ls'.flatMap enc).toArray:=by rw [← hF2]
     refine ⟨_,ρ,he,.tup (ds:=[]) (us:=[]) rfl (fun i d u h=>by simp at h),fun t b' hb=>?_,hd1,hh,fun _ u _ h=>⟨u,h,.refl u⟩,HT os hF⟩;obtain ⟨rfl,rfl⟩:=lk0 _ _ _ hb;refine ⟨_,ls'.flatMap enc,hv0,?_,by rw [hce]; exact I0 h ls'⟩;rw [hce];refine ⟨by rw [kU h.len,zAA],.inr ⟨b,cap,Sort.putCells id 0 (flatK enc k ls'.toArray) cur,by simp [hlen],zAG _,HS os hgc,by simp [hlen]; exact hnc,hcm,by rw [EL,hcs],?_⟩⟩;rw [zAA];have hle:(ls'.flatMap enc).length≤cur.size:=by
      rw [kU h.len,hlen,hcs];exact zAf k hnc
     have:=EM (ls'.flatMap enc) cur hle
     rw [kU h.len] at this;rw [hFa];exact this
theorem zS {et:TypeId} {g:FuncId} {ls ls':List α} (h:wv enc c k) (hk:0 < k) (hce:E.P.cellsOf et=k) (hf:kN E.P f) (hlen:ls'.length=ls.length)
   (h0:ls=[]→∀ (w:World),Calls E.P f #[.slice none 0 0,.func (.func g) #[] #[]] w fun e w'=>e=.returned (.tuple #[])∧w'=w)
   (h1:∀ (b cap:Nat) (w:World),HoldsK enc k w b 0 ls.toArray→b < w.heap.size→Calls E.P f #[.slice (some ⟨b,0,none⟩) ls.length cap,.func (.func g) #[] #[]] w fun e w'=>e=.returned (.tuple #[])∧∃ n os,w'=sortWorldK enc k w b 0 n ls'.toArray os) :
   Con E f 1 [.own 0,.fn g []] [(0,.own et (ls.map c))] (.tup []) [(0,.own et (ls'.map c))]:=
 EN (tv:=[.func (.func g) #[] #[]]) (fun _ _ _ vs hl ha=>by
  match vs,hl,ha with
  | [v1],_,ha=>
    cases ha 0 (.fn g []) v1 rfl rfl with
    | atom h=>rw [VA.fn_inv h]) h hk hce hf hlen h0 h1
end
end Go.Ab
namespace Go.Ab
open Go Go.RowKit
theorem zT (m:Mv) (r:List Mv) (tm:Tm) (S:ac) (nx:Nat):mvs (m :: r) tm S nx=match mv m tm S nx with
 | some (tm,S,nx)=>mvs r tm S nx
 | none=>none:=rfl
theorem DR:∀ (a b:List Mv) (tm:Tm) (S:ac) (nx:Nat),mvs (a++b) tm S nx=match mvs a tm S nx with
   | some (tm,S,nx)=>mvs b tm S nx
   | none=>none
 | [],b,tm,S,nx=>rfl
 | m :: r,b,tm,S,nx=>by
   rw [zAh,zT,zT];cases mv m tm S nx with
   | none=>rfl
   | some x=>
     obtain ⟨tm1,S1,nx1⟩:=x;exact DR r b tm1 S1 nx1
def xV:List Mv→(List Mv→Prop)→Prop
 | [],k=>k []
 | n :: r,k=>xV r fun r'=>k (n :: r')
theorem ww:∀ (l:List Mv) (k:List Mv→Prop),xV l k=k l
 | [],_=>rfl
 | n :: r,k=>by rw [xV,ww r]
def GB (n:Nat):Nat→List D→List Mv
 | _,[]=>[]
 | i,d :: r=>match vQ d with
   | true=>.thawB n i 0 :: GB n (i+1) r
   | false=>GB n (i+1) r
def wx (tm:Tm) (S:ac):List ResultVar→List Mv
 | []=>[]
 | .cell a _ :: r=>match lk tm a with
   | some (.bp n _)=>match lk S n with
     | some (.box _ cs)=>GB n 0 cs++wx tm S r
     | _=>wx tm S r
   | _=>wx tm S r
 | _ :: r=>wx tm S r
def tE (tm:Tm) (S:ac):List ResultVar→List Nat→List Nat
 | [],ns=>ns
 | .tmp t :: r,ns=>match lk tm t with
   | some d=>tE tm S r (cb ns (nmD d))
   | none=>tE tm S r ns
 | .cell a _ :: r,ns=>match lk tm a with
   | some (.bp n _)=>match lk S n with
     | some (.box _ cs)=>tE tm S r (cb ns (j9 cs))
     | _=>tE tm S r ns
   | _=>tE tm S r ns
def mvK:List Mv→Tm→ac→Nat→(Tm→ac→Nat→Prop)→Prop
 | [],tm,S,nx,k=>k tm S nx
 | m :: r,tm,S,nx,k=>match mv m tm S nx with
   | some (tm',S',nx')=>fS S' fun S''=>mvK r tm' S'' nx' k
   | none=>False
theorem qI:∀ {ms:List Mv} {tm:Tm} {S:ac} {nx:Nat} {k:Tm→ac→Nat→Prop},mvK ms tm S nx k→∃ tm1 S1 nx1,mvs ms tm S nx=some (tm1,S1,nx1)∧k tm1 S1 nx1
 | [],tm,S,nx,k,h=>⟨tm,S,nx,rfl,h⟩
 | m :: r,tm,S,nx,k,h=>by
   unfold mvK at h;split at h
   · rename_i tm' S' nx' hm;rw [DQ] at h;obtain ⟨tm1,S1,nx1,h1,h2⟩:=qI h;refine ⟨tm1,S1,nx1,?_,h2⟩;simp only [mvs,hm];exact h1
   · exact h.elim
theorem fz {E:Env} {k0:Nat} {rv:List ResultVar} {d:D} {S':ac} {tm:Tm} {S:ac} {nx:Nat}
   (h:xV (wx tm S rv) fun ts=>mvK ts tm S nx fun tm0 S0 nx0=>mh (tE tm0 S0 rv []) fun ls=>mvK (nP k0 S0 ls) tm0 S0 nx0 fun tm1 S1 _=>nA E tm1 S1 rv fun ds=>mh (cb (bA 0 k0) (en ds)) fun n0=>jf S1 16 n0 n0 fun ns=>dd ns=true∧lF 0 k0 ns=true∧sU ns (lG ds)=some d∧iQ ns S1 ns 0=S'):qt E k0 rv d S' tm S nx:=by
 rw [ww] at h;obtain ⟨tm0,S0,nx0,hm0,h⟩:=qI h;rw [h9] at h;obtain ⟨tm1,S1,nx1,hm,h⟩:=qI h;simp only [h9,ga] at h;obtain ⟨ds,h1,h2⟩:=jD h;refine ⟨wx tm S rv++nP k0 S0 (tE tm0 S0 rv []),bO S1 16 (cb (bA 0 k0) (en ds)) (cb (bA 0 k0) (en ds)),?_⟩;rw [DR,hm0];simp only;rw [hm];exact h2 _ h1
theorem fw (ms:List Mv) {E:Env} {k0:Nat} {rv:List ResultVar} {d:D} {S':ac} {tm:Tm} {S:ac} {nx:Nat}
   (h:mvK ms tm S nx fun tm1 S1 _=>nA E tm1 S1 rv fun ds=>mh (cb (bA 0 k0) (en ds)) fun n0=>jf S1 16 n0 n0 fun ns=>dd ns=true∧lF 0 k0 ns=true∧sU ns (lG ds)=some d∧iQ ns S1 ns 0=S'):qt E k0 rv d S' tm S nx:=by
 obtain ⟨tm1,S1,nx1,hm,h⟩:=qI h;simp only [h9,ga] at h;obtain ⟨ds,h1,h2⟩:=jD h;refine ⟨ms,bO S1 16 (cb (bA 0 k0) (en ds)) (cb (bA 0 k0) (en ds)),?_⟩;rw [hm];exact h2 _ h1
theorem lw (ms:List Mv) {k0:Nat} {tm:Tm} {S:ac} {nx:Nat} {J:Tm→ac→Nat→Prop} (ts:List Nat)
   (h:mvK ms tm S nx fun tm1 S1 _=>tC tm1 ts (bA 0 k0) fun n0=>jf S1 16 n0 n0 fun ns=>dd ns=true∧lF 0 k0 ns=true∧J (kg ns tm1 ts) (iQ ns S1 ns 0) ns.length):g9 k0 tm S nx J:=by
 obtain ⟨tm1,S1,nx1,hm,h⟩:=qI h;simp only [mG,ga] at h;refine ⟨ms,ts,bO S1 16 (f9 tm1 ts (bA 0 k0)) (f9 tm1 ts (bA 0 k0)),?_⟩;rw [hm];exact h
theorem mw (ms:List Mv) {E:Env} {k0:Nat} {c:Code} {tm:Tm} {S:ac} {nx:Nat} {Q:Ex→Tm→ac→Nat→Prop} (h:mvK ms tm S nx fun tm1 S1 nx1=>Cd E k0 c tm1 S1 nx1 Q):Cd E k0 c tm S nx Q:=by
 obtain ⟨tm1,S1,nx1,hm,h⟩:=qI h;refine Cd.moves ms ?_;rw [hm];exact h
theorem Rz {P:Prop} (h:P:=by
 first|refine ak.here (fz ?_)|refine fz ?_
 conv=>whnf
 first
  | exact ⟨rfl,rfl,rfl,rfl⟩
  | refine ⟨rfl,rfl,congrArg some (congrArg D.s ?_),rfl⟩
  | refine ⟨rfl,rfl,congrArg some (congrArg D.b ?_),rfl⟩
  | refine ⟨rfl,rfl,congrArg some (congrArg (D.k _) ?_),rfl⟩
  | refine ⟨rfl,rfl,congrArg some (congrArg D.agg ?_),rfl⟩
  | refine ⟨rfl,rfl,rfl,?_⟩
 all_goals first
  | rfl
  | (simp_all; done)
  | (simp <;> (repeat' split) <;> omega)
  | (rw [zAK]; simp [*] <;> omega)
  | fail):P:=h
theorem VG.fn_inv {w:World} {Av:Nat→Prop} {ρ:Nat→Option Value} {f:FuncId} {v:Value} (h:VG w Av ρ (.fn f []) v):v=.func (.func f) #[] #[]:=by
 cases h with
 | atom h=>cases h with
   | im h=>cases h with
     | fn=>rfl
   | fn hl h=>
     rename_i us
     have:us=[]:=List.eq_nil_of_length_eq_zero hl.symm
     rw [this]
end Go.Ab
namespace Go.Ab
open Go Go.RowKit
theorem Kp.symm {a b:Value} (h:Kp a b):Kp b a:=by
 rcases h with rfl|⟨x,vs,vs',rfl,rfl⟩
 · exact .inl rfl
 · exact .inr ⟨x,vs',vs,rfl,rfl⟩
section
variable {w:World} {Av Av':Nat→Prop} {ρ:Nat→Option Value}
theorem VA.noImm {d:D} {u:Value} (h:VA w Av ρ d u) (hn:aj d):VA w Av' ρ d u:=by
 cases h with
 | im h=>exact .im (h.noImm hn)
 | own h h1=>exact .own h h1
 | bp h=>exact .bp h
 | op h=>exact .op h
 | fn hl h=>exact .fn hl h
 | vw h h1 h2 h3 h4=>exact .vw h h1 h2 h3 h4
 | junk h1=>exact .junk h1
theorem VG.noImm {d:D} {u:Value} (h:VG w Av ρ d u) (hn:aD d):VG w Av' ρ d u:=by
 cases h with
 | atom h=>
   by_cases ha:∃ ds,d=.agg ds
   · obtain ⟨ds,rfl⟩:=ha;cases h with
     | im h=>cases h with
       | agg hl h1 hr=>exact .atom (.im (.agg hl h1 fun i d u a b=>(hr i d u a b).noImm (hn d (zAD a))))
   · refine .atom (h.noImm ?_);cases d <;> first|exact hn|exact absurd ⟨_,rfl⟩ ha
 | agg hl h1 h=>exact .agg hl h1 fun i d u a b=>(h i d u a b).noImm (hn d (zAD a))
theorem VR.noImm {d:D} {u:Value} (h:VR w Av ρ d u) (hn:ay d):VR w Av' ρ d u:=by
 cases h with
 | gr h=>
   refine .gr (h.noImm ?_);cases d <;> first|exact hn|(cases h with|atom h=>cases h with|im h=>cases h)
 | tup hl h=>exact .tup hl fun i d u a b=>(h i d u a b).noImm (hn d (zAD a))
theorem Rows.noImm {sz:Nat} {xs:List (List D)} {us:List Value} (h:Rows (VI w Av) sz xs us) (hn:∀ cs∈xs,∀ d∈cs,aj d):Rows (VI w Av') sz xs us:=
 ⟨h.len,h.el,h.one,fun i j cs d a b=>let ⟨u,e1,e2⟩:=h.at_ i j cs d a b; ⟨u,e1,e2.noImm (hn cs (zAD a) d (zAD b))⟩⟩
theorem Rows.noImmA {sz:Nat} {xs:List (List D)} {us:List Value} (h:Rows (VA w Av ρ) sz xs us) (hn:∀ cs∈xs,∀ d∈cs,aj d):Rows (VA w Av' ρ) sz xs us:=
 ⟨h.len,h.el,h.one,fun i j cs d a b=>let ⟨u,e1,e2⟩:=h.at_ i j cs d a b; ⟨u,e1,e2.noImm (hn cs (zAD a) d (zAD b))⟩⟩
theorem SR.noImm {P:Program} {t:Nat} {b:Blk} (h:SR P w Av ρ t b) (hn:aG b):SR P w Av' ρ t b:=by
 cases b with
 | box e cs=>
   obtain ⟨g,us,h0,hh,hl,h1,hc⟩:=h;exact ⟨g,us,h0,hh,hl,h1,fun i d u a b=>(hc i d u a b).noImm (hn d (zAD a))⟩
 | own e xs=>
   obtain ⟨u,us,h0,ho,hc⟩:=h;exact ⟨u,us,h0,ho,hc.noImm hn⟩
 | row e xs=>
   obtain ⟨u,us,h0,ho,hc⟩:=h;exact ⟨u,us,h0,ho,hc.noImmA hn⟩
 | fr xs=>exact hn.elim
 | deep e e2 zs=>
   obtain ⟨u,vs,us,h⟩:=h;refine ⟨u,vs,us,h.name,h.lv,h.lu,h.own,h.one,fun i z x v h1 h2 h3=>?_,h.apart,h.dis⟩;have hs:=h.slot i z x v h1 h2 h3;cases z with
   | an xs=>
     obtain ⟨e1,ys,e2,e3⟩:=hs;exact ⟨e1,ys,e2,e3.noImm (hn _ (zAD h1))⟩
   | nm a=>exact hs
   | lost=>trivial
end
def frL:ac→ac
 | []=>[]
 | (n,b) :: r=>match imB b with
   | some xs=>(n,.fr xs) :: frL r
   | none=>(n,b) :: frL r
theorem gO {α:Type} (P L:List (Nat × α)) (t:Nat):lk (P++L) t=match lk P t with
   | some b=>some b
   | none=>lk L t:=by
 induction P with
 | nil=>rfl
 | cons p r ih=>
   obtain ⟨n,b⟩:=p;rw [zAh,au,au];by_cases h:n=t
   · simp [h]
   · simp [h,ih]
def HV (b:Blk):Blk:=match imB b with
 | some xs=>.fr xs
 | none=>b
theorem I2 (L:ac) (t:Nat):lk (frL L) t=(lk L t).map HV:=by
 induction L with
 | nil=>rfl
 | cons p r ih=>
   obtain ⟨n,b⟩:=p;unfold frL;split
   · rename_i xs hx;rw [au,au,ih];by_cases h:n=t
     · simp [h,HV,hx]
     · simp [h]
   · rename_i hx;rw [au,au,ih];by_cases h:n=t
     · simp [h,HV,hx]
     · simp [h]
def ro (k:Nat) (P Q:ac):ac→Bool
 | []=>true
 | (n,b) :: r=>Nat.blt n k && (imB b).isSome && de b && (lk P n).isNone && (lk Q n).isNone && ro k P Q r
theorem wy {k:Nat} {P Q:ac}:∀ {L:ac},ro k P Q L=true→∀ t b,lk L t=some b→t < k∧(∃ xs,imB b=some xs)∧de b=true∧lk P t=none∧lk Q t=none
 | [],_,t,b,h=>by simp [lk] at h
 | (n,c) :: r,hb,t,b,h=>by
   simp only [ro,zAE] at hb;obtain ⟨⟨⟨⟨⟨h1,h2⟩,h3⟩,h4⟩,h5⟩,h6⟩:=hb;rw [au] at h;by_cases e:n=t
   · subst e;simp at h;subst h;exact ⟨by simpa [Nat.blt_eq] using h1,Option.isSome_iff_exists.1 h2,h3,Option.isNone_iff_eq_none.1 h4,Option.isNone_iff_eq_none.1 h5⟩
   · rw [if_neg e] at h;exact wy h6 t b h
section
variable {E:Env} {f:FuncId} {k:Nat} {cds:List D} {d:D} {P Q L:ac}
theorem Con.unlend (c:Con E f k cds (P++frL L) d (Q++frL L)) (hL:ro k P Q L=true) (hd:ay d) (hq:aF Q):Con E f k cds (P++L) d (Q++L):=by
 have hg:=wy hL;refine ⟨c.can,fun w vs ρ G hlen hG hGH hargs hst hdis hnone hgl=>?_⟩;have inP:∀ t b,lk P t=some b→lk (P++frL L) t=some b∧lk (P++L) t=some b:=fun t b h=>by rw [gO,gO,h]; exact ⟨rfl,rfl⟩
 have inQ:∀ t b,lk Q t=some b→lk (Q++frL L) t=some b∧lk (Q++L) t=some b:=fun t b h=>by rw [gO,gO,h]; exact ⟨rfl,rfl⟩
 have inL:∀ t b,lk L t=some b→lk (P++L) t=some b∧lk (Q++L) t=some b:=fun t b h=>by
  obtain ⟨_,_,_,h4,h5⟩:=hg t b h;rw [gO,gO,h4,h5]; exact ⟨h,h⟩
 have ofS:∀ X t b,lk (X++frL L) t=some b→lk X t=some b∨(lk X t=none∧∃ b0 xs,lk L t=some b0∧imB b0=some xs∧b=.fr xs):=by
  intro X t b h;rw [gO] at h;split at h
  · rename_i b' hb';cases h;exact .inl hb'
  · rename_i hn;rw [I2,Option.map_eq_some_iff] at h;obtain ⟨b0,h1,rfl⟩:=h;obtain ⟨_,⟨xs,hx⟩,_,_,_⟩:=hg t b0 h1;exact .inr ⟨hn,b0,xs,h1,hx,by simp [HV,hx]⟩
 have ofL:∀ X t b,lk (X++L) t=some b→lk X t=some b∨(lk X t=none∧lk L t=some b):=by
  intro X t b h;rw [gO] at h;split at h
  · rename_i b' hb';cases h;exact .inl hb'
  · rename_i hn;exact .inr ⟨hn,h⟩
 have held:∀ x,eH (P++frL L) ρ x→∃ t b,lk P t=some b∧de b=true∧bk b (ρ t) x:=by
  rintro x ⟨t,b,h1,h2,h3⟩;rcases ofS P t b h1 with h4|⟨_,b0,xs,_,_,rfl⟩
  · exact ⟨t,b,h4,h2,h3⟩
  · cases h2
 have kz:∀ x,eH (P++frL L) ρ x→eH (P++L) ρ x:=fun x hx=>let ⟨t,b,h1,h2,h3⟩:=held x hx; ⟨t,b,(inP t b h1).2,h2,h3⟩
 have hi0:∀ d u,VI w (AvS G (P++L) ρ) d u→VI w (AvS G (P++frL L) ρ) d u:=fun d u hv=>hv.mono (fun _ _ _=>rfl) (zAL _) fun x _ ha=>ha.imp id (kz x);have lentOut:∀ t b x,lk L t=some b→bk b (ρ t) x→¬ AvS G (P++frL L) ρ x:=by
  rintro t b x hl hx (ha|ha)
  · exact hGH x ha ⟨t,b,(inL t b hl).1,(hg t b hl).2.2.1,hx⟩
  · obtain ⟨t',b',h1,h2,h3⟩:=held x ha
    have:=hdis t t' b b' x (inL t b hl).1 (inP t' b' h1).2 (hg t b hl).2.2.1 h2 hx h3
    subst this;rw [(hg t b hl).2.2.2.1] at h1;cases h1
 refine (c.run w vs ρ G hlen hG (fun x hx hh=>hGH x hx (kz x hh)) (fun i d u a b=>(hargs i d u a b).mono hi0 fun _ _ h=>h) (fun t b hl=>?_) (fun t t' b b' x h1 h2 l1 l2 x1 x2=>?_) hnone fun g cs h=>hi0 _ _ (hgl g cs h)).mono fun e w' hpost=>?_
 · rcases ofS P t b hl with h1|⟨_,b0,xs,h1,h2,rfl⟩
   · exact (hst t b (inP t b h1).2).mono hi0 (fun _ _ h=>h) fun _ _ _=>rfl
   · have hsr:=hst t b0 (inL t b0 h1).1;have hout:=lentOut t b0;cases b0 with
     | box e cs=>simp [imB] at h2
     | row e ys=>simp [imB] at h2
     | own e ys=>
       simp only [imB,zAV] at h2;subst h2;obtain ⟨u,us,hr,ho,hc⟩:=hsr;exact ⟨u,dt hr (cJ ho),gB ho (hc.mono hi0) fun x hx=>hout x h1 (by rw [hr]; exact hx)⟩
     | fr ys=>have:=(hg _ _ h1).2.2.1; cases this
     | deep e e2 zs=>
       obtain ⟨u,vs,us,hd⟩:=hsr;exact ⟨u,dX hd.name,hd.rows h2 hi0 fun x hx=>hout x h1 hx⟩
 · rcases ofS P t b h1 with g1|⟨_,b0,xs,_,_,rfl⟩
   · rcases ofS P t' b' h2 with g2|⟨_,b0,xs,_,_,rfl⟩
     · exact hdis t t' b b' x (inP t b g1).2 (inP t' b' g2).2 l1 l2 x1 x2
     · cases l2
   · cases l1
 · obtain ⟨v,ρ',rfl,hvr,hsr,hdisr,hnew,hkeep,hfr⟩:=hpost
   let ρ2:Nat→Option Value:=fun t=>match lk L t with
    | some _=>ρ t
    | none=>ρ' t
   have r1:∀ t b,lk L t=some b→ρ2 t=ρ t:=fun t b h=>by simp only [ρ2,h]
   have r2:∀ t,lk L t=none→ρ2 t=ρ' t:=fun t h=>by simp only [ρ2,h]
   have notL:∀ t b,lk Q t=some b→lk L t=none:=by
    intro t b h;cases hl:lk L t with
    | none=>rfl
    | some c=>rw [(hg t c hl).2.2.2.2] at h; cases h
   have toN:∀ t u,ρ' t=some u→∃ u',ρ2 t=some u'∧Kp u u':=by
    intro t u hu;cases hl:lk L t with
    | none=>exact ⟨u,by rw [r2 t hl]; exact hu,.refl u⟩
    | some b=>
      obtain ⟨u0,h0⟩:=(hst t b (inL t b hl).1).named;obtain ⟨u1,h1,h2⟩:=hkeep t u0 (hg t b hl).1 h0;rw [hu] at h1;cases h1;exact ⟨u0,by rw [r1 t b hl]; exact h0,h2.symm⟩
   have ofO:∀ t u,ρ t=some u→∃ u',ρ2 t=some u'∧Kp u u':=by
    intro t u hu;by_cases ht:t < k
    · obtain ⟨u1,h1,h2⟩:=hkeep t u ht hu;obtain ⟨u2,h3,h4⟩:=toN t u1 h1;exact ⟨u2,h3,h2.trans h4⟩
    · rw [hnone t (by omega)] at hu;cases hu
   have heldQ:∀ t b x,lk Q t=some b→de b=true→bk b (ρ2 t) x→eH (Q++frL L) ρ' x:=fun t b x h1 h2 h3=>⟨t,b,(inQ t b h1).1,h2,by rw [r2 t (notL t b h1)] at h3; exact h3⟩;have heldN:∀ x,eH (Q++L) ρ2 x→w.heap.size≤x∨eH (P++L) ρ x:=by
    rintro x ⟨t,b,h1,h2,h3⟩;rcases ofL Q t b h1 with g1|⟨_,g1⟩
    · exact (hnew x (heldQ t b x g1 h2 h3)).imp id (kz x)
    · exact .inr ⟨t,b,(inL t b g1).1,h2,by rw [r1 t b g1] at h3; exact h3⟩
   have hi1:∀ d u,VI w (AvS G (P++L) ρ) d u→VI w' (AvS G (Q++L) ρ2) d u:=by
    intro d u hv;refine hv.mono (fun b hb hav=>hfr.block b hb fun hh=>hav (.inr (kz b hh))) hfr.size fun x hx ha=>?_;rcases ha with ha|ha
    · exact .inl ha
    · rcases heldN x ha with h|h
      · omega
      · exact .inr h
   have mix:∀ t t' b b' x,lk Q t=some b→de b=true→bk b (ρ2 t) x→lk L t'=some b'→bk b' (ρ2 t') x→False:=by
    intro t t' b b' x h1 h2 h3 h4 h5;rw [r1 t' b' h4] at h5;have hlt:=(hst t' b' (inL t' b' h4).1).lt (hg t' b' h4).2.2.1 h5;rcases hnew x (heldQ t b x h1 h2 h3) with h|h
    · omega
    · exact lentOut t' b' x h4 h5 (.inr h)
   refine ⟨v,ρ2,rfl,(hvr.monoK (fun _ _ h=>h) toN).noImm hd,fun t b hl=>?_,fun t t' b b' x h1 h2 l1 l2 x1 x2=>?_,heldN,fun t u _ hu=>ofO t u hu,hfr.weaken kz⟩
   · rcases ofL Q t b hl with g1|⟨_,g1⟩
     · refine SR.noImm (Av:=AvS G (Q++frL L) ρ') ((hsr t b (inQ t b g1).1).monoK (fun _ _ h=>h) toN (fun u hu=>?_) fun _ _ _=>rfl) (hq _ (BK g1));rw [r2 t (notL t b g1)];exact hu
     · refine (hst t b (inL t b g1).1).monoK hi1 ofO (fun u hu=>?_) fun hlv x hx=>hfr.block x ((hst t b (inL t b g1).1).lt hlv hx) fun hh=>lentOut t b x g1 hx (.inr hh);rw [r1 t b g1];exact hu
   · rcases ofL Q t b h1 with g1|⟨_,g1⟩
     · rcases ofL Q t' b' h2 with g2|⟨_,g2⟩
       · exact hdisr t t' b b' x (inQ t b g1).1 (inQ t' b' g2).1 l1 l2 (by rw [r2 t (notL t b g1)] at x1; exact x1) (by rw [r2 t' (notL t' b' g2)] at x2; exact x2)
       · exact (mix t t' b b' x g1 l1 x1 g2 x2).elim
     · rcases ofL Q t' b' h2 with g2|⟨_,g2⟩
       · exact (mix t' t b' b x g2 l2 x2 g1 x1).elim
       · exact hdis t t' b b' x (inL t b g1).1 (inL t' b' g2).1 l1 l2 (by rw [r1 t b g1] at x1; exact x1) (by rw [r1 t' b' g2] at x2; exact x2)
theorem Con.same {Sa Sb S' Sb':ac} (c:Con E f k cds Sa d S') (ha:∀ t,lk Sb t=lk Sa t) (hb:∀ t,lk Sb' t=lk S' t):Con E f k cds Sb d Sb':=by
 refine ⟨c.can,fun w vs ρ G hlen hG hGH hargs hst hdis hnone hgl=>?_⟩;have e1:AvS G Sb ρ=AvS G Sa ρ:=ph ha;have e2:∀ x,eH Sb ρ x↔eH Sa ρ x:=fun x=>pg ha;refine (c.run w vs ρ G hlen hG (fun x hx hh=>hGH x hx ((e2 x).2 hh)) (fun i d u a b=>by rw [← e1]; exact hargs i d u a b) (fun t b h=>by rw [← e1]; exact hst t b (by rw [ha]; exact h)) (fun t t' b b' x h1 h2=>hdis t t' b b' x (by rw [ha]; exact h1) (by rw [ha]; exact h2)) hnone (fun g cs h=>by rw [← e1]; exact hgl g cs h)).mono fun e w' hp=>?_;obtain ⟨v,ρ',he,hv,hs,hd,hn,hk,hf⟩:=hp;have e3:AvS G Sb' ρ'=AvS G S' ρ':=ph hb;exact ⟨v,ρ',he,by rw [e3]; exact hv,fun t b h=>by rw [e3]; exact hs t b (by rw [← hb]; exact h),fun t t' b b' x h1 h2=>hd t t' b b' x (by rw [← hb]; exact h1) (by rw [← hb]; exact h2),fun x hx=>(hn x ((pg hb).1 hx)).imp id (e2 x).2,hk,hf.weaken fun x hx=>(e2 x).2 hx⟩
end
end Go.Ab
