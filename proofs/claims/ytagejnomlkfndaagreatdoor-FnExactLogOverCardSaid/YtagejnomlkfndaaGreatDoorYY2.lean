/- Texts of this claim, set close: lemmas and contracts. -/
import Derived.Test.YtagejnomlkfndaaGreatDoorYY1
import Derived.ArgAppend
import Derived.Orders
import Derived.ProofKit
import Derived.OpenShut
import Derived.Deep.Slices
import Derived.WideKeyArgs
set_option linter.unusedVariables false
set_option linter.unusedSimpArgs false
namespace Go.Ab
open Go Go.RowKit
section
variable {E:Env} {cx:Cx} {tm:Tm} {S S0:ac} {nx:Nat} {a:Act} {w:World} {ρ:Nat→Option Value} {o:Oper} {K:Kt}
def Bd (gl:Nat→Option (List D)) (tm:Tm) (x:Option Operand) (dflt i:Nat):Prop:=
 match x with
 | none=>i=dflt
 | some y=>∃ kd,ev gl tm y=some (.k kd (i:Int))
theorem lM {gl:Nat→Option (List D)} {x:Option Operand} {dflt:Nat} {K:Nat→Prop} (h:qr gl tm x dflt K):∃ i,Bd gl tm x dflt i∧K i:=by
 unfold qr at h;split at h
 · exact ⟨_,rfl,h⟩
 · split at h
   · rename_i kd n hy;obtain ⟨j,rfl,h⟩:=h;exact ⟨j,⟨kd,hy⟩,h⟩
   · exact h.elim
theorem mB {gl:Nat→Option (List D)} {lo hi:Option Operand} {n:Nat} {K:Nat→Nat→Prop} (h:Er gl tm lo hi n K):∃ i j,Bd gl tm lo 0 i∧Bd gl tm hi n j∧i≤j∧j≤n∧K i j:=by
 obtain ⟨i,h1,h⟩:=lM h;obtain ⟨j,h2,h3,h4,h5⟩:=lM h;exact ⟨i,j,h1,h2,h3,h4,h5⟩
theorem ot {P:Program} {ρ':Operand→Value} {lo hi:Option Operand} {len cap i j:Nat} (sl:Bool) (hlo:Bd E.gl tm lo 0 i) (hhi:Bd E.gl tm hi len j) (hij:i≤j) (hj:j≤len) (hc:len≤cap)
   (hev:∀ x∈lo.toList++hi.toList,∀ kd n,ev E.gl tm x=some (.k kd n)→ρ' x=.int kd n):(Instr.sliceBounds sl len cap (lo.map ρ') (hi.map ρ') none).run P w=.ok (i,j,cap) w:=by
 have bound:∀ (x:Operand) (kd:IntKind) (k y:Nat) (c:BoundsCode),ρ' x=.int kd (k:Int)→k≤y→(Instr.sliceBound (ρ' x) y c).run P w=.ok k w:=by
  intro x kd k y c hx hk;have h1:(0:Int)≤(k:Int)∧(k:Int)≤(y:Int):=by omega
  simp [Instr.sliceBound,hx,asIntOf,hk]
 unfold Bd at hlo hhi;cases lo with
 | none=>
   simp only at hlo;subst hlo;cases hi with
   | none=>
     simp only at hhi;subst hhi;simp [Instr.sliceBounds]
   | some y=>
     simp only at hhi;obtain ⟨kd,hy⟩:=hhi
     have:=bound y kd j cap (if sl then .sliceAcap else .sliceAlen) (hev y (by simp) _ _ hy) (by omega)
     simp [Instr.sliceBounds,this]
 | some x=>
   simp only at hlo;obtain ⟨kx,hx⟩:=hlo;have hx':=hev x (by simp) _ _ hx;cases hi with
   | none=>
     simp only at hhi;subst hhi
     have:=bound x kx i j .sliceB hx' hij
     simp [Instr.sliceBounds,this]
   | some y=>
     simp only at hhi;obtain ⟨kd,hy⟩:=hhi;have h1:=bound y kd j cap (if sl then .sliceAcap else .sliceAlen) (hev y (by simp) _ _ hy) (by omega)
     have h2:=bound x kx i j .sliceB hx' hij;simp [Instr.sliceBounds,h1,h2]
theorem BV (l:List UInt8) (i j:Nat):(⟨l.toArray⟩:ByteArray).extract i j=⟨((l.take j).drop i).toArray⟩:=by
 apply ByteArray.ext;rw [ByteArray.data_extract];apply zBY;simp [List.extract_eq_take_drop,List.drop_take]
theorem VI.cut {P:Program} {Av:Nat→Prop} {xs:List (List D)} {v:Value} (hv:VI w Av (.sl xs) v) {t e:TypeId} {te:Nat} (hu:P.underlying t=some (.slice e)) (hz:(Go.sizeOf e).run P w=.ok te w) (hel:∀ cs∈xs,cs.length=te) {i j:Nat} (hij:i≤j) (hj:j≤xs.length) {lo hi:Option Value}
   (hb:∀ n c,xs.length=n→n≤c→(Instr.sliceBounds true n c lo hi none).run P w=.ok (i,j,c) w) :
   ∃ u,(Instr.sliceAt t v lo hi none).run P w=.ok u w∧VI w Av (.sl ((xs.take j).drop i)) u:=by
 obtain ⟨A,n,c,rfl,hn,hnc,hc,hnone,hsome⟩:=hv.sl_inv;have hrun:(Instr.sliceAt t (.slice A n c) lo hi none).run P w=.ok (.slice (if c=i then A else A.map (·.add (i * te))) (j - i) (c - i)) w:=by
  simp [Instr.sliceAt,Instr.slice,run_underlying hu,hb n c hn hnc,hz]
 refine ⟨_,hrun,?_⟩;cases A with
 | none=>
   obtain ⟨rfl,rfl⟩:=hnone rfl;have hn0:n=0:=by simpa using hn.symm
   subst hn0;have hj0:j=0:=by simpa using hj
   subst hj0;have hi0:i=0:=by omega
   subst hi0
   simp
   exact .sl0
 | some ad=>
   obtain ⟨hbk,hav,sz,hsz,hcell⟩:=hsome ad rfl;have hlen:((xs.take j).drop i).length=j - i:=by simp; omega
   by_cases hci:c=i
   · have hx:(xs.take j).drop i=[]:=List.eq_nil_of_length_eq_zero (by rw [hlen]; omega);rw [if_pos hci,hx];exact .sl (sz:=0) (fun _ _=>undef) (by simp; omega) (by omega) (by simp only [maxLen] at *; omega) (fun h=>absurd rfl h) (fun h=>absurd rfl h) (by simp) (by simp) (by simp) (by simp)
   · rw [if_neg hci];have at_:∀ (k m:Nat) (cs:List D) (d:D),((xs.take j).drop i)[k]?=some cs→cs[m]?=some d→∃ u,w.cell? ((ad.add (i * te)).add (k * te+m))=some u∧u.oneCell'=true∧VI w Av d u:=by
      intro k m cs d hk hm;rw [zAi,zAn] at hk;split at hk
      · have hte:sz=te:=by rw [← hsz cs (zAD hk),hel cs (zAD hk)]
        obtain ⟨u,e1,e2,e3⟩:=hcell (i+k) m cs d hk hm;refine ⟨u,?_,e2,e3⟩;rw [sn,← e1,hte,zAv];congr 2
        omega
      · cases hk
     have U:∀ k m,∃ u,∀ (cs:List D) (d:D),((xs.take j).drop i)[k]?=some cs→cs[m]?=some d→w.cell? ((ad.add (i * te)).add (k * te+m))=some u∧u.oneCell'=true∧VI w Av d u:=by
      intro k m;by_cases h:∃ cs d,((xs.take j).drop i)[k]?=some cs∧cs[m]?=some d
      · obtain ⟨cs,d,h1,h2⟩:=h;obtain ⟨u,e1,e2,e3⟩:=at_ k m cs d h1 h2;refine ⟨u,fun cs' d' h1' h2'=>?_⟩;rw [h1] at h1';cases h1';rw [h2] at h2';cases h2';exact ⟨e1,e2,e3⟩
      · exact ⟨undef,fun cs d h1 h2=>absurd ⟨cs,d,h1,h2⟩ h⟩
     refine .sl (sz:=te) (fun k m=>(U k m).choose) hlen (by omega) (by simp only [maxLen] at *; omega) (fun hne=>by rw [eS]; exact hbk (fun e=>hne (by rw [e]; simp))) (fun hne=>by rw [eS]; exact hav (fun e=>hne (by rw [e]; simp))) (fun cs hcs=>hel cs (zAz (zBT hcs))) ?_ ?_ ?_
     · exact fun k m cs d h1 h2=>((U k m).choose_spec cs d h1 h2).1
     · exact fun k m cs d h1 h2=>((U k m).choose_spec cs d h1 h2).2.1
     · exact fun k m cs d h1 h2=>((U k m).choose_spec cs d h1 h2).2.2
theorem Gh (hty:dW E) {t:TypeId} {x:Operand} {lo hi:Option Operand} (ho:o.op=.slice t x lo hi none) {d:D} (hx:ev E.gl tm x=some d) {td:TD} (ht:E.ty t=some td)
   (hk:BD E E.gl td.kind S d tm lo hi fun d' wr S'=>K ⟨nmD d,wr⟩ (put o.dst d' tm) S' nx):Ok1 E o tm S nx K:=by
 have hkc:=hty.kind ht;have ops:∀ y∈lo.toList++hi.toList,y∈o.op.operands:=by
  intro y hy;rw [ho];simp only [Op.operands];cases lo <;> cases hi <;> simp at hy ⊢
  · exact .inr hy
  · exact .inr hy
  · rcases hy with rfl|rfl
    · exact .inr (.inl rfl)
    · exact .inr (.inr rfl)
 have evs:∀ {cx:Cx} {tm':Tm} {S':ac} {a:Act} {w:World} {ρ:Nat→Option Value},R E cx tm' S' a w ρ→(∀ x∈o.op.operands,ev E.gl tm' x=ev E.gl tm x)→∀ y∈lo.toList++hi.toList,∀ kd n,ev E.gl tm y=some (.k kd n)→a.eval y=.int kd n:=by
  intro cx tm' S' a w ρ h he y hy kd n hn;exact (h.eval ((he y (ops y hy)).trans hn)).k_inv
 unfold BD at hk;split at hk
 · rename_i hkd;split at hk
   · rename_i l;obtain ⟨i,j,h1,h2,h3,h4,h5⟩:=mB hk;refine Ok1.pure (fp:=nmD (.s l)) h5 fun cx tm' S' a w ρ he _ h=>?_;have hv:=(h.eval ((he x (by simp [ho,Op.operands])).trans hx)).s_inv;rw [hkd] at hkc;have hl:(⟨l.toArray⟩:ByteArray).size=l.length:=by simp [ByteArray.size]
     have hb:=ot (P:=E.P) (w:=w) (cap:=l.length) false h1 h2 h3 h4 (zAL _) (evs h he);refine ⟨.string ⟨((l.take j).drop i).toArray⟩,?_,.gr (.atom (.im (.s _)))⟩;simp only [execOp,ho,hv,Instr.sliceAt,Instr.slice,Sem.run_bind,run_underlying (jO hkc),Result.andThen_ok,hl,Option.map_none,Option.isSome_none,Sem.run_pure,BV];simp [hb]
   · exact hk.elim
 · rename_i e hkd;rw [hkd] at hkc;have hu:=ci hkc;obtain ⟨te,hte,hk'⟩:=br hk;clear hk;have fin:∀ {cx:Cx} {tm':Tm} {S':ac} {a:Act} {w:World} {ρ:Nat→Option Value} (xs:List (List D)) (i j:Nat),R E cx tm' S' a w ρ→(∀ x∈o.op.operands,ev E.gl tm' x=ev E.gl tm x)→VI w (AvS cx.G S' ρ) (.sl xs) (a.eval x)→(∀ cs∈xs,cs.length=te.size) →
      Bd E.gl tm lo 0 i→Bd E.gl tm hi xs.length j→i≤j→j≤xs.length→∃ v,(execOp a.eval o).run E.P w=.ok (.value v) w∧VR w (AvS cx.G S' ρ) ρ (.sl ((xs.take j).drop i)) v:=by
    intro cx tm' S' a w ρ xs i j h he hvi hxs h1 h2 h3 h4;obtain ⟨u,e1,e2⟩:=hvi.cut hu (fK hty hte) hxs h3 h4 (lo:=lo.map a.eval) (hi:=hi.map a.eval) (fun n c hn hc=>by
     subst hn;exact ot (P:=E.P) true h1 h2 h3 h4 hc (evs h he))
    exact ⟨u,by simp [execOp,ho,e1],.gr (.atom (.im e2))⟩
   cases d with
   | sl xs=>
     obtain ⟨hel,hk⟩:=hk';obtain ⟨i,j,h1,h2,h3,h4,h5⟩:=mB hk;refine Ok1.pure (fp:=nmD (.sl xs)) h5 fun cx tm' S' a w ρ he _ h=>?_;exact fin xs i j h he (h.eval ((he x (by simp [ho,Op.operands])).trans hx)).sl_inv hel h1 h2 h3 h4
   | nil=>
     obtain ⟨i,j,h1,h2,h3,h4,h5⟩:=mB hk';refine Ok1.pure (fp:=nmD .nil) h5 fun cx tm' S' a w ρ he _ h=>?_;have hv:=(h.eval ((he x (by simp [ho,Op.operands])).trans hx)).nil_inv;have hj:j=0:=by omega
     have hi0:i=0:=by omega
     subst hj;subst hi0;have hb:=ot (P:=E.P) (w:=w) (cap:=0) true h1 h2 h3 h4 (zAL _) (evs h he);refine ⟨.slice none 0 0,?_,.gr (.atom (.im .nil))⟩;simp [execOp,ho,hv,Instr.sliceAt,Instr.slice,run_underlying hu,hb,fK hty hte]
   | own t0=>
     simp only at hk';split at hk'
     · rename_i xs himm;obtain ⟨hel,hk⟩:=hk';obtain ⟨i,j,h1,h2,h3,h4,h5⟩:=mB hk;refine Ok1.val (fp:=⟨nmD (.own t0),[t0]⟩) (out:=bI S [t0]) (nx':=nx) (d:=.sl ((xs.take j).drop i)) (fun n hn=>?_) (fun n hn=>by simpa [nmD,nmA] using hn) (zAL _) (fun n q1 q2=>by omega) (fun n=>qy [t0] S n) h5 ?_
       · rw [dY] at hn;by_cases hin:n∈[t0]
         · exact hin
         · rw [if_neg hin] at hn; exact absurd rfl hn
       · intro cx tm' S' a w ρ he hf h hfr;have hag:∀ m∈[t0],lk S' m=lk S m:=fun m hm=>hf m (by simpa [nmD,nmA] using hm);have h':=h.frzs (S0:=S) [t0] hag;have hvi:=pj (S0:=S) h' (d:=.own t0) (fun t ht=>jN hag t (by simpa [nmD,nmA] using ht)) (h'.eval ((he x (by simp [ho,Op.operands])).trans hx)) himm;obtain ⟨v,e1,e2⟩:=fin xs i j h' he hvi hel h1 h2 h3 h4;exact ⟨v,w,ρ,e1,h',e2,fun _ _=>rfl⟩
     · exact hk'.elim
   | _=>exact hk'.elim
 · exact hk.elim
theorem vY {x y:Operand} {b:Builtin} {ts:Array TypeId} (ho:o.op=.call { callee:=.builtin b,args:=#[x,y],argTypes:=ts }) (hb:b=.min∨b=.max) {m n:Int} (hx:ev E.gl tm x=some (.k .i64 m)) (hy:ev E.gl tm y=some (.k .i64 n))
   (hk:K ⟨[],[]⟩ (put o.dst (.k .i64 (if b=.min then min m n else max m n)) tm) S nx):Ok1 E o tm S nx K:=by
 refine Ok1.pure (fp:=[]) hk fun cx tm' S' a w ρ he _ h=>?_;have e1:=(h.eval ((he x (by simp [ho,Op.operands,Call.operands])).trans hx)).k_inv;have e2:=(h.eval ((he y (by simp [ho,Op.operands,Call.operands])).trans hy)).k_inv;rcases hb with rfl|rfl
 · refine ⟨.int .i64 (min m n),?_,.gr (.atom (.im (.k _ _)))⟩
   have:(if n < m then n else m)=min m n:=by omega
   simp [execOp,ho,resolve,invoke,builtin,e1,e2,Builtin.min_,Builtin.min2,this]
 · refine ⟨.int .i64 (max m n),?_,.gr (.atom (.im (.k _ _)))⟩
   have:(if m < n then n else m)=max m n:=by omega
   simp [execOp,ho,resolve,invoke,builtin,e1,e2,Builtin.max_,Builtin.max2,this]
theorem xD {gl:Nat→Option (List D)}:∀ {xs:List Operand} {K:List D→Prop},FV gl tm xs K→∃ ds,K ds∧ds.length=xs.length∧∀ (i:Nat) (x:Operand) (d:D),xs[i]?=some x→ds[i]?=some d→ev gl tm x=some d
 | [],K,h=>⟨[],h,rfl,by simp⟩
 | x :: r,K,h=>by
   unfold FV at h;split at h
   · rename_i d hd;obtain ⟨ds,h1,h2,h3⟩:=xD h;refine ⟨d :: ds,h1,by simp [h2],fun i y e hy he=>?_⟩;cases i with
     | zero=>simp at hy he; subst hy he; exact hd
     | succ i=>exact h3 i y e (by simpa using hy) (by simpa using he)
   · exact h.elim
theorem vZ:∀ {ds:List D} {cs:List Nat},jj.boxes ds=some cs→cs.length=ds.length∧∀ (i n:Nat),cs[i]?=some n→ds[i]?=some (.bp n 0)
 | [],cs,h=>by simp [jj.boxes] at h; subst h; simp
 | d :: r,cs,h=>by
   unfold jj.boxes at h;split at h
   · rename_i heq; cases heq
   · rename_i n r' heq;cases heq;split at h
     · rename_i q hq;cases h;obtain ⟨h1,h2⟩:=vZ hq;refine ⟨by simp [h1],fun i m hm=>?_⟩;cases i with
       | zero=>simp at hm; subst hm; rfl
       | succ i=>exact h2 i m (by simpa using hm)
     · cases h
   · cases h
theorem zC {f:FuncId} {first caps:Array Operand} (ho:o.op=.makeFunc (.func f) first caps) (hf:first.toList=[]) {ds:List D} (hl:ds.length=caps.toList.length) (hds:∀ (i:Nat) (x:Operand) (d:D),caps.toList[i]?=some x→ds[i]?=some d→ev E.gl tm x=some d) {cs:List Nat} (hb:jj.boxes ds=some cs)
   (hk:K fp0 (put o.dst (.fn f cs) tm) S nx):Ok1 E o tm S nx K:=by
 obtain ⟨b1,b2⟩:=vZ hb;refine Ok1.pure (fp:=[]) hk fun cx tm' S' a w ρ he _ h=>?_;have hfirst:first=#[]:=by apply zBY; simpa using hf
 refine ⟨.func (.func f) #[] (caps.toList.map a.eval).toArray,?_,.gr (.atom (.fn (by simp [b1,hl]) fun i n u hn hu=>?_))⟩
 · have:Array.map a.eval caps=(List.map a.eval caps.toList).toArray:=by apply zBY; simp
   simp [execOp,ho,Instr.makeFunc,hfirst];exact this
 · simp only [zAO,Option.map_eq_some_iff] at hu;obtain ⟨x,hx,rfl⟩:=hu;have hd:=b2 i n hn;have hev:=h.eval ((he x (by rw [ho]; simp only [Op.operands]; simp; exact .inr (by simpa using zAD hx))).trans (hds i x _ hx hd));obtain ⟨b,e1,e2⟩:=hev.bp_inv;rw [e2];exact ⟨e1,b,rfl⟩
end
end Go.Ab
namespace Go.Ab
open Go Go.RowKit
section
variable {E:Env} {cx:Cx} {tm:Tm} {S S2:ac} {nx:Nat} {a:Act} {w:World} {ρ:Nat→Option Value} {o:Oper} {K:Kt}
theorem Ok1.swapD {ms:List Nat} {b:Blk} (hk:K ⟨nx :: ms,nx :: ms⟩ (put o.dst (.own nx) tm) S2 (nx+1)) (hS2:∀ n,lk S2 n=lk (ap ((nx,some b) :: gone ms) S) n)
   (hs:∀ (cx:Cx) (tm':Tm) (S':ac) (a:Act) (w:World) (ρ:Nat→Option Value),(∀ x∈o.op.operands,ev E.gl tm' x=ev E.gl tm x)→(∀ m∈ms,lk S' m=lk S m)→R E cx tm' S' a w ρ→ρ nx=none →
     ∃ v w' g,(execOp a.eval o).run E.P w=.ok (.value v) w'∧R E cx tm' (ap ((nx,some b) :: gone ms) S') a w' (aK ρ nx g)∧top g=v∧v.oneCell'=true):Ok1 E o tm S nx K:=by
 refine Ok1.val (fp:=⟨nx :: ms,nx :: ms⟩) (out:=(nx,some b) :: gone ms) (nx':=nx+1) (d:=.own nx) (fun n h=>?_) (fun n h=>h) (Nat.le_succ _) (fun n h1 h2=>by simp; omega) hS2 hk ?_
 · rw [au] at h;by_cases e:nx=n
   · simp [e]
   · rw [if_neg e,jq] at h;by_cases hn:n∈ms
     · simp [hn]
     · rw [if_neg hn] at h; exact absurd rfl h
 · intro cx tm' S' a w ρ he hf h hn;obtain ⟨v,w',g,e1,e2,e3,e4⟩:=hs cx tm' S' a w ρ he (fun m hm=>hf m (by simp [hm])) h (hn nx (zAL _) (Nat.lt_succ_self _));exact ⟨v,w',_,e1,e2,.gr (.atom (.own (by unfold nmv; rw [aw,Option.map_some,e3]) e4)),fun n hne=>aL g (by rintro rfl; exact hne ⟨zAL _,Nat.lt_succ_self _⟩)⟩
theorem Gi (z:Value) (n:Nat):(madeCells #[z] n).toList=List.replicate n z:=by
 refine zBP fun k=>?_;by_cases hk:k < n
 · rw [s6 #[z] n k hk (by simp),List.getElem?_replicate,if_pos hk];simp [Nat.mod_one]
 · rw [List.getElem?_eq_none (by simp [madeCells]; omega),List.getElem?_eq_none (by simp; omega)]
theorem Gj (hty:dW E) {t e e2:TypeId} {x y:Operand} (ho:o.op=.makeSlice t x y) {td te:TD} (ht:E.ty t=some td) (hkd:td.kind=.slice e) (hte:E.ty e=some te) (hz1:te.size=1) (hnil:te.zero=.nil)
   {kl kc:IntKind} {n:Nat} (hx:ev E.gl tm x=some (.k kl (n:Int))) (hy:ev E.gl tm y=some (.k kc (n:Int))) (hn:n≤eN) (hb:te.bytes≤wide)
   (hk:K ⟨[nx],[nx]⟩ (put o.dst (.own nx) tm) ((nx,.deep e e2 (List.replicate n (.an []))) :: S) (nx+1)):Ok1 E o tm S nx K:=by
 refine Ok1.swapD (ms:=[]) (b:=.deep e e2 (List.replicate n (.an []))) hk (fun m=>iz m) fun cx tm' S' a w ρ he _ h hfresh=>?_;have hu:E.P.underlying t=some (.slice e):=by
  have:=hty.kind ht
  rw [hkd] at this;exact ci this
 obtain ⟨i,v,hi,hs,hby,hz,hpos,hzl,hzc,_⟩:=hty.info hte;have hv:v=.slice none 0 0:=by
  rw [hnil] at hzc
  have:=dn (w:=w) (Av:=fun _=>False) (ρ:=ρ) hzc
  unfold lJ at hzc;have hq:=nf (w:=w) (Av:=fun _=>False) hzc;cases hq;rfl
 subst hv;have hcells:(Value.slice none 0 0).cells=#[.slice none 0 0]:=rfl;have hprod:te.bytes * n≤wide * eN:=zBd hb hn;unfold eN at hn hprod;unfold wide at hprod;have hpi:((i.bytes:Nat):Int) * ((n:Nat):Int)≤281474976710656:=by
  have h3:((te.bytes * n:Nat):Int)≤281474976710656:=by omega
  rw [hby];rw [Int.natCast_mul] at h3;exact h3
 have hrun:=run_make (P:=E.P) w t e i _ hu hi hz kl kc (n:Int) (n:Int) (by omega) (by omega) hpi (by omega);simp only [zBQ,hs,hz1,Nat.mul_one,hcells] at hrun;have hML:(madeCells #[Value.slice none 0 0] n).toList=List.replicate n (.slice none 0 0):=Gi _ _;have hown:(w.alloc (.cells (madeCells #[Value.slice none 0 0] n) e)).ownsRow 0 e 1 (.slice (some ⟨w.heap.size,0,none⟩) n n) (List.replicate n (aE.an [])).length (List.replicate n (.slice none 0 0)):=by
  rw [zBL];refine ⟨by simp,.inr ⟨w.heap.size,n,_,rfl,zAG _,heap_alloc_new w _,zAL _,by simp only [maxLen]; omega,by simp [size_madeCells],?_⟩⟩;rw [hML,zAc]
  simp
 have h1:=(h.eval ((he x (by simp [ho,Op.operands])).trans hx)).k_inv;have h2':=(h.eval ((he y (by simp [ho,Op.operands])).trans hy)).k_inv;refine ⟨.slice (some ⟨w.heap.size,0,none⟩) n n,w.alloc (.cells (madeCells #[Value.slice none 0 0] n) e),.tuple (.slice (some ⟨w.heap.size,0,none⟩) n n :: List.replicate n (.slice none 0 0)).toArray,?_,?_,rfl,rfl⟩
 · simp [execOp,ho,h1,h2',hrun]
 · have nilB:∀ {i:Nat} {v:Value} {x:Nat},(List.replicate n (Value.slice none 0 0))[i]?=some v→be v≠some x:=by
     intro i v x hv
     have:=zAD hv
     rw [(List.mem_replicate.1 this).2];simp [be]
   refine h.make hfresh (iR w _) (fun x hx=>?_) fun hi hr=>?_
   · obtain ⟨u',vs',q1,q2⟩:=hx;obtain ⟨rfl,rfl⟩:=iL rfl q1;rcases q2 with q2|⟨j,xs,v,_,q3,q4⟩
     · simp [be] at q2; omega
     · exact absurd q4 (nilB q3)
   · refine ⟨_,_,List.replicate n (.slice none 0 0),aw _ _,by simp,by simp,hown,fun x hx=>by rw [(List.mem_replicate.1 hx).2]; rfl,fun j z x v q1 q2 q3=>?_,fun j xs v x _ q2 q3=>absurd q3 (nilB q2),fun j k xs ys v v' x _ _ q3 _ q5=>absurd q5 (nilB q3)⟩;have m1:=(List.mem_replicate.1 (zAD q1)).2;have m2:=(List.mem_replicate.1 (zAD q2)).2;have m3:=(List.mem_replicate.1 (zAD q3)).2;subst m1 m2 m3;exact ⟨rfl,[],World.ownsRow_nil _ _ _ _,by simp,by simp,by simp,by simp⟩
theorem BX (hty:dW E) {t e e2:TypeId} {parts:Array (Nat × Operand)} (ho:o.op=.buildSlice t 0 parts) (hp:parts.toList=[]) {td te:TD} (ht:E.ty t=some td) (hkd:td.kind=.slice e) (hte:E.ty e=some te) (hz1:te.size=1)
   (hk:K ⟨[nx],[nx]⟩ (put o.dst (.own nx) tm) ((nx,.deep e e2 []) :: S) (nx+1)):Ok1 E o tm S nx K:=by
 refine Ok1.swapD (ms:=[]) (b:=.deep e e2 []) hk (fun m=>iz m) fun cx tm' S' a w ρ he _ h hfresh=>?_;have hu:E.P.underlying t=some (.slice e):=by
  have:=hty.kind ht
  rw [hkd] at this;exact ci this
 obtain ⟨i,z,hi,hs,_,hz,hpos,hzl,hzc,_⟩:=hty.info hte;have hm:(parts.map fun (i,x)=>(i,a.eval x)).toList=[]:=by simp [hp]
 have hrun:=jP (P:=E.P) w t e 0 (parts.map fun (i,x)=>(i,a.eval x)) [] i z hu hi hz (by omega) (by rw [hs,hz1]; omega) (by rw [hm]; simp [Instr.fill,madeCells]);have hown:(w.alloc (.cells ([]:List Value).toArray e)).ownsRow 0 e 1 (.slice (some ⟨w.heap.size,0,none⟩) 0 0) 0 []:=
  ⟨rfl,.inr ⟨w.heap.size,0,_,rfl,zAG _,heap_alloc_new w _,zAL _,zAG _,rfl,rfl⟩⟩
 refine ⟨.slice (some ⟨w.heap.size,0,none⟩) 0 0,w.alloc (.cells ([]:List Value).toArray e),.tuple (.slice (some ⟨w.heap.size,0,none⟩) 0 0 :: ([]:List Value)).toArray,?_,?_,rfl,rfl⟩
 · simp [execOp,ho,hrun]
 · refine h.make hfresh (iR w _) (fun x hx=>?_) fun hi hr=>?_
   · obtain ⟨u',vs',q1,q2⟩:=hx;obtain ⟨rfl,rfl⟩:=iL rfl q1;rcases q2 with q2|⟨j,xs,v,q2,_,_⟩
     · simp [be] at q2; omega
     · simp at q2
   · exact ⟨_,[],[],aw _ _,rfl,rfl,hown,by simp,fun j z x v q1 _ _=>by simp at q1,fun j xs v x q1 _ _=>by simp at q1,fun j k xs ys v v' x q1 _ _ _ _=>by simp at q1⟩
theorem ED (hty:dW E) {t e e2:TypeId} {parts:Array (Nat × Operand)} {x:Operand} (ho:o.op=.buildSlice t 1 parts) (hp:parts.toList=[(0,x)]) {td te:TD} (ht:E.ty t=some td) (hkd:td.kind=.slice e) (hte:E.ty e=some te) (hz1:te.size=1)
   {b:Nat} {xs:List (List D)} (hx:ev E.gl tm x=some (.own b)) (hl:lk S b=some (.own e2 xs))
   (hk:K ⟨[nx,b],[nx,b]⟩ (put o.dst (.own nx) tm) ((nx,.deep e e2 [.an xs]) :: del b S) (nx+1)):Ok1 E o tm S nx K:=by
 refine Ok1.swapD (ms:=[b]) (b:=.deep e e2 [.an xs]) hk (fun m=>?_) fun cx tm' S' a w ρ he hf h hfresh=>?_
 · rw [cl,au,au,jq,fj];by_cases e1:nx=m
   · simp [e1]
   · by_cases e2:m=b
     · subst e2; simp [e1]
     · simp [e1,e2]
 have hl':lk S' b=some (.own e2 xs):=by rw [hf b (by simp)]; exact hl
 have hu:E.P.underlying t=some (.slice e):=by
  have:=hty.kind ht
  rw [hkd] at this;exact ci this
 obtain ⟨i,z,hi,hs,_,hz,hpos,hzl,hzc,_⟩:=hty.info hte;have hzs:z.cells.size=1:=by
  have:=(dn (w:=w) (Av:=fun _=>False) (ρ:=ρ) hzc).1.len
  rw [hzl,hz1] at this;simpa using this.symm
 obtain ⟨v,inner,hr,hown,hc⟩:=h.st _ _ hl';have hxv:a.eval x=v:=by
  have hmem:(0,x)∈parts.toList:=by rw [hp]; simp
  have:=(h.eval ((he x (by rw [ho]; simp [Op.operands]; exact ⟨0,by simpa using hmem⟩)).trans hx)).own_inv
  rw [dt hr (cJ hown)] at this;exact (zAb this).symm
 have h1v:=pf hown;have hcv:v.cells.toList=[v]:=by rw [kO h1v]
 have hfill:Instr.fill (fun j=>some (j * i.size,i.size)) (madeCells z.cells (1 * i.size)) (parts.map fun (i,x)=>(i,a.eval x)).toList=some [v].toArray:=by
  have hm:(parts.map fun (i,x)=>(i,a.eval x)).toList=[(0,v)]:=by simp [hp,hxv]
  rw [hm,hs,hz1];have hM:madeCells z.cells (1 * 1)=((madeCells z.cells (1 * 1)).toList).toArray:=by simp
  have hl1:(madeCells z.cells (1 * 1)).toList.length=1:=by simp [madeCells]
  rw [hM,qB _ _ 0 0 1 v [] rfl (by rw [hcv]; rfl) (by omega),hcv,vW _ _ (by rw [hl1]; rfl)];rfl
 have hrun:=jP (P:=E.P) w t e 1 (parts.map fun (i,x)=>(i,a.eval x)) [v] i z hu hi hz (by omega) (by rw [hs,hz1]; omega) hfill;have hex:(execOp a.eval o).run E.P w=.ok (.value (.slice (some ⟨w.heap.size,0,none⟩) 1 1)) (w.alloc (.cells [v].toArray e)):=by simp [execOp,ho,hrun]
 refine ⟨_,_,.tuple (.slice (some ⟨w.heap.size,0,none⟩) 1 1 :: [v]).toArray,hex,?_,rfl,rfl⟩;have hvlt:∀ y,be v=some y→y < w.heap.size:=fun y hy=>lI hown hy;have one:∀ {j:Nat} {ys:List (List D)},([aE.an xs]:List aE)[j]?=some (.an ys)→j=0∧ys=xs:=by
  intro j ys hj;cases j with
  | zero=>simp at hj; exact ⟨rfl,hj.symm⟩
  | succ j=>simp at hj
 have one':∀ {j:Nat} {u:Value},([v]:List Value)[j]?=some u→j=0∧u=v:=by
  intro j u hj;cases j with
  | zero=>simp at hj; exact ⟨rfl,hj.symm⟩
  | succ j=>simp at hj
 refine h.swaps hfresh (ms:=[b]) (fun m hm=>by rw [List.mem_singleton.1 hm]; exact ⟨_,hl',rfl⟩) ((iR w _).weaken fun _ h=>h.elim) (fun y hy=>?_) fun hi' hr'=>?_
 · obtain ⟨u',vs',q1,q2⟩:=hy;obtain ⟨rfl,rfl⟩:=iL rfl q1;rcases q2 with q2|⟨j,ys,u,_,q3,q4⟩
   · simp [be] at q2; exact .inr (by omega)
   · obtain ⟨_,rfl⟩:=one' q3;exact .inl ⟨b,_,by simp,hl',rfl,by rw [hr]; exact q4⟩
 · refine ⟨_,_,[v],aw _ _,rfl,rfl,⟨rfl,.inr ⟨w.heap.size,1,[v].toArray,rfl,zAG _,heap_alloc_new w _,zAL _,by simp only [maxLen]; omega,rfl,rfl⟩⟩,fun y hy=>by rw [List.mem_singleton.1 hy]; exact h1v,fun j s y u q1 q2 q3=>?_,fun j ys u y _ q2 q3 hq=>?_,fun j k ys ys' u u' y q1 q2 _ _ _ _=>by rw [(one q1).1,(one q2).1]⟩
   · obtain ⟨rfl,hy⟩:=one' q2;obtain ⟨_,hu⟩:=one' q3;simp at q1;subst q1;refine ⟨hy.trans hu.symm,inner,?_,hc.mono hi'⟩;rw [hu];exact cQ hown fun y hy=>(iR w _).block y (hvlt y hy) (fun h=>h)
   · obtain ⟨_,rfl⟩:=one' q2
     have:=hvlt y q3
     simp [be] at hq;omega
theorem rj {P:Program} (w:World) (base:Nat) (t ty e:TypeId) (i:TypeInfo) (z:Value) (size bytes:Nat) (ht:P.underlying t=some (.slice e)) (hi:P.info? e=some i) (hz:i.zero=some z)
   (hsize:i.size=size) (hby:i.bytes=bytes) (hzs:z.cells.size=size) (hsz:0 < size) (v:Value) (n:Nat) (xs:List Value) (hown:w.ownsRow base e size v n xs) (hbase:base≤w.heap.size) (hn:n≤eN) (hb:bytes≤wide)
   {src:Value} {m:Nat} {bA:List Value} (hy:w.ownsRow 0 e size src m bA) (h1:∀ u∈bA,u.oneCell'=true) (hm:m≤eN) :
   ∃ v' w',(Builtin.append_ #[t,t] ty #[v,src]).run P w=.ok v' w'∧w'.ownsRow base e size v' (n+m) (xs++bA)∧Fr (fun x=>be v=some x) w w'∧(be v'=be v∨be v'=some w.heap.size):=by
 have hform:∃ A n c,v=.slice A n c:=by rcases hown.2 with ⟨rfl,_⟩|⟨g,cap,cur,rfl,_⟩ <;> exact ⟨_,_,_,rfl⟩
 obtain ⟨A0,n0,c0,hv0⟩:=hform;have hblk:v.ownBlock=be v:=xC hv0;unfold eN at hn hm;unfold wide at hb;rcases hy.2 with ⟨rfl,hm0⟩|⟨g,c,cur,rfl,_⟩
 · subst hm0;have hn0:bA=[]:=List.eq_nil_of_length_eq_zero (by rw [hy.1]; simp);subst hn0;exact ⟨v,w,gC base t ty e i size ht hi v n xs hown 0,by simpa using hown,Fr.refl _ _,.inl rfl⟩
 · have hbytes:(n+m) * bytes≤140737488355328:=by
     have:=zBd (show n+m≤4294967296 by omega) hb
     omega
   obtain ⟨v',w',e1,e2,e3,_,e5⟩:=run_append_own_at (P:=P) w base t ty e i z size bytes ht hi hz hsize hby hzs hsz v n xs hown ⟨g,0,none⟩ m c bA
    hy.1 (hy.cells (g:=g) rfl) h1 (by simp only [maxLen]; omega) hbytes hbase
   have hform':v'.ownBlock=be v':=by
    rcases e2.2 with ⟨rfl,_⟩|⟨g,cap,cur,rfl,_⟩ <;> rfl
   refine ⟨v',w',e1,e2,⟨e3.os,e3.tape,e3.output,e3.size,fun k hk hne=>e3.block k hk (fun e=>hne (by rw [← hblk,← e]))⟩,?_⟩;rw [← hform',← hblk];exact e5
theorem xE {zs ws:List aE} {i:Nat} {xs:List (List D)} (h:(zs++ws)[i]?=some (.an xs)):(i < zs.length∧zs[i]?=some (.an xs))∨(zs.length≤i∧ws[i - zs.length]?=some (.an xs)):=by
 by_cases hi:i < zs.length
 · rw [zAU hi] at h;exact .inl ⟨hi,h⟩
 · rw [zAW (by omega)] at h;exact .inr ⟨by omega,h⟩
theorem eE {α:Type} {xs ys:List α} {i n:Nat} {x:α} (hn:xs.length=n) (h:(xs++ys)[i]?=some x):(i < n→xs[i]?=some x)∧(n≤i→ys[i - n]?=some x):=by
 subst hn;constructor
 · intro hi;rwa [zAU hi] at h
 · intro hi;rwa [zAW hi] at h
theorem EE {P:Program} {w w':World} {Av Av' Av2:Nat→Prop} {ρ ρ2 ρ':Nat→Option Value} {n r nx:Nat} {e e2:TypeId} {zs ws:List aE} {u u2 u':Value} {vs us vs2 us2:List Value}
   (h1:je P w Av ρ n e e2 zs u vs us) (h2:je P w Av2 ρ2 r e e2 ws u2 vs2 us2) (hnm:ρ' nx=some (.tuple (u' :: (vs++vs2)).toArray)) (hown:w'.ownsRow 0 e 1 u' (zs.length+ws.length) (us++us2))
   (hi1:∀ d v,VI w Av d v→VI w' Av' d v) (hi2:∀ d v,VI w Av2 d v→VI w' Av' d v) (hr1:∀ t v,ρ t=some v→ρ' t=some v) (hr2:∀ t v,ρ2 t=some v→ρ' t=some v)
   (hk:∀ x,bk (.deep e e2 zs) (ρ n) x→be u≠some x→w'.heap[x]?=w.heap[x]?) (hk2:∀ x,bk (.deep e e2 ws) (ρ2 r) x→w'.heap[x]?=w.heap[x]?)
   (hu:be u'=be u∨be u'=some w.heap.size) (hd:∀ x,bk (.deep e e2 zs) (ρ n) x→bk (.deep e e2 ws) (ρ2 r) x→False):∃ (u:Value) (vs us:List Value),je P w' Av' ρ' nx e e2 (zs++ws) u vs us:=by
 have lt1:∀ {i:Nat} {xs:List (List D)} {v:Value} {x:Nat},zs[i]?=some (.an xs)→vs[i]?=some v→be v=some x→x < w.heap.size:=by
  intro i xs v x a b c;obtain ⟨y,v',_,g2,_,_,g4,_⟩:=h1.us_at a;rw [b] at g2;cases g2;exact lI g4 c
 have lt2:∀ {i:Nat} {xs:List (List D)} {v:Value} {x:Nat},ws[i]?=some (.an xs)→vs2[i]?=some v→be v=some x→x < w.heap.size:=by
  intro i xs v x a b c;obtain ⟨y,v',_,g2,_,_,g4,_⟩:=h2.us_at a;rw [b] at g2;cases g2;exact lI g4 c
 refine ⟨u',vs++vs2,us++us2,hnm,by simp [h1.lv,h2.lv],by simp [h1.lu,h2.lu],by rw [zAT]; exact hown,fun x hx=>?_,fun i z x v q1 q2 q3=>?_,fun i xs v x q1 q2 q3 hq=>?_,fun i j xs ys v v' x q1 q2 q3 q4 q5 q6=>?_⟩
 · rcases zAu.1 hx with hx|hx
   · exact h1.one x hx
   · exact h2.one x hx
 · by_cases hlt:i < zs.length
   · rw [zAU hlt] at q1;have hs:=h1.slot i z x v q1 ((eE h1.lu q2).1 hlt) ((eE h1.lv q3).1 hlt);cases z with
     | an xs=>
       obtain ⟨e1,ys,g1,g2⟩:=hs;refine ⟨e1,ys,cQ g1 fun y hy=>?_,g2.mono hi1⟩;have hv:=(eE h1.lv q3).1 hlt;exact hk y (h1.bk.2 (.inr ⟨i,xs,v,q1,hv,hy⟩)) (h1.apart i xs v y q1 hv hy)
     | nm a=>exact gn hr1 hs
     | lost=>trivial
   · rw [zAW (by omega)] at q1;have hs:=h2.slot _ z x v q1 ((eE h1.lu q2).2 (by omega)) ((eE h1.lv q3).2 (by omega));cases z with
     | an xs=>
       obtain ⟨e1,ys,g1,g2⟩:=hs;refine ⟨e1,ys,cQ g1 fun y hy=>?_,g2.mono hi2⟩;exact hk2 y (h2.bk.2 (.inr ⟨_,xs,v,q1,(eE h1.lv q3).2 (by omega),hy⟩))
     | nm a=>exact gn hr2 hs
     | lost=>trivial
 · rcases xE q1 with ⟨hlt,q1⟩|⟨hle,q1⟩
   · have hv:=(eE h1.lv q2).1 hlt;rcases hu with hu|hu
     · rw [hu] at hq;exact h1.apart i xs v x q1 hv q3 hq
     · rw [hu] at hq
       have:=lt1 q1 hv q3
       simp at hq;omega
   · have hv:=(eE h1.lv q2).2 hle;rcases hu with hu|hu
     · rw [hu] at hq;exact hd x (h1.bk.2 (.inl hq)) (h2.bk.2 (.inr ⟨_,xs,v,q1,hv,q3⟩))
     · rw [hu] at hq
       have:=lt2 q1 hv q3
       simp at hq;omega
 · rcases xE q1 with ⟨a1,a2⟩|⟨a1,a2⟩ <;> rcases xE q2 with ⟨b1,b2⟩|⟨b1,b2⟩
   · exact h1.dis i j xs ys v v' x a2 b2 ((eE h1.lv q3).1 a1) ((eE h1.lv q4).1 b1) q5 q6
   · exact (hd x (h1.bk.2 (.inr ⟨i,xs,v,a2,(eE h1.lv q3).1 a1,q5⟩)) (h2.bk.2 (.inr ⟨_,ys,v',b2,(eE h1.lv q4).2 b1,q6⟩))).elim
   · exact (hd x (h1.bk.2 (.inr ⟨j,ys,v',b2,(eE h1.lv q4).1 b1,q6⟩)) (h2.bk.2 (.inr ⟨_,xs,v,a2,(eE h1.lv q3).2 a1,q5⟩))).elim
   · have:=h2.dis _ _ xs ys v v' x a2 b2 ((eE h1.lv q3).2 a1) ((eE h1.lv q4).2 b1) q5 q6
     omega
theorem B0 (hty:dW E) {t:TypeId} {x y:Operand} (ho:o.op=.call { callee:=.builtin .append,args:=#[x,y],argTypes:=#[t,t] })
   {dx dy:D} (hx:ev E.gl tm x=some dx) (hy:ev E.gl tm y=some dy) (hk:sR E t S nx dx dy fun d fp S' nx'=>K fp (put o.dst d tm) S' nx'):Ok1 E o tm S nx K:=by
 unfold sR at hk
 replace hk:=br hk
 obtain ⟨td,htd,hk⟩:=hk;split at hk
 · rename_i e hkind
   replace hk:=br hk
   obtain ⟨te,hte,hk⟩:=hk;split at hk
   · rename_i e2 r hk2;split at hk
     · rename_i e' e2' ws hlr;split at hk
       · rename_i hb;simp only [zAE] at hb;obtain ⟨⟨b1,b2⟩,b3⟩:=hb;have b1:=zAI b1;have b2:=zAI b2;have hz1:=zAI b3;subst b1;subst b2;obtain ⟨hwl,hwide,hk⟩:=hk;have hu:E.P.underlying t=some (.slice e):=by
          have:=hty.kind htd
          rw [hkind] at this;exact ci this
         obtain ⟨i,z,hi,hs,hby,hz,hpos,hzl,hzc,_⟩:=hty.info hte;have hzs:z.cells.size=1:=by
          have:=(dn (w:=default) (Av:=fun _=>False) (ρ:=fun _=>none) hzc).1.len
          rw [hzl,hz1] at this;simpa using this.symm
         rw [hz1] at hs;split at hk
         · refine Ok1.swapD (ms:=[r]) (b:=.deep e e2 ws) hk (fun m=>?_) fun cx tm' S' a w ρ he hf h hfresh=>?_
           · rw [cl,au,au,jq,fj];by_cases e1:nx=m
             · simp [e1]
             · by_cases e2:m=r
               · subst e2; simp [e1]
               · simp [e1,e2]
           have hl':lk S' r=some (.deep e e2 ws):=by rw [hf r (by simp)]; exact hlr
           have hvx:a.eval x=.slice none 0 0:=(h.eval ((he x (by simp [ho,Op.operands,Call.operands])).trans hx)).nil_inv;obtain ⟨u,vs,us,hd⟩:=h.st _ _ hl';have hvy:a.eval y=u:=by
            have:=(h.eval ((he y (by simp [ho,Op.operands,Call.operands])).trans hy)).own_inv
            rw [dX hd.name] at this;exact (zAb this).symm
           obtain ⟨v',w',e1,e2',e3,e4⟩:=rj (P:=E.P) w w.heap.size t o.type e i z 1 te.bytes hu hi hz hs hby hzs (by omega) (.slice none 0 0) 0 [] (World.ownsRow_nil _ _ _ _) (zAL _) (zAG _) hwide hd.own hd.one hwl;rw [zBK,zBB] at e2';have e20:w'.ownsRow 0 e 1 v' ws.length us:=⟨e2'.1,e2'.2.imp id fun ⟨g,cap,cur,q1,_,q2⟩=>⟨g,cap,cur,q1,zAG _,q2⟩⟩;have hnew:∀ y,be v'=some y→w.heap.size≤y:=by
            intro y hy;rcases e4 with e4|e4
            · rw [e4] at hy; simp [be] at hy
            · rw [e4] at hy; simp at hy; omega
           have hfr:Fr (fun _=>False) w w':=e3.weaken fun x hx=>by simp [be] at hx
           have hrun:(execOp a.eval o).run E.P w=.ok (.value v') w':=fN ho (by rw [hvx,hvy]; exact e1);refine ⟨v',w',.tuple (v' :: vs).toArray,hrun,?_,rfl,pf e20⟩;have inlt:∀ {i:Nat} {xs:List (List D)} {v:Value} {x:Nat},ws[i]?=some (.an xs)→vs[i]?=some v→be v=some x→x < w.heap.size:=by
            intro i xs v x a b c;obtain ⟨y,v2,_,g2,_,_,g4,_⟩:=hd.us_at a;rw [b] at g2;cases g2;exact lI g4 c
           refine h.swaps hfresh (ms:=[r]) (fun m hm=>by rw [List.mem_singleton.1 hm]; exact ⟨_,hl',rfl⟩) (hfr.weaken fun _ h=>h.elim) (fun q hq=>?_) fun hi' hr'=>?_
           · obtain ⟨u',vs',q1,q2⟩:=hq;obtain ⟨rfl,rfl⟩:=iL rfl q1;rcases q2 with q2|q2
             · exact .inr (hnew q q2)
             · exact .inl ⟨r,_,by simp,hl',rfl,hd.bk.2 (.inr q2)⟩
           · refine ⟨v',vs,us,aw _ _,hd.lv,hd.lu,e20,hd.one,fun j s p v q1 q2 q3=>?_,fun j xs v p q1 q2 q3 hq=>?_,hd.dis⟩
             · have hsl:=hd.slot j s p v q1 q2 q3;cases s with
               | an xs=>
                 obtain ⟨f1,ys,f2,f3⟩:=hsl;exact ⟨f1,ys,cQ f2 fun y hy=>hfr.block y (inlt q1 q3 hy) (fun h=>h),f3.mono hi'⟩
               | nm a=>exact gn hr' hsl
               | lost=>trivial
             · have h1:=hnew p hq;have h2:=inlt q1 q2 q3;omega
         · rename_i m0;split at hk
           · rename_i e'' e2'' zs hlm;split at hk
             · rename_i hb;simp only [zAE,zAJ] at hb;obtain ⟨⟨c1,c2⟩,c3⟩:=hb;have c1:=zAI c1;have c2:=zAI c2;have hne:m0≠r:=by rintro rfl; rw [zBI] at c3; cases c3
               subst c1;subst c2;obtain ⟨hzl',hk⟩:=hk;refine Ok1.swapD (ms:=[m0,r]) (b:=.deep e e2 (zs++ws)) hk (fun m=>?_) fun cx tm' S' a w ρ he hf h hfresh=>?_
               · rw [cl,au,au,jq,fj,fj];by_cases e1:nx=m
                 · simp [e1]
                 · by_cases e2:m=m0
                   · subst e2; simp [e1]
                   · by_cases e3:m=r
                     · subst e3; simp [e1]
                     · simp [e1,e2,e3]
               have hlr':lk S' r=some (.deep e e2 ws):=by rw [hf r (by simp)]; exact hlr
               have hlm':lk S' m0=some (.deep e e2 zs):=by rw [hf m0 (by simp)]; exact hlm
               obtain ⟨u,vs,us,hd⟩:=h.st _ _ hlm';obtain ⟨u2,vs2,us2,hd2⟩:=h.st _ _ hlr';have hvx:a.eval x=u:=by
                have:=(h.eval ((he x (by simp [ho,Op.operands,Call.operands])).trans hx)).own_inv
                rw [dX hd.name] at this;exact (zAb this).symm
               have hvy:a.eval y=u2:=by
                have:=(h.eval ((he y (by simp [ho,Op.operands,Call.operands])).trans hy)).own_inv
                rw [dX hd2.name] at this;exact (zAb this).symm
               obtain ⟨v',w',e1,e2',e3,e4⟩:=rj (P:=E.P) w 0 t o.type e i z 1 te.bytes hu hi hz hs hby hzs (by omega) u zs.length us hd.own (zAG _) hzl' hwide hd2.own hd2.one hwl;have hrun:(execOp a.eval o).run E.P w=.ok (.value v') w':=fN ho (by rw [hvx,hvy]; exact e1);refine ⟨v',w',.tuple (v' :: (vs++vs2)).toArray,hrun,?_,rfl,pf e2'⟩;have hdis:∀ q,bk (.deep e e2 zs) (ρ m0) q→bk (.deep e e2 ws) (ρ r) q→False:=fun q q1 q2=>hne (h.dis m0 r _ _ q hlm' hlr' rfl rfl q1 q2);have ltm:∀ q,bk (.deep e e2 zs) (ρ m0) q→q < w.heap.size:=fun q hq=>(h.st _ _ hlm').lt rfl hq;have ltr:∀ q,bk (.deep e e2 ws) (ρ r) q→q < w.heap.size:=fun q hq=>(h.st _ _ hlr').lt rfl hq;refine h.swaps hfresh (ms:=[m0,r]) (fun m hm=>?_) (e3.weaken fun q hq=>⟨m0,_,by simp,hlm',rfl,hd.bk.2 (.inl hq)⟩) (fun q hq=>?_) fun hi' hr'=>?_
               · simp only [List.mem_cons,List.not_mem_nil,or_false] at hm;rcases hm with rfl|rfl
                 · exact ⟨_,hlm',rfl⟩
                 · exact ⟨_,hlr',rfl⟩
               · obtain ⟨u',vs',q1,q2⟩:=hq;obtain ⟨rfl,rfl⟩:=iL rfl q1;rcases q2 with q2|⟨j,xs,v,q2,q3,q4⟩
                 · rcases e4 with e4|e4
                   · rw [e4] at q2;exact .inl ⟨m0,_,by simp,hlm',rfl,hd.bk.2 (.inl q2)⟩
                   · rw [e4] at q2;simp at q2;exact .inr (by omega)
                 · rcases xE q2 with ⟨r1,r2⟩|⟨r1,r2⟩
                   · exact .inl ⟨m0,_,by simp,hlm',rfl,hd.bk.2 (.inr ⟨j,xs,v,r2,(eE hd.lv q3).1 r1,q4⟩)⟩
                   · exact .inl ⟨r,_,by simp,hlr',rfl,hd2.bk.2 (.inr ⟨_,xs,v,r2,(eE hd.lv q3).2 r1,q4⟩)⟩
               · refine EE hd hd2 (aw _ _) e2' hi' hi' hr' hr' (fun q hq hu'=>e3.block q (ltm q hq) hu') (fun q hq=>e3.block q (ltr q hq) fun hq2=>hdis q (hd.bk.2 (.inl hq2)) hq) e4 hdis
             · exact hk.elim
           · exact hk.elim
         · exact hk.elim
       · exact hk.elim
     · exact hk.elim
   · exact hk.elim
 · exact hk.elim
theorem R.opened (h:R E cx tm S a w ρ) (hfresh:ρ nx=none) {n i:Nat} {e e2:TypeId} {zs:List aE} {xs:List (List D)} (hl':lk S n=some (.deep e e2 zs)) (hz:zs[i]?=some (.an xs)) :
   ∃ (q:Value),(∃ u vs us,je E.P w (AvS cx.G S ρ) ρ n e e2 zs u vs us∧us[i]?=some q)∧q.oneCell'=true∧top q=q∧R E cx tm (ap [(nx,some (.own e2 xs)),(n,some (.deep e e2 (zs.set i (.nm nx))))] S) a w (aK ρ nx q):=by
 obtain ⟨u,vs,us,hd⟩:=h.st _ _ hl';obtain ⟨q,v,g1,g2,g3,inner,g4,g5⟩:=hd.us_at hz;subst g3;have hne:n≠nx:=by rintro rfl; rw [hd.name] at hfresh; cases hfresh
 have ext:∀ t u,ρ t=some u→aK ρ nx q t=some u:=by
  intro t u ht
  have:t≠nx:=by rintro rfl; rw [hfresh] at ht; cases ht
  rw [aL q this]; exact ht
 have an:∀ {j:Nat} {ys:List (List D)},(zs.set i (.nm nx))[j]?=some (.an ys)→j≠i∧zs[j]?=some (.an ys):=by
  intro j ys hj;rw [zAm] at hj;split at hj
  · (try split at hj) <;> cases hj
  · rename_i hne;exact ⟨fun e=>hne e.symm,hj⟩
 have lo:∀ m b,lk [(nx,some (Blk.own e2 xs)),(n,some (.deep e e2 (zs.set i (.nm nx))))] m=some (some b)→(m=nx∧b=.own e2 xs)∨(m=n∧b=.deep e e2 (zs.set i (.nm nx))):=by
  intro m b hm;simp only [au] at hm;by_cases e1:nx=m
  · rw [if_pos e1] at hm; cases hm; exact .inl ⟨e1.symm,rfl⟩
  · rw [if_neg e1] at hm;by_cases e2:n=m
    · rw [if_pos e2] at hm; cases hm; exact .inr ⟨e2.symm,rfl⟩
    · rw [if_neg e2] at hm; simp [lk] at hm
 have here:lk [(nx,some (Blk.own e2 xs)),(n,some (.deep e e2 (zs.set i (.nm nx))))] n≠none:=by
  rw [au,if_neg (Ne.symm hne),au,if_pos rfl]; simp
 have hin:∀ y,be q=some y→bk (.deep e e2 zs) (ρ n) y:=fun y hy=>hd.bk.2 (.inr ⟨i,xs,q,hz,g2,hy⟩);have hsub:∀ y,bk (.deep e e2 (zs.set i (.nm nx))) (ρ n) y→bk (.deep e e2 zs) (ρ n) y∧be q≠some y:=by
  rintro y ⟨u',vs',q1,q2⟩;obtain ⟨rfl,rfl⟩:=iL hd.name q1;rcases q2 with q2|⟨j,ys,v',q2,q3,q4⟩
  · exact ⟨hd.bk.2 (.inl q2),fun hy=>hd.apart i xs q y hz g2 hy q2⟩
  · exact ⟨hd.bk.2 (.inr ⟨j,ys,v',(an q2).2,q3,q4⟩),fun hy=>(an q2).1 (hd.dis j i ys xs v' q y (an q2).2 hz q3 g2 q4 hy)⟩
 refine ⟨q,⟨u,vs,us,hd,g1⟩,pf g4,cJ g4,h.turn ⟨(Fr.refl _ w),ext,fun m b hm _ y hy=>?_,fun m m' b c y hm hm' _ _ hy hy'=>?_,fun hi m b hm=>?_⟩⟩
 · right;rcases lo m b hm with ⟨rfl,rfl⟩|⟨rfl,rfl⟩
   · rw [aw] at hy;exact ⟨n,_,here,hl',rfl,hin y hy⟩
   · rw [aL _ hne] at hy;exact ⟨m,_,here,hl',rfl,(hsub y hy).1⟩
 · rcases lo m b hm with ⟨rfl,rfl⟩|⟨rfl,rfl⟩ <;> rcases lo m' c hm' with ⟨rfl,rfl⟩|⟨rfl,rfl⟩
   · rfl
   · rw [aw] at hy;rw [aL _ hne] at hy';exact absurd hy (hsub y hy').2
   · rw [aw] at hy';rw [aL _ hne] at hy;exact absurd hy' (hsub y hy).2
   · rfl
 · rcases lo m b hm with ⟨rfl,rfl⟩|⟨rfl,rfl⟩
   · exact ⟨q,inner,aw _ _,g4,g5.mono hi⟩
   · refine ⟨u,vs,us,by rw [aL _ hne]; exact hd.name,by rw [zAS]; exact hd.lv,by rw [zAS]; exact hd.lu,by rw [zAS]; exact hd.own,hd.one,fun j z p v' h1 h2 h3=>?_,fun j ys v' y h1=>hd.apart j ys v' y (an h1).2,fun j k ys ys' v' v2 y h1 h2=>hd.dis j k ys ys' v' v2 y (an h1).2 (an h2).2⟩;by_cases e1:i=j
     · subst e1;have hil:=(List.getElem?_eq_some_iff.1 hz).1;rw [zAm,if_pos rfl,if_pos hil] at h1;cases h1;rw [g1] at h2;cases h2;exact dt (aw _ _) (cJ g4)
     · rw [zAm,if_neg e1] at h1;have hs:=hd.slot j z p v' h1 h2 h3;cases z with
       | an ys=>exact ⟨hs.1,let ⟨r1,r2,r3⟩:=hs.2; ⟨r1,r2,r3.mono hi⟩⟩
       | nm b=>exact gn ext hs
       | lost=>trivial
theorem HI (hty:dW E) {t:TypeId} {x:Operand} (ho:o.op=.load t x) {d:D} (hx:ev E.gl tm x=some d) {td:TD} (ht:E.ty t=some td) (hagg:qp td.kind=false)
   (hk:FZ S nx d fun d' fp S' nx'=>K fp (put o.dst d' tm) S' nx'):Ok1 E o tm S nx K:=by
 unfold FZ at hk;split at hk
 · rename_i n sz i;split at hk
   · rename_i e e2 zs hl;split at hk
     · rename_i hb;have hsz:=zAI hb;subst hsz;obtain ⟨z,hz,hk⟩:=hk;have run:∀ {cx:Cx} {tm':Tm} {S':ac} {a:Act} {w:World} {ρ:Nat→Option Value},R E cx tm' S' a w ρ→(∀ x∈o.op.operands,ev E.gl tm' x=ev E.gl tm x)→∀ {u:Value} {vs us:List Value},je E.P w (AvS cx.G S' ρ) ρ n e e2 zs u vs us→∀ {q:Value},us[i]?=some q →
          (execOp a.eval o).run E.P w=.ok (.value q) w:=by
        intro cx tm' S' a w ρ h he u vs us hd q hq;obtain ⟨g,len,c,hr,hax⟩:=(h.eval ((he x (by simp [ho,Op.operands])).trans hx)).op_inv;rw [dX hd.name] at hr;simp only [zAV] at hr;subst hr;have hc:=hd.own.cells (g:=g) rfl i q hq;rw [qv,zBK] at hc;have hrun:(Instr.loadAt t (a.eval x)).run E.P w=.ok q w:=by
         rw [hax];have e0:i * 1+0=i:=by omega
         rw [e0];simp [Instr.loadAt,Instr.sureAddr,loadVar,qw hty ht,hagg,run_load,hc]
        simp [execOp,ho,hrun]
       cases z with
       | an xs=>
         simp only at hk;refine Ok1.val (fp:=⟨[nx,n],[nx,n]⟩) (out:=[(nx,some (.own e2 xs)),(n,some (.deep e e2 (zs.set i (.nm nx))))]) (nx':=nx+1) (d:=.own nx) (fun m hm=>?_) (fun m h=>h) (Nat.le_succ _) (fun m h1 h2=>by simp; omega) (fun m=>?_) hk ?_
         · simp only [au] at hm;by_cases e1:nx=m
           · simp [e1]
           · by_cases e2:n=m
             · simp [e2]
             · simp [e1,e2,lk] at hm
         · rw [cl];simp only [au,pb,fj];by_cases e1:nx=m
           · simp [e1]
           · by_cases e2:n=m
             · simp [e1,e2]
             · simp [e1,e2,Ne.symm e2,lk]
         · intro cx tm' S' a w ρ he hf h hn;have hfresh:=hn nx (zAL _) (Nat.lt_succ_self _);have hl':lk S' n=some (.deep e e2 zs):=by rw [hf n (by simp)]; exact hl
           obtain ⟨q,⟨u,vs,us,hd,g1⟩,o1,o2,o3⟩:=h.opened hfresh hl' hz;exact ⟨q,w,aK ρ nx q,run h he hd g1,o3,.gr (.atom (.own (dt (aw _ _) o2) o1)),fun m hne=>aL q (by rintro rfl; exact hne ⟨zAL _,Nat.lt_succ_self _⟩)⟩
       | nm b=>
         simp only at hk;refine Ok1.pure (fp:=[n]) hk fun cx tm' S' a w ρ he hf h=>?_;have hl':lk S' n=some (.deep e e2 zs):=by rw [hf n (by simp)]; exact hl
         obtain ⟨u,vs,us,hd⟩:=h.st _ _ hl';obtain ⟨q,v,g1,g2,g3⟩:=hd.us_at hz;exact ⟨q,run h he hd g1,.gr (.atom (.own g3 (hd.one q (zAD g1))))⟩
       | lost=>exact hk.elim
     · exact hk.elim
   · exact hk.elim
 · exact hk.elim
end
end Go.Ab
namespace Go.Ab
open Go Go.RowKit
theorem Rows.take {p:D→Value→Prop} {sz:Nat} {xs:List (List D)} {us:List Value} (h:Rows p sz xs us) (i:Nat):Rows p sz (xs.take i) (us.take (i * sz)):=by
 refine ⟨?_,fun c hc=>h.el c (zAz hc),fun u hu=>h.one u (zAz hu),fun k j c d hc hd=>?_⟩
 · rw [zAd,zAd,h.len];rcases Nat.le_total i xs.length with q|q
   · have:=zAf sz q
     rw [Nat.min_eq_left this,Nat.min_eq_left q]
   · have:=zAf sz q
     rw [Nat.min_eq_right this,Nat.min_eq_right q]
 · rw [zAn] at hc;split at hc
   · rename_i hk;obtain ⟨u,e1,e2⟩:=h.at_ k j c d hc hd;refine ⟨u,?_,e2⟩;have hj:j < sz:=by rw [← h.el c (zAD hc)]; exact (List.getElem?_eq_some_iff.1 hd).1
     rw [zAn,if_pos (xB hj hk)];exact e1
   · cases hc
theorem Rows.drop {p:D→Value→Prop} {sz:Nat} {xs:List (List D)} {us:List Value} (h:Rows p sz xs us) (i:Nat):Rows p sz (xs.drop i) (us.drop (i * sz)):=by
 refine ⟨?_,fun c hc=>h.el c (zBT hc),fun u hu=>h.one u (zBT hu),fun k j c d hc hd=>?_⟩
 · rw [zAy,zAy,h.len,Nat.sub_mul]
 · rw [zAi] at hc;obtain ⟨u,e1,e2⟩:=h.at_ (i+k) j c d hc hd;refine ⟨u,?_,e2⟩;rw [zAi,← e1,zAv];congr 1
   omega
theorem zD {p q:D→Value→Prop} (hpq:∀ d u,p d u→q d u) {w:World} {e:TypeId} {sz g len c i:Nat} {cur:Array Value} {xs ys:List (List D)} {us vs:List Value} (hown:w.ownsRow 0 e sz (.slice (some ⟨g,0,none⟩) len c) xs.length us) (hh:w.heap[g]?=some (.cells cur e (0,0)))
   (hrw:Rows p sz xs us) (hys:Rows q sz ys vs) (hle:i+ys.length≤xs.length) :
   i * sz+vs.length≤cur.size∧(w.setRow g (cur.toList.take (i * sz)++vs++cur.toList.drop (i * sz+vs.length)).toArray).ownsRow 0 e sz (.slice (some ⟨g,0,none⟩) len c) (xs.take i++ys++xs.drop (i+ys.length)).length (us.take (i * sz)++vs++us.drop ((i+ys.length) * sz)) ∧
     Rows q sz (xs.take i++ys++xs.drop (i+ys.length)) (us.take (i * sz)++vs++us.drop ((i+ys.length) * sz)):=by
 have hul:us.length=xs.length * sz:=hrw.len;have hvl:vs.length=ys.length * sz:=hys.len;have hfit:i * sz+vs.length≤us.length:=by
  rw [hvl,hul,← zAv];exact zAf sz hle
 have hxl:(xs.take i++ys++xs.drop (i+ys.length)).length=xs.length:=by simp; omega
 have hrows:Rows q sz (xs.take i++ys++xs.drop (i+ys.length)) (us.take (i * sz)++vs++us.drop ((i+ys.length) * sz)):=((hrw.take i).mono hpq |>.append hys).append ((hrw.drop (i+ys.length)).mono hpq);rcases hown.2 with ⟨hbad,_⟩|⟨g',cap,cur',hgv,_,hh',hnc,hcm,hcsz,htake⟩
 · cases hbad
 · simp at hgv;obtain ⟨rfl,rfl,rfl⟩:=hgv;rw [hh] at hh';cases hh';have hcap:xs.length * sz≤cur.size:=by rw [hcsz]; exact zAf sz hnc
   have hcl:cur.toList.length=cur.size:=zBD;have hfit2:i * sz+vs.length≤cur.toList.length:=by omega
   refine ⟨by omega,⟨by rw [hrows.len],.inr ⟨g,c,_,by rw [hxl],zAG _,setRow_heap w g _ _ e _ hh,by rw [hxl]; exact hnc,hcm,?_,?_⟩⟩,hrows⟩
   · rw [kQ vs cur.toList _ hfit2,List.size_toArray,fA,zBD];exact hcsz
   · rw [hxl,kQ vs cur.toList _ hfit2];simp only [List.toList_toArray];rw [s7 _ _ _ _ (by omega) (by omega),htake,zAv,← hvl,kQ vs us _ hfit]
section
variable {E:Env} {cx:Cx} {tm:Tm} {S S0:ac} {nx:Nat} {a:Act} {w:World} {ρ:Nat→Option Value} {o:Oper} {K:Kt}
theorem iA (g k:Nat):(⟨g,0,none⟩:Addr).add k=⟨g,k,none⟩:=by unfold Addr.add; split <;> simp_all
theorem zE {P:Program} {ρ':Operand→Value} {lo hi:Option Operand} {len cap i j:Nat} (hlo:Bd E.gl tm lo 0 i) (hhi:Bd E.gl tm hi len j) (hij:i≤j) (hj:j≤cap)
   (hev:∀ x∈lo.toList++hi.toList,∀ kd n,ev E.gl tm x=some (.k kd n)→ρ' x=.int kd n):(Instr.sliceBounds true len cap (lo.map ρ') (hi.map ρ') none).run P w=.ok (i,j,cap) w:=by
 have bound:∀ (x:Operand) (kd:IntKind) (k y:Nat) (c:BoundsCode),ρ' x=.int kd (k:Int)→k≤y→(Instr.sliceBound (ρ' x) y c).run P w=.ok k w:=by
  intro x kd k y c hx hk;have h1:(0:Int)≤(k:Int)∧(k:Int)≤(y:Int):=by omega
  simp [Instr.sliceBound,hx,asIntOf,hk]
 unfold Bd at hlo hhi;cases lo with
 | none=>
   simp only at hlo;subst hlo;cases hi with
   | none=>
     simp only at hhi;subst hhi;simp [Instr.sliceBounds]
   | some y=>
     simp only at hhi;obtain ⟨kd,hy⟩:=hhi
     have:=bound y kd j cap .sliceAcap (hev y (by simp) _ _ hy) (by omega)
     simp [Instr.sliceBounds,this]
 | some x=>
   simp only at hlo;obtain ⟨kx,hx⟩:=hlo;have hx':=hev x (by simp) _ _ hx;cases hi with
   | none=>
     simp only at hhi;subst hhi
     have:=bound x kx i j .sliceB hx' hij
     simp [Instr.sliceBounds,this]
   | some y=>
     simp only at hhi;obtain ⟨kd,hy⟩:=hhi;have h1:=bound y kd j cap .sliceAcap (hev y (by simp) _ _ hy) (by omega);have h2:=bound x kx i j .sliceB hx' hij;simp [Instr.sliceBounds,h1,h2]
theorem ti {P:Program} {e:TypeId} {sz:Nat} {u:Value} {n:Nat} {us:List Value} (h:w.ownsRow 0 e sz u n us):∃ (A:Option Addr) (c:Nat),u=.slice A n c∧n≤c∧(A=none→c=0):=by
 rcases h.2 with ⟨rfl,rfl⟩|⟨g,cap,cur,rfl,_,_,h1,_⟩
 · exact ⟨none,0,rfl,zAL _,fun _=>rfl⟩
 · exact ⟨_,_,rfl,h1,fun h=>by cases h⟩
theorem iB {t:TypeId} {x:Operand} {lo hi mx:Option Operand} (ho:o.op=.slice t x lo hi mx):x∈o.op.operands∧∀ y∈lo.toList++hi.toList++mx.toList,y∈o.op.operands:=by
 rw [ho];refine ⟨by simp [Op.operands],fun y hy=>?_⟩;simp only [Op.operands];cases lo <;> cases hi <;> cases mx <;> simp_all
theorem HJ (hty:dW E) {t:TypeId} {x:Operand} {lo hi:Option Operand} (ho:o.op=.slice t x lo hi none) {d:D} (hx:ev E.gl tm x=some d) {td:TD} (ht:E.ty t=some td)
   (hk:F0 E E.gl td.kind S d tm lo hi fun d'=>K ⟨nmD d,[]⟩ (put o.dst d' tm) S nx):Ok1 E o tm S nx K:=by
 have hkc:=hty.kind ht;have evs:∀ {cx:Cx} {tm':Tm} {S':ac} {a:Act} {w:World} {ρ:Nat→Option Value},R E cx tm' S' a w ρ→(∀ x∈o.op.operands,ev E.gl tm' x=ev E.gl tm x)→∀ y∈lo.toList++hi.toList,∀ kd n,ev E.gl tm y=some (.k kd n)→a.eval y=.int kd n:=by
  intro cx tm' S' a w ρ h he y hy kd n hn;exact (h.eval ((he y ((iB ho).2 y (by simpa using hy))).trans hn)).k_inv
 unfold F0 at hk;split at hk
 · rename_i e hkd;rw [hkd] at hkc;have hu:=ci hkc
   replace hk:=br hk
   obtain ⟨te,hte,hk⟩:=hk;have run:∀ {a:Act} {w:World} (A:Option Addr) (len cap i j:Nat),a.eval x=.slice A len cap→Bd E.gl tm lo 0 i→Bd E.gl tm hi len j→i≤j→j≤cap→(∀ y∈lo.toList++hi.toList,∀ kd n,ev E.gl tm y=some (.k kd n)→a.eval y=.int kd n) →
      (execOp a.eval o).run E.P w=.ok (.value (.slice (if cap=i then A else A.map (·.add (i * te.size))) (j - i) (cap - i))) w:=by
    intro a w A len cap i j hv h1 h2 h3 h4 hev;have hb:=zE (P:=E.P) (w:=w) h1 h2 h3 h4 hev;simp [execOp,ho,hv,Instr.sliceAt,Instr.slice,run_underlying hu,hb,fK hty hte]
   split at hk
   · rename_i t0;split at hk
     · rename_i e0 xs hl;obtain ⟨i,j,h1,h2,h3,h4,h5⟩:=mB hk;refine Ok1.pure (fp:=nmD (.own t0)) h5 fun cx tm' S' a w ρ he hf h=>?_;have hl':lk S' t0=some (.own e0 xs):=by rw [hf t0 (by simp [nmD,nmA])]; exact hl
       obtain ⟨u,us,hr,hown,_⟩:=h.st _ _ hl';have hv:=(h.eval ((he x (iB ho).1).trans hx)).own_inv;rw [dt hr (cJ hown)] at hv;obtain ⟨A,c,rfl,q1,q2⟩:=ti (P:=E.P) hown;have hv:a.eval x=.slice A xs.length c:=(zAb hv).symm;exact ⟨_,run A _ c i j hv h1 h2 h3 (by omega) (evs h he),.gr (.atom (.vw hr h3 h4 q1 q2))⟩
     · exact hk.elim
   · rename_i t0 z0 b;split at hk
     · rename_i e0 xs hl;split at hk
       · replace hk:=lM hk
         obtain ⟨i,h1,hk⟩:=hk
         replace hk:=lM hk
         obtain ⟨j,h2,h3,h4,h5⟩:=hk;refine Ok1.pure (fp:=nmD (.vw t0 z0 0 b)) h5 fun cx tm' S' a w ρ he hf h=>?_;have hl':lk S' t0=some (.own e0 xs):=by rw [hf t0 (by simp [nmD,nmA])]; exact hl
         obtain ⟨u,us,hr,hown,_⟩:=h.st _ _ hl';obtain ⟨n0,c0,A0,hr',p1,p2,p3,p4,hv⟩:=(h.eval ((he x (iB ho).1).trans hx)).vw_inv;obtain ⟨A,c,rfl,q1,q2⟩:=ti (P:=E.P) hown;rw [hr] at hr';cases hr';have hA:(if c0=0 then A0 else A0.map (·.add (0 * z0)))=A0:=by
          split
          · rfl
          · rcases hown.2 with ⟨e1,_⟩|⟨g,cap,cur,e1,_⟩
            · have:A0=none:=by injection e1
              rw [this]; rfl
            · have:A0=some ⟨g,0,none⟩:=by injection e1
              rw [this]; simp [iA]
         rw [hA] at hv;have hh:=run (w:=w) A0 b c0 i j (by simpa using hv) h1 h2 h3 (by omega) (evs h he);exact ⟨_,hh,.gr (.atom (.vw hr h3 h4 q1 q2))⟩
       · exact hk.elim
     · exact hk.elim
   · exact hk.elim
 · exact hk.elim
theorem Gk (hty:dW E) {t:TypeId} {x:Operand} {lo hi:Option Operand} {mx:Operand} (ho:o.op=.slice t x lo hi (some mx)) {d:D} (hx:ev E.gl tm x=some d) {td:TD} (ht:E.ty t=some td)
   (hk:BH E E.gl td.kind S d tm lo hi mx (K ⟨nmD d,[]⟩ (put o.dst .junk tm) S nx)):Ok1 E o tm S nx K:=by
 have hkc:=hty.kind ht;unfold BH at hk;split at hk
 · rename_i e hkd;rw [hkd] at hkc;have hu:=ci hkc
   replace hk:=br hk
   obtain ⟨te,hte,hk⟩:=hk;split at hk
   · rename_i t0 l hh;split at hk
     · rename_i e0 xs ka a0 kb b0 kc c0 hl g1 g2 g3;obtain ⟨i,j,k,rfl,rfl,rfl,h1,h2,h3,h4⟩:=hk;refine Ok1.pure (fp:=nmD (.own t0)) h4 fun cx tm' S' a w ρ he hf h=>?_;have hl':lk S' t0=some (.own e0 xs):=by rw [hf t0 (by simp [nmD,nmA])]; exact hl
       obtain ⟨u,us,hr,hown,_⟩:=h.st _ _ hl';have hv:=(h.eval ((he x (iB ho).1).trans hx)).own_inv;rw [dt hr (cJ hown)] at hv;obtain ⟨A,c,rfl,q1,q2⟩:=ti (P:=E.P) hown;have hv:a.eval x=.slice A xs.length c:=(zAb hv).symm;have v1:=(h.eval ((he l ((iB ho).2 l (by simp))).trans g1)).k_inv;have v2:=(h.eval ((he hh ((iB ho).2 hh (by simp))).trans g2)).k_inv;have v3:=(h.eval ((he mx ((iB ho).2 mx (by simp))).trans g3)).k_inv;have bound:∀ (v:Value) (kd:IntKind) (k y:Nat) (c:BoundsCode),v=.int kd (k:Int)→k≤y→(Instr.sliceBound v y c).run E.P w=.ok k w:=by
        intro v kd k y c hx hk;have h1:(0:Int)≤(k:Int)∧(k:Int)≤(y:Int):=by omega
        simp [Instr.sliceBound,hx,asIntOf,hk]
       have b1:=bound _ _ _ c .slice3Acap v3 (by omega);have b2:=bound _ _ _ k .slice3B v2 h2;have b3:=bound _ _ _ j .slice3C v1 h1;refine ⟨.slice (if k=i then A else A.map (·.add (i * te.size))) (j - i) (k - i),?_,.gr (.atom (.junk rfl))⟩
       simp [execOp,ho,hv,Instr.sliceAt,Instr.slice,run_underlying hu,Instr.sliceBounds,b1,b2,b3,fK hty hte]
     · exact hk.elim
   · exact hk.elim
 · exact hk.elim
theorem B1 (hty:dW E) {t:TypeId} {x y:Operand} (ho:o.op=.call { callee:=.builtin .append,args:=#[x,y],argTypes:=#[t,t] }) {dx dy:D} (hx:ev E.gl tm x=some dx) (hy:ev E.gl tm y=some dy)
   (hk:sP E t S nx dx dy fun d fp S' nx'=>K fp (put o.dst d tm) S' nx'):Ok1 E o tm S nx K:=by
 unfold sP at hk
 replace hk:=br hk
 obtain ⟨td,htd,hk⟩:=hk;split at hk
 · rename_i e hkind
   replace hk:=br hk
   obtain ⟨te,hte,hk⟩:=hk;have hu:E.P.underlying t=some (.slice e):=by
    have:=hty.kind htd
    rw [hkind] at this;exact ci this
   obtain ⟨inf,z,hi,hs,hby,hz,hpos,hzl,hzc,_⟩:=hty.info hte;have hce:E.P.cellsOf e=te.size:=hty.cells hte;split at hk
   · rename_i m z0 i m' z1 j n;split at hk
     · rename_i e' xs hl;split at hk
       · rename_i hb;simp only [zAE] at hb;have b1:=zAI hb.1.1.1;have b2:=zAI hb.1.1.2;have b3:=zAI hb.1.2;have b4:=zAI hb.2;subst b1 b2 b3 b4;obtain ⟨k1,k2,k3,hk⟩:=hk;refine Ok1.val (fp:=⟨[m],[m]⟩) (out:=[(m,some (.own e (xs.take i++(xs.take n).drop j++xs.drop (i+(n - j)))))]) (nx':=nx) (d:=.vw m te.size 0 (i+(n - j))) (fun k hk=>by simp [qz hk]) (fun _ h=>h) (zAL _) (fun k h1 h2=>by omega) (fun _=>rfl) hk ?_;intro cx tm' S' a w ρ he hf h hn;have hl':lk S' m=some (.own e xs):=by rw [hf m (by simp)]; exact hl
         obtain ⟨u,us,hr,hown,hc⟩:=h.st _ _ hl';rw [hce] at hown hc;obtain ⟨n0,c0,A0,hr0,p1,p2,p3,p4,hvx⟩:=(h.eval ((he x (by simp [ho,Op.operands,Call.operands])).trans hx)).vw_inv;obtain ⟨n1,c1,A1,hr1,q1,q2,q3,q4,hvy⟩:=(h.eval ((he y (by simp [ho,Op.operands,Call.operands])).trans hy)).vw_inv;rw [hr] at hr0 hr1;cases hr0;cases hr1;rcases hown.2 with ⟨e1,e2⟩|⟨g,cap,cur,e1,_,hh,hnc,hcm,hcsz,htake⟩
         · cases e1;have hx0:xs=[]:=List.eq_nil_of_length_eq_zero e2;have hi0:i=0:=by omega
           have hn0:n=0:=by omega
           have hj0:j=0:=by omega
           subst hx0 hi0 hn0 hj0;have hid:∀ k,lk (ap [(m,some (.own e (([]:List (List D)).take 0++(([]:List (List D)).take 0).drop 0++([]:List (List D)).drop (0+(0 - 0)))))] S') k=lk S' k:=by
            intro k;rw [cl,au];by_cases hmk:m=k
            · subst hmk; simp [hl']
            · simp [hmk,lk]
           refine ⟨.slice none 0 0,w,ρ,?_,h.ext (fun _=>rfl) hid,.gr (.atom (.vw (A:=none) (n:=0) (c:=0) hr (zAG _) (by simp) (zAL _) (fun _=>rfl))),fun _ _=>rfl⟩;refine fN ho ?_;rw [hvx,hvy];simp [Builtin.append_,run_underlying hu,Go.sizeOf,typeInfo,hi,Builtin.lenOf,Builtin.firstCells,loadCells,loadCellsFrom]
         · cases e1;have hA:(if c0=0 then some (⟨g,0,none⟩:Addr) else (some (⟨g,0,none⟩:Addr)).map (·.add (0 * te.size)))=some ⟨g,0,none⟩:=by
            split
            · rfl
            · simp [iA]
           rw [hA] at hvx;have hnl:((us.take (n * te.size)).drop (j * te.size)).length=(n - j) * te.size:=by
            rw [zAy,zAd,hc.len,Nat.sub_mul]
            have:=zAf te.size k3
            omega
           have hys:Rows (VI w (AvS cx.G S' ρ)) te.size ((xs.take n).drop j) ((us.take (n * te.size)).drop (j * te.size)):=(hc.take n).drop j;have hyl:((xs.take n).drop j).length=n - j:=by simp; omega
           have hone:=hys.one;have hnews:∃ ad,(if c0=j then some (⟨g,0,none⟩:Addr) else (some (⟨g,0,none⟩:Addr)).map (·.add (j * te.size)))=some ad∧∀ k u,((us.take (n * te.size)).drop (j * te.size))[k]?=some u→w.cell? (ad.add k)=some u:=by
            by_cases hcj:c0=j
            · refine ⟨⟨g,0,none⟩,by rw [if_pos hcj],fun k u hk=>?_⟩
              have:(n - j) * te.size=0:=by
               have:n - j=0:=by omega
               rw [this,zBi]
              rw [List.eq_nil_of_length_eq_zero (hnl.trans this)] at hk;simp at hk
            · refine ⟨⟨g,j * te.size,none⟩,by rw [if_neg hcj]; simp [iA],fun k u hk=>?_⟩;rw [zAi,zAn] at hk;split at hk
              · have:=hown.cells (g:=g) rfl (j * te.size+k) u hk
                rw [← this,iA];congr 1
                unfold Addr.add; split <;> simp_all
              · cases hk
           obtain ⟨ad,hA1,hnews⟩:=hnews;rw [hA1] at hvy;obtain ⟨w1,w2,w3⟩:=zD (i:=i) (ys:=(xs.take n).drop j) (vs:=(us.take (n * te.size)).drop (j * te.size)) (fun d u h=>h) hown hh hc hys (by rw [hyl]; omega);have hrun:=run_append_room (P:=E.P) w t o.type e inf hu hi g i c0 cur hh ad (n - j) (c0 - j) ((us.take (n * te.size)).drop (j * te.size)) (by rw [hs]; exact hnl) hnews hone (by omega) (by rw [hs]; exact w1);rw [hs] at hrun;have hbk:bk (Blk.own e xs) (ρ m) g:=by simp [bk,hr,be]
           have hW:=h.write (b':=.own e (xs.take i++(xs.take n).drop j++xs.drop (i+(n - j)))) hl' rfl hbk (jC w g (cur.toList.take (i * te.size)++(us.take (n * te.size)).drop (j * te.size)++cur.toList.drop (i * te.size+((us.take (n * te.size)).drop (j * te.size)).length)).toArray) fun hmono=>by
            refine ⟨_,us.take (i * te.size)++(us.take (n * te.size)).drop (j * te.size)++us.drop ((i+(n - j)) * te.size),hr,?_,?_⟩
            · rw [hce];rw [hyl] at w2;exact w2
            · rw [hce];rw [hyl] at w3;exact w3.mono hmono
           have hres:VA (w.setRow g (cur.toList.take (i * te.size)++(us.take (n * te.size)).drop (j * te.size)++cur.toList.drop (i * te.size+((us.take (n * te.size)).drop (j * te.size)).length)).toArray) (AvS cx.G (ap [(m,some (.own e (xs.take i++(xs.take n).drop j++xs.drop (i+(n - j)))))] S') ρ) ρ (.vw m te.size 0 (i+(n - j))) (.slice (some ⟨g,0,none⟩) (i+(n - j)) c0):=by
            have:=VA.vw (w:=w.setRow g (cur.toList.take (i * te.size)++(us.take (n * te.size)).drop (j * te.size)++cur.toList.drop (i * te.size+((us.take (n * te.size)).drop (j * te.size)).length)).toArray) (Av:=AvS cx.G (ap [(m,some (.own e (xs.take i++(xs.take n).drop j++xs.drop (i+(n - j)))))] S') ρ) (ρ:=ρ) (t:=m) (sz:=te.size) (a:=0) (b:=i+(n - j)) hr (zAG _) (by omega) hnc (fun h=>by cases h)
            rw [hA] at this;exact this
           refine ⟨_,_,ρ,fN ho (by rw [hvx,hvy]; exact hrun),hW,.gr (.atom hres),fun _ _=>rfl⟩
       · exact hk.elim
     · exact hk.elim
   · exact hk.elim
 · exact hk.elim
theorem EF (hty:dW E) {t:TypeId} {x:Operand} (ho:o.op=.call { callee:=.builtin .clear,args:=#[x],argTypes:=#[t] }) {d:D} (hx:ev E.gl tm x=some d)
   (hk:xl E t S nx d fun fp S' nx'=>K fp (put o.dst (.tup []) tm) S' nx'):Ok1 E o tm S nx K:=by
 unfold xl at hk
 replace hk:=br hk
 obtain ⟨td,htd,hk⟩:=hk;split at hk
 · rename_i e hkind
   replace hk:=br hk
   obtain ⟨te,hte,hk⟩:=hk;have hu:E.P.underlying t=some (.slice e):=by
    have:=hty.kind htd
    rw [hkind] at this;exact ci this
   have hce:E.P.cellsOf e=te.size:=hty.cells hte;obtain ⟨inf,_,_,_,_,_,hpos,_,_,_⟩:=hty.info hte;split at hk
   · rename_i m z0 i j;split at hk
     · rename_i e' xs hl;split at hk
       · rename_i hb;simp only [zAE] at hb;have b1:=zAI hb.1;have b2:=zAI hb.2;subst b1 b2;obtain ⟨k1,k2,hk⟩:=hk;refine Ok1.val (fp:=⟨[m],[m]⟩) (out:=[(m,some (.own e (xs.take i++List.replicate (j - i) (cellsOf te.zero)++xs.drop j)))]) (nx':=nx) (d:=.tup []) (fun k hk=>by simp [qz hk]) (fun _ h=>h) (zAL _) (fun k h1 h2=>by omega) (fun _=>rfl) hk ?_;intro cx tm' S' a w ρ he hf h hn;have hl':lk S' m=some (.own e xs):=by rw [hf m (by simp)]; exact hl
         obtain ⟨u,us,hr,hown,hc⟩:=h.st _ _ hl';rw [hce] at hown hc;obtain ⟨n0,c0,A0,hr0,p1,p2,p3,p4,hvx⟩:=(h.eval ((he x (by simp [ho,Op.operands,Call.operands])).trans hx)).vw_inv;rw [hr] at hr0;cases hr0;have hunit:VR w (AvS cx.G (ap [(m,some (.own e (xs.take i++List.replicate (j - i) (cellsOf te.zero)++xs.drop j)))] S') ρ) ρ (.tup []) (.tuple #[]):=VR.tup (us:=[]) rfl (by simp);have same:i=j→R E cx tm' (ap [(m,some (.own e (xs.take i++List.replicate (j - i) (cellsOf te.zero)++xs.drop j)))] S') a w ρ:=by
          intro e0;subst e0;refine h.ext (fun _=>rfl) fun k=>?_;rw [cl,au];by_cases hmk:m=k
          · subst hmk; simp [hl']
          · simp [hmk,lk]
         have run:∀ (v:Value) w',a.eval x=v→(Builtin.clear_ #[t] o.type #[v]).run E.P w=.ok (.tuple #[]) w'→(execOp a.eval o).run E.P w=.ok (.value (.tuple #[])) w':=by
          intro v w' hv hr;simp [execOp,ho,resolve,invoke,builtin,hv,hr]
         by_cases hij:i=j
         · refine ⟨.tuple #[],w,ρ,run _ _ hvx ?_,same hij,hunit,fun _ _=>rfl⟩;rw [hij,Nat.sub_self];generalize (if c0=j then A0 else A0.map (·.add (j * te.size)))=B
           cases B <;> simp [Builtin.clear_,run_underlying hu]
         · rcases hown.2 with ⟨e1,e2⟩|⟨g,cap,cur,e1,_,hh,hnc,hcm,hcsz,htake⟩
           · cases e1; omega
           · cases e1;have hcj:¬ c0=i:=by omega
             rw [if_neg hcj] at hvx;simp only [Option.map_some,iA] at hvx;obtain ⟨v,hz,hzc⟩:=zr hty (w:=w) hte;obtain ⟨c1,c2⟩:=dn (w:=w) (Av:=AvS cx.G S' ρ) (ρ:=ρ) hzc;obtain ⟨_,v',_,_,_,hz',_,hzl,hzc',_⟩:=hty.info hte;have hvs:v.cells.size=te.size:=by have:=c1.len; rw [hzl] at this; simpa using this.symm
             have hrw:=Rows.made (z:=v.cells) (zs:=cellsOf te.zero) (by rw [hzl,hvs]) (by omega) c1.one c2 (j - i);rw [hvs] at hrw;have hzm:Builtin.zeroCells v.cells (j - i)=madeCells v.cells ((j - i) * te.size):=by rw [← hvs]; rfl
             obtain ⟨w1,w2,w3⟩:=zD (i:=i) (ys:=List.replicate (j - i) (cellsOf te.zero)) (vs:=(madeCells v.cells ((j - i) * te.size)).toList) (fun d u h=>h) hown hh hc hrw (by simp; omega);rw [zBL,show i+(j - i)=j by omega] at w2 w3
             have hst:=run_storeCells_at E.P g (i * te.size) e (madeCells v.cells ((j - i) * te.size)).toList 0 cur w hh (by simpa using w1) hrw.one;simp only [Nat.add_zero] at hst;have hbk:bk (Blk.own e xs) (ρ m) g:=by simp [bk,hr,be]
             refine ⟨.tuple #[],_,ρ,run _ _ hvx ?_,h.write (b':=.own e (xs.take i++List.replicate (j - i) (cellsOf te.zero)++xs.drop j)) hl' rfl hbk (jC w g _) fun hmono=>⟨_,_,hr,by rw [hce]; exact w2,by rw [hce]; exact w3.mono hmono⟩,VR.tup (us:=[]) rfl (by simp),fun _ _=>rfl⟩;obtain ⟨k,hk⟩:∃ k,j - i=k+1:=⟨j - i - 1,by omega⟩;rw [hk] at hst hzm ⊢;simp [Builtin.clear_,run_underlying hu,hz,hzm,hst]
       · exact hk.elim
     · exact hk.elim
   · exact hk.elim
 · exact hk.elim
end
end Go.Ab
namespace Go.Ab
open Go Go.RowKit
theorem xH {P:Program} (w:World) (t ty e:TypeId) (i:TypeInfo) (z:Value) (size bytes:Nat) (ht:P.underlying t=some (.slice e)) (hi:P.info? e=some i) (hz:i.zero=some z)
   (hsize:i.size=size) (hby:i.bytes=bytes) (hzs:z.cells.size=size) (g n cap:Nat) (xs:List Value) (hown:w.ownsRow 0 e size (.slice (some ⟨g,0,none⟩) n cap) n xs) (hn:n≤eN) (hb:bytes≤wide)
   {Av:Nat→Prop} {ys:List (List D)} {src:Value} (hy:VI w Av (.sl ys) src) (hys:∀ cs∈ys,cs.length=size) (hyl:ys.length≤eN) {v':Value} {w':World}
   (hrun:(Builtin.append_ #[t,t] ty #[.slice (some ⟨g,0,none⟩) n cap,src]).run P w=.ok v' w'):∀ j u,xs[j]?=some u→w'.cell? ((⟨g,0,none⟩:Addr).add j)=some u:=by
 obtain ⟨A,m,c,bA,rfl,hml,hrw,hnone,hsome⟩:=hy.flat hys;have hcells:∀ j u,xs[j]?=some u→w.cell? ((⟨g,0,none⟩:Addr).add j)=some u:=hown.cells (g:=g) rfl;unfold eN at hn hyl;unfold wide at hb;cases A with
 | none=>
   obtain ⟨rfl,rfl⟩:=hnone rfl;have hr:=gC (P:=P) (w:=w) 0 t ty e i size ht hi _ n xs hown 0;rw [hr] at hrun;cases hrun;exact hcells
 | some ad=>
   subst hsize;subst hby
   have hl:bA.length=m * i.size:=by rw [hrw.len,hml]
   have hbytes:(n+m) * i.bytes≤140737488355328:=by
    have:=zBd (show n+m≤4294967296 by omega) hb
    omega
   rcases hown.2 with ⟨hbad,_⟩|⟨g',cap',cur,hv,_,hg,hnc,hcm,hcs,htake⟩
   · cases hbad
   · have hgg:g'=g∧cap'=cap:=by simpa using hv.symm
     obtain ⟨rfl,rfl⟩:=hgg;by_cases hroom:n+m≤cap'
     · have hfit:n * i.size+bA.length≤cur.size:=by rw [hl,hcs,← zAv]; exact zAf _ hroom
       have hr:=run_append_room (P:=P) w t ty e i ht hi g' n cap' cur hg ad m c bA hl (hsome ad rfl) hrw.one hroom hfit;rw [hr] at hrun;cases hrun;intro j u hu;have hj:=(List.getElem?_eq_some_iff.1 hu).1;rw [hown.1] at hj;have hh:=setRow_heap w g' cur (cur.toList.take (n * i.size)++bA++cur.toList.drop (n * i.size+bA.length)).toArray e (0,0) hg;have hc:=hcells j u hu;rw [iA] at hc ⊢;unfold World.cell? at hc ⊢;simp only [hh,hg] at hc ⊢;have e1:(cur.toList.take (n * i.size)++bA++cur.toList.drop (n * i.size+bA.length)).toArray[j]?=some u:=by
        rw [List.getElem?_toArray,zAl,zAU (by rw [zAd,zBD]; omega),htake];exact hu
       simpa using e1
     · have hr:=run_append_grow (P:=P) w t ty e i z ht hi hz ⟨g',0,none⟩ n cap' xs hown.1 hcells ad m c bA hl (hsome ad rfl) (by omega) (by omega) (growslice_fits (by omega) hbytes);rw [hr] at hrun;cases hrun;intro j u hu;have hlt:=(Array.getElem?_eq_some_iff.1 hg).1;rw [World.cell?_of_block (w:=w) (by rw [eS]; first|exact heap_alloc_old w.drew _ hlt|exact heap_alloc_old _ _ _ hlt)];exact hcells j u hu
section
variable {E:Env} {cx:Cx} {tm:Tm} {S:ac} {nx:Nat} {a:Act} {w:World} {ρ:Nat→Option Value} {o:Oper} {K:Kt}
theorem R.addFr (h:R E cx tm S a w ρ) {m:Nat} {xs:List (List D)} (hn:lk S m=none) {u:Value} (hu:nmv ρ m=some u) (hv:VI w (AvS cx.G S ρ) (.sl xs) u):R E cx tm (ap [(m,some (.fr xs))] S) a w ρ:=by
 have lo:∀ k b,lk [(m,some (Blk.fr xs))] k=some b→k=m∧b=some (.fr xs):=by
  intro k b hk;rw [au] at hk;by_cases e:m=k
  · rw [if_pos e] at hk; cases hk; exact ⟨e.symm,rfl⟩
  · rw [if_neg e] at hk; simp [lk] at hk
 refine h.turn ⟨Fr.refl _ w,fun _ _ h=>h,fun k b hk hb=>?_,fun k k' b c x hk _ hb=>?_,fun hi k b hk=>?_⟩
 · obtain ⟨_,e⟩:=lo k _ hk; cases e; simp [de] at hb
 · obtain ⟨_,e⟩:=lo k _ hk; cases e; simp [de] at hb
 · obtain ⟨rfl,e⟩:=lo k _ hk;cases e;exact ⟨u,hu,hi _ _ hv⟩
theorem B2 (hty:dW E) {t:TypeId} {x y:Operand} (ho:o.op=.call { callee:=.builtin .append,args:=#[x,y],argTypes:=#[t,t] })
   {dx dy:D} (hx:ev E.gl tm x=some dx) (hy:ev E.gl tm y=some dy) (hk:sO E t S nx dx dy fun d fp S' nx'=>K fp (put o.dst d tm) S' nx'):Ok1 E o tm S nx K:=by
 unfold sO at hk;obtain ⟨td,htd,hk⟩:=br hk;split at hk
 · rename_i e hkind;obtain ⟨te,hte,hk⟩:=br hk;have hu:E.P.underlying t=some (.slice e):=by
    have:=hty.kind htd
    rw [hkind] at this;exact ci this
   obtain ⟨i,z,hi,hs,hby,hz,hpos,hzl,hzc,_⟩:=hty.info hte;have hzs:z.cells.size=te.size:=by have:=(dn (w:=default) (Av:=fun _=>False) (ρ:=fun _=>none) hzc).1.len; rw [hzl] at this; simpa using this.symm
   have hce:E.P.cellsOf e=te.size:=hty.cells hte;unfold HB at hk;split at hk
   · rename_i ys hys;obtain ⟨hyl,hwide,hcs,hk⟩:=hk;cases dx with
     | own m0=>
       simp only at hk;split at hk
       · rename_i e' xs hl;split at hk
         · rename_i hbb;simp only [zAE] at hbb;obtain ⟨hb1,hb2⟩:=hbb;obtain ⟨hxl,hk⟩:=hk;have hee:e=e':=zAI hb1;subst hee;have hnin:m0 ∉ nmD dy:=fun hin=>by rw [dH.2 hin] at hb2; cases hb2
           refine Ok1.val (fp:=⟨nx :: m0 :: nmD dy,nx :: m0 :: nmD dy⟩) (out:=[(nx,some (.fr (xs++ys))),(m0,some (.fr xs))]++bI S (nmD dy)) (nx':=nx+1) (d:=.own nx) (fun n h=>?_) (fun n h=>h) (Nat.le_succ _) (fun n h1 h2=>by simp; omega) (fun n=>?_) hk ?_
           · simp only [zAh,zBB,au] at h;by_cases e1:nx=n
             · simp [e1]
             · by_cases e2:m0=n
               · simp [e2]
               · rw [if_neg e1,if_neg e2,dY] at h;by_cases hin:n∈nmD dy
                 · simp [hin]
                 · rw [if_neg hin] at h; exact absurd rfl h
           · have key:∀ n,lk ((m0,Blk.fr xs) :: del m0 (frz (nmD dy) S)) n=lk (ap ([(m0,some (.fr xs))]++bI S (nmD dy)) S) n:=by
               intro n
               have:=s8 [(m0,some (.fr xs))] (bI S (nmD dy)) S (qy (nmD dy) S) n
               rw [← this];rfl
             exact oq key n
           · intro cx tm' S' a w ρ he hf h hfr;have hag:∀ m∈nmD dy,lk S' m=lk S m:=fun m hm=>hf m (by simp [hm]);have h':=h.frzs (S0:=S) (nmD dy) hag;have hl':lk (ap (bI S (nmD dy)) S') m0=some (.own e xs):=by
              rw [cl,dY,if_neg hnin];simp only;rw [hf m0 (by simp)];exact hl
             obtain ⟨v,us,hr,hown,hc⟩:=h'.st _ _ hl';have hvx:a.eval x=v:=by
              have:=(h'.eval ((he x (by simp [ho,Op.operands,Call.operands])).trans hx)).own_inv
              rw [dt hr (cJ hown)] at this;exact (zAb this).symm
             rw [hce] at hown hc;have hey:=h'.eval ((he y (by simp [ho,Op.operands,Call.operands])).trans hy);have hvi:=pj (S0:=S) h' (jN hag) hey hys;obtain ⟨v',w',bA,e1,e2,e3,e4,e5⟩:=s9 (P:=E.P) w 0 t o.type e i z te.size te.bytes hu hi hz hs hby hzs hpos v xs.length us hown (zAG _) hxl hwide hvi hcs hyl;have hold:∀ g n c,v=.slice (some ⟨g,0,none⟩) n c→∀ j u,us[j]?=some u→w'.cell? ((⟨g,0,none⟩:Addr).add j)=some u:=by
              rintro g n c rfl;have hnl:n=xs.length:=by
               rcases hown.2 with ⟨hbad,_⟩|⟨g',cap,cur,hv,_⟩
               · cases hbad
               · simpa using (by simpa using hv:_∧_∧_).2.1
              subst hnl;exact xH (P:=E.P) w t o.type e i z te.size te.bytes hu hi hz hs hby hzs g _ c us hown hxl hwide hvi hcs hyl e1
             have hbind:(ρ m0).bind be=be v:=by rw [hr]; rfl
             have hfresh:=hfr nx (zAL _) (Nat.lt_succ_self _);have hne:nx≠m0:=by rintro rfl; rw [hfresh] at hr; cases hr
             have h2:=h'.swap hfresh (b':=.own e (xs++ys)) (v:=v') hl' rfl (w':=w') (by show Fr (fun x=>(ρ m0).bind be=some x) w w'; rw [hbind]; exact e4) (fun x hx=>by
              show (ρ m0).bind be=some x∨w.heap.size≤x
              replace hx:be v'=some x:=hx
              rw [hbind];rcases e5 with e5|e5
              · exact .inl (by rw [← e5]; exact hx)
              · rw [e5] at hx;simp at hx;omega) (fun hi'=>⟨v',us++bA,aw _ _,by rw [hce,zAT]; exact e2,by rw [hce]; exact (hc.append e3).mono hi'⟩)
             have h1':v'.oneCell'=true:=by rcases e2.2 with ⟨rfl,_⟩|⟨g,cap,cur,rfl,_⟩ <;> rfl
             have hn0:(lk (ap [(nx,some (Blk.own e (xs++ys))),(m0,none)] (ap (bI S (nmD dy)) S')) nx).bind imB=some (xs++ys):=by rw [cl,au,if_pos rfl]; rfl
             have h3:=h2.frz1 hn0;have hm0:lk (ap [(nx,some (Blk.fr (xs++ys)))] (ap [(nx,some (Blk.own e (xs++ys))),(m0,none)] (ap (bI S (nmD dy)) S'))) m0=none:=by
              rw [cl,au,if_neg hne,cl,au,if_neg hne,au,if_pos rfl];rfl
             have hm1:nmv (aK ρ nx v') m0=some v:=(my (aL v' (Ne.symm hne))).trans (dt hr (cJ hown));obtain ⟨u1,us1,g1,g2,g3⟩:=h2.st nx (.own e (xs++ys)) (by rw [cl,au,if_pos rfl]);have hu1:us1=us++bA:=by
              have hgv:u1=v':=by rw [aw] at g1; exact (zAb g1).symm
              subst hgv;rw [hce,zAT] at g2;rcases g2.2 with ⟨hz1,hz2⟩|⟨g,cap,cur,q1,_,q2,_,_,_,q3⟩
              · rcases e2.2 with ⟨_,hz3⟩|⟨g',cap',cur',p1,_⟩
                · have z1:=g2.1;have z2:=e2.1;rw [hz2,zBi] at z1;rw [hz3,zBi] at z2;exact (List.eq_nil_of_length_eq_zero z1).trans (List.eq_nil_of_length_eq_zero z2).symm
                · rw [hz1] at p1; cases p1
              · rcases e2.2 with ⟨hz1,_⟩|⟨g',cap',cur',p1,_,p2,_,_,_,p3⟩
                · rw [q1] at hz1; cases hz1
                · rw [q1] at p1;simp at p1;obtain ⟨rfl,rfl⟩:=p1;rw [q2] at p2;simp at p2;subst p2;rw [← q3,← p3]
             subst hu1;rw [hce] at g3;have hpre:Rows (VI w' (AvS cx.G (ap [(nx,some (Blk.own e (xs++ys))),(m0,none)] (ap (bI S (nmD dy)) S')) (aK ρ nx v'))) te.size xs us:=by
              refine ⟨hc.len,hc.el,hc.one,fun p j cs d q1 q2=>?_⟩;have hp:=(List.getElem?_eq_some_iff.1 q1).1;obtain ⟨u2,r1,r2⟩:=g3.at_ p j cs d (by rw [zAU hp]; exact q1) q2;obtain ⟨u3,r3,_⟩:=hc.at_ p j cs d q1 q2;have hlt:=(List.getElem?_eq_some_iff.1 r3).1;rw [zAU hlt] at r1;exact ⟨u2,r1,r2⟩
             have havs:∀ y,AvS cx.G (ap [(nx,some (Blk.fr (xs++ys)))] (ap [(nx,some (Blk.own e (xs++ys))),(m0,none)] (ap (bI S (nmD dy)) S'))) (aK ρ nx v') y→AvS cx.G (ap [(nx,some (Blk.own e (xs++ys))),(m0,none)] (ap (bI S (nmD dy)) S')) (aK ρ nx v') y:=by
              rintro y (hy|⟨k,b,q1,q2,q3⟩)
              · exact .inl hy
              · rw [cl,au] at q1;by_cases e:nx=k
                · rw [if_pos e] at q1; simp at q1; subst q1; cases q2
                · rw [if_neg e] at q1;exact .inr ⟨k,b,q1,q2,q3⟩
             have hout:∀ y,be v=some y→¬ AvS cx.G (ap [(nx,some (Blk.fr (xs++ys)))] (ap [(nx,some (Blk.own e (xs++ys))),(m0,none)] (ap (bI S (nmD dy)) S'))) (aK ρ nx v') y:=by
              intro y hy hav;have hpre0:=h'.notAv hl' rfl (c:=.fr xs) rfl (x:=y) (by show (ρ m0).bind be=some y; rw [hbind]; exact hy)
              rcases hav with hy1|⟨k,b,q1,q2,q3⟩
              · exact hpre0 (.inl hy1)
              · rw [cl,au] at q1;by_cases e:nx=k
                · rw [if_pos e] at q1; simp at q1; subst q1; cases q2
                · rw [if_neg e] at q1;simp only [lk] at q1;rw [cl,au,if_neg e,au] at q1;by_cases e2:m0=k
                  · rw [if_pos e2] at q1; simp at q1
                  · rw [if_neg e2] at q1;simp only [lk] at q1;refine hpre0 (.inr ⟨k,b,?_,q2,?_⟩)
                    · rw [cl,au,if_neg e2];simpa [lk] using q1
                    · rw [aL v' (Ne.symm e)] at q3;exact q3
             have hvi2:VI w' (AvS cx.G (ap [(nx,some (Blk.fr (xs++ys)))] (ap [(nx,some (Blk.own e (xs++ys))),(m0,none)] (ap (bI S (nmD dy)) S'))) (aK ρ nx v')) (.sl xs) v:=by
              have hpre':=hpre.mono fun d u (hv:VI w' _ d u)=>hv.mono (w':=w') (fun _ _ _=>rfl) (zAL _) fun y _ hy=>havs y hy;rcases hown.2 with ⟨hv0,hn0'⟩|⟨g,cap,cur,hv0,_,hh,hnc,hcm,_,_⟩
              · have:xs=[]:=List.eq_nil_of_length_eq_zero hn0'
                subst this;rw [hv0];exact .sl0
              · subst hv0;have key:∀ (p j:Nat) (cs:List D) (d:D),xs[p]?=some cs→cs[j]?=some d→us[p * te.size+j]?=some (us.getD (p * te.size+j) undef)∧VI w' (AvS cx.G (ap [(nx,some (Blk.fr (xs++ys)))] (ap [(nx,some (Blk.own e (xs++ys))),(m0,none)] (ap (bI S (nmD dy)) S'))) (aK ρ nx v')) d (us.getD (p * te.size+j) undef):=by
                 intro p j cs d q1 q2;obtain ⟨u',r1,r2⟩:=hpre'.at_ p j cs d q1 q2
                 have:us.getD (p * te.size+j) undef=u':=by simp [List.getD,r1]
                 rw [this];exact ⟨r1,r2⟩
                refine .sl (sz:=te.size) (fun p j=>us.getD (p * te.size+j) undef) rfl hnc hcm (fun _=>zBh (Array.getElem?_eq_some_iff.1 hh).1 e4.size) (fun _=>hout g rfl) hc.el ?_ ?_ ?_
                · intro p j cs d q1 q2;exact hold g _ cap rfl _ _ (key p j cs d q1 q2).1
                · intro p j cs d q1 q2;exact hc.one _ (zAD (key p j cs d q1 q2).1)
                · intro p j cs d q1 q2;exact (key p j cs d q1 q2).2
             have h4:=h3.addFr hm0 hm1 hvi2;rw [← hvx] at e1;refine ⟨v',w',_,fN ho e1,h4.ext (fun _=>rfl) (fun n=>?_),.gr (.atom (.own (dt (aw _ _) (cJ e2)) h1')),fun n hne=>aL v' (by rintro rfl; exact hne ⟨zAL _,Nat.lt_succ_self _⟩)⟩;rw [kP];have ln:∀ k,lk ([]:Out) k=none:=fun _=>rfl;simp only [cl,au,ln];by_cases q1:nx=n
             · subst q1;simp [Ne.symm hne]
             · by_cases q2:m0=n
               · subst q2;simp [q1]
               · simp [q1,q2]
         · exact hk.elim
       · exact hk.elim
     | _=>exact hk.elim
   · exact hk.elim
 · exact hk.elim
end
end Go.Ab
namespace Go.Ab
open Go Go.RowKit
def d8 (ns:List Nat) (ρ:Nat→Option Value) (i:Nat):Option Value:=(ns[i]?).bind ρ
theorem f8 {ns:List Nat}:∀ {l:List Nat} {n:Nat},n∈kf ns l↔n∈l∧n ∉ ns
 | [],n=>by simp [kf]
 | m :: r,n=>by
   simp only [kf];split
   · rename_i h;have hm:=dH.1 h;rw [f8];constructor
     · rintro ⟨h1,h2⟩; exact ⟨by simp [h1],h2⟩
     · rintro ⟨h1,h2⟩;rcases List.mem_cons.1 h1 with rfl|h1
       · exact absurd hm h2
       · exact ⟨h1,h2⟩
   · rename_i h;have hm:m ∉ ns:=fun hin=>by rw [dH.2 hin] at h; cases h
     rw [List.mem_cons,f8,List.mem_cons];constructor
     · rintro (rfl|⟨h1,h2⟩)
       · exact ⟨.inl rfl,hm⟩
       · exact ⟨.inr h1,h2⟩
     · rintro ⟨rfl|h1,h2⟩
       · exact .inl rfl
       · exact .inr ⟨h1,h2⟩
theorem mC:∀ {c nx n:Nat},n∈bA nx c↔nx≤n∧n < nx+c
 | 0,nx,n=>by simp only [bA,List.not_mem_nil,false_iff]; omega
 | c+1,nx,n=>by
   simp only [bA,List.mem_cons,mC];omega
theorem tj:∀ (c nx:Nat),(bA nx c).length=c
 | 0,nx=>rfl
 | c+1,nx=>by simp [bA,tj c]
theorem pp:∀ {c nx j:Nat},j < c→(bA nx c)[j]?=some (nx+j)
 | 0,nx,j,h=>by omega
 | c+1,nx,j,h=>by
   cases j with
   | zero=>simp [bA]
   | succ j=>
     simp only [bA,List.getElem?_cons_succ];rw [pp (by omega)];congr 1
     omega
theorem Gl {ns:List Nat} {nx c j n:Nat} (h:(ns++bA nx c)[j]?=some n):n=mr ns nx j∧j < ns.length+c:=by
 have hj:j < (ns++bA nx c).length:=(List.getElem?_eq_some_iff.1 h).1;rw [zAT,tj] at hj;refine ⟨?_,hj⟩;unfold mr;by_cases hlt:j < ns.length
 · rw [zAU hlt] at h;rw [h]
 · rw [zAW (by omega),pp (by omega)] at h;rw [List.getElem?_eq_none (by omega)];simpa using h.symm
theorem tk (f:Nat→Nat) (S':ac):∀ (l:List Nat) (i:Nat) (n:Nat),(∀ (j k m:Nat),l[j]?=some m→l[k]?=some m→j=k) →
   (n ∉ l→lk (dr f S' l i) n=none)∧∀ j:Nat,l[j]?=some n→lk (dr f S' l i) n=some ((lk S' (i+j)).map (zm f))
 | [],i,n,_=>⟨fun _=>rfl,by simp⟩
 | m :: r,i,n,hd=>by
   have ih:=tk f S' r (i+1) n (fun j k m h1 h2=>by have:=hd (j+1) (k+1) m (by simpa using h1) (by simpa using h2); omega);simp only [dr,au];constructor
   · intro hn;have hmn:m≠n:=by rintro rfl; simp at hn
     rw [if_neg hmn];exact ih.1 (by simp at hn; exact hn.2)
   · intro j hj;cases j with
     | zero=>
       simp at hj;subst hj;rw [if_pos rfl];cases lk S' i <;> simp [Option.map]
     | succ j=>
       simp at hj;have hmn:m≠n:=by
        rintro rfl
        have:=hd 0 (j+1) m rfl (by simpa using hj)
        omega
       rw [if_neg hmn,ih.2 j hj];congr 3
       omega
theorem v6 (ns:List Nat):∀ (S:ac) (n:Nat),lk (oe ns S) n=if n∈ns then none else lk S n
 | [],n=>by simp [oe,lk]
 | (k,b) :: r,n=>by
   unfold oe;have ih:=v6 ns r n;split
   · rename_i h;rw [ih,au];have hk:=dH.1 h;by_cases e:k=n
     · subst e; simp [hk]
     · simp [e]
   · rename_i h;rw [au,au,ih];have hk:k ∉ ns:=fun hk=>by rw [dH.2 hk] at h; cases h
     by_cases e:k=n
     · subst e; simp [hk]
     · simp [e]
theorem DK (f:Nat→Nat) (S' T:ac):∀ (l:List Nat) (i:Nat) (n:Nat),(n∈l→lk T n=none)→lk (BE f S' T l i) n=match lk (dr f S' l i) n with
   | some o=>o
   | none=>lk T n
 | [],i,n,_=>by simp [BE,dr,lk]
 | m :: r,i,n,hT=>by
   have ih:=DK f S' T r (i+1) n fun h=>hT (by simp [h]);unfold BE dr;rw [au];by_cases hmn:m=n
   · subst hmn;rw [if_pos rfl];split
     · rename_i b hb;rw [au,if_pos rfl]
     · rename_i hb;split
       · rw [fj,if_pos rfl]
       · rename_i hmem;have hnr:m ∉ r:=fun h=>by rw [dH.2 h] at hmem; cases hmem
         rw [ih];have hnone:lk (dr f S' r (i+1)) m=none:=by
          have gen:∀ (l:List Nat) (k:Nat),m ∉ l→lk (dr f S' l k) m=none:=by
           intro l
           induction l with
           | nil=>intro k _; rfl
           | cons a q ihq=>
             intro k hk;simp only [List.mem_cons,not_or] at hk;rw [dr,au,if_neg (Ne.symm hk.1)];exact ihq _ hk.2
          exact gen _ _ hnr
         rw [hnone];exact hT (by simp)
   · rw [if_neg hmn];split
     · rw [au,if_neg hmn,ih]
     · split
       · rw [fj,if_neg (Ne.symm hmn),ih]
       · exact ih
theorem xI {f:Nat→Nat} {S':ac} {l:List Nat} {S:ac} (n:Nat):lk (apC f S' l S) n=lk (ap (dr f S' l 0) S) n:=by
 have h3:=v6 l S n;unfold apC;rw [DK f S' (oe l S) l 0 n fun h=>by rw [h3,if_pos h],cl];by_cases hn:n∈l
 · have gen:∀ (l:List Nat) (k:Nat),n∈l→lk (dr f S' l k) n≠none:=by
     intro l
     induction l with
     | nil=>intro k h; cases h
     | cons a q ihq=>
       intro k h;rw [dr,au];by_cases e:a=n
       · rw [if_pos e]; simp
       · rw [if_neg e];rcases List.mem_cons.1 h with h|h
         · exact absurd h.symm e
         · exact ihq _ h
   cases hc:lk (dr f S' l 0) n with
   | some o=>rfl
   | none=>exact absurd hc (gen l 0 hn)
 · rw [h3,if_neg hn];cases lk (dr f S' l 0) n <;> rfl
theorem zF {ns:List Nat} {S:ac}:∀ {l:List Nat} {i:Nat} {Sa:ac},nz ns S l i=some Sa →
   (∀ (j n:Nat),l[j]?=some n→∃ b b',lk S n=some b∧lE ns S b=some b'∧lk Sa (i+j)=some b')∧(∀ (t:Nat) (b':Blk),lk Sa t=some b'→∃ j n b,t=i+j∧l[j]?=some n∧lk S n=some b∧lE ns S b=some b')
 | [],i,Sa,h=>by simp [nz] at h; subst h; simp [lk]
 | n :: r,i,Sa,h=>by
   simp only [nz] at h;split at h
   · rename_i b hb;split at h
     · rename_i b' hb';split at h
       · rename_i q hq;cases h;obtain ⟨h1,h2⟩:=zF hq;constructor
         · intro j m hj;cases j with
           | zero=>
             simp at hj;subst hj;exact ⟨b,b',hb,hb',by simp [au]⟩
           | succ j=>
             obtain ⟨c,c',e1,e2,e3⟩:=h1 j m (by simpa using hj);refine ⟨c,c',e1,e2,?_⟩;rw [au,if_neg (by omega),← e3];congr 1
             omega
         · intro t c' ht;rw [au] at ht;by_cases e:i=t
           · rw [if_pos e] at ht;cases ht;exact ⟨0,n,b,by omega,rfl,hb,hb'⟩
           · rw [if_neg e] at ht;obtain ⟨j,m,c,e1,e2,e3,e4⟩:=h2 t c' ht;exact ⟨j+1,m,c,by omega,by simpa using e2,e3,e4⟩
       · cases h
     · cases h
   · cases h
theorem qC {ns:List Nat} {S:ac} {b b':Blk} (h:lE ns S b=some b'):de b'=de b:=by
 cases b <;> simp only [lE] at h
 · split at h <;> cases h; rfl
 · cases h; rfl
 · split at h <;> cases h; rfl
 · cases h; rfl
 · split at h <;> cases h; rfl
theorem xJ {ns:List Nat} {S:ac} {b b':Blk} (h:lE ns S b=some b') {o:Option Value} {x:Nat}:bk b' o x↔bk b o x:=by
 cases b <;> simp only [lE] at h
 · split at h <;> cases h; exact Iff.rfl
 · cases h; exact Iff.rfl
 · split at h <;> cases h; exact Iff.rfl
 · cases h; exact Iff.rfl
 · split at h <;> cases h; exact Iff.rfl
theorem su {f:Nat→Nat} {zs:List aE} {i:Nat} {xs:List (List D)}:(zs.map (Hz f))[i]?=some (.an xs)↔zs[i]?=some (.an xs):=by
 rw [zAO,Option.map_eq_some_iff];constructor
 · rintro ⟨z,hz,e⟩;cases z <;> simp [Hz] at e;rw [hz,e]
 · intro h;exact ⟨_,h,rfl⟩
theorem HK {f:Nat→Nat} {b:Blk} {o:Option Value} {x:Nat}:bk (zm f b) o x↔bk b o x:=by
 cases b <;> first|exact Iff.rfl|skip
 simp only [zm,bk,su]
theorem tl {zs:List aE} {t:Nat} (h:aE.nm t∈zs):t∈dL zs:=by
 induction zs with
 | nil=>cases h
 | cons z r ih=>
   rcases List.mem_cons.1 h with rfl|h2
   · simp [dL]
   · have:=ih h2
     cases z <;> simp [dL,this]
theorem xK {k:Nat} {l:List Nat}:ltB k l=true↔∀ n∈l,n < k:=by
 induction l with
 | nil=>simp [ltB]
 | cons m r ih=>
   simp only [ltB,zAE,ih,List.mem_cons];constructor
   · rintro ⟨h1,h2⟩ n (rfl|hn)
     · exact zAC h1
     · exact h2 n hn
   · intro h;exact ⟨Nat.ble_eq_true_of_le (h m (.inl rfl)),fun n hn=>h n (.inr hn)⟩
theorem Gm {k:Nat} {S:ac} (h:kC k S=true) {n:Nat} {b:Blk} (hl:lk S n=some b):∀ m∈cz b,m < k:=by
 induction S with
 | nil=>simp [lk] at hl
 | cons p r ih=>
   obtain ⟨m,c⟩:=p;simp only [kC,zAE] at h;rw [au] at hl;by_cases e:m=n
   · rw [if_pos e] at hl; cases hl; exact xK.1 h.1
   · rw [if_neg e] at hl; exact ih h.2 hl
theorem tn {ds:List D} {d:D} (h:d∈ds) {n:Nat} (hn:n∈nmA d):n∈j9 ds:=by
 induction ds with
 | nil=>cases h
 | cons e r ih=>
   simp only [j9,zAu];rcases List.mem_cons.1 h with rfl|h
   · exact .inl hn
   · exact .inr (ih h)
theorem zG {ds:List D} {d:D} (h:d∈ds) {n:Nat} (hn:n∈nmD d):n∈en ds:=by
 induction ds with
 | nil=>cases h
 | cons e r ih=>
   simp only [en,zAu];rcases List.mem_cons.1 h with rfl|h
   · exact .inl hn
   · exact .inr (ih h)
theorem pq {xs:List (List D)} {cs:List D} (h:cs∈xs) {n:Nat} (hn:n∈j9 cs):n∈mu xs:=by
 induction xs with
 | nil=>cases h
 | cons e r ih=>
   simp only [mu,zAu];rcases List.mem_cons.1 h with rfl|h
   · exact .inl hn
   · exact .inr (ih h)
theorem tp {S:ac} {l:List Nat} {n:Nat} (h:n∈l) {b:Blk} (hl:lk S n=some b) {m:Nat} (hm:m∈cz b):m∈bV S l:=by
 induction l with
 | nil=>cases h
 | cons e r ih=>
   simp only [bV];rcases List.mem_cons.1 h with rfl|h
   · rw [hl]; simp [hm]
   · split
     · simp [ih h]
     · exact ih h
structure ve (w:World) (Av Av':Nat→Prop) (ρ ρ':Nat→Option Value) (f:Nat→Nat) (k:Nat) (p:D→Prop):Prop where
 im:∀ d u,VI w Av d u→p d→VI w Av' d u
 nm:∀ t u,t < k→ρ t=some u→ρ' (f t)=some u
section tell
variable {w:World} {Av Av':Nat→Prop} {ρ ρ':Nat→Option Value} {f:Nat→Nat} {k:Nat} {p:D→Prop} (T:ve w Av Av' ρ ρ' f k p)
include T
theorem ve.nmv {t:Nat} {u:Value} (hk:t < k) (h:Go.Ab.nmv ρ t=some u):Go.Ab.nmv ρ' (f t)=some u:=by
 unfold Go.Ab.nmv at h ⊢;rw [Option.map_eq_some_iff] at h ⊢;obtain ⟨g,hg,e⟩:=h;exact ⟨g,T.nm _ _ hk hg,e⟩
theorem ve.va {d:D} {u:Value} (h:VA w Av ρ d u) (hk:∀ n∈nmA d,n < k) (hp:p d):VA w Av' ρ' (r7 f d) u:=by
 cases h with
 | im h=>
   have hr:r7 f d=d:=by cases h <;> rfl
   rw [hr];exact .im (T.im _ _ h hp)
 | own h h1=>exact .own (T.nmv (hk _ (by simp [nmA])) h) h1
 | bp h=>exact .bp (T.nm _ _ (hk _ (by simp [nmA])) h)
 | op h=>exact .op (T.nmv (hk _ (by simp [nmA])) h)
 | fn hl h=>
   refine .fn (by simpa using hl) fun i n u hn hu=>?_;simp only [zAO,Option.map_eq_some_iff] at hn;obtain ⟨m,hm,rfl⟩:=hn;obtain ⟨h1,h2⟩:=h i m u hm hu;exact ⟨T.nm _ _ (hk _ (by simp only [nmA]; exact zAD hm)) h1,h2⟩
 | vw h h1 h2 h3 h4=>exact .vw (T.nm _ _ (hk _ (by simp [nmA])) h) h1 h2 h3 h4
 | junk h1=>exact .junk h1
theorem ve.cells {ds:List D} {us:List Value} (h:∀ (i:Nat) (d:D) (u:Value),ds[i]?=some d→us[i]?=some u→VA w Av ρ d u) (hk:∀ n∈j9 ds,n < k) (hp:∀ d∈ds,p d) :
   ∀ (i:Nat) (d:D) (u:Value),(ds.map (r7 f))[i]?=some d→us[i]?=some u→VA w Av' ρ' d u:=by
 intro i d u hd hu;simp only [zAO,Option.map_eq_some_iff] at hd;obtain ⟨e,he,rfl⟩:=hd;have hm:=zAD he;exact T.va (h i e u he hu) (fun n hn=>hk n (tn hm hn)) (hp e hm)
theorem ve.vg {d:D} {u:Value} (h:VG w Av ρ d u) (hk:∀ n∈nmD d,n < k) (hp:(∀ ds,d=.agg ds→∀ e∈ds,p e)∧((∀ ds,d≠.agg ds)→p d)):VG w Av' ρ' (u6 f d) u:=by
 by_cases ha:∃ ds,d=.agg ds
 · obtain ⟨ds,rfl⟩:=ha;have core:∀ us:List Value,u=.agg us.toArray→ds.length=us.length→(∀ u∈us,u.oneCell'=true)→(∀ (i:Nat) (d:D) (u:Value),ds[i]?=some d→us[i]?=some u→VA w Av ρ d u)→VG w Av' ρ' (u6 f (.agg ds)) u:=by
    intro us hu hl h1 hr;subst hu;exact .agg (by simpa using hl) h1 (T.cells hr hk (hp.1 ds rfl))
   cases h with
   | atom h=>
     cases h with
     | im h=>cases h with|agg hl h1 hr=>exact core _ rfl hl h1 fun i d u a b=>.im (hr i d u a b)
   | agg hl h1 hr=>exact core _ rfl hl h1 hr
 · have hr:u6 f d=r7 f d:=by cases d <;> first|rfl|exact absurd ⟨_,rfl⟩ ha
   rw [hr];cases h with
   | atom h=>
     refine .atom (T.va h ?_ (hp.2 fun ds e=>ha ⟨ds,e⟩));intro n hn;refine hk n ?_;cases d <;> first|exact hn|exact absurd ⟨_,rfl⟩ ha|(simp [nmA] at hn)
   | agg=>exact absurd ⟨_,rfl⟩ ha
theorem ve.rows {sz:Nat} {xs:List (List D)} {us:List Value} (h:Rows (VA w Av ρ) sz xs us) (hk:∀ n∈mu xs,n < k) (hp:∀ cs∈xs,∀ d∈cs,p d):Rows (VA w Av' ρ') sz (xs.map fun cs=>cs.map (r7 f)) us:=by
 refine ⟨by rw [zAA]; exact h.len,fun cs hcs=>?_,h.one,fun i j cs d hc hd=>?_⟩
 · obtain ⟨cs0,h0,rfl⟩:=List.mem_map.1 hcs;rw [zAA]; exact h.el cs0 h0
 · simp only [zAO,Option.map_eq_some_iff] at hc;obtain ⟨cs0,h0,rfl⟩:=hc;simp only [zAO,Option.map_eq_some_iff] at hd;obtain ⟨d0,h1,rfl⟩:=hd;obtain ⟨u,e1,e2⟩:=h.at_ i j cs0 d0 h0 h1;have m0:=zAD h0;have m1:=zAD h1;exact ⟨u,e1,T.va e2 (fun n hn=>hk n (pq m0 (tn m1 hn))) (hp cs0 m0 d0 m1)⟩
def tq (p:D→Prop):Blk→Prop
 | .box _ cs=>∀ d∈cs,p d
 | .own _ xs=>∀ cs∈xs,∀ d∈cs,p d
 | .row _ xs=>∀ cs∈xs,∀ d∈cs,p d
 | .fr xs=>p (.sl xs)
 | .deep _ _ zs=>∀ z∈zs,az p z
theorem ve.sr {P:Program} {t:Nat} {b:Blk} (h:SR P w Av ρ t b) (ht:t < k) (hk:∀ n∈cz b,n < k) (hp:tq p b):SR P w Av' ρ' (f t) (zm f b):=by
 cases b with
 | box e cs=>
   obtain ⟨g,us,h0,hh,hl,h1,hc⟩:=h;exact ⟨g,us,T.nm _ _ ht h0,hh,by simpa using hl,h1,T.cells hc hk hp⟩
 | own e xs=>
   obtain ⟨u,us,h0,ho,hc⟩:=h;refine ⟨u,us,T.nm _ _ ht h0,ho,⟨hc.len,hc.el,hc.one,fun i j cs d a b=>?_⟩⟩;obtain ⟨v,e1,e2⟩:=hc.at_ i j cs d a b;exact ⟨v,e1,T.im _ _ e2 (hp cs (zAD a) d (zAD b))⟩
 | row e xs=>
   obtain ⟨u,us,h0,ho,hc⟩:=h;exact ⟨u,us,T.nm _ _ ht h0,by rw [zAA]; exact ho,T.rows hc hk hp⟩
 | fr xs=>
   obtain ⟨u,h0,hv⟩:=h;exact ⟨u,T.nmv ht h0,T.im _ _ hv hp⟩
 | deep e e2 zs=>
   obtain ⟨u,vs,us,h⟩:=h;refine ⟨u,vs,us,T.nm _ _ ht h.name,by rw [zAA]; exact h.lv,by rw [zAA]; exact h.lu,by rw [zAA]; exact h.own,h.one,fun i z x v h1 h2 h3=>?_,fun i xs v x h1=>h.apart i xs v x (su.1 h1),fun i j xs ys v v' x h1 h2=>h.dis i j xs ys v v' x (su.1 h1) (su.1 h2)⟩;rw [zAO,Option.map_eq_some_iff] at h1;obtain ⟨z0,h1,rfl⟩:=h1;have hm:=zAD h1;have hs:=h.slot i z0 x v h1 h2 h3;cases z0 with
   | an xs=>
     obtain ⟨e1,ys,e2,e3⟩:=hs;refine ⟨e1,ys,e2,⟨e3.len,e3.el,e3.one,fun i j cs d a b=>?_⟩⟩;obtain ⟨v',f1,f2⟩:=e3.at_ i j cs d a b;exact ⟨v',f1,T.im _ _ f2 (hp _ hm cs (zAD a) d (zAD b))⟩
   | nm t=>exact T.nmv (hk t (tl hm)) hs
   | lost=>trivial
def tr (p:D→Prop):D→Prop
 | .tup ds=>∀ d∈ds,(∀ es,d=.agg es→∀ e∈es,p e)∧((∀ es,d≠.agg es)→p d)
 | d=>(∀ es,d=.agg es→∀ e∈es,p e)∧((∀ es,d≠.agg es)→p d)
theorem ve.vr {d:D} {u:Value} (h:VR w Av ρ d u) (hk:∀ n∈nmR d,n < k) (hp:tr p d):VR w Av' ρ' (xk f d) u:=by
 by_cases ht:∃ ds,d=.tup ds
 · obtain ⟨ds,rfl⟩:=ht;cases h with
   | gr h=>cases h with|atom h=>cases h with|im h=>cases h
   | tup hl h=>
     rename_i us;refine .tup (by simpa using hl) fun i d u hd hu=>?_;simp only [zAO,Option.map_eq_some_iff] at hd;obtain ⟨e,he,rfl⟩:=hd;have hm:=zAD he;exact T.vg (h i e u he hu) (fun n hn=>hk n (zG hm hn)) (hp e hm)
 · have hr:xk f d=u6 f d:=by cases d <;> first|rfl|exact absurd ⟨_,rfl⟩ ht
   rw [hr];cases h with
   | gr h=>
     refine .gr (T.vg h ?_ ?_)
     · intro n hn;refine hk n ?_;cases d <;> first|exact hn|exact absurd ⟨_,rfl⟩ ht
     · cases d <;> first|exact hp|exact absurd ⟨_,rfl⟩ ht
   | tup=>exact absurd ⟨_,rfl⟩ ht
end tell
end Go.Ab
namespace Go.Ab
open Go Go.RowKit
theorem EG {d:D} (h:ay d):tr aj d:=by
 have g:∀ d,aD d→(∀ es,d=.agg es→∀ e∈es,aj e)∧((∀ es,d≠.agg es)→aj d):=by
  intro d h;cases d <;> first
   | (refine ⟨?_,fun hn=>absurd rfl (hn _)⟩; intro es he; cases he; exact h)
   | (refine ⟨fun es he=>(by cases he),fun _=>h⟩)
 cases d <;> first|exact fun d hd=>g d (h d hd)|exact g _ h
theorem EH {b:Blk} (h:aG b):tq aj b:=by
 cases b <;> exact h
theorem xL (d:D):tr (fun _=>True) d:=by
 cases d <;> simp [tr]
theorem DM (b:Blk):tq (fun _=>True) b:=by
 cases b <;> simp [tq];intro z _;cases z <;> simp [az]
section
variable {E:Env} {cx:Cx} {tm:Tm} {S S0:ac} {nx:Nat} {a:Act} {w:World} {ρ:Nat→Option Value} {o:Oper} {K:Kt} {ns:List Nat}
theorem xM (h:R E cx tm S a w ρ) {d d':D} {u:Value} (hS:∀ t∈nmA d,t ∉ ns→∀ xs,(lk S0 t).bind imB=some xs→lk S t=some (.fr xs))
   (hv:VA w (AvS cx.G S ρ) ρ d u) (ha:od ns S0 d=some d'):VA w (AvS cx.G S ρ) (d8 ns ρ) d' u∧∀ ds,d'≠.agg ds:=by
 have imm:(∀ t∈nmA d,t ∉ ns)→cR S0 d=some d'→VA w (AvS cx.G S ρ) (d8 ns ρ) d' u∧∀ ds,d'≠.agg ds:=by
  intro hn hi;obtain ⟨h1,h2⟩:=xq (S0:=S0) h (fun t ht=>hS t ht (hn t ht)) hv hi;exact ⟨.im h1,h2⟩
 cases d with
 | own t=>
   simp only [od] at ha;split at ha
   · rename_i i hp;cases ha;cases hv with
     | im h=>cases h
     | own h h1=>exact ⟨.own ((my (by simp [d8,eR hp])).trans h) h1,by simp⟩
   · rename_i hp;exact imm (fun t ht=>by simp [nmA] at ht; subst ht; exact oh hp) ha
 | bp t off=>
   simp only [od] at ha;split at ha
   · rename_i i hp;cases ha;cases hv with
     | im h=>cases h
     | bp h=>exact ⟨.bp (by simp [d8,eR hp,h]),by simp⟩
   · cases ha
 | fn f cs=>
   simp only [od] at ha;split at ha
   · rename_i qs hq;cases ha;obtain ⟨q1,q2⟩:=ol hq;refine ⟨?_,by simp⟩;cases hv with
     | im h=>
       cases h
       have:qs=[]:=List.eq_nil_of_length_eq_zero (by rw [q1]; rfl)
       subst this;exact .fn (us:=[]) rfl (by simp)
     | fn hl h=>
       refine .fn (by rw [q1,hl]) fun i m u hm hu=>?_;have hi:i < cs.length:=by rw [← q1]; exact (List.getElem?_eq_some_iff.1 hm).1
       obtain ⟨h1,h2⟩:=h i cs[i] u (zAB hi) hu;refine ⟨?_,h2⟩;simp only [d8,q2 i cs[i] m (zAB hi) hm,Option.bind_some];exact h1
   · cases ha
 | op t=>simp [od,cR] at ha
 | agg=>simp [od,cR] at ha
 | tup=>simp [od,cR] at ha
 | junk=>simp [od,cR] at ha
 | vw=>simp [od,cR] at ha
 | b x=>exact imm (by simp [nmA]) ha
 | k x=>exact imm (by simp [nmA]) ha
 | s x=>exact imm (by simp [nmA]) ha
 | v x=>exact imm (by simp [nmA]) ha
 | nil=>exact imm (by simp [nmA]) ha
 | sl x=>exact imm (by simp [nmA]) ha
 | ep x=>exact imm (by simp [nmA]) ha
theorem tu (h:R E cx tm S a w ρ):∀ {ds ds':List D} {us:List Value},(∀ t∈j9 ds,t ∉ ns→∀ xs,(lk S0 t).bind imB=some xs→lk S t=some (.fr xs)) →
   ds.length=us.length→(∀ (i:Nat) (d:D) (u:Value),ds[i]?=some d→us[i]?=some u→VA w (AvS cx.G S ρ) ρ d u)→ke ns S0 ds=some ds' →
   ds'.length=us.length∧∀ (i:Nat) (d:D) (u:Value),ds'[i]?=some d→us[i]?=some u→VA w (AvS cx.G S ρ) (d8 ns ρ) d u
 | [],ds',us,_,hl,_,hi=>by simp only [ke,zAV] at hi; subst hi; exact ⟨by simpa using hl,by simp⟩
 | d :: r,ds',[],_,hl,_,_=>by simp at hl
 | d :: r,ds',u :: q,hS,hl,hv,hi=>by
   simp only [ke] at hi;split at hi
   · rename_i d1 hd1;split at hi
     · rename_i r1 hr1;cases hi;have h1:=xM (S0:=S0) h (fun t ht=>hS t (by simp [j9,ht])) (hv 0 d u rfl rfl) hd1;have h2:=tu h (us:=q) (fun t ht=>hS t (by simp [j9,ht])) (by simpa using hl) (fun i d u p q=>hv (i+1) d u (by simpa using p) (by simpa using q)) hr1;refine ⟨by simp [h2.1],fun i d' u' p q=>?_⟩;cases i with
       | zero=>simp at p q; subst p q; exact h1.1
       | succ i=>exact h2.2 i d' u' (by simpa using p) (by simpa using q)
     · cases hi
   · cases hi
theorem HL (h:R E cx tm S a w ρ) {d d':D} {u:Value} (hS:∀ t∈nmD d,t ∉ ns→∀ xs,(lk S0 t).bind imB=some xs→lk S t=some (.fr xs))
   (hv:VR w (AvS cx.G S ρ) ρ d u) (hi:zo ns S0 d=some d'):VG w (AvS cx.G S ρ) (d8 ns ρ) d' u:=by
 by_cases ha:∃ ds,d=.agg ds
 · obtain ⟨ds,rfl⟩:=ha;simp only [zo] at hi;split at hi
   · rename_i ds' hds;cases hi;obtain ⟨us,rfl,hl,h1,hr⟩:=hv.agg_inv;obtain ⟨e1,e2⟩:=tu (S0:=S0) h hS hl hr hds;exact .agg e1 h1 e2
   · cases hi
 · have hd:zo ns S0 d=od ns S0 d:=by cases d <;> first|rfl|exact absurd ⟨_,rfl⟩ ha
   rw [hd] at hi;cases hv with
   | gr hv=>
     cases hv with
     | atom hv=>
       refine .atom (xM (S0:=S0) h ?_ hv hi).1;intro t ht;refine hS t ?_;cases d <;> first|exact ht|exact absurd ⟨_,rfl⟩ ha|(simp [nmA] at ht)
     | agg=>exact absurd ⟨_,rfl⟩ ha
   | tup=>simp [od,cR] at hi
theorem v7:∀ {ds cds:List D},aDs ns S ds=some cds→cds.length=ds.length∧∀ (i:Nat) (d d':D),ds[i]?=some d→cds[i]?=some d'→zo ns S d=some d'
 | [],cds,h=>by simp [aDs] at h; subst h; simp
 | d :: r,cds,h=>by
   simp only [aDs] at h;split at h
   · rename_i d1 hd1;split at h
     · rename_i r1 hr1;cases h;obtain ⟨h1,h2⟩:=v7 hr1;refine ⟨by simp [h1],fun i e e' p q=>?_⟩;cases i with
       | zero=>simp at p q; subst p q; exact hd1
       | succ i=>exact h2 i e e' (by simpa using p) (by simpa using q)
     · cases h
   · cases h
theorem rk:∀ {xs xs':List (List D)},o9 ns S xs=some xs'→xs'.length=xs.length∧∀ (i:Nat) (cs cs':List D),xs[i]?=some cs→xs'[i]?=some cs'→ke ns S cs=some cs'
 | [],xs',h=>by simp [o9] at h; subst h; simp
 | d :: r,xs',h=>by
   simp only [o9] at h;split at h
   · rename_i d1 hd1;split at h
     · rename_i r1 hr1;cases h;obtain ⟨h1,h2⟩:=rk hr1;refine ⟨by simp [h1],fun i e e' p q=>?_⟩;cases i with
       | zero=>simp at p q; subst p q; exact hd1
       | succ i=>exact h2 i e e' (by simpa using p) (by simpa using q)
     · cases h
   · cases h
theorem qD:∀ {cs cs':List D},ke ns S cs=some cs'→cs'.length=cs.length
 | [],cs',h=>by simp [ke] at h; subst h; rfl
 | d :: r,cs',h=>by
   simp only [ke] at h;split at h
   · split at h
     · rename_i hr;cases h;simp [qD hr]
     · cases h
   · cases h
theorem HM (h:R E cx tm S a w ρ) {n i:Nat} {b b':Blk} (hS:∀ t∈cz b,t ∉ ns→∀ xs,(lk S0 t).bind imB=some xs→lk S t=some (.fr xs)) (hl:lk S n=some b) (hn:ns[i]?=some n) (ha:lE ns S0 b=some b') :
   SR E.P w (AvS cx.G S ρ) (d8 ns ρ) i b':=by
 have hρ:d8 ns ρ i=ρ n:=by simp [d8,hn]
 cases b with
 | box e cs=>
   simp only [lE] at ha;split at ha
   · rename_i cs' hcs;cases ha;obtain ⟨g,us,h0,hh,hlen,h1,hc⟩:=h.st _ _ hl;obtain ⟨e1,e2⟩:=tu (S0:=S0) h hS hlen hc hcs;exact ⟨g,us,by rw [hρ]; exact h0,hh,e1,h1,e2⟩
   · cases ha
 | own e xs=>
   simp only [lE,zAV] at ha;subst ha;obtain ⟨u,us,h0,ho,hc⟩:=h.st _ _ hl;exact ⟨u,us,by rw [hρ]; exact h0,ho,hc⟩
 | row e xs=>
   simp only [lE] at ha;split at ha
   · rename_i xs' hxs;cases ha;obtain ⟨u,us,h0,ho,hc⟩:=h.st _ _ hl;obtain ⟨q1,q2⟩:=rk hxs;refine ⟨u,us,by rw [hρ]; exact h0,by rw [q1]; exact ho,⟨by rw [q1]; exact hc.len,fun cs hcs=>?_,hc.one,fun i' j cs d hcs hd=>?_⟩⟩
     · obtain ⟨k,hk⟩:=List.mem_iff_getElem?.1 hcs;have hlt:k < xs.length:=by rw [← q1]; exact (List.getElem?_eq_some_iff.1 hk).1
       rw [qD (q2 k _ cs (zAB hlt) hk)];exact hc.el _ (zAX hlt)
     · have hlt:i' < xs.length:=by rw [← q1]; exact (List.getElem?_eq_some_iff.1 hcs).1
       have hx:xs[i']?=some xs[i']:=zAB hlt;have has:=q2 i' _ cs hx hcs;have hjl:j < xs[i'].length:=by rw [← qD has]; exact (List.getElem?_eq_some_iff.1 hd).1
       obtain ⟨u0,e1,e2⟩:=hc.at_ i' j xs[i'] _ hx (zAB hjl);refine ⟨u0,e1,?_⟩;have one:∀ {cs cs':List D},ke ns S0 cs=some cs'→∀ (j:Nat) (d d':D),cs[j]?=some d→cs'[j]?=some d'→od ns S0 d=some d':=by
        intro cs
        induction cs with
        | nil=>intro cs' h j d d' p; simp at p
        | cons c r ih=>
          intro cs' h j d d' p q;simp only [ke] at h;split at h
          · rename_i c1 hc1;split at h
            · rename_i r1 hr1;cases h;cases j with
              | zero=>simp at p q; subst p q; exact hc1
              | succ j=>exact ih hr1 j d d' (by simpa using p) (by simpa using q)
            · cases h
          · cases h
       have ha:=one has j _ d (zAB hjl) hd;exact (xM (S0:=S0) h (fun t ht=>hS t (by simp only [cz]; exact pq (zAX hlt) (tn (zAX hjl) ht))) e2 ha).1
   · cases ha
 | fr xs=>
   simp only [lE,zAV] at ha;subst ha;obtain ⟨u,h0,hv⟩:=h.st _ _ hl;exact ⟨u,(my hρ).trans h0,hv⟩
 | deep e e2 zs=>
   simp only [lE] at ha;split at ha
   · rename_i ys hz;cases ha;obtain ⟨u,vs,us,hd⟩:=h.st _ _ hl;obtain ⟨_,z2⟩:=ss hz;refine ⟨u,vs,us,by rw [hρ]; exact hd.name,hd.lv,hd.lu,hd.own,hd.one,fun i z x v h1 h2 h3=>?_,hd.apart,hd.dis⟩;obtain ⟨xs,rfl,_⟩:=z2 i z h1;exact hd.slot i _ x v h1 h2 h3
   · cases ha
theorem xN {f:FuncId} {args:Array Value} (hc:kN E.P f):(callFunc f args).run E.P w=.ok (.enter f args) w:=by
 obtain ⟨fn,h1,h2,h3⟩:=hc;have n1 : fn.name ≠ "runtime.NumGoroutine" := by simpa using h3
 have n2:fn.body≠none:=by intro e; rw [e] at h2; cases h2
 simp [callFunc,run_program,h1,n1,n2]
def v8 (sm:List Nat):Out→Out
 | []=>[]
 | (n,o) :: r=>match kA n sm with
   | true=>v8 sm r
   | false=>(n,o) :: v8 sm r
theorem mD (sm:List Nat):∀ (out:Out) (n:Nat),lk (v8 sm out) n=if n∈sm then none else lk out n
 | [],n=>by simp [v8,lk]
 | (k,b) :: r,n=>by
   unfold v8;have ih:=mD sm r n;split
   · rename_i h;rw [ih,au];have hk:=dH.1 h;by_cases e:k=n
     · subst e; simp [hk]
     · simp [e]
   · rename_i h;rw [au,au,ih];have hk:k ∉ sm:=fun hk=>by rw [dH.2 hk] at h; cases h
     by_cases e:k=n
     · subst e; simp [hk]
     · simp [e]
theorem nG.less {E:Env} {o:Oper} {tm:Tm} {S:ac} {fp:List Nat} {nx nx':Nat} {d:D} {out:Out} (h:nG E o tm S fp nx nx' d out) {sm:List Nat} (hs:∀ n∈sm,n∈fp∧lk (ap out S) n=lk S n):nG E o tm S fp nx nx' d (v8 sm out):=by
 intro cx tm' S' a w ρ Q h1 h2 h3 h4 h5;refine Oper.wp_mono (fun a' w' h0=>?_) (h cx tm' S' a w ρ Q h1 h2 h3 h4 h5);obtain ⟨ρ',h6,h7⟩:=h0;refine ⟨ρ',h6.ext (fun _=>rfl) fun n=>?_,h7⟩;rw [cl,cl,mD];by_cases hin:n∈sm
 · rw [if_pos hin];obtain ⟨q1,q2⟩:=hs n hin;have q3:=h3 n q1;rw [cl] at q2;cases hc:lk out n with
   | none=>rfl
   | some x=>rw [hc] at q2; simp only at q2 ⊢; rw [q2,q3]
 · rw [if_neg hin]
theorem wa {S2 S:ac}:∀ {sm:List Nat},FX S2 S sm→∀ n∈sm,lk S2 n=lk S n
 | [],_,n,h=>by cases h
 | k :: r,hs,n,h=>by
   rcases List.mem_cons.1 h with rfl|h
   · exact hs.1
   · exact wa hs.2 n h
theorem zH {ns:List Nat}:∀ {sm:List Nat},HA ns sm=true→∀ n∈sm,n∈ns
 | [],_,n,h=>by cases h
 | k :: r,hs,n,h=>by
   simp only [HA,zAE] at hs;rcases List.mem_cons.1 h with rfl|h
   · exact dH.1 hs.1
   · exact zH hs.2 n h
theorem DN {f:FuncId} {ds:List D} (hrun:∀ (cx:Cx) (tm':Tm) (S':ac) (a:Act) (w:World) (ρ:Nat→Option Value),(∀ x∈o.op.operands,ev E.gl tm' x=ev E.gl tm x)→R E cx tm' S' a w ρ →
     ∃ vs:List Value,(execOp a.eval o).run E.P w=(callFunc f vs.toArray).run E.P w∧ds.length=vs.length∧∀ (i:Nat) (d:D) (u:Value),ds[i]?=some d→vs[i]?=some u→∀ S1,(∃ S2,S2=S1∧R E cx tm' S1 a w ρ)→VR w (AvS cx.G S1 ρ) ρ d u)
   (hk:zp E f ds S nx fun d fp S' nx'=>K fp (put o.dst d tm) S' nx'):Ok1 E o tm S nx K:=by
 obtain ⟨ns,cds,Sa,d,S',c,C,hk⟩:=hk;obtain ⟨hst1,hst2⟩:=zF C.st;obtain ⟨ha1,ha2⟩:=v7 C.ar;obtain ⟨hcall,hcon⟩:=C.con;have hdom:=C.dom;simp only [zAE] at hdom;obtain ⟨hdom1,hdom2⟩:=hdom;have hresn:=xK.1 hdom1;have key:∀ (frz:Bool) (p:D→Prop),(frz=true→p=fun _=>True)→(frz=false→p=aj)→tr p d→(∀ i b,lk S' i=some b→tq p b) →
    nG E o tm S (en ds++bV S ns++ns++bA nx c) nx (nx+c) (xk (mr ns nx) d) (dr (mr ns nx) S' (ns++bA nx c) 0++(if frz then bI S (kD ns ds S) else [])):=by
  intro fz p hpt hpf hpd hpb cx tm' S2 a w ρ Q hd he hf h hfresh;have hag:∀ n∈kD ns ds S,lk S2 n=lk S n:=by
   intro n hn
   have:=(f8.1 hn).1
   refine hf n ?_;simp only [zAu] at this ⊢;exact .inl (.inl this)
  have hag2:∀ n∈ns,lk S2 n=lk S n:=fun n hn=>hf n (by simp [hn]);have h1:=h.frzs (S0:=S) (kD ns ds S) hag;obtain ⟨vs,hex,hlen,hvs⟩:=hrun cx tm' S2 a w ρ he h;have hS1:∀ t,t∈en ds++bV S ns→t ∉ ns→∀ xs,(lk S t).bind imB=some xs→lk (ap (bI S (kD ns ds S)) S2) t=some (.fr xs):=
   fun t ht hn=>jN hag t (f8.2 ⟨ht,hn⟩)
  have hlns:∀ n∈ns,lk (ap (bI S (kD ns ds S)) S2) n=lk S n:=by
   intro n hn;rw [cl,dY,if_neg (show ¬ n∈kD ns ds S from fun hin=>(f8.1 hin).2 hn)]
   exact hag2 n hn
  let S1:=ap (bI S (kD ns ds S)) S2
  let ρc:=d8 ns ρ
  let Gc:Nat→Prop:=fun x=>AvS cx.G S1 ρ x∧¬ eH Sa ρc x
  have heldc:∀ x,eH Sa ρc x→∃ n b,n∈ns∧lk S n=some b∧lk S1 n=some b∧de b=true∧bk b (ρ n) x:=by
   rintro x ⟨t,b',hl,hv,hx⟩;obtain ⟨j,n,b,rfl,e2,e3,e4⟩:=hst2 t b' hl;have hn:=zAD e2;refine ⟨n,b,hn,e3,by show lk S1 n=_; rw [hlns n hn]; exact e3,by rw [← qC e4]; exact hv,?_⟩
   have:ρc (0+j)=ρ n:=by simp [ρc,d8,e2]
   rw [this] at hx;exact (xJ e4).1 hx
  have heldc1:∀ x,eH Sa ρc x→eH S1 ρ x:=fun x hx=>let ⟨n,b,_,_,e3,e4,e5⟩:=heldc x hx; ⟨n,b,e3,e4,e5⟩
  have hav:AvS Gc Sa ρc=AvS cx.G S1 ρ:=by
   funext x
   apply propext;constructor
   · rintro (⟨h,_⟩|h)
     · exact h
     · exact .inr (heldc1 x h)
   · intro h;by_cases hh:eH Sa ρc x
     · exact .inr hh
     · exact .inl ⟨h,hh⟩
  have hcx:=hcon w vs ρc Gc (by rw [ha1,hlen]) (fun x hx=>by
     rcases hx.1 with hg|hh
     · exact zBh (h.g x hg) h.fr.size
     · exact h1.held_lt hh) (fun x hx=>hx.2)
   (fun i cd u hcd hu=>by
    have hil:i < ds.length:=by rw [← ha1]; exact (List.getElem?_eq_some_iff.1 hcd).1
    have hdi:ds[i]?=some ds[i]:=zAB hil;rw [hav];exact HL (S0:=S) h1 (fun t ht=>hS1 t (zAu.2 (.inl (zG (zAX hil) ht)))) (hvs i _ u hdi hu _ ⟨_,rfl,h1⟩) (ha2 i _ cd hdi hcd))
   (fun t b' hl=>by
    obtain ⟨j,n,b,rfl,e2,e3,e4⟩:=hst2 t b' hl;have hn:=zAD e2;rw [hav];exact HM (S0:=S) h1 (fun t ht=>hS1 t (zAu.2 (.inr (tp hn e3 ht)))) (by rw [hlns n hn]; exact e3) (by simpa using e2) e4)
   (fun t t' b b' x l1 l2 v1 v2 x1 x2=>by
    obtain ⟨j,n,c1,rfl,e2,e3,e4⟩:=hst2 t b l1;obtain ⟨j',n',c2,rfl,f2,f3,f4⟩:=hst2 t' b' l2;have q1:ρc (0+j)=ρ n:=by simp [ρc,d8,e2]
    have q2:ρc (0+j')=ρ n':=by simp [ρc,d8,f2]
    rw [q1] at x1;rw [q2] at x2
    have:=h1.dis n n' c1 c2 x (by rw [hlns n (zAD e2)]; exact e3) (by rw [hlns n' (zAD f2)]; exact f3) (by rw [← qC e4]; exact v1) (by rw [← qC f4]; exact v2) ((xJ e4).1 x1) ((xJ f4).1 x2)
    subst this;rw [lH C.nd j j' n e2 f2])
   (fun t ht=>by simp [ρc,d8,List.getElem?_eq_none ht])
   (fun g cs hg=>by rw [hav]; exact h1.gl g cs hg)
  unfold Oper.wp;rw [hex,xN hcall];simp only [Oper.upon];refine hcx.mono fun e w2 hpost=>?_;obtain ⟨v,ρr,rfl,hvr,hsr,hdisr,hnewr,hkeep,hfrr⟩:=hpost;simp only
  let f:=mr ns nx
  let ρ2:Nat→Option Value:=fun n=>if nx≤n∧n < nx+c then ρr (ns.length+(n - nx)) else match g7 ns n with|some j=>ρr j|none=>ρ n
  have hnamed:∀ n∈ns,∃ u,ρ n=some u:=by
   intro n hn;obtain ⟨j,hj⟩:=List.mem_iff_getElem?.1 hn;obtain ⟨b,b',e1,e2,e3⟩:=hst1 j n hj;exact h1.named (by rw [hlns n hn]; exact e1)
  have hnsout:∀ n∈ns,¬ (nx≤n∧n < nx+c):=by
   intro n hn hh;obtain ⟨u,hu⟩:=hnamed n hn;rw [hfresh n hh.1 hh.2] at hu;cases hu
  have hnew:∀ t u,ρ t=some u→¬ (nx≤t∧t < nx+c):=by
   intro t u ht hh;rw [hfresh t hh.1 hh.2] at ht;cases ht
  have hpos:∀ j (hj:j < ns.length),g7 ns ns[j]=some j:=by
   intro j hj;cases hp:g7 ns ns[j] with
   | none=>exact absurd (zAX hj) (oh hp)
   | some i=>rw [lH C.nd i j _ (eR hp) (zAB hj)]
  have hkeep2:∀ j (hj:j < ns.length) u,ρ ns[j]=some u→∃ u',ρr j=some u'∧Kp u u':=by
   intro j hj u hu;exact hkeep j u hj (by simp [ρc,d8,hj,hu])
  have hold:∀ t u,ρ t=some u→∃ u',ρ2 t=some u'∧Kp u u':=by
   intro t u ht;simp only [ρ2,if_neg (hnew t u ht)];cases hp:g7 ns t with
   | none=>exact ⟨u,ht,.refl u⟩
   | some j=>
     have hj:=eR hp;obtain ⟨hlt,e⟩:=List.getElem?_eq_some_iff.1 hj;exact hkeep2 j hlt u (by rw [e]; exact ht)
  have hsame:∀ t u,t ∉ ns→ρ t=some u→ρ2 t=some u:=by
   intro t u hn ht;simp only [ρ2,if_neg (hnew t u ht)];cases hp:g7 ns t with
   | none=>exact ht
   | some j=>exact absurd (zAD (eR hp)) hn
  have hnm:∀ t u,t < ns.length+c→ρr t=some u→ρ2 (f t)=some u:=by
   intro t u ht hu;by_cases hlt:t < ns.length
   · have hft:f t=ns[t]:=by simp [f,mr,hlt]
     rw [hft];simp only [ρ2,if_neg (hnsout _ (zAX hlt)),hpos t hlt];exact hu
   · have hft:f t=nx+(t - ns.length):=by simp [f,mr,List.getElem?_eq_none (Nat.le_of_not_lt hlt)]
     have hin:nx≤f t∧f t < nx+c:=by rw [hft]; omega
     simp only [ρ2,if_pos hin];rw [hft]
     have:ns.length+(nx+(t - ns.length) - nx)=t:=by omega
     rw [this];exact hu
  have hinj:∀ (j k m:Nat),(ns++bA nx c)[j]?=some m→(ns++bA nx c)[k]?=some m→j=k:=by
   intro j k m hj hk;by_cases h1:j < ns.length <;> by_cases h2:k < ns.length
   · rw [zAU h1] at hj;rw [zAU h2] at hk;exact lH C.nd j k m hj hk
   · rw [zAU h1] at hj;rw [zAW (by omega)] at hk;exact absurd (mC.1 (zAD hk)) (hnsout m (zAD hj))
   · rw [zAU h2] at hk;rw [zAW (by omega)] at hj;exact absurd (mC.1 (zAD hj)) (hnsout m (zAD hk))
   · rw [zAW (by omega)] at hj hk;have hj':=(List.getElem?_eq_some_iff.1 hj).1;have hk':=(List.getElem?_eq_some_iff.1 hk).1;rw [tj] at hj' hk';rw [pp hj'] at hj;rw [pp hk'] at hk;simp at hj hk;omega
  let out:=dr f S' (ns++bA nx c) 0
  have hlk:=fun n=>tk f S' (ns++bA nx c) 0 n hinj;have hat:∀ n b,lk out n=some (some b)→∃ i b0,n=f i∧i < ns.length+c∧lk S' i=some b0∧b=zm f b0∧∀ u,ρr i=some u→ρ2 n=some u:=by
   intro n b hb;by_cases hin:n∈ns++bA nx c
   · obtain ⟨i,hi⟩:=List.mem_iff_getElem?.1 hin;rw [(hlk n).2 i hi] at hb;obtain ⟨e1,e2⟩:=Gl hi;simp only [zAV,zBK,Option.map_eq_some_iff] at hb;obtain ⟨b0,e3,e4⟩:=hb;exact ⟨i,b0,e1,e2,e3,e4.symm,fun u hu=>by rw [e1]; exact hnm i u e2 hu⟩
   · rw [(hlk n).1 hin] at hb;cases hb
  have hblk:∀ n b,lk out n=some (some b)→de b=true→∀ x,bk b (ρ2 n) x→∃ i b0,n=f i∧lk S' i=some b0∧de b0=true∧bk b0 (ρr i) x:=by
   intro n b hb hv x hx;obtain ⟨i,b0,e1,e2,e3,e4,e5⟩:=hat n b hb;obtain ⟨u,hu⟩:=(hsr i b0 e3).named;rw [e5 u hu,e4] at hx;refine ⟨i,b0,e1,e3,?_,by rw [hu]; exact HK.1 hx⟩;rw [e4] at hv;cases b0 <;> first|rfl|(simp [zm,de] at hv)
  let Sb:=ap (if fz then bI S (kD ns ds S) else []) S2
  have hb:R E cx tm' Sb a w ρ:=by
   cases fz with
   | true=>exact h1
   | false=>exact h
  have hSb:∀ n∈ns,lk Sb n=lk S n:=by
   intro n hn;cases fz with
   | true=>exact hlns n hn
   | false=>exact hag2 n hn
  have houtns:∀ n∈ns,lk out n≠none:=by
   intro n hn;obtain ⟨i,hi⟩:=List.mem_iff_getElem?.1 (zAu.2 (.inl hn):n∈ns++bA nx c);rw [(hlk n).2 i hi]
   simp
  have hcell:∀ x,eH Sa ρc x→∃ n b,lk out n≠none∧lk Sb n=some b∧de b=true∧bk b (ρ n) x:=by
   intro x hx;obtain ⟨n,b,e1,e2,e3,e4,e5⟩:=heldc x hx;exact ⟨n,b,houtns n e1,by rw [hSb n e1]; exact e2,e4,e5⟩
  have htell:(∀ d u,VI w (AvS cx.G Sb ρ) d u→VI w2 (AvS cx.G (ap out Sb) ρ2) d u)→ve w2 (AvS Gc S' ρr) (AvS cx.G (ap out Sb) ρ2) ρr ρ2 f (ns.length+c) p:=by
   intro hi;refine ⟨fun d u hv hp=>?_,hnm⟩;cases fz with
   | false=>rw [hpf rfl] at hp; exact hv.noImm hp
   | true=>
     refine hv.mono (fun _ _ _=>rfl) (zAL _) fun x _ hx=>?_;rcases hx with hg|⟨t,b,hl,hlv,hxb⟩
     · left;refine ⟨.inl hg,fun hh=>?_⟩;have h2:=heldc1 x hh;have h3:=h.g x hg;rcases h1.new x h2 with h4|h4
       · omega
       · exact h.gf x hg h4
     · rw [cl] at hl;split at hl
       · rename_i oo ho;subst hl;obtain ⟨i,b0,e1,e2,e3,e4⟩:=hblk t b ho hlv x hxb;exact .inr ⟨i,b0,e2,e3,e4⟩
       · rename_i ho;have hl1:lk S1 t=some b:=hl;obtain ⟨u,hu⟩:=h1.named hl1;rw [hsame t u (fun hin=>houtns t hin ho) hu] at hxb;left;refine ⟨.inr ⟨t,b,hl1,hlv,by rw [hu]; exact hxb⟩,fun hh=>?_⟩;obtain ⟨n,b2,e1,e2,e3,e4,e5⟩:=heldc x hh
         have:=h1.dis t n b b2 x hl1 e3 hlv e4 (by rw [hu]; exact hxb) e5
         subst this;exact houtns t e1 ho
  have hturn:sW E cx Sb w ρ out w2 ρ2:=by
   refine ⟨hfrr.weaken hcell,hold,fun t u ho hu=>hsame t u (fun hin=>houtns t hin ho) hu,fun n b hb' hv x hx=>?_,fun n m b b' x hn hm hv hv' hx hx'=>?_,fun hi n b hb'=>?_⟩
   · obtain ⟨i,b0,e1,e2,e3,e4⟩:=hblk n b hb' hv x hx;rcases hnewr x ⟨i,b0,e2,e3,e4⟩ with q|q
     · exact .inl q
     · exact .inr (hcell x q)
   · obtain ⟨i,b0,e1,e2,e3,e4⟩:=hblk n b hn hv x hx;obtain ⟨j,b1,f1,f2,f3,f4⟩:=hblk m b' hm hv' x hx'
     have:=hdisr i j b0 b1 x e2 f2 e3 f3 e4 f4
     subst this;rw [e1,f1]
   · obtain ⟨i,b0,e1,e2,e3,e4,e5⟩:=hat n b hb';subst e1;subst e4;exact (htell hi).sr (hsr i b0 e3) e2 (Gm hdom2 e3) (hpb i b0 e3)
  have hfin:=hb.turnK hturn;have hout:ap (dr (mr ns nx) S' (ns++bA nx c) 0++(if fz then bI S (kD ns ds S) else [])) S2=ap out Sb:=kP _ _ _
  refine ⟨ρ2,?_,fun n hn h0=>?_⟩
  rotate_left
  · simp only [ρ2,if_neg hn];cases hp:g7 ns n with
    | none=>exact h0
    | some j=>
      obtain ⟨u,hu⟩:=hnamed n (zAD (eR hp));rw [h0] at hu;cases hu
  rw [hout];refine hfin.value hd ?_;exact (htell (hturn.vi hb)).vr hvr hresn hpd
 have hmem:∀ n,lk (dr (mr ns nx) S' (ns++bA nx c) 0) n≠none→n∈ns++bA nx c:=by
  intro n hn;have gen:∀ (l:List Nat) (i:Nat),lk (dr (mr ns nx) S' l i) n≠none→n∈l:=by
   intro l
   induction l with
   | nil=>intro i h; simp [dr,lk] at h
   | cons m r ih=>
     intro i h;simp only [dr,au] at h;by_cases e:m=n
     · simp [e]
     · rw [if_neg e] at h;exact List.mem_cons_of_mem _ (ih _ h)
  exact gen _ _ hn
 rcases hk with ⟨sm,hs1,hs2,hno,hk⟩|hk
 · have this:nG E o tm S (en ds++bV S ns++ns++bA nx c) nx (nx+c) (xk (mr ns nx) d) (dr (mr ns nx) S' (ns++bA nx c) 0):=by
     rcases hno with ⟨hn1,hn2⟩|hno
     · have:=key false aj (by simp) (fun _=>rfl) (EG hn1) (fun i b hl=>EH (hn2 _ (BK hl)))
       simpa only [zAF,if_false,List.append_nil] using this
     · have:=key true (fun _=>True) (fun _=>rfl) (by simp) (xL d) (fun i b _=>DM b)
       rw [hno] at this;simpa only [if_true,bI,List.append_nil] using this
   simp only [zAE] at hs2;have hsame:=wa hs1;have hsub:=zH hs2.2;have hlt:=xK.1 hs2.1;refine ⟨⟨en ds++bV S ns++ns++bA nx c,kf sm (ns++bA nx c)⟩,_,_,_,_,this.less (sm:=sm) fun n hn=>⟨by simp [hsub n hn],by rw [← xI n]; exact hsame n hn⟩,fun n hn=>?_,fun n hn=>?_,by omega,fun n h1 h2=>?_,fun n=>?_,hk⟩
   · rw [mD] at hn;by_cases hin:n∈sm
     · rw [if_pos hin] at hn; exact absurd rfl hn
     · rw [if_neg hin] at hn;exact f8.2 ⟨hmem n hn,hin⟩
   · have:=(f8.1 hn).1
     simp only [zAu] at this ⊢;rcases this with hn|hn
     · exact .inl (.inr hn)
     · exact .inr hn
   · refine f8.2 ⟨by simp only [zAu]; exact .inr (mC.2 ⟨h1,h2⟩),fun hin=>?_⟩
     have:=hlt n hin
     omega
   · rw [xI n];by_cases hin:n∈sm
     · have h1:=hsame n hin;rw [xI n] at h1;rw [h1,cl,mD,if_pos hin]
     · rw [cl,cl,mD,if_neg hin]
 · have:=key true (fun _=>True) (fun _=>rfl) (by simp) (xL d) (fun i b _=>DM b)
   simp only [if_true] at this;refine ⟨_,_,_,_,_,this,fun n hn=>?_,fun n hn=>hn,by omega,fun n h1 h2=>?_,fun n=>?_,hk⟩
   · rw [lk_append_none] at hn;rcases hn with hn|hn
     · have:=hmem n hn
       simp only [zAu] at this ⊢;rcases this with h|h
       · exact .inl (.inr h)
       · exact .inr h
     · rw [dY] at hn;by_cases hin:n∈kD ns ds S
       · have:=(f8.1 hin).1
         simp only [zAu] at this ⊢;exact .inl (.inl this)
       · rw [if_neg hin] at hn; exact absurd rfl hn
   · simp only [zAu];exact .inr (mC.2 ⟨h1,h2⟩)
   · exact (xI n).trans (s8 _ _ _ (qy (kD ns ds S) S) n)
where
 lk_append_none {α:Type} {l r:List (Nat × α)} {n:Nat}:(lk (l++r) n≠none)=(lk l n≠none∨lk r n≠none):=by
  apply propext
  induction l with
  | nil=>simp [lk]
  | cons p q ih=>
    obtain ⟨m,x⟩:=p;simp only [zAh,au];by_cases e:m=n
    · simp [e]
    · simp only [if_neg e];exact ih
end
end Go.Ab
namespace Go.Ab
open Go Go.RowKit
section
variable {E:Env} {tm:Tm} {S:ac} {nx:Nat} {o:Oper} {K:Kt}
theorem wc {cx:Cx} {tm':Tm} {S':ac} {a:Act} {w:World} {ρ:Nat→Option Value} (h:R E cx tm' S' a w ρ) {args:List Operand} {ds:List D} (_hl:ds.length=args.length) (hev:∀ (i:Nat) (x:Operand) (d:D),args[i]?=some x→ds[i]?=some d→ev E.gl tm x=some d) (he:∀ x∈args,ev E.gl tm' x=ev E.gl tm x) :
   ∀ (i:Nat) (d:D) (u:Value),ds[i]?=some d→(args.map a.eval)[i]?=some u→VR w (AvS cx.G S' ρ) ρ d u:=by
 intro i d u hd hu;simp only [zAO,Option.map_eq_some_iff] at hu;obtain ⟨x,hx,rfl⟩:=hu;exact h.eval ((he x (zAD hx)).trans (hev i x d hx hd))
theorem EI {f:FuncId} {args:Array Operand} {tys:Array TypeId} (ho:o.op=.call { callee:=.value (.func f),args:=args,argTypes:=tys }) {ds:List D} (hl:ds.length=args.toList.length)
   (hev:∀ (i:Nat) (x:Operand) (d:D),args.toList[i]?=some x→ds[i]?=some d→ev E.gl tm x=some d) (hk:zp E f ds S nx fun d fp S' nx'=>K fp (put o.dst d tm) S' nx'):Ok1 E o tm S nx K:=by
 refine DN (fun cx tm' S' a w ρ he h=>⟨args.toList.map a.eval,?_,by simpa using hl,fun i d u hd hu S1 hS1=>?_⟩) hk
 · have:(args.toList.map a.eval).toArray=args.map a.eval:=by apply zBY; simp
   rw [this];simp [execOp,ho,resolve,Deferred.ofValue,Act.eval,invoke]
 · obtain ⟨_,_,h1⟩:=hS1;refine wc h1 hl hev (fun x hx=>he x ?_) i d u hd hu;rw [ho];simp only [Op.operands,Call.operands]
   simp
   exact .inr (by simpa using hx)
theorem B3 {t:Nat} {args:Array Operand} {tys:Array TypeId} (ho:o.op=.call { callee:=.value (.tmp t),args:=args,argTypes:=tys }) {f:FuncId} {cs:List Nat} (ht:lk tm t=some (.fn f cs)) {ds:List D} (hl:ds.length=args.toList.length)
   (hev:∀ (i:Nat) (x:Operand) (d:D),args.toList[i]?=some x→ds[i]?=some d→ev E.gl tm x=some d) (hk:zp E f (ds++cs.map fun n=>.bp n 0) S nx fun d fp S' nx'=>K fp (put o.dst d tm) S' nx'):Ok1 E o tm S nx K:=by
 refine DN (fun cx tm' S' a w ρ he h=>?_) hk;have hft:ev E.gl tm' (.tmp t)=some (.fn f cs):=(he (.tmp t) (by rw [ho]; simp [Op.operands,Call.operands])).trans ht;have hfv:=h.eval hft;have hform:∃ us:List Value,a.eval (.tmp t)=.func (.func f) #[] us.toArray∧cs.length=us.length∧∀ (i n:Nat) (u:Value),cs[i]?=some n→us[i]?=some u→ρ n=some u∧∃ b,u=.pointer (some ⟨b,0,none⟩):=by
  generalize a.eval (.tmp t)=v at hfv;cases hfv with
  | gr hv=>
    cases hv with
    | atom hv=>
      cases hv with
      | im hv=>cases hv; exact ⟨[],rfl,rfl,by simp⟩
      | fn hl hr=>exact ⟨_,rfl,hl,hr⟩
 obtain ⟨us,hfu,hul,hus⟩:=hform;refine ⟨args.toList.map a.eval++us,?_,by simp [hl,hul],fun i d u hd hu S1 hS1=>?_⟩
 · have:(args.toList.map a.eval++us).toArray=args.map a.eval++us.toArray:=by apply zBY; simp
   rw [this];simp [execOp,ho,resolve,Deferred.ofValue,hfu,invoke]
 · obtain ⟨_,_,h1⟩:=hS1;by_cases hi:i < ds.length
   · rw [zAU hi] at hd;rw [zAU (by rw [zAA,← hl]; exact hi)] at hu;refine wc h1 hl hev (fun x hx=>he x ?_) i d u hd hu;rw [ho];simp only [Op.operands,Call.operands]
     simp
     exact .inr (by simpa using hx)
   · have hml:(args.toList.map a.eval).length=ds.length:=by simp [hl]
     rw [zAW (by omega)] at hd;rw [zAW (by omega),hml] at hu;simp only [zAO,Option.map_eq_some_iff] at hd;obtain ⟨n,hn,rfl⟩:=hd;obtain ⟨e1,b,rfl⟩:=hus _ n u hn hu;exact .gr (.atom (.bp e1))
theorem Gn (hty:dW E) (hk:jj E o tm S nx K):Ok1 E o tm S nx K:=by
 unfold jj at hk;split at hk
 · -- move
   rename_i x ho
   replace hk:=cp hk
   obtain ⟨d,hx,hk⟩:=hk;exact pm (.inl ho) hx hk
 · -- assign
   rename_i x ho
   replace hk:=cp hk
   obtain ⟨d,hx,hk⟩:=hk;split at hk
   · split at hk
     · split at hk
       · split at hk
         · exact pm (.inr ho) hx hk
         · exact IM ho hx hk
       · exact pm (.inr ho) hx hk
     · exact pm (.inr ho) hx hk
   · exact pm (.inr ho) hx hk
 · -- pick
   rename_i c x y ho
   replace hk:=cp hk
   obtain ⟨d,hx,hk⟩:=hk;split at hk
   · rename_i z
     replace hk:=kh hk
     cases z
     · replace hk:=cp hk
       obtain ⟨d,hy,hk⟩:=hk;exact DJ ho hx hy hk
     · replace hk:=cp hk
       obtain ⟨d,hy,hk⟩:=hk;exact DJ ho hx hy hk
   · exact hk.elim
 · -- alloc
   rename_i e ho
   replace hk:=br hk
   obtain ⟨td,ht,hk⟩:=hk;exact F8 hty ho ht hk
 · -- box
   rename_i e x ho
   replace hk:=cp hk
   obtain ⟨d,hx,hk⟩:=hk;split at hk
   · exact hk.elim
   · rename_i ht;exact oBx ho hx ht hk
 · -- build
   rename_i t parts ho
   replace hk:=br hk
   obtain ⟨td,ht,hk⟩:=hk;split at hk
   · rename_i pl hkd;exact Ge hty ho ht hkd hk
   · exact hk.elim
 · -- buildSlice
   rename_i t n parts ho
   replace hk:=br hk
   obtain ⟨td,ht,hk⟩:=hk;split at hk
   · unfold DG at hk
     replace hk:=br hk
     obtain ⟨td,ht,hk⟩:=hk;split at hk
     · rename_i e hkd
       replace hk:=br hk
       obtain ⟨te,hte,hk⟩:=hk;split at hk
       · rename_i e2 x hk2 hp
         replace hk:=cp hk
         obtain ⟨d,hx,hk⟩:=hk;split at hk
         · rename_i b;split at hk
           · rename_i e3 xs hl;split at hk
             · rename_i hb;simp only [zAE] at hb;have b1:=zAI hb.1.1;have b2:=zAI hb.1.2;have b3:=zAI hb.2;subst b1;subst b3;exact ED hty ho hp ht hkd hte b2 hx hl hk
             · exact hk.elim
           · exact hk.elim
         · exact hk.elim
       · rename_i e2 hk2 hp;split at hk
         · rename_i hb;simp only [zAE] at hb;have b3:=zAI hb.2;subst b3;exact BX hty ho hp ht hkd hte (zAI hb.1) hk
         · exact hk.elim
       · exact hk.elim
     · exact hk.elim
   · split at hk
     · rename_i e hkd
       replace hk:=br hk
       obtain ⟨te,hte,hk⟩:=hk;exact vd hty ho ht hkd hte hk
     · exact hk.elim
 · -- load
   rename_i t x ho
   replace hk:=cp hk
   obtain ⟨d,hx,hk⟩:=hk
   replace hk:=br hk
   obtain ⟨td,ht,hk⟩:=hk;split at hk
   · split at hk
     · rename_i hagg;exact HI hty ho hx ht hagg hk
     · exact hk.elim
   · exact HF hty ho hx ht hk
 · -- store
   rename_i t x y ho
   replace hk:=cp hk
   obtain ⟨da,hx,hk⟩:=hk
   replace hk:=cp hk
   obtain ⟨dx,hy,hk⟩:=hk
   replace hk:=br hk
   obtain ⟨td,ht,hk⟩:=hk;split at hk
   · rename_i hb;simp only [zAE] at hb;exact Gf hty ho hx hy ht (zAI hb.1) (by simpa using hb.2) hk
   · exact hk.elim
 · -- fieldAddr
   rename_i t x f ho
   replace hk:=cp hk
   obtain ⟨d,hx,hk⟩:=hk
   replace hk:=br hk
   obtain ⟨td,ht,hk⟩:=hk;split at hk
   · rename_i pl hkd;exact xy hty ho hx ht hkd hk
   · exact hk.elim
 · -- indexAddr
   rename_i t x i ho
   replace hk:=cp hk
   obtain ⟨d,hx,hk⟩:=hk
   replace hk:=cp hk
   obtain ⟨di,hi,hk⟩:=hk
   replace hk:=br hk
   obtain ⟨td,ht,hk⟩:=hk;split at hk
   · rename_i e kd n hkd
     replace hk:=br hk
     obtain ⟨te,hte,hk⟩:=hk;exact xz hty ho hx hi ht hkd hte hk
   · rename_i m e kd n hkd
     replace hk:=br hk
     obtain ⟨te,hte,hk⟩:=hk;split at hk
     · rename_i cs hz;obtain ⟨j,c,rfl,hj,hc,hk⟩:=hk;exact zy hty ho hx hi ht hkd hte (zAI hz) hj hc hk
     · exact hk.elim
   · exact hk.elim
 · -- index
   rename_i t x i ho
   replace hk:=cp hk
   obtain ⟨d,hx,hk⟩:=hk
   replace hk:=cp hk
   obtain ⟨di,hi,hk⟩:=hk
   replace hk:=br hk
   obtain ⟨td,ht,hk⟩:=hk;split at hk
   · rename_i l kd n hkd;obtain ⟨j,c,rfl,hc,hk⟩:=hk;exact Ga hty ho hx hi ht hkd hc hk
   · exact hk.elim
 · -- binOp
   rename_i op t x y yt ho
   replace hk:=cp hk
   obtain ⟨dx,hx,hk⟩:=hk
   replace hk:=cp hk
   obtain ⟨dy,hy,hk⟩:=hk;split at hk
   · replace hk:=br hk
     obtain ⟨td,ht,hk⟩:=hk;split at hk
     · rename_i hkd;exact HG hty ho hx hy ht hkd hk
     · exact hk.elim
   · replace hk:=br hk
     obtain ⟨td,ht,hk⟩:=hk;split at hk
     · rename_i c hc;exact IU hty ho hx hy ht hc hk
     · exact hk.elim
   · unfold FW at hk;split at hk
     · split at hk
       · rename_i hkk
         have:=of_decide_eq_true hkk
         subst this;exact IQ ho hx hy hk
       · exact hk.elim
     · exact IR ho hx hy hk
     · exact hk.elim
 · -- unOp
   rename_i op t x ho
   replace hk:=cp hk
   obtain ⟨d,hx,hk⟩:=hk;split at hk
   · exact IV ho hx hk
   · obtain ⟨r,rfl,hk⟩:=hk;exact IW ho hx hk
   · exact hk.elim
 · -- convert
   rename_i s t x ho
   replace hk:=cp hk
   obtain ⟨d,hx,hk⟩:=hk
   replace hk:=br hk
   obtain ⟨ts,hs,hk⟩:=hk
   replace hk:=br hk
   obtain ⟨td,ht,hk⟩:=hk;unfold It at hk;split at hk
   · rename_i h1 h2;obtain ⟨r,rfl,hk⟩:=hk;exact BS hty ho hx hs ht h1 h2 hk
   · rename_i h1 h2;exact BT hty ho hx hs ht h1 h2 hk
   · rename_i e d' h1 h2
     replace hk:=br hk
     obtain ⟨te,hte,hk⟩:=hk;split at hk
     · rename_i xs h3 h4;obtain ⟨l,rfl,hl,hk⟩:=hk;exact xA hty ho hx hs ht hte h1 h2 h3 h4 hk
     · exact hk.elim
   · exact hk.elim
 · -- slice
   rename_i t x lo hi ho
   replace hk:=cp hk
   obtain ⟨d,hx,hk⟩:=hk
   replace hk:=br hk
   obtain ⟨td,ht,hk⟩:=hk;split at hk
   · exact HJ hty ho hx ht hk
   · exact Gh hty ho hx ht hk
 · -- slice,with its eN
   rename_i t x lo hi mx ho
   replace hk:=cp hk
   obtain ⟨d,hx,hk⟩:=hk
   replace hk:=br hk
   obtain ⟨td,ht,hk⟩:=hk;split at hk
   · exact Gk hty ho hx ht hk
   · exact hk.elim
 · -- makeSlice
   rename_i t l c ho
   replace hk:=cp hk
   obtain ⟨dl,hl,hk⟩:=hk
   replace hk:=cp hk
   obtain ⟨dc,hc,hk⟩:=hk
   replace hk:=br hk
   obtain ⟨td,ht,hk⟩:=hk;split at hk
   · split at hk
     · obtain ⟨rfl,hk⟩:=hk;unfold F1 at hk
       replace hk:=br hk
       obtain ⟨td,ht,hk⟩:=hk;split at hk
       · rename_i e hkd
         replace hk:=br hk
         obtain ⟨te,hte,hk⟩:=hk;split at hk
         · rename_i e2 hk2;split at hk
           · rename_i hb;simp only [zAE] at hb;obtain ⟨n,rfl,hn,hb2,hk⟩:=hk;have hnil:te.zero=.nil:=by
              have:=hb.2
              cases hz:te.zero <;> rw [hz] at this <;> first|rfl|(simp [FY] at this)
             exact Gj hty ho ht hkd hte (zAI hb.1) hnil hl hc hn hb2 hk
           · exact hk.elim
         · exact hk.elim
       · exact hk.elim
     · exact hk.elim
   · split at hk
     · rename_i e k1 m k2 m' hkd
       replace hk:=br hk
       obtain ⟨te,hte,hk⟩:=hk;obtain ⟨n,rfl,rfl,hn,hb,hk⟩:=hk;exact HH hty ho ht hkd hte hl hc hn hb hk
     · exact hk.elim
 · -- extract
   rename_i x i ho
   replace hk:=cp hk
   obtain ⟨d,hx,hk⟩:=hk;split at hk
   · split at hk
     · rename_i d' hd;exact BR ho hx hd hk
     · exact hk.elim
   · exact hk.elim
 · -- nilCheck
   rename_i x ho
   replace hk:=cp hk
   obtain ⟨d,hx,hk⟩:=hk;split at hk
   · exact mz ho hx (.inl ⟨_,_,rfl⟩) hk
   · exact mz ho hx (.inr (.inl ⟨_,_,_,_,rfl⟩)) hk
   · exact mz ho hx (.inr (.inr ⟨_,rfl⟩)) hk
   · exact hk.elim
 · -- makeFunc
   rename_i f first caps ho
   replace hk:=xD hk
   obtain ⟨ds,hk,hl,hev⟩:=hk;split at hk
   · rename_i hf hb;exact zC ho hf hl hev hb hk
   · exact hk.elim
 · -- call
   rename_i c ho;obtain ⟨callee,args,tys⟩:=c
   replace hk:=xD hk
   obtain ⟨ds,hk,hl,hev⟩:=hk;split at hk
   · -- builtin
     rename_i b hcal;simp only at hcal hk hl hev;subst hcal;unfold zq at hk;split at hk
     · -- len
       rename_i d;split at hk
       · rename_i t htys
         replace hk:=br hk
         obtain ⟨td,ht,hk⟩:=hk;obtain ⟨x,hx⟩:∃ x,args=#[x]:=by
          obtain ⟨l⟩:=args
          match l,hl with
          | [x],_=>exact ⟨x,rfl⟩
         refine IX hty ho hx (by apply zBY; simpa using htys) (hev 0 x d (by simp [hx]) rfl) ht hk
       · exact hk.elim
     · -- append
       rename_i dx dy;split at hk
       · rename_i t t' htys;obtain ⟨x,y,hxy⟩:∃ x y,args=#[x,y]:=by
          obtain ⟨l⟩:=args
          match l,hl with
          | [x,y],_=>exact ⟨x,y,rfl⟩
         have hty2:tys=#[t,t']:=by apply zBY; simpa using htys
         subst hxy;subst hty2;have hx:=hev 0 x dx rfl rfl;have hy:=hev 1 y dy rfl rfl;split at hk
         · rename_i hb;have htt:t'=t:=(zAI hb).symm
           replace hk:=br hk
           obtain ⟨td0,ht0,hk⟩:=hk;split at hk
           · subst htt;exact B0 hty ho hx hy hk
           · split at hk
             · subst htt;exact B1 hty ho hx hy hk
             · split at hk
               · subst htt;exact B2 hty ho hx hy hk
               · exact vX hty ho hx hy (dy:=dy) (.inl ⟨htt,rfl⟩) hk (fun h=>absurd htt h)
         · replace hk:=br hk
           obtain ⟨td',ht',hk⟩:=hk
           replace hk:=br hk
           obtain ⟨td,ht,hk⟩:=hk;split at hk
           · rename_i l e h1 h2
             replace hk:=br hk
             obtain ⟨te,hte,hbt,hk⟩:=hk;refine vX hty ho hx hy (dy:=.sl (bh l)) (.inr ⟨l,td',rfl,rfl,ht',h1⟩) hk fun _ td2 e2 te2 q1 q2 q3=>?_;rw [ht] at q1;cases q1;rw [h2] at q2;cases q2;rw [hte] at q3;cases q3;exact hbt
           · exact hk.elim
       · exact hk.elim
     · -- clear
       rename_i d;split at hk
       · rename_i t htys;obtain ⟨x,hx⟩:∃ x,args=#[x]:=by
          obtain ⟨l⟩:=args
          match l,hl with
          | [x],_=>exact ⟨x,rfl⟩
         subst hx;have hty2:tys=#[t]:=by apply zBY; simpa using htys
         subst hty2;exact EF hty ho (hev 0 x d rfl rfl) hk
       · exact hk.elim
     · rename_i m n;obtain ⟨x,y,hxy⟩:∃ x y,args=#[x,y]:=by
        obtain ⟨l⟩:=args
        match l,hl with
        | [x,y],_=>exact ⟨x,y,rfl⟩
       subst hxy;exact vY ho (.inl rfl) (hev 0 x _ rfl rfl) (hev 1 y _ rfl rfl) (by simpa using hk)
     · rename_i m n;obtain ⟨x,y,hxy⟩:∃ x y,args=#[x,y]:=by
        obtain ⟨l⟩:=args
        match l,hl with
        | [x,y],_=>exact ⟨x,y,rfl⟩
       subst hxy;exact vY ho (.inr rfl) (hev 0 x _ rfl rfl) (hev 1 y _ rfl rfl) (by simpa using hk)
     · exact hk.elim
   · rename_i f hcal;simp only at hcal;subst hcal;exact EI ho hl hev hk
   · rename_i t hcal;simp only at hcal;subst hcal;split at hk
     · rename_i f cs ht;exact B3 ho ht hl hev hk
     · exact hk.elim
   · exact hk.elim
 · exact hk.elim
end
end Go.Ab
namespace Go.Ab
open Go Go.RowKit
section trace
variable {κ β:Type} (W:Nat→κ→Option β) (base:κ→β)
def atL (L:Nat→Bool):Nat→κ→β
 | 0,c=>base c
 | m+1,c=>if L m then (W m c).getD (atL L m c) else atL L m c
def tw:Nat→Bool:=fun _=>true
variable {W base}
theorem kR {L:Nat→Bool} {c:κ} {i:Nat} (h:∀ m,m < i→(W m c).isSome→L m=true):∀ m,m≤i→atL W base L m c=atL W base tw m c
 | 0,_=>rfl
 | m+1,hm=>by
   have ih:=kR h m (by omega);simp only [atL,tw,if_true];cases hw:W m c with
   | none=>simp [ih]
   | some b=>simp [h m (by omega) (by rw [hw]; rfl),ih]
theorem zI {L:Nat→Bool} {c:κ} {i:Nat}:∀ (n:Nat),i≤n→(∀ m,i≤m→m < n→L m=true→W m c=none)→atL W base L n c=atL W base L i c
 | 0, hn, _ => by have:i=0:=by omega
                  subst this; rfl
 | n+1,hn,h=>by
   by_cases e:i=n+1
   · subst e; rfl
   · have ih:=zI n (by omega) (fun m h1 h2=>h m h1 (by omega));simp only [atL];split
     · rename_i hl;rw [h n (by omega) (by omega) hl];exact ih
     · exact ih
theorem wd {L:Nat→Bool} {c:κ} {i n:Nat} (hi:i≤n) (h1:∀ m,m < i→(W m c).isSome→L m=true) (h2:∀ m,i≤m→m < n→L m=true→W m c=none):atL W base L n c=atL W base tw i c:=by
 rw [zI n hi h2,kR h1 i (zAL _)]
def kG (L:Nat→Bool) (i:Nat):Nat→Bool:=fun j=>if j=i then true else L j
theorem nN {L:Nat→Bool} {c:κ} {i:Nat}:∀ m,m≤i→atL W base (kG L i) m c=atL W base L m c
 | 0,_=>rfl
 | m+1,hm=>by
   have:kG L i m=L m:=by simp [kG]; omega
   have ih:=nN (L:=L) (c:=c) (i:=i) m (by omega);simp only [atL,this,ih]
theorem DO {L:Nat→Bool} {c:κ} {i n:Nat} (hi:i < n) (hL:L i=false) (h:(W i c).isSome→∀ m,i < m→m < n→L m=true→W m c=none):atL W base (kG L i) n c=(W i c).getD (atL W base L n c):=by
 have key:∀ m,i < m→m≤n→atL W base (kG L i) m c=(W i c).getD (atL W base L m c):=by
  intro m
  induction m with
  | zero=>intro h; omega
  | succ m ih=>
    intro h1 h2;by_cases e:m=i
    · subst e;have e1:kG L m m=true:=by simp [kG]
      simp only [atL,e1,if_true,hL,zAF,if_false,nN m (zAL _)]
    · have ih:=ih (by omega) (by omega);have e1:kG L i m=L m:=by simp [kG,e]
      simp only [atL,e1];split
      · rename_i hl;cases hw:W i c with
        | none=>rw [hw] at ih; simp only [Option.getD_none] at ih ⊢; rw [ih]
        | some b=>
          rw [hw] at ih
          have:=h (by rw [hw]; rfl) m (by omega) (by omega) hl
          rw [this];simpa using ih
      · exact ih
 exact key n hi (zAL _)
end trace
def pr (L:Nat→Bool):Nat→Nat
 | 0=>0
 | n+1=>pr L n+if L n then 0 else 1
theorem zJ {L:Nat→Bool} {i:Nat} (hL:L i=false):∀ n,i < n→pr (kG L i) n+1=pr L n
 | 0,h=>by omega
 | n+1,h=>by
   by_cases e:n=i
   · subst e;have same:∀ m,m≤n→pr (kG L n) m=pr L m:=by
      intro m
      induction m with
      | zero=>intro _; rfl
      | succ m ih=>
        intro hm
        have:kG L n m=L m:=by simp [kG]; omega
        simp only [pr,this,ih (by omega)]
     simp [pr,same n (zAL _),hL,kG]
   · have:=zJ hL n (by omega)
     have e1:kG L i n=L n:=by simp [kG,e]
     simp only [pr,e1];omega
theorem we {L:Nat→Bool}:∀ n,pr L n=0→∀ i,i < n→L i=true
 | 0,_,i,h=>by omega
 | n+1,hz,i,h=>by
   simp only [pr] at hz;by_cases e:i=n
   · subst e;cases hl:L i with
     | true=>rfl
     | false=>rw [hl] at hz; simp at hz
   · exact we n (by omega) i (by omega)
section
variable {E:Env} {cx:Cx} {ops:Array Oper}
def fG (nx:Nat) (ρ:Nat→Option Value):Prop:=∀ n,nx≤n→ρ n=none
structure Mk where
 fp:Fp
 d:D
 out:Out
 nx:Nat
 nx':Nat
 go:Bool
 tm:Tm
 S:ac
def hY (ops:Array Oper) (o:Oper) (tm:Tm):Option Bool:=
 match o.guard with
 | none=>some true
 | some (j,want)=>match (ops[j]?).bind (·.dst) with
   | none=>none
   | some t=>match lk tm t with
     | some (.b x)=>some (x == want)
     | some (.tup [])=>some false
     | _=>none
structure Stp (E:Env) (ops:Array Oper) (o:Oper) (m:Mk) (tm':Tm) (S':ac):Prop where
 want:hY ops o m.tm=some m.go
 run:m.go=true→nG E o m.tm m.S m.fp.all m.nx m.nx' m.d m.out
 skip:m.go=false→m.d=.tup []∧m.out=[]∧m.nx'=m.nx
 wr:∀ n,lk m.out n≠none→n∈m.fp.wr
 sub:∀ n∈m.fp.wr,n∈m.fp.all
 le:m.nx≤m.nx'
 tm':∀ t,lk tm' t=lk (put o.dst m.d m.tm) t
 S':∀ n,lk S' n=lk (ap m.out m.S) n
def Run (E:Env) (ops:Array Oper):List Oper→Tm→ac→Nat→List Mk→Tm→ac→Nat→Prop
 | [],tm,S,nx,ms,tm',S',nx'=>ms=[]∧tm'=tm∧S'=S∧nx'=nx
 | o :: r,tm,S,nx,ms,tm',S',nx'=>∃ m q tm1 S1,ms=m :: q∧m.tm=tm∧m.S=S∧m.nx=nx∧Stp E ops o m tm1 S1∧Run E ops r tm1 S1 m.nx' q tm' S' nx'
theorem nG.ext {o:Oper} {tm tm1:Tm} {S:ac} {fp:List Nat} {nx nx':Nat} {d:D} {out:Out} (h:nG E o tm1 S fp nx nx' d out) (ht:∀ t,lk tm1 t=lk tm t):nG E o tm S fp nx nx' d out:=by
 intro cx tm' S' a w ρ Q hd he;refine h cx tm' S' a w ρ Q hd fun x hx=>?_;rw [he x hx];cases x <;> simp [ev,ht]
theorem lN (hty:dW E):∀ (l:List Oper) (tm:Tm) (S:ac) (nx:Nat) (fs:List Fp) (K:List Fp→Tm→ac→Nat→Prop),gj E ops l tm S nx fs K →
   ∃ ms tm' S' nx',Run E ops l tm S nx ms tm' S' nx'∧K ((ms.map (·.fp)).reverse++fs) tm' S' nx'
 | [],tm,S,nx,fs,K,h=>⟨[],tm,S,nx,⟨rfl,rfl,rfl,rfl⟩,h⟩
 | o :: r,tm,S,nx,fs,K,h=>by
   have go:∀ tm1:Tm,(∀ t,lk tm1 t=lk tm t)→hY ops o tm=some true→jj E o tm1 S nx (fun fp tm S nx=>gj E ops r tm S nx (fp :: fs) K) →
      ∃ ms tm' S' nx',Run E ops (o :: r) tm S nx ms tm' S' nx'∧K ((ms.map (·.fp)).reverse++fs) tm' S' nx':=by
    intro tm1 ht hw h;obtain ⟨fp,out,nx1,d,S2,h1,h2,h3,h4,_,h5,h6⟩:=Gn hty h;obtain ⟨ms,tm',S',nx',h7,h8⟩:=lN hty r _ _ _ _ _ h6;refine ⟨⟨fp,d,out,nx,nx1,true,tm,S⟩ :: ms,tm',S',nx',⟨_,_,_,_,rfl,rfl,rfl,rfl,⟨hw,fun _=>h1.ext ht,by simp,h2,h3,h4,fun t=>?_,h5⟩,h7⟩,by simpa using h8⟩;cases hdst:o.dst <;> simp [put,ht,au]
   have skip:∀ tm1:Tm,(∀ t,lk tm1 t=lk tm t)→hY ops o tm=some false→gj E ops r (put o.dst (.tup []) tm1) S nx (fp0 :: fs) K →
      ∃ ms tm' S' nx',Run E ops (o :: r) tm S nx ms tm' S' nx'∧K ((ms.map (·.fp)).reverse++fs) tm' S' nx':=by
    intro tm1 ht hw h;obtain ⟨ms,tm',S',nx',h7,h8⟩:=lN hty r _ _ _ _ _ h;refine ⟨⟨fp0,.tup [],[],nx,nx,false,tm,S⟩ :: ms,tm',S',nx',⟨_,_,_,_,rfl,rfl,rfl,rfl,⟨hw,by simp,fun _=>⟨rfl,rfl,rfl⟩,by simp [lk],by simp [fp0],zAL _,fun t=>?_,fun n=>rfl⟩,h7⟩,by simpa using h8⟩;cases hdst:o.dst <;> simp [put,ht,au]
   unfold gj at h;split at h
   · rename_i hg;exact go tm (fun _=>rfl) (by simp [hY,hg]) h
   · rename_i j want hg;split at h
     · exact h.elim
     · rename_i t hj;split at h
       · rename_i x hx;have h:=kh h;have hsame:∀ t',lk ((t,D.b x) :: tm) t'=lk tm t':=by
          intro t';rw [au];by_cases e:t=t'
          · subst e; rw [if_pos rfl,hx]
          · rw [if_neg e]
         have hw:hY ops o tm=some (x == want):=by simp [hY,hg,hj,hx]
         cases want <;> cases x
         · exact go _ hsame (by rw [hw]; rfl) h
         · exact skip _ hsame (by rw [hw]; rfl) h
         · exact skip _ hsame (by rw [hw]; rfl) h
         · exact go _ hsame (by rw [hw]; rfl) h
       · rename_i hx;exact skip tm (fun _=>rfl) (by simp [hY,hg,hj,hx]) h
       · exact h.elim
theorem tx {tmps:Array Value} {j t:Nat} (hj:(ops[j]?).bind (·.dst)=some t):yielded ops tmps j=match tmps[t]? with|some (.bool b)=>some b|_=>none:=by
 unfold yielded;rw [hj];rfl
theorem EJ {tmps:Array Value} {t:Nat} {x:Bool} (h:tmps.getD t undef=.bool x):tmps[t]?=some (.bool x):=by
 rw [zBJ] at h;cases hc:tmps[t]? with
 | none=>rw [hc] at h; simp [undef] at h
 | some v=>rw [hc] at h; simp at h; rw [h]
theorem wg {o:Oper} {tm:Tm} {S:ac} {a:Act} {w:World} {ρ:Nat→Option Value} (h:R E cx tm S a w ρ) {x:Bool} (hw:hY ops o tm=some x):Region.wanted o (yielded ops a.tmps)=x:=by
 unfold hY at hw;split at hw
 · rename_i hg;cases hw;simp [Region.wanted,hg]
 · rename_i j want hg;split at hw
   · cases hw
   · rename_i t hj;split at hw
     · rename_i y hy;cases hw;have hv:a.tmps[t]?=some (.bool y):=EJ (h.tm t _ hy).b_inv;have hyl:yielded ops a.tmps j=some y:=by rw [tx hj,hv]
       simp [Region.wanted,hg,hyl]
     · rename_i hy;cases hw;have hv:a.tmps.getD t undef=undef:=by
        obtain ⟨us,h1,h2,_⟩:=(h.tm t _ hy).tup_inv
        have:us=[]:=List.eq_nil_of_length_eq_zero h2.symm
        rw [h1,this];rfl
       have hyl:yielded ops a.tmps j=none:=by
        rw [tx hj];cases hc:a.tmps[t]? with
        | none=>rfl
        | some v=>
          rw [zBJ,hc] at hv;simp at hv;subst hv;rfl
       simp [Region.wanted,hg,hyl]
     · cases hw
def xO (N:Nat) (o:Oper):Bool:=
 match o.dst with
 | some t=>Nat.blt t N
 | none=>true
def lO (N:Nat):List Oper→Bool
 | []=>true
 | o :: r=>xO N o && lO N r
theorem ou {N:Nat} {o:Oper} (h:xO N o=true):∀ t,o.dst=some t→t < N:=by
 intro t ht;unfold xO at h;rw [ht] at h;exact zAC h
theorem qE {Q:Exit→Act→World→Prop} {tmf:Tm} {Sf:ac} {nxf:Nat} (hQ:∀ a w ρ,R E cx tmf Sf a w ρ→fG nxf ρ→Q .normal a w) :
   ∀ (l:List Oper) (tm:Tm) (S:ac) (nx:Nat) (ms:List Mk) (a:Act) (w:World) (ρ:Nat→Option Value),lO cx.N l=true→Run E ops l tm S nx ms tmf Sf nxf→R E cx tm S a w ρ→fG nx ρ→wpList E.P ops Q l a w
 | [],tm,S,nx,ms,a,w,ρ,_,⟨_,h1,h2,h3⟩,h,hf=>by subst h1 h2 h3; exact wpList_nil (hQ _ _ _ h hf)
 | o :: r,tm,S,nx,ms,a,w,ρ,hok,⟨m,q,tm1,S1,_,e1,e2,e3,hs,hr⟩,h,hf=>by
   subst e1 e2 e3;simp only [lO,zAE] at hok;refine wpList_step fun K' hK'=>?_;rw [wg h hs.want];cases hgo:m.go with
   | true=>
     rw [if_pos rfl]
     have:=hs.run hgo cx m.tm m.S a w ρ Q (ou hok.1) (fun _ _=>rfl) (fun _ _=>rfl) h (fun n h1 _=>hf n h1)
     refine Oper.wp_mono (fun a' w' hn=>?_) this;obtain ⟨ρ',h1,h2⟩:=hn;have hf':fG m.nx' ρ':=by
      intro n hn;rw [h2 n (by omega)];exact hf n (zAq hs.le hn)
     exact hK' _ _ (qE hQ r tm1 S1 m.nx' q a' w' ρ' hok.2 hr (h1.ext hs.tm' hs.S') hf')
   | false=>
     rw [if_neg (by simp)];obtain ⟨k1,k2,k3⟩:=hs.skip hgo;have h1:=h.value (ou hok.1) (VR.undef);refine hK' _ _ (qE hQ r tm1 S1 m.nx' q _ w ρ hok.2 hr (h1.ext (fun t=>?_) (fun n=>?_)) (by rw [k3]; exact hf))
     · rw [hs.tm',k1]
     · rw [hs.S',k2]; rfl
theorem Gp (a b i:Nat):gh (Nat.lor a b) i=(gh a i || gh b i):=by
 have h:∀ m,gh m i=m.testBit i:=by
  intro m;unfold gh;rw [Nat.testBit_eq_decide_div_mod_eq];show Nat.beq (m >>> i % 2) 1=_
  rw [Nat.shiftRight_eq_div_pow];by_cases e:m / 2 ^ i % 2=1
  · rw [e]; simp
  · simp [e,sV e]
 rw [h,h,h];exact Nat.testBit_or a b i
theorem HN (k i:Nat):gh (Nat.shiftLeft 1 k) i=decide (i=k):=by
 have h:gh (Nat.shiftLeft 1 k) i=(1 <<< k).testBit i:=by
  unfold gh;rw [Nat.testBit_eq_decide_div_mod_eq];show Nat.beq ((1 <<< k) >>> i % 2) 1=_
  rw [Nat.shiftRight_eq_div_pow];by_cases e:(1 <<< k) / 2 ^ i % 2=1
  · rw [e]; simp
  · simp [e,sV e]
 rw [h,Nat.one_shiftLeft,Nat.testBit_two_pow];by_cases e:i=k
 · subst e; simp
 · have:¬ k=i:=fun h=>e h.symm
   simp [e,this]
theorem Gq (i:Nat):gh 0 i=false:=by
 unfold gh;show Nat.beq (0 >>> i % 2) 1=false
 simp
 rfl
theorem mE {bs:List Nat} {i:Nat}:∀ {l:List Edge},gh (g8 bs l) i=true→∃ e∈l,Region.binds .any e=true∧(i=e.on∨gh (bs.getD e.on 0) i=true)
 | [],h=>by simp [g8,Gq] at h
 | e :: r,h=>by
   simp only [g8] at h;split at h
   · rename_i hb;rw [Gp,Gp,HN] at h;simp only [zAe,decide_eq_true_eq] at h;rcases h with (h|h)|h
     · exact ⟨e,by simp,hb,.inl h⟩
     · exact ⟨e,by simp,hb,.inr h⟩
     · obtain ⟨e',h1,h2,h3⟩:=mE h;exact ⟨e',by simp [h1],h2,h3⟩
   · obtain ⟨e',h1,h2,h3⟩:=mE h;exact ⟨e',by simp [h1],h2,h3⟩
theorem rl:∀ (l:List Oper) (bs:List Nat),(∀ (j:Nat),j < bs.length→(fi l bs)[j]?=bs[j]?)∧(fi l bs).length=bs.length+l.length ∧
   ∀ (j:Nat) (o:Oper),l[j]?=some o→(∀ e∈o.after.toList,Region.binds .any e=true→e.on < bs.length+j)→∀ i,gh ((fi l bs).getD (bs.length+j) 0) i=true→∃ e∈o.after.toList,Region.binds .any e=true∧(i=e.on∨gh ((fi l bs).getD e.on 0) i=true)
 | [],bs=>⟨fun j _=>rfl,rfl,by simp⟩
 | o :: r,bs=>by
   obtain ⟨h1,h2,h3⟩:=rl r (bs++[g8 bs o.after.toList]);refine ⟨fun j hj=>?_,by simp only [fi,h2]; simp; omega,fun j o' hj he i hb=>?_⟩
   · simp only [fi];rw [h1 j (by simp; omega),zAU hj]
   · cases j with
     | zero=>
       simp at hj;subst hj;simp only [fi,Nat.add_zero] at hb ⊢;have hat:(fi r (bs++[g8 bs o.after.toList])).getD bs.length 0=g8 bs o.after.toList:=by
        simp only [List.getD];rw [h1 bs.length (by simp),zAW (zAL _)]
        simp
       rw [hat] at hb;obtain ⟨e,q1,q2,q3⟩:=mE hb;refine ⟨e,q1,q2,q3.imp id fun q=>?_⟩;have hlt:=he e q1 q2
       have:(fi r (bs++[g8 bs o.after.toList])).getD e.on 0=bs.getD e.on 0:=by
        simp only [List.getD];rw [h1 e.on (by simp; omega),zAU (by omega)]
       rw [this];exact q
     | succ j=>
       have:=h3 j o' (by simpa using hj) (fun e q1 q2=>by have:=he e q1 q2; simp; omega) i
       simp only [fi];simp only [fi] at hb;have hlen:(bs++[g8 bs o.after.toList]).length+j=bs.length+(j+1):=by simp; omega
       rw [hlen] at this;exact this hb
theorem wh {l q:List Nat}:meets l q=true↔∃ n,n∈l∧n∈q:=by
 induction l with
 | nil=>simp [meets]
 | cons m r ih=>
   simp only [meets,zAe,dH,ih];constructor
   · rintro (h|⟨n,h1,h2⟩)
     · exact ⟨m,by simp,h⟩
     · exact ⟨n,by simp [h1],h2⟩
   · rintro ⟨n,h1,h2⟩;rcases List.mem_cons.1 h1 with rfl|h1
     · exact .inl h2
     · exact .inr ⟨n,h1,h2⟩
theorem rm {fp:Fp} {ms:List Nat} {dst:Option Nat} {m:Nat}:∀ {acc:List (Fp × List Nat × Option Nat)} {k:Nat},pc fp ms dst m acc k=true→∀ (i:Nat) (fq:Fp) (mq:List Nat) (dq:Option Nat),acc[i]?=some (fq,mq,dq) →
   gh m (k+i)=true∨((∀ n,n∈fp.wr→n ∉ fq.all)∧(∀ n,n∈fq.wr→n ∉ fp.all)∧(∀ t,dst=some t→t ∉ mq)∧∀ t,dq=some t→t ∉ ms)
 | [],k,h,i,fq,mq,dq,hi=>by simp at hi
 | (f0,m0,d0) :: r,k,h,i,fq,mq,dq,hi=>by
   simp only [pc,zAE] at h;obtain ⟨h1,h2⟩:=h;cases i with
   | zero=>
     simp at hi;obtain ⟨rfl,rfl,rfl⟩:=hi;simp only [zAe,zAJ,Nat.add_zero] at h1 ⊢;refine h1.imp id fun h1=>?_;simp only [Bool.or_eq_false_iff] at h1;obtain ⟨⟨⟨c1,c2⟩,c3⟩,c4⟩:=h1;refine ⟨fun n p q=>?_,fun n p q=>?_,fun t ht hm=>?_,fun t ht hm=>?_⟩
     · rw [wh.2 ⟨n,p,q⟩] at c1; cases c1
     · rw [wh.2 ⟨n,p,q⟩] at c2; cases c2
     · subst ht; simp only at c3; rw [dH.2 hm] at c3; cases c3
     · subst ht; simp only at c4; rw [dH.2 hm] at c4; cases c4
   | succ i=>
     have:=rm h2 i fq mq dq (by simpa using hi)
     have e:k+1+i=k+(i+1):=by omega
     rw [e] at this;exact this
theorem pt {bs:List Nat}:∀ {l:List Oper} {fs:List Fp} {acc:List (Fp × List Nat × Option Nat)} {k:Nat},pd ops bs l fs acc k=true→acc.length=k→∀ (j:Nat) (o:Oper) (fp:Fp),l[j]?=some o→fs[j]?=some fp →
   pc fp (fx ops o) o.dst (bs.getD (k+j) 0) (acc++(((l.zip fs).take j).map fun (o,f)=>(f,fx ops o,o.dst))) 0=true
 | [],fs,acc,k,h,ha,j,o,fp,hj,_=>by simp at hj
 | o0 :: r,[],acc,k,h,ha,j,o,fp,hj,hf=>by simp at hf
 | o0 :: r,f0 :: fs,acc,k,h,ha,j,o,fp,hj,hf=>by
   simp only [pd,zAE] at h;obtain ⟨h1,h2⟩:=h;cases j with
   | zero=>simp at hj hf; subst hj hf; simpa using h1
   | succ j=>
     have:=pt h2 (by simp [ha]) j o fp (by simpa using hj) (by simpa using hf)
     have e:k+1+j=k+(j+1):=by omega
     rw [e] at this;simpa using this
end
end Go.Ab
namespace Go.Ab
open Go Go.RowKit
section
variable {E:Env} {cx:Cx} {ops:Array Oper}
theorem sv:∀ (l:List Oper) (tm:Tm) (S:ac) (nx:Nat) (ms:List Mk) (tmf:Tm) (Sf:ac) (nxf:Nat),Run E ops l tm S nx ms tmf Sf nxf →
   ms.length=l.length∧nx≤nxf∧(∀ m,ms[0]?=some m→m.tm=tm∧m.S=S∧m.nx=nx)∧(l=[]→tmf=tm∧Sf=S∧nxf=nx) ∧
   ∀ (i:Nat) (o:Oper),l[i]?=some o→∃ m tm1 S1,ms[i]?=some m∧Stp E ops o m tm1 S1∧nx≤m.nx∧m.nx'≤nxf ∧
     (∀ m2,ms[i+1]?=some m2→m2.tm=tm1∧m2.S=S1∧m2.nx=m.nx')∧(i+1=l.length→tmf=tm1∧Sf=S1∧nxf=m.nx')
 | [],tm,S,nx,ms,tmf,Sf,nxf,⟨h0,h1,h2,h3⟩=>by subst h0 h1 h2 h3; simp
 | o :: r,tm,S,nx,ms,tmf,Sf,nxf,⟨m,q,tm1,S1,e0,e1,e2,e3,hs,hr⟩=>by
   subst e0;obtain ⟨g1,g2,g3,g4,g5⟩:=sv r tm1 S1 m.nx' q tmf Sf nxf hr;have hle:=hs.le;refine ⟨by simp [g1],by omega,fun m' hm=>by simp at hm; subst hm; exact ⟨e1,e2,e3⟩,by simp,fun i o' ho=>?_⟩;cases i with
   | zero=>
     simp at ho;subst ho;refine ⟨m,tm1,S1,rfl,hs,by omega,g2,fun m2 h2=>g3 m2 (by simpa using h2),fun hl=>?_⟩
     have:r=[]:=List.eq_nil_of_length_eq_zero (by simp only [List.length_cons] at hl; omega)
     exact g4 this
   | succ i=>
     obtain ⟨m',tm2,S2,q1,q2,q3,q4,q5,q6⟩:=g5 i o' (by simpa using ho);exact ⟨m',tm2,S2,by simpa using q1,q2,by omega,q4,fun m2 h2=>q5 m2 (by simpa using h2),fun hl=>q6 (by simp only [List.length_cons] at hl; omega)⟩
def Wt (l:List Oper) (ms:List Mk) (i:Nat) (t:Nat):Option (Option D):=
 match l[i]?,ms[i]? with
 | some o,some m=>if o.dst=some t then some (some m.d) else none
 | _,_=>none
def Ws (ms:List Mk) (i:Nat) (n:Nat):Option (Option Blk):=
 match ms[i]? with
 | some m=>lk m.out n
 | none=>none
theorem Gr (dst:Option Nat) (d:D) (tm:Tm) (t:Nat):lk (put dst d tm) t=if dst=some t then some d else lk tm t:=by
 cases dst with
 | none=>simp [put]
 | some t0=>
   simp only [put,au];by_cases e:t0=t
   · simp [e]
   · simp [e]
section
variable {l:List Oper} {tm:Tm} {S:ac} {nx:Nat} {ms:List Mk} {tmf:Tm} {Sf:ac} {nxf:Nat} (hr:Run E ops l tm S nx ms tmf Sf nxf)
include hr
omit hr in
theorem zK {i:Nat} {o:Oper} {m:Mk} (ho:l[i]?=some o) (hm:ms[i]?=some m) (t:Nat):lk (put o.dst m.d m.tm) t=(Wt l ms i t).getD (lk m.tm t):=by
 rw [Gr];simp only [Wt,ho,hm];by_cases e:o.dst=some t <;> simp [e]
theorem B6:∀ (i:Nat) (m:Mk),ms[i]?=some m→(∀ t,lk m.tm t=atL (Wt l ms) (lk tm) tw i t)∧(∀ n,lk m.S n=atL (Ws ms) (lk S) tw i n)∧∀ (j:Nat) (m':Mk),j < i→ms[j]?=some m'→m'.nx'≤m.nx:=by
 obtain ⟨g1,g2,g3,g4,g5⟩:=sv l tm S nx ms tmf Sf nxf hr;intro i
 induction i with
 | zero=>
   intro m hm;obtain ⟨e1,e2,e3⟩:=g3 m hm;exact ⟨fun t=>by rw [e1]; rfl,fun n=>by rw [e2]; rfl,fun j _ hj=>by omega⟩
 | succ i ih=>
   intro m hm;have hi:i < l.length:=by rw [← g1]; have:=(List.getElem?_eq_some_iff.1 hm).1; omega
   obtain ⟨m0,tm1,S1,q1,q2,q3,q4,q5,q6⟩:=g5 i l[i] (zAB hi);obtain ⟨e1,e2,e3⟩:=q5 m hm;obtain ⟨f1,f2,f3⟩:=ih m0 q1;refine ⟨fun t=>?_,fun n=>?_,fun j m' hj hm'=>?_⟩
   · rw [e1,q2.tm',zK (zAB hi) q1,f1];simp [atL,tw]
   · rw [e2,q2.S',cl,f2];have hws:Ws ms i n=lk m0.out n:=by simp only [Ws,q1]
     simp only [atL,tw,if_true,hws];cases lk m0.out n <;> rfl
   · rw [e3];by_cases e:j=i
     · subst e;rw [q1] at hm';cases hm';exact zAL _
     · have:=f3 j m' (by omega) hm'
       have:=q2.le
       omega
theorem DP:(∀ t,lk tmf t=atL (Wt l ms) (lk tm) tw l.length t)∧(∀ n,lk Sf n=atL (Ws ms) (lk S) tw l.length n):=by
 obtain ⟨g1,g2,g3,g4,g5⟩:=sv l tm S nx ms tmf Sf nxf hr;cases hl:l.length with
 | zero=>
   have:=List.eq_nil_of_length_eq_zero hl
   obtain ⟨e1,e2,_⟩:=g4 this;exact ⟨fun t=>by rw [e1]; rfl,fun n=>by rw [e2]; rfl⟩
 | succ k=>
   have hk:k < l.length:=by omega
   obtain ⟨m0,tm1,S1,q1,q2,q3,q4,q5,q6⟩:=g5 k l[k] (zAB hk);obtain ⟨e1,e2,e3⟩:=q6 (by omega);obtain ⟨f1,f2,f3⟩:=B6 hr k m0 q1;refine ⟨fun t=>?_,fun n=>?_⟩
   · rw [e1,q2.tm',zK (zAB hk) q1,f1];simp [atL,tw]
   · rw [e2,q2.S',cl,f2];have hws:Ws ms k n=lk m0.out n:=by simp only [Ws,q1]
     simp only [atL,tw,if_true,hws];cases lk m0.out n <;> rfl
end
theorem ov:∀ {l:List Oper} {k:Nat},xm l k=true→∀ (j:Nat) (o:Oper),l[j]?=some o→∀ e∈o.after.toList,Region.binds .any e=true→e.on < k+j
 | [],k,h,j,o,hj=>by simp at hj
 | o0 :: r,k,h,j,o,hj=>by
   simp only [xm,zAE] at h;obtain ⟨h1,h2⟩:=h;cases j with
   | zero=>
     simp at hj;subst hj;intro e he hb
     have:=zAs.1 h1 e he
     simp only [zAe,zAJ] at this;rcases this with h|h
     · rw [hb] at h; cases h
     · exact zAC h
   | succ j=>
     intro e he hb
     have:=ov h2 j o (by simpa using hj) e he hb
     omega
theorem B7 {Q:Exit→Act→World→Prop} {tm:Tm} {S:ac} {nx:Nat} {ms:List Mk} {tmf:Tm} {Sf:ac} {nxf:Nat} (hQ:∀ a w ρ,R E cx tmf Sf a w ρ→fG nxf ρ→Q .normal a w)
   (hr:Run E ops ops.toList tm S nx ms tmf Sf nxf) (hd:mf ops (ms.map (·.fp))=true) (hok:lO cx.N ops.toList=true) {a:Act} {w:World} {ρ:Nat→Option Value} (h:R E cx tm S a w ρ) (hf:fG nx ρ) :
   wpAny E.P .any ops Q ops.size (Array.replicate ops.size false) a w:=by
 obtain ⟨g1,g2,g3,g4,g5⟩:=sv ops.toList tm S nx ms tmf Sf nxf hr;simp only [mf,zAE] at hd;obtain ⟨⟨hed,_⟩,hcl⟩:=hd;have hlen:ops.toList.length=ops.size:=by simp
 have ho_of:∀ (i:Nat) (o:Oper),ops[i]?=some o→ops.toList[i]?=some o:=fun i o h=>by simpa using h
 have hbits:=rl ops.toList [];simp only [List.length_nil,zBK] at hbits;have hbit:∀ (j:Nat) (o:Oper),ops[j]?=some o→∀ i,gh ((fi ops.toList []).getD j 0) i=true→∃ e∈o.after.toList,Region.binds .any e=true∧(i=e.on∨gh ((fi ops.toList []).getD e.on 0) i=true):=
  fun j o ho=>hbits.2.2 j o (ho_of j o ho) (fun e he hb=>by have:=ov hed j o (ho_of j o ho) e he hb; omega)
 have hclear:∀ (i j:Nat) (oi oj:Oper) (mi mj:Mk),i < j→ops[i]?=some oi→ops[j]?=some oj→ms[i]?=some mi→ms[j]?=some mj →
    gh ((fi ops.toList []).getD j 0) i=true∨((∀ n,n∈mj.fp.wr→n ∉ mi.fp.all)∧(∀ n,n∈mi.fp.wr→n ∉ mj.fp.all)∧(∀ t,oj.dst=some t→t ∉ fx ops oi)∧∀ t,oi.dst=some t→t ∉ fx ops oj):=by
  intro i j oi oj mi mj hij hoi hoj hmi hmj;have h1:=pt hcl rfl j oj mj.fp (ho_of j oj hoj) (by simp [hmj]);have h2:=rm h1 i mi.fp (fx ops oi) oi.dst (by
   have hz:(ops.toList.zip (ms.map (·.fp)))[i]?=some (oi,mi.fp):=by
    rw [List.getElem?_zip_eq_some];exact ⟨ho_of i oi hoi,by simp [hmi]⟩
   simp only [zBB,zAO];rw [zAn,if_pos hij,hz];rfl)
  simpa using h2
 have key:∀ (fuel:Nat) (listed:Array Bool) (a:Act) (w:World),listed.size=ops.size→(∀ j,listed.getD j false=true→∀ i,gh ((fi ops.toList []).getD j 0) i=true→listed.getD i false=true) →
    pr (fun i=>listed.getD i false) ops.size≤fuel →
    (∃ TM ST ρ,R E cx TM ST a w ρ∧(∀ t,lk TM t=atL (Wt ops.toList ms) (lk tm) (fun i=>listed.getD i false) ops.size t)∧(∀ n,lk ST n=atL (Ws ms) (lk S) (fun i=>listed.getD i false) ops.size n) ∧
      (∀ i m,ms[i]?=some m→listed.getD i false=false→∀ k,m.nx≤k→k < m.nx'→ρ k=none)∧∀ k,nxf≤k→ρ k=none)→wpAny E.P .any ops Q fuel listed a w:=by
  intro fuel
  induction fuel with
  | zero=>
    intro listed a w hsz hdc hcnt hst;have hall:=we (L:=fun i=>listed.getD i false) ops.size (by omega);refine ⟨?_,?_⟩
    · cases hrd:Region.ready .any ops listed with
      | nil=>rfl
      | cons i r=>
        have hi:i∈Region.ready .any ops listed:=by rw [hrd]; simp
        obtain ⟨h1,o,h2,_⟩:=mem_ready.1 hi;have hlt:i < ops.size:=(Array.getElem?_eq_some_iff.1 h2).1
        have:=hall i hlt
        have hls:i < listed.size:=by omega
        simp [Array.getD,hls] at h1 this;rw [h1] at this;cases this
    · obtain ⟨TM,ST,ρ,q1,q2,q3,q4,q5⟩:=hst;have e:=DP hr;rw [hlen] at e;refine hQ a w ρ (q1.ext (fun t=>?_) (fun n=>?_)) q5
      · rw [e.1,q2]; exact (kR (fun m hm _=>hall m hm) _ (zAL _)).symm
      · rw [e.2,q3]; exact (kR (fun m hm _=>hall m hm) _ (zAL _)).symm
  | succ fuel ih=>
    intro listed a w hsz hdc hcnt hst;constructor
    · intro hrd;have hall:∀ i,i < ops.size→listed.getD i false=true:=by
       intro i
       induction i using Nat.strongRecOn with
       | _ i ihi=>
         intro hi;cases hl:listed.getD i false with
         | true=>rfl
         | false=>
           have hls:i < listed.size:=by omega
           have ho:ops[i]?=some ops[i]:=by simp [hi]
           have:i∈Region.ready .any ops listed:=by
            refine mem_ready.2 ⟨?_,ops[i],ho,fun e he hb=>?_⟩
            · simp [Array.getD,hls] at hl ⊢; exact hl
            · have hlt:=ov hed i ops[i] (ho_of i _ ho) e (by simpa using he) hb;exact ihi e.on (by omega) (by omega)
           rw [hrd] at this;cases this
      obtain ⟨TM,ST,ρ,q1,q2,q3,q4,q5⟩:=hst;have e:=DP hr;rw [hlen] at e;refine hQ a w ρ (q1.ext (fun t=>?_) (fun n=>?_)) q5
      · rw [e.1,q2]; exact (kR (fun m hm _=>hall m hm) _ (zAL _)).symm
      · rw [e.2,q3]; exact (kR (fun m hm _=>hall m hm) _ (zAL _)).symm
    · intro i hi;obtain ⟨h1,o,ho,hedges⟩:=mem_ready.1 hi;have hlt:i < ops.size:=(Array.getElem?_eq_some_iff.1 ho).1;have hls:i < listed.size:=by omega
      have hLi:listed.getD i false=false:=by simp [Array.getD,hls] at h1 ⊢; exact h1
      obtain ⟨TM,ST,ρ,q1,q2,q3,q4,q5⟩:=hst;obtain ⟨m,tm1,S1,hm,hs,hnx,hnx',_,_⟩:=g5 i o (ho_of i o ho);obtain ⟨f1,f2,f3⟩:=B6 hr i m hm;have hahead:∀ j,gh ((fi ops.toList []).getD i 0) j=true→listed.getD j false=true:=by
       intro j hj;obtain ⟨e,he,hb,hor⟩:=hbit i o ho j hj;have hle:=hedges e (by simpa using he) hb;rcases hor with rfl|hor
       · exact hle
       · exact hdc e.on hle j hor
      have hbehind:∀ j,gh ((fi ops.toList []).getD j 0) i=true→listed.getD j false=false:=by
       intro j hj;cases hl:listed.getD j false with
       | false=>rfl
       | true=>rw [hdc j hl i hj] at hLi; cases hLi
      have wS:∀ (j:Nat) (mj:Mk) (n:Nat),ms[j]?=some mj→(Ws ms j n).isSome→n∈mj.fp.wr:=by
       intro j mj n hj hw;simp only [Ws,hj] at hw;have hjl:j < ops.toList.length:=by rw [← g1]; exact (List.getElem?_eq_some_iff.1 hj).1
       obtain ⟨m',_,_,e1,e2,_⟩:=g5 j _ (zAB hjl);rw [hj] at e1;cases e1;exact e2.wr n (by intro hn; rw [hn] at hw; cases hw)
      have wT:∀ (j:Nat) (oj:Oper) (t:Nat),ops[j]?=some oj→(Wt ops.toList ms j t).isSome→oj.dst=some t:=by
       intro j oj t hj hw;simp only [Wt,ho_of j oj hj] at hw;cases hmj:ms[j]? with
       | none=>rw [hmj] at hw; simp at hw
       | some mj=>
         rw [hmj] at hw;simp only at hw;by_cases e:oj.dst=some t
         · exact e
         · rw [if_neg e] at hw; cases hw
      have sub_of:∀ (j:Nat) (mj:Mk) (n:Nat),ms[j]?=some mj→n∈mj.fp.wr→n∈mj.fp.all:=by
       intro j mj n hj hn;have hjl:j < ops.toList.length:=by rw [← g1]; exact (List.getElem?_eq_some_iff.1 hj).1
       obtain ⟨m',_,_,e1,e2,_⟩:=g5 j _ (zAB hjl);rw [hj] at e1;cases e1;exact e2.sub n hn
      have dst_men:∀ (oj:Oper) t,oj.dst=some t→t∈fx ops oj:=by
       intro oj t ht;unfold fx;rw [ht]
       simp
      have noneOr:∀ {β:Type} (x:Option β),x.isSome=true∨x=none:=by intro β x; cases x <;> simp
      have ms_of:∀ j,j < ops.size→∃ mj,ms[j]?=some mj:=by
       intro j hj;exact ⟨_,zAB (by rw [g1,hlen]; exact hj)⟩
      have ops_of:∀ j,j < ops.size→∃ oj,ops[j]?=some oj:=fun j hj=>⟨ops[j],by simp [hj]⟩;have rdT:∀ t,t∈fx ops o→lk TM t=lk m.tm t:=by
       intro t ht;rw [q2,f1];refine wd (Nat.le_of_lt hlt) (fun j hj hw=>?_) (fun j h1 h2 hl=>?_)
       · obtain ⟨oj,hoj⟩:=ops_of j (by omega);obtain ⟨mj,hmj⟩:=ms_of j (by omega);have hdj:=wT j oj t hoj hw;rcases hclear j i oj o mj m hj hoj ho hmj hm with hb|⟨_,_,_,c4⟩
         · exact hahead j hb
         · exact absurd ht (c4 t hdj)
       · rcases noneOr (Wt ops.toList ms j t) with hw|hw
         · obtain ⟨oj,hoj⟩:=ops_of j h2;obtain ⟨mj,hmj⟩:=ms_of j h2;have hdj:=wT j oj t hoj hw;by_cases e:j=i
           · subst e; replace hl:listed.getD _ false=true:=hl; rw [hLi] at hl; cases hl
           · rcases hclear i j o oj m mj (by omega) ho hoj hm hmj with hb|⟨_,_,c3,_⟩
             · replace hl:listed.getD _ false=true:=hl; rw [hbehind j hb] at hl; cases hl
             · exact absurd ht (c3 t hdj)
         · exact hw
      have rdS:∀ n,n∈m.fp.all→lk ST n=lk m.S n:=by
       intro n hn;rw [q3,f2];refine wd (Nat.le_of_lt hlt) (fun j hj hw=>?_) (fun j h1 h2 hl=>?_)
       · obtain ⟨oj,hoj⟩:=ops_of j (by omega);obtain ⟨mj,hmj⟩:=ms_of j (by omega);have hdj:=wS j mj n hmj hw;rcases hclear j i oj o mj m hj hoj ho hmj hm with hb|⟨_,c2,_,_⟩
         · exact hahead j hb
         · exact absurd hn (c2 n hdj)
       · rcases noneOr (Ws ms j n) with hw|hw
         · obtain ⟨oj,hoj⟩:=ops_of j h2;obtain ⟨mj,hmj⟩:=ms_of j h2;have hdj:=wS j mj n hmj hw;by_cases e:j=i
           · subst e; replace hl:listed.getD _ false=true:=hl; rw [hLi] at hl; cases hl
           · rcases hclear i j o oj m mj (by omega) ho hoj hm hmj with hb|⟨c1,_,_,_⟩
             · replace hl:listed.getD _ false=true:=hl; rw [hbehind j hb] at hl; cases hl
             · exact absurd hn (c1 n hdj)
         · exact hw
      have hL':(fun j=>(listed.setIfInBounds i true).getD j false)=kG (fun j=>listed.getD j false) i:=by
       funext j
       by_cases e:j=i
       · subst e;simp [kG,Array.getD,hls]
       · rw [getD_set_ne false (Ne.symm e)];simp [kG,e]
      have next:∀ (a':Act) (w':World) (ρ':Nat→Option Value),R E cx (put o.dst m.d TM) (ap m.out ST) a' w' ρ'→(∀ n,¬ (m.nx≤n∧n < m.nx')→ρ n=none→ρ' n=none)→wpAny E.P .any ops Q fuel (listed.setIfInBounds i true) a' w':=by
       intro a' w' ρ' hR hρ;refine ih _ a' w' (by simp [hsz]) (fun j hj k hk=>?_) ?_ ⟨_,_,ρ',hR,fun t=>?_,fun n=>?_,fun j mj hmj hlj k k1 k2=>?_,fun k hk=>?_⟩
       · have e1:=congrFun hL' j;have e2:=congrFun hL' k;rw [e1] at hj;rw [e2];simp only [kG] at hj ⊢;by_cases ek:k=i
         · simp [ek]
         · rw [if_neg ek];by_cases ej:j=i
           · subst ej; exact hahead k hk
           · rw [if_neg ej] at hj; exact hdc j hj k hk
       · rw [hL']
         have:=zJ (L:=fun j=>listed.getD j false) hLi ops.size hlt
         omega
       · rw [hL',Gr];have hset:=DO (W:=Wt ops.toList ms) (base:=lk tm) (L:=fun j=>listed.getD j false) (c:=t) hlt hLi (fun hw j h1 h2 hl=>by
          rcases noneOr (Wt ops.toList ms j t) with hwj|hwj
          · obtain ⟨oj,hoj⟩:=ops_of j h2;obtain ⟨mj,hmj⟩:=ms_of j h2;have d1:=wT i o t ho hw;have d2:=wT j oj t hoj hwj;rcases hclear i j o oj m mj h1 ho hoj hm hmj with hb|⟨_,_,c3,_⟩
            · replace hl:listed.getD _ false=true:=hl; rw [hbehind j hb] at hl; cases hl
            · exact absurd (dst_men o t d1) (c3 t d2)
          · exact hwj)
         rw [hset,← q2];simp only [Wt,ho_of i o ho,hm];by_cases e:o.dst=some t <;> simp [e]
       · rw [hL',cl];have hset:=DO (W:=Ws ms) (base:=lk S) (L:=fun j=>listed.getD j false) (c:=n) hlt hLi (fun hw j h1 h2 hl=>by
          rcases noneOr (Ws ms j n) with hwj|hwj
          · obtain ⟨oj,hoj⟩:=ops_of j h2;obtain ⟨mj,hmj⟩:=ms_of j h2;have d1:=wS i m n hm hw;have d2:=wS j mj n hmj hwj;rcases hclear i j o oj m mj h1 ho hoj hm hmj with hb|⟨c1,_,_,_⟩
            · replace hl:listed.getD _ false=true:=hl; rw [hbehind j hb] at hl; cases hl
            · exact absurd (sub_of i m n hm d1) (c1 n d2)
          · exact hwj)
         rw [hset,← q3]
         have:Ws ms i n=lk m.out n:=by simp only [Ws,hm]
         rw [this];cases lk m.out n <;> rfl
       · have hji:j≠i:=by
           rintro rfl
           have:=congrFun hL' j
           rw [this] at hlj;simp [kG] at hlj
         have hlj':listed.getD j false=false:=by rw [getD_set_ne false (Ne.symm hji)] at hlj; exact hlj
         have hout:¬ (m.nx≤k∧k < m.nx'):=by
          rintro ⟨p1,p2⟩;rcases zBZ hji with hlt2|hgt
          · have:=f3 j mj hlt2 hmj
            omega
          · have:=(B6 hr j mj hmj).2.2 i m hgt hm
            omega
         exact hρ k hout (q4 j mj hmj hlj' k k1 k2)
       · exact hρ k (by omega) (q5 k hk)
      have hdst:=ou (N:=cx.N) (o:=o) (by
       have all:∀ (l:List Oper),lO cx.N l=true→∀ o∈l,xO cx.N o=true:=by
        intro l
        induction l with
        | nil=>intro _ o h; cases h
        | cons p r ih=>
          intro h o ho;simp only [lO,zAE] at h;rcases List.mem_cons.1 ho with rfl|ho
          · exact h.1
          · exact ih h.2 o ho
       exact all _ hok o (zAD (ho_of i o ho)))
      have hwant:hY ops o TM=some m.go:=by
       rw [← hs.want];unfold hY;cases hg:o.guard with
       | none=>rfl
       | some g=>
         obtain ⟨j,want⟩:=g;simp only;cases hj:(ops[j]?).bind (·.dst) with
         | none=>rfl
         | some t=>
           simp only;rw [rdT t (by unfold fx; rw [hg]; simp only [hj]; simp)]
      have hwv:=wg q1 hwant;show wpOp E.P ops Q i _ a w
      unfold wpOp;rw [ho];simp only [hwv];cases hgo:m.go with
      | true=>
        rw [if_pos rfl];left;have hst:=hs.run hgo cx TM ST a w ρ Q hdst (fun x hx=>by
         cases x with
         | tmp t=>
           simp only [ev];refine rdT t ?_;unfold fx;simp only [zAu,List.mem_filterMap];exact .inr ⟨.tmp t,by simpa using hx,rfl⟩
         | _=>rfl) rdS q1 (fun n n1 n2=>q4 i m hm hLi n n1 n2)
        exact Oper.wp_mono (fun a' w' hn=>let ⟨ρ',k1,k2⟩:=hn; next a' w' ρ' k1 k2) hst
      | false=>
        rw [if_neg (by simp)];obtain ⟨k1,k2,k3⟩:=hs.skip hgo;refine next _ w ρ ?_ (fun _ _ h=>h);rw [k1,k2];exact q1.value hdst VR.undef
 refine key ops.size (Array.replicate ops.size false) a w (by simp) (fun j hj=>?_) ?_ ⟨tm,S,ρ,h,fun t=>?_,fun n=>?_,fun i m hm _ k k1 k2=>hf k ?_,fun k hk=>hf k (by omega)⟩
 · rw [getD_replicate] at hj; cases hj
 · have:∀ n,pr (fun i=>(Array.replicate ops.size false).getD i false) n≤n:=by
     intro n
     induction n with
     | zero=>simp [pr]
     | succ n ih=>simp only [pr]; split <;> omega
   exact this _
 · have:∀ n,atL (Wt ops.toList ms) (lk tm) (fun i=>(Array.replicate ops.size false).getD i false) n t=lk tm t:=by
     intro n
     induction n with
     | zero=>rfl
     | succ n ih=>simp only [atL,getD_replicate,zAF,if_false] at ih ⊢; exact ih
   exact (this _).symm
 · have:∀ k,atL (Ws ms) (lk S) (fun i=>(Array.replicate ops.size false).getD i false) k n=lk S n:=by
     intro k
     induction k with
     | zero=>rfl
     | succ k ih=>simp only [atL,getD_replicate,zAF,if_false] at ih ⊢; exact ih
   exact (this _).symm
 · have hi:i < ops.toList.length:=by rw [← g1]; exact (List.getElem?_eq_some_iff.1 hm).1
   obtain ⟨m',_,_,e1,_,e3,_⟩:=g5 i _ (zAB hi);rw [hm] at e1;cases e1;omega
where
 getD_replicate {n j:Nat}:(Array.replicate n false).getD j false=false:=by
  simp only [Array.getD];split <;> simp
end
end Go.Ab
namespace Go.Ab
open Go Go.RowKit
section
variable {E:Env} {cx:Cx} {tm:Tm} {S:ac} {nx:Nat} {a:Act} {w:World} {ρ:Nat→Option Value}
theorem zL:∀ {k i:Nat} {ns:List Nat},lF i k ns=true→∀ j,j < k→ns[j]?=some (i+j)
 | 0,i,ns,h,j,hj=>by omega
 | k+1,i,[],h,j,hj=>by simp [lF] at h
 | k+1,i,n :: r,h,j,hj=>by
   simp only [lF,zAE] at h;cases j with
   | zero=>simp; exact zAI h.1
   | succ j=>
     have:=zL h.2 j (by omega)
     simp only [List.getElem?_cons_succ,this];congr 1
     omega
theorem xP (ns:List Nat) (S:ac):∀ (l:List Nat) (k i:Nat),lk (iQ ns S l k) i=if k≤i then ((l[i - k]?).bind (lk S)).map (BI ns) else none
 | [],k,i=>by simp [iQ,lk]
 | n :: r,k,i=>by
   have ih:=xP ns S r (k+1) i;have step:i≠k→(if k≤i then (((n :: r)[i - k]?).bind (lk S)).map (BI ns) else none)=lk (iQ ns S r (k+1)) i:=by
    intro hne;rw [ih];by_cases hk:k+1≤i
    · rw [if_pos hk,if_pos (by omega)]
      have:i - k=(i - (k+1))+1:=by omega
      rw [this]
      simp
    · rw [if_neg hk,if_neg (by omega)]
   simp only [iQ];cases hl:lk S n with
   | none=>
     simp only;by_cases hik:i=k
     · subst hik;rw [ih,if_neg (by omega)];simp [hl]
     · rw [step hik]
   | some b=>
     simp only [au];by_cases hik:i=k
     · subst hik;simp [hl]
     · rw [if_neg (Ne.symm hik),step hik]
theorem sw {ns:List Nat} {zs:List aE} {i:Nat} {xs:List (List D)}:(zs.map (xn ns))[i]?=some (.an xs)↔zs[i]?=some (.an xs):=by
 rw [zAO,Option.map_eq_some_iff];constructor
 · rintro ⟨z,hz,e⟩;cases z with
   | an ys=>simp [xn] at e; rw [hz,e]
   | nm a=>simp only [xn] at e; split at e <;> cases e
   | lost=>simp [xn] at e
 · intro h;exact ⟨_,h,rfl⟩
theorem xQ {ns:List Nat} {b:Blk} {o:Option Value} {x:Nat}:bk (BI ns b) o x↔bk b o x:=by
 cases b <;> first|exact Iff.rfl|skip
 simp only [BI,bk,sw]
theorem wj (ns:List Nat) (b:Blk):de (BI ns b)=de b:=by cases b <;> rfl
theorem Gs {ns:List Nat} {x:Nat} (h:eH (iQ ns S ns 0) (d8 ns ρ) x):∃ (i n:Nat) (b:Blk),ns[i]?=some n∧lk S n=some b∧de b=true∧bk b (ρ n) x:=by
 obtain ⟨i,b,hl,hlv,hx⟩:=h;rw [xP,if_pos (zAG _)] at hl;simp only [Nat.sub_zero] at hl;cases hn:ns[i]? with
 | none=>rw [hn] at hl; simp at hl
 | some n=>
   rw [hn] at hl;simp only [Option.bind_some,Option.map_eq_some_iff] at hl;obtain ⟨b0,h1,rfl⟩:=hl;rw [wj] at hlv;have e:d8 ns ρ i=ρ n:=by simp [d8,hn]
   rw [e] at hx;exact ⟨i,n,b0,hn,h1,hlv,xQ.1 hx⟩
theorem VA.car {Av Av':Nat→Prop} {ns:List Nat} (hi:∀ d u,VI w Av d u→VI w Av' d u) {d d':D} {u:Value} (h:VA w Av ρ d u) (hc:kE ns d=some d'):VA w Av' (d8 ns ρ) d' u:=by
 cases h with
 | im h=>
   cases h with
   | fn f=>
     simp only [kE,oc,zAV] at hc;subst hc;exact .im (.fn f)
   | b=>simp [kE] at hc; subst hc; exact .im (hi _ _ (.b _))
   | k=>simp [kE] at hc; subst hc; exact .im (hi _ _ (.k _ _))
   | s=>simp [kE] at hc; subst hc; exact .im (hi _ _ (.s _))
   | v h=>simp [kE] at hc; subst hc; exact .im (hi _ _ (.v h))
   | nil=>simp [kE] at hc; subst hc; exact .im (hi _ _ .nil)
   | sl0=>simp [kE] at hc; subst hc; exact .im (hi _ _ .sl0)
   | sl U a1 a2 a3 a4 a5 a6 a7 a8 a9=>simp [kE] at hc; subst hc; exact .im (hi _ _ (.sl U a1 a2 a3 a4 a5 a6 a7 a8 a9))
   | ep U a1 a2 a3 a4 a5=>simp [kE] at hc; subst hc; exact .im (hi _ _ (.ep U a1 a2 a3 a4 a5))
   | agg hl h1 hr=>simp [kE] at hc; subst hc; exact .im (hi _ _ (.agg hl h1 hr))
 | own h h1=>
   simp only [kE] at hc;split at hc
   · rename_i i hp;cases hc;exact .own ((my (by simp [d8,eR hp])).trans h) h1
   · cases hc
 | bp h=>
   simp only [kE] at hc;split at hc
   · rename_i i hp;cases hc;exact .bp (by simp [d8,eR hp,h])
   · cases hc
 | op h=>simp [kE] at hc
 | vw=>simp [kE] at hc
 | @fn f cs us hl h=>
   simp only [kE] at hc;split at hc
   · rename_i qs hq;cases hc;obtain ⟨q1,q2⟩:=ol hq;refine .fn (by rw [q1,hl]) fun i m u hm hu=>?_;have hlt:i < cs.length:=by rw [← q1]; exact (List.getElem?_eq_some_iff.1 hm).1
     obtain ⟨h1,h2⟩:=h i cs[i] u (zAB hlt) hu;exact ⟨by simp [d8,q2 i cs[i] m (zAB hlt) hm,h1],h2⟩
   · cases hc
 | junk h1=>simp [kE] at hc
theorem iD (ns:List Nat):∀ (ds:List D),(nF ns ds).length=ds.length∧∀ (i:Nat) (d':D),(nF ns ds)[i]?=some d'→∃ d,ds[i]?=some d∧(kE ns d=some d'∨d'=.junk)
 | []=>by simp [nF]
 | d :: r=>by
   obtain ⟨i1,i2⟩:=iD ns r;simp only [nF];split
   · rename_i d1 hd1;refine ⟨by simp [i1],fun i d' h=>?_⟩;cases i with
     | zero=>simp at h; subst h; exact ⟨d,rfl,.inl hd1⟩
     | succ i=>simpa using i2 i d' (by simpa using h)
   · refine ⟨by simp [i1],fun i d' h=>?_⟩;cases i with
     | zero=>simp at h; subst h; exact ⟨d,rfl,.inr rfl⟩
     | succ i=>simpa using i2 i d' (by simpa using h)
theorem wk {Av Av':Nat→Prop} {ns:List Nat} (hi:∀ d u,VI w Av d u→VI w Av' d u) {ds:List D} {us:List Value} (h1:∀ u∈us,u.oneCell'=true)
   (h:∀ (i:Nat) (d:D) (u:Value),ds[i]?=some d→us[i]?=some u→VA w Av ρ d u) :
   ∀ (i:Nat) (d:D) (u:Value),(nF ns ds)[i]?=some d→us[i]?=some u→VA w Av' (d8 ns ρ) d u:=by
 intro i d' u hd hu;obtain ⟨d,e1,e2⟩:=(iD ns ds).2 i d' hd;rcases e2 with e2|rfl
 · exact (h i d u e1 hu).car hi e2
 · exact .junk (h1 _ (zAD hu))
theorem VG.car {Av Av':Nat→Prop} {ns:List Nat} (hi:∀ d u,VI w Av d u→VI w Av' d u) {d d':D} {u:Value} (h:VG w Av ρ d u) (hc:pe ns d=some d'):VG w Av' (d8 ns ρ) d' u:=by
 by_cases ha:∃ ds,d=.agg ds
 · obtain ⟨ds,rfl⟩:=ha;simp only [pe,zAV] at hc;subst hc;obtain ⟨us,rfl,hl,h1,hr⟩:=(VR.gr h).agg_inv;exact .agg (by rw [(iD ns ds).1]; exact hl) h1 (wk hi h1 hr)
 · have hd:pe ns d=kE ns d∨pe ns d=none:=by cases d <;> first|exact .inl rfl|exact .inr rfl|exact absurd ⟨_,rfl⟩ ha
   rcases hd with hd|hd
   · rw [hd] at hc;cases h with
     | atom h=>exact .atom (h.car hi hc)
     | agg=>exact absurd ⟨_,rfl⟩ ha
   · rw [hd] at hc; cases hc
theorem VR.car {Av Av':Nat→Prop} {ns:List Nat} (hi:∀ d u,VI w Av d u→VI w Av' d u) {d d':D} {u:Value} (h:VR w Av ρ d u) (hc:pe ns d=some d'):VG w Av' (d8 ns ρ) d' u:=by
 cases h with
 | gr h=>exact h.car hi hc
 | tup=>simp [pe] at hc
theorem pu (ns:List Nat):∀ (ts:List Nat) (t:Nat) (d':D),lk (kg ns tm ts) t=some d'→∃ d,lk tm t=some d∧pe ns d=some d'
 | [],t,d',h=>by simp [kg,lk] at h
 | t0 :: r,t,d',h=>by
   simp only [kg] at h;split at h
   · rename_i d hd;split at h
     · rename_i d1 hd1;rw [au] at h;by_cases e:t0=t
       · subst e;rw [if_pos rfl] at h;cases h;exact ⟨d,hd,hd1⟩
       · rw [if_neg e] at h;exact pu ns r t d' h
     · exact pu ns r t d' h
   · exact pu ns r t d' h
theorem R.carry (h:R E cx tm S a w ρ) (ts:List Nat) {ns:List Nat} (hn:dd ns=true) (hp:lF 0 cx.k0 ns=true) :
   R E cx (kg ns tm ts) (iQ ns S ns 0) a w (d8 ns ρ)∧∀ d u,VI w (AvS cx.G S ρ) d u→VI w (AvS cx.G (iQ ns S ns 0) (d8 ns ρ)) d u:=by
 have hheld:∀ x,eH (iQ ns S ns 0) (d8 ns ρ) x→eH S ρ x:=fun x hx=>let ⟨i,n,b,_,h2,h3,h4⟩:=Gs hx; ⟨n,b,h2,h3,h4⟩
 have hi:∀ d u,VI w (AvS cx.G S ρ) d u→VI w (AvS cx.G (iQ ns S ns 0) (d8 ns ρ)) d u:=fun d u hv=>
  hv.mono (fun _ _ _=>rfl) (zAL _) fun x _ hav=>hav.imp id (hheld x)
 have look:∀ i b,lk (iQ ns S ns 0) i=some b→∃ n b0,ns[i]?=some n∧lk S n=some b0∧b=BI ns b0:=by
  intro i b hl;rw [xP,if_pos (zAG _)] at hl;simp only [Nat.sub_zero] at hl;cases hn:ns[i]? with
  | none=>rw [hn] at hl; simp at hl
  | some n=>
    rw [hn] at hl;simp only [Option.bind_some,Option.map_eq_some_iff] at hl;obtain ⟨b0,h1,h2⟩:=hl;exact ⟨n,b0,rfl,h1,h2.symm⟩
 refine ⟨⟨fun t d' ht=>?_,fun i b hl=>?_,?_,fun x hx=>h.new x (hheld x hx),fun t u ht hu=>?_,fun g cs hg=>hi _ _ (h.gl g cs hg),h.fr,h.g,h.gf,h.defers,h.num⟩,hi⟩
 · obtain ⟨d,e1,e2⟩:=pu ns ts t d' ht;exact .gr ((h.tm t d e1).car hi e2)
 · obtain ⟨n,b0,e1,e2,rfl⟩:=look i b hl;have hρ:d8 ns ρ i=ρ n:=by simp [d8,e1]
   cases b0 with
   | box e cs=>
     obtain ⟨g,us,f1,f2,f3,f4,f5⟩:=h.st n _ e2;exact ⟨g,us,by rw [hρ]; exact f1,f2,by rw [(iD ns cs).1]; exact f3,f4,wk hi f4 f5⟩
   | own e xs=>
     obtain ⟨u,us,f1,f2,f3⟩:=h.st n _ e2;exact ⟨u,us,by rw [hρ]; exact f1,f2,f3.mono hi⟩
   | row e xs=>
     obtain ⟨u,us,f1,f2,f3⟩:=h.st n _ e2;refine ⟨u,us,by rw [hρ]; exact f1,by rw [zAA]; exact f2,⟨by rw [zAA]; exact f3.len,fun cs hcs=>?_,f3.one,fun i' j cs d p q=>?_⟩⟩
     · obtain ⟨cs0,h0,rfl⟩:=List.mem_map.1 hcs;rw [(iD ns cs0).1]; exact f3.el cs0 h0
     · simp only [zAO,Option.map_eq_some_iff] at p;obtain ⟨cs0,h0,rfl⟩:=p;obtain ⟨d0,e3,e4⟩:=(iD ns cs0).2 j d q;obtain ⟨u',g1,g2⟩:=f3.at_ i' j cs0 d0 h0 e3;refine ⟨u',g1,?_⟩;rcases e4 with e4|rfl
       · exact g2.car hi e4
       · exact .junk (f3.one _ (zAD g1))
   | fr xs=>
     obtain ⟨u,f1,f2⟩:=h.st n _ e2;exact ⟨u,(my hρ).trans f1,hi _ _ f2⟩
   | deep e e2 zs=>
     obtain ⟨u,vs,us,hd⟩:=h.st n _ e2;refine ⟨u,vs,us,by rw [hρ]; exact hd.name,by rw [zAA]; exact hd.lv,by rw [zAA]; exact hd.lu,by rw [zAA]; exact hd.own,hd.one,fun j z x v h1 h2 h3=>?_,fun j xs v x h1=>hd.apart j xs v x (sw.1 h1),fun j k xs ys v v' x h1 h2=>hd.dis j k xs ys v v' x (sw.1 h1) (sw.1 h2)⟩;rw [zAO,Option.map_eq_some_iff] at h1;obtain ⟨z0,h1,rfl⟩:=h1;have hs:=hd.slot j z0 x v h1 h2 h3;cases z0 with
     | an xs=>exact ⟨hs.1,let ⟨ys,q1,q2⟩:=hs.2; ⟨ys,q1,q2.mono hi⟩⟩
     | nm a=>
       simp only [xn];split
       · rename_i k hp;exact (my (by simp [d8,eR hp])).trans hs
       · trivial
     | lost=>trivial
 · intro i j b b' x h1 h2 l1 l2 x1 x2;obtain ⟨n,c,e1,e2,rfl⟩:=look i b h1;obtain ⟨n',c',e1',e2',rfl⟩:=look j b' h2;rw [wj] at l1 l2
   have:=h.dis n n' c c' x e2 e2' l1 l2 (xQ.1 (by simpa [d8,e1] using x1)) (xQ.1 (by simpa [d8,e1'] using x2))
   subst this;exact lH hn i j n e1 e1'
 · have:=zL hp t ht
   simp only [zBK] at this;simp only [d8,this,Option.bind_some];exact h.keep t u ht hu
theorem EK (ns:List Nat):fG ns.length (d8 ns ρ):=by
 intro n hn;simp [d8,List.getElem?_eq_none hn]
theorem VA.ice {Av Av':Nat→Prop} {n:Nat} {xs:List (List D)} (hi:∀ d u,VI w Av d u→VI w Av' d u) (hx:∀ u,nmv ρ n=some u→VI w Av' (.sl xs) u) {d:D} {u:Value} (h:VA w Av ρ d u):VA w Av' ρ (xo n xs d) u:=by
 cases h with
 | im h=>
   have:xo n xs d=d:=by cases h <;> rfl
   rw [this];exact .im (hi _ _ h)
 | own h h1=>
   rename_i t;simp only [xo];split
   · rename_i hb
     have:=zAI hb
     subst this;exact .im (hx _ h)
   · exact .own h h1
 | bp h=>exact .bp h
 | op h=>exact .op h
 | fn hl h=>exact .fn hl h
 | vw h h1 h2 h3 h4=>exact .vw h h1 h2 h3 h4
 | junk h1=>exact .junk h1
theorem wl {Av Av':Nat→Prop} {n:Nat} {xs:List (List D)} (hi:∀ d u,VI w Av d u→VI w Av' d u) (hx:∀ u,nmv ρ n=some u→VI w Av' (.sl xs) u) {ds:List D} {us:List Value}
   (h:∀ (i:Nat) (d:D) (u:Value),ds[i]?=some d→us[i]?=some u→VA w Av ρ d u):∀ (i:Nat) (d:D) (u:Value),(ds.map (xo n xs))[i]?=some d→us[i]?=some u→VA w Av' ρ d u:=by
 intro i d u hd hu;simp only [zAO,Option.map_eq_some_iff] at hd;obtain ⟨e,he,rfl⟩:=hd;exact (h i e u he hu).ice hi hx
theorem VG.ice {Av Av':Nat→Prop} {n:Nat} {xs:List (List D)} (hi:∀ d u,VI w Av d u→VI w Av' d u) (hx:∀ u,nmv ρ n=some u→VI w Av' (.sl xs) u) {d:D} {u:Value} (h:VG w Av ρ d u):VG w Av' ρ (BJ n xs d) u:=by
 by_cases ha:∃ ds,d=.agg ds
 · obtain ⟨ds,rfl⟩:=ha;obtain ⟨us,rfl,hl,h1,hr⟩:=(VR.gr h).agg_inv;exact .agg (by simpa using hl) h1 (wl hi hx hr)
 · have hd:BJ n xs d=xo n xs d:=by cases d <;> first|rfl|exact absurd ⟨_,rfl⟩ ha
   rw [hd];cases h with
   | atom h=>exact .atom (h.ice hi hx)
   | agg=>exact absurd ⟨_,rfl⟩ ha
theorem VR.ice {Av Av':Nat→Prop} {n:Nat} {xs:List (List D)} (hi:∀ d u,VI w Av d u→VI w Av' d u) (hx:∀ u,nmv ρ n=some u→VI w Av' (.sl xs) u) {d:D} {u:Value} (h:VR w Av ρ d u):VR w Av' ρ (BJ n xs d) u:=by
 cases h with
 | gr h=>exact .gr (h.ice hi hx)
 | tup hl h=>exact .tup hl fun i d u p q=>(h i d u p q).mono hi (fun _ _ h=>h)
theorem wm (n:Nat) (xs:List (List D)) (b:Blk):de (sT n xs b)=de b:=by cases b <;> rfl
theorem xR {n:Nat} {xs:List (List D)} {b:Blk} {o:Option Value} {x:Nat}:bk (sT n xs b) o x↔bk b o x:=by
 cases b <;> exact Iff.rfl
theorem xS {S:ac}:∀ {zs:List aE} {ys:List (List D)},frZ S zs=some ys→ys.length=zs.length∧∀ (i:Nat) (z:aE),zs[i]?=some z→∃ xs,ys[i]?=some [.sl xs]∧(z=.an xs∨∃ a,z=.nm a∧lk S a=some (.fr xs))
 | [],ys,h=>by simp [frZ] at h; subst h; simp
 | .an xs :: r,ys,h=>by
   simp only [frZ] at h;split at h
   · rename_i q hq;cases h;obtain ⟨h1,h2⟩:=xS hq;refine ⟨by simp [h1],fun i z hz=>?_⟩;cases i with
     | zero=>simp at hz; subst hz; exact ⟨xs,rfl,.inl rfl⟩
     | succ i=>simpa using h2 i z (by simpa using hz)
   · cases h
 | .nm a :: r,ys,h=>by
   simp only [frZ] at h;split at h
   · rename_i xs ha;split at h
     · rename_i q hq;cases h;obtain ⟨h1,h2⟩:=xS hq;refine ⟨by simp [h1],fun i z hz=>?_⟩;cases i with
       | zero=>simp at hz; subst hz; exact ⟨xs,rfl,.inr ⟨a,rfl,ha⟩⟩
       | succ i=>simpa using h2 i z (by simpa using hz)
     · cases h
   · cases h
 | .lost :: r,ys,h=>by simp [frZ] at h
theorem R.frzZ (h:R E cx tm S a w ρ) {n:Nat} {e e2:TypeId} {zs:List aE} {ys:List (List D)} (hl:lk S n=some (.deep e e2 zs)) (hz:frZ S zs=some ys):R E cx tm (ap [(n,some (.fr ys))] S) a w ρ:=by
 have lo:∀ m o,lk [(n,some (Blk.fr ys))] m=some o→m=n∧o=some (.fr ys):=by
  intro m o hm;rw [au] at hm;by_cases e:n=m
  · rw [if_pos e] at hm; cases hm; exact ⟨e.symm,rfl⟩
  · rw [if_neg e] at hm; simp [lk] at hm
 refine h.turn ⟨(Fr.refl _ w),fun _ _ h=>h,fun m b hm hv=>?_,fun m m' b c x hm _ hv=>?_,fun hi m b hm=>?_⟩
 · obtain ⟨_,e⟩:=lo m _ hm; cases e; simp [de] at hv
 · obtain ⟨_,e⟩:=lo m _ hm; cases e; simp [de] at hv
 · obtain ⟨rfl,e⟩:=lo m _ hm;cases e;have hav:∀ x,bk (.deep e e2 zs) (ρ m) x→¬ AvS cx.G (ap [(m,some (.fr ys))] S) ρ x:=fun x hx=>h.notAv hl rfl rfl hx;obtain ⟨u,vs,us,hd⟩:=h.st _ _ hl;obtain ⟨z1,z2⟩:=xS hz;refine ⟨u,dX hd.name,gB (e:=e) (sz:=1) (us:=us) (by rw [z1]; exact hd.own) ⟨by rw [z1,hd.lu,Nat.mul_one],fun cs hcs=>?_,hd.one,fun i j cs d hc hdd=>?_⟩ fun x hx=>hav x (hd.bk.2 (.inl hx))⟩
   · obtain ⟨i,hi'⟩:=List.mem_iff_getElem?.1 hcs;have hlt:i < zs.length:=by rw [← z1]; exact (List.getElem?_eq_some_iff.1 hi').1
     obtain ⟨xs,q,_⟩:=z2 i _ (zAB hlt);rw [hi'] at q;cases q;rfl
   · have hlt:i < zs.length:=by rw [← z1]; exact (List.getElem?_eq_some_iff.1 hc).1
     have hzi:zs[i]?=some zs[i]:=zAB hlt;obtain ⟨xs,q2,q1⟩:=z2 i _ hzi;rw [hc] at q2;cases q2;cases j with
     | succ j=>simp at hdd
     | zero=>
       simp at hdd;subst hdd;obtain ⟨x,v,g1,g2,hs⟩:=hd.us_at hzi;refine ⟨x,by simpa using g1,?_⟩;rcases q1 with q1|⟨b,q1,q3⟩
       · rw [q1] at hs hzi;obtain ⟨rfl,inner,g4,g5⟩:=hs;exact gB g4 (g5.mono hi) fun y hy=>hav y (hd.bk.2 (.inr ⟨i,xs,x,hzi,g2,hy⟩))
       · rw [q1] at hs;obtain ⟨u',r1,r2⟩:=h.st _ _ q3;have hs:nmv ρ b=some x:=hs;rw [hs] at r1;cases r1;exact hi _ _ r2
theorem R.ice1 {n:Nat} {xs:List (List D)} (h:R E cx tm (ap [(n,some (.fr xs))] S) a w ρ) :
   R E cx (tm.map fun (t,d)=>(t,BJ n xs d)) ((del n S).map fun (t,b)=>(t,sT n xs b)) a w ρ:=by
 obtain ⟨u0,hr0,hv0⟩:=h.st n (.fr xs) (by rw [cl,au,if_pos rfl]);have look:∀ t b,lk ((del n S).map fun (t,b)=>(t,sT n xs b)) t=some b→t≠n∧∃ b0,lk (ap [(n,some (.fr xs))] S) t=some b0∧b=sT n xs b0:=by
  intro t b hl;rw [xp,fj] at hl;by_cases e:t=n
  · rw [if_pos e] at hl; simp at hl
  · rw [if_neg e] at hl;simp only [Option.map_eq_some_iff] at hl;obtain ⟨b0,h1,h2⟩:=hl;refine ⟨e,b0,?_,h2.symm⟩;rw [cl,au,if_neg (Ne.symm e)];exact h1
 have hheld:∀ x,eH ((del n S).map fun (t,b)=>(t,sT n xs b)) ρ x→eH (ap [(n,some (.fr xs))] S) ρ x:=by
  rintro x ⟨t,b,hl,hv,hx⟩;obtain ⟨_,b0,h1,rfl⟩:=look t b hl;rw [wm] at hv;exact ⟨t,b0,h1,hv,xR.1 hx⟩
 have hi:∀ d u,VI w (AvS cx.G (ap [(n,some (.fr xs))] S) ρ) d u→VI w (AvS cx.G ((del n S).map fun (t,b)=>(t,sT n xs b)) ρ) d u:=fun d u hv=>
  hv.mono (fun _ _ _=>rfl) (zAL _) fun x _ hav=>hav.imp id (hheld x)
 have hx:∀ u,nmv ρ n=some u→VI w (AvS cx.G ((del n S).map fun (t,b)=>(t,sT n xs b)) ρ) (.sl xs) u:=by
  intro u hu;rw [hr0] at hu;cases hu;exact hi _ _ hv0
 refine ⟨fun t d ht=>?_,fun t b hl=>?_,fun t t' b b' x h1 h2 l1 l2 x1 x2=>?_,fun x hx=>h.new x (hheld x hx),h.keep,fun g cs hg=>hi _ _ (h.gl g cs hg),h.fr,h.g,h.gf,h.defers,h.num⟩
 · rw [xp] at ht;simp only [Option.map_eq_some_iff] at ht;obtain ⟨d0,e1,rfl⟩:=ht;exact (h.tm t d0 e1).ice hi hx
 · obtain ⟨_,b0,e1,rfl⟩:=look t b hl;cases b0 with
   | box e cs=>
     obtain ⟨g,us,f1,f2,f3,f4,f5⟩:=h.st t _ e1;exact ⟨g,us,f1,f2,by simpa using f3,f4,wl hi hx f5⟩
   | own e ys=>
     obtain ⟨u,us,f1,f2,f3⟩:=h.st t _ e1;exact ⟨u,us,f1,f2,f3.mono hi⟩
   | row e ys=>
     obtain ⟨u,us,f1,f2,f3⟩:=h.st t _ e1;refine ⟨u,us,f1,by rw [zAA]; exact f2,⟨by rw [zAA]; exact f3.len,fun cs hcs=>?_,f3.one,fun i' j cs d p q=>?_⟩⟩
     · obtain ⟨cs0,h0,rfl⟩:=List.mem_map.1 hcs;rw [zAA]; exact f3.el cs0 h0
     · simp only [zAO,Option.map_eq_some_iff] at p;obtain ⟨cs0,h0,rfl⟩:=p;simp only [zAO,Option.map_eq_some_iff] at q;obtain ⟨d0,h1,rfl⟩:=q;obtain ⟨u',g1,g2⟩:=f3.at_ i' j cs0 d0 h0 h1;exact ⟨u',g1,g2.ice hi hx⟩
   | fr ys=>
     obtain ⟨u,f1,f2⟩:=h.st t _ e1;exact ⟨u,f1,hi _ _ f2⟩
   | deep e e2 zs=>
     obtain ⟨u,vs,us,hd⟩:=h.st t _ e1;exact ⟨u,vs,us,hd.name,hd.lv,hd.lu,hd.own,hd.one,fun j z x v h1 h2 h3=>by
      have hs:=hd.slot j z x v h1 h2 h3;cases z with
      | an xs=>exact ⟨hs.1,let ⟨ys,q1,q2⟩:=hs.2; ⟨ys,q1,q2.mono hi⟩⟩
      | nm a=>exact hs
      | lost=>trivial,hd.apart,hd.dis⟩
 · obtain ⟨_,c,e1,rfl⟩:=look t b h1;obtain ⟨_,c',e2,rfl⟩:=look t' b' h2;rw [wm] at l1 l2;exact h.dis t t' c c' x e1 e2 l1 l2 (xR.1 x1) (xR.1 x2)
theorem R.ice (h0:R E cx tm S a w ρ) {n:Nat} {xs:List (List D)} (hl0:(lk S n).bind imB=some xs) :
 R E cx (tm.map fun (t,d)=>(t,BJ n xs d)) ((del n S).map fun (t,b)=>(t,sT n xs b)) a w ρ:=R.ice1 (h0.frz1 hl0)
theorem R.slot (h:R E cx tm S a w ρ) {t:Nat} {d:D} (hv:VR w (AvS cx.G S ρ) ρ d (a.tmps.getD t undef)):R E cx ((t,d) :: tm) S a w ρ:=by
 refine ⟨fun t' d' hd=>?_,h.st,h.dis,h.new,h.keep,h.gl,h.fr,h.g,h.gf,h.defers,h.num⟩;rw [au] at hd;by_cases e:t=t'
 · subst e;rw [if_pos rfl] at hd;cases hd;exact hv
 · rw [if_neg e] at hd;exact h.tm t' d' hd
theorem R.again (h:R E cx tm S a w ρ) {t:Nat} {x:Bool} (ht:lk tm t=some (.b x)):R E cx ((t,.b x) :: tm) S a w ρ:=h.slot (h.tm t _ ht)
theorem px {d:D} (h:vQ d=true):d=.nil:=by cases d <;> first|rfl|cases h
theorem R.thawed (h:R E cx tm S a w ρ) (hf:fG nx ρ) (e:TypeId):R E cx tm ((nx,.own e []) :: S) a w (aK ρ nx (.slice none 0 0))∧fG (nx+1) (aK ρ nx (.slice none 0 0)) ∧
   VA w (AvS cx.G ((nx,.own e []) :: S) (aK ρ nx (.slice none 0 0))) (aK ρ nx (.slice none 0 0)) (.own nx) (.slice none 0 0):=by
 obtain ⟨h',_⟩:=h.own (hf nx (zAL _)) (e:=e) (xs:=[]) (us:=[]) (u:=.slice none 0 0) (w':=w) ⟨by simp,by simp,by simp,by simp⟩ (Fr.refl _ w) (World.ownsRow_nil _ _ _ _);refine ⟨h'.ext (fun _=>rfl) (fun n=>iz n),fun n hn=>?_,.own (dt (aw _ _) rfl) rfl⟩;rw [aL _ (by omega)];exact hf n (by omega)
theorem R.thawedD (h:R E cx tm S a w ρ) (hf:fG nx ρ) {e e2:TypeId}:R E cx tm ((nx,.deep e e2 []) :: S) a w (aK ρ nx (.tuple #[.slice none 0 0]))∧fG (nx+1) (aK ρ nx (.tuple #[.slice none 0 0])) ∧
   VA w (AvS cx.G ((nx,.deep e e2 []) :: S) (aK ρ nx (.tuple #[.slice none 0 0]))) (aK ρ nx (.tuple #[.slice none 0 0])) (.own nx) (.slice none 0 0):=by
 have h':=h.make (hf nx (zAL _)) (b:=.deep e e2 []) (v:=.tuple #[.slice none 0 0]) (w':=w) (Fr.refl _ w) (fun x hx=>by
  obtain ⟨u,vs,q1,q2⟩:=hx;have q1:#[Value.slice none 0 0]=(u :: vs).toArray:=by simpa using q1
  have:u=.slice none 0 0∧vs=[]:=by
   have:=congrArg Array.toList q1
   simp at this;exact ⟨this.1.symm,this.2⟩
  rcases q2 with q2|⟨i,xs,v,q3,_⟩
  · rw [this.1] at q2; simp [be] at q2
  · simp at q3) fun hi hr=>⟨.slice none 0 0,[],[],aw _ _,rfl,rfl,World.ownsRow_nil _ _ _ _,by simp,by simp,by simp,by simp⟩
 refine ⟨h'.ext (fun _=>rfl) (fun n=>iz n),fun n hn=>?_,.own (by unfold nmv; rw [aw]; rfl) rfl⟩;rw [aL _ (by omega)];exact hf n (by omega)
theorem VA.mv {Av Av':Nat→Prop} {ρ':Nat→Option Value} {n m:Nat} (hi:∀ d u,VI w Av d u→VI w Av' d u) (hr:∀ t u,ρ t=some u→ρ' t=some u) (hx:∀ u,nmv ρ n=some u→nmv ρ' m=some u) {d:D} {u:Value} (h:VA w Av ρ d u):VA w Av' ρ' (mvA n m d) u:=by
 cases h with
 | im h=>
   have:mvA n m d=d:=by cases h <;> rfl
   rw [this];exact .im (hi _ _ h)
 | own h h1=>
   rename_i t;simp only [mvA];split
   · rename_i hb
     have:=zAI hb
     subst this;exact .own (hx _ h) h1
   · exact .own (gn hr h) h1
 | bp h=>exact .bp (hr _ _ h)
 | op h=>
   simp only [mvA];split
   · exact .junk rfl
   · exact .op (gn hr h)
 | fn hl h=>exact .fn hl fun i n u a b=>let ⟨h1,h2⟩:=h i n u a b; ⟨hr _ _ h1,h2⟩
 | vw h h1 h2 h3 h4=>exact .vw (hr _ _ h) h1 h2 h3 h4
 | junk h1=>exact .junk h1
theorem zM {Av Av':Nat→Prop} {ρ':Nat→Option Value} {n m:Nat} (hi:∀ d u,VI w Av d u→VI w Av' d u) (hr:∀ t u,ρ t=some u→ρ' t=some u) (hx:∀ u,nmv ρ n=some u→nmv ρ' m=some u) {ds:List D} {us:List Value}
   (h:∀ (i:Nat) (d:D) (u:Value),ds[i]?=some d→us[i]?=some u→VA w Av ρ d u):∀ (i:Nat) (d:D) (u:Value),(ds.map (mvA n m))[i]?=some d→us[i]?=some u→VA w Av' ρ' d u:=by
 intro i d u hd hu;simp only [zAO,Option.map_eq_some_iff] at hd;obtain ⟨e,he,rfl⟩:=hd;exact (h i e u he hu).mv hi hr hx
theorem VG.mv {Av Av':Nat→Prop} {ρ':Nat→Option Value} {n m:Nat} (hi:∀ d u,VI w Av d u→VI w Av' d u) (hr:∀ t u,ρ t=some u→ρ' t=some u) (hx:∀ u,nmv ρ n=some u→nmv ρ' m=some u) {d:D} {u:Value} (h:VG w Av ρ d u):VG w Av' ρ' (mvD n m d) u:=by
 by_cases ha:∃ ds,d=.agg ds
 · obtain ⟨ds,rfl⟩:=ha;obtain ⟨us,rfl,hl,h1,hq⟩:=(VR.gr h).agg_inv;exact .agg (by simpa using hl) h1 (zM hi hr hx hq)
 · by_cases ht:∃ ds,d=.tup ds
   · obtain ⟨ds,rfl⟩:=ht;cases h with|atom h=>cases h with|im h=>cases h
   · have hd:mvD n m d=mvA n m d:=by cases d <;> first|rfl|exact absurd ⟨_,rfl⟩ ha|exact absurd ⟨_,rfl⟩ ht
     rw [hd];cases h with
     | atom h=>exact .atom (h.mv hi hr hx)
     | agg=>exact absurd ⟨_,rfl⟩ ha
theorem VR.mv {Av Av':Nat→Prop} {ρ':Nat→Option Value} {n m:Nat} (hi:∀ d u,VI w Av d u→VI w Av' d u) (hr:∀ t u,ρ t=some u→ρ' t=some u) (hx:∀ u,nmv ρ n=some u→nmv ρ' m=some u) {d:D} {u:Value} (h:VR w Av ρ d u):VR w Av' ρ' (mvD n m d) u:=by
 cases h with
 | gr h=>exact .gr (h.mv hi hr hx)
 | tup hl h=>exact .tup hl fun i d u p q=>(h i d u p q).mono hi hr
theorem B8 {n m:Nat} {b:Blk} {o:Option Value} {x:Nat}:bk (mvB n m b) o x↔bk b o x:=by
 cases b <;> exact Iff.rfl
theorem zN (n m:Nat) (b:Blk):de (mvB n m b)=de b:=by cases b <;> rfl
theorem R.named2 (h:R E cx tm S a w ρ) {n m:Nat} (hx:∀ u,nmv ρ n=some u→nmv ρ m=some u):R E cx (tm.map fun (t,d)=>(t,mvD n m d)) (S.map fun (t,b)=>(t,mvB n m b)) a w ρ:=by
 have look:∀ t b,lk (S.map fun (t,b)=>(t,mvB n m b)) t=some b→∃ b0,lk S t=some b0∧b=mvB n m b0:=by
  intro t b hl;rw [xp,Option.map_eq_some_iff] at hl;obtain ⟨b0,h1,h2⟩:=hl;exact ⟨b0,h1,h2.symm⟩
 have hheld:∀ x,eH (S.map fun (t,b)=>(t,mvB n m b)) ρ x→eH S ρ x:=by
  rintro x ⟨t,b,hl,hv,hx⟩;obtain ⟨b0,h1,rfl⟩:=look t b hl;rw [zN] at hv;exact ⟨t,b0,h1,hv,B8.1 hx⟩
 have hi:∀ d u,VI w (AvS cx.G S ρ) d u→VI w (AvS cx.G (S.map fun (t,b)=>(t,mvB n m b)) ρ) d u:=fun d u hv=>
  hv.mono (fun _ _ _=>rfl) (zAL _) fun x _ hav=>hav.imp id (hheld x)
 have hr:∀ t u,ρ t=some u→ρ t=some u:=fun _ _ h=>h;refine ⟨fun t d ht=>?_,fun t b hl=>?_,fun t t' b b' x h1 h2 l1 l2 x1 x2=>?_,fun x hx=>h.new x (hheld x hx),h.keep,fun g cs hg=>hi _ _ (h.gl g cs hg),h.fr,h.g,h.gf,h.defers,h.num⟩
 · rw [xp,Option.map_eq_some_iff] at ht;obtain ⟨d0,e1,rfl⟩:=ht;exact (h.tm t d0 e1).mv hi hr hx
 · obtain ⟨b0,e1,rfl⟩:=look t b hl;cases b0 with
   | box e cs=>
     obtain ⟨g,us,f1,f2,f3,f4,f5⟩:=h.st t _ e1;exact ⟨g,us,f1,f2,by simpa using f3,f4,zM hi hr hx f5⟩
   | own e ys=>
     obtain ⟨u,us,f1,f2,f3⟩:=h.st t _ e1;exact ⟨u,us,f1,f2,f3.mono hi⟩
   | row e ys=>
     obtain ⟨u,us,f1,f2,f3⟩:=h.st t _ e1;refine ⟨u,us,f1,by rw [zAA]; exact f2,⟨by rw [zAA]; exact f3.len,fun cs hcs=>?_,f3.one,fun i' j cs d p q=>?_⟩⟩
     · obtain ⟨cs0,h0,rfl⟩:=List.mem_map.1 hcs;rw [zAA]; exact f3.el cs0 h0
     · simp only [zAO,Option.map_eq_some_iff] at p;obtain ⟨cs0,h0,rfl⟩:=p;simp only [zAO,Option.map_eq_some_iff] at q;obtain ⟨d0,h1,rfl⟩:=q;obtain ⟨u',g1,g2⟩:=f3.at_ i' j cs0 d0 h0 h1;exact ⟨u',g1,g2.mv hi hr hx⟩
   | fr ys=>
     obtain ⟨u,f1,f2⟩:=h.st t _ e1;exact ⟨u,f1,hi _ _ f2⟩
   | deep e e2 zs=>
     obtain ⟨u,vs,us,hd⟩:=h.st t _ e1;exact ⟨u,vs,us,hd.name,hd.lv,hd.lu,hd.own,hd.one,fun j z x v h1 h2 h3=>by
      have hs:=hd.slot j z x v h1 h2 h3;cases z with
      | an xs=>exact ⟨hs.1,let ⟨ys,q1,q2⟩:=hs.2; ⟨ys,q1,q2.mono hi⟩⟩
      | nm a=>exact hs
      | lost=>trivial,hd.apart,hd.dis⟩
 · obtain ⟨c,e1,rfl⟩:=look t b h1;obtain ⟨c',e2,rfl⟩:=look t' b' h2;rw [zN] at l1 l2;exact h.dis t t' c c' x e1 e2 l1 l2 (B8.1 x1) (B8.1 x2)
theorem lP {e2:TypeId}:∀ {zs ws:List aE} {ns:List Nat},gk S e2 zs=some (ws,ns)→ws.length=zs.length ∧
   (∀ (i:Nat) (w:aE),ws[i]?=some w→∃ xs,w=.an xs∧(zs[i]?=some (.an xs)∨∃ a,zs[i]?=some (.nm a)∧a∈ns∧lk S a=some (.own e2 xs))) ∧
   (∀ m∈ns,∃ xs,lk S m=some (.own e2 xs))∧(dd ns=true→∀ (i j a:Nat),zs[i]?=some (.nm a)→zs[j]?=some (.nm a)→i=j)
 | [],ws,ns,h=>by simp [gk] at h; obtain ⟨rfl,rfl⟩:=h; simp
 | .an xs :: r,ws,ns,h=>by
   simp only [gk] at h;split at h
   · rename_i ws' ns' hr;cases h;obtain ⟨h1,h2,h3,h4⟩:=lP hr;refine ⟨by simp [h1],fun i w hw=>?_,h3,fun hn i j a hi hj=>?_⟩
     · cases i with
       | zero=>simp at hw; subst hw; exact ⟨xs,rfl,.inl rfl⟩
       | succ i=>simpa using h2 i w (by simpa using hw)
     · cases i with
       | zero=>simp at hi
       | succ i=>
         cases j with
         | zero=>simp at hj
         | succ j=>rw [h4 hn i j a (by simpa using hi) (by simpa using hj)]
   · cases h
 | .nm a :: r,ws,ns,h=>by
   simp only [gk] at h;split at h
   · rename_i e3 xs hl;split at h
     · rename_i hb
       have:=zAI hb
       subst this;split at h
       · rename_i ws' ns' hr;cases h;obtain ⟨h1,h2,h3,h4⟩:=lP hr;have hin:∀ (i b:Nat),r[i]?=some (.nm b)→b∈ns':=by
          intro i b hi;have hlt:i < ws'.length:=by rw [h1]; exact (List.getElem?_eq_some_iff.1 hi).1
          obtain ⟨ys,_,q⟩:=h2 i _ (zAB hlt);rcases q with q|⟨c,q1,q2,_⟩
          · rw [hi] at q; cases q
          · rw [hi] at q1; cases q1; exact q2
         refine ⟨by simp [h1],fun i w hw=>?_,fun m hm=>?_,fun hn i j b hi hj=>?_⟩
         · cases i with
           | zero=>simp at hw; subst hw; exact ⟨xs,rfl,.inr ⟨a,rfl,by simp,hl⟩⟩
           | succ i=>
             obtain ⟨ys,q1,q2⟩:=h2 i w (by simpa using hw);refine ⟨ys,q1,q2.imp (fun q=>by simpa using q) ?_⟩;rintro ⟨b,r1,r2,r3⟩;exact ⟨b,by simpa using r1,by simp [r2],r3⟩
         · rcases List.mem_cons.1 hm with rfl|hm
           · exact ⟨xs,hl⟩
           · exact h3 m hm
         · simp only [dd,zAE,zAJ] at hn;have ha:a ∉ ns':=fun hin=>by rw [dH.2 hin] at hn; exact absurd hn.1 (by simp)
           cases i with
           | zero=>
             simp at hi;subst hi;cases j with
             | zero=>rfl
             | succ j=>exact absurd (hin j _ (by simpa using hj)) ha
           | succ i=>
             cases j with
             | zero=>
               simp at hj;subst hj;exact absurd (hin i _ (by simpa using hi)) ha
             | succ j=>rw [h4 hn.2 i j b (by simpa using hi) (by simpa using hj)]
       · cases h
     · cases h
   · cases h
 | .lost :: r,ws,ns,h=>by simp [gk] at h
theorem xT (S:ac):∀ (ns:List Nat) (t:Nat),lk (u7 ns S) t=if t∈ns then none else lk S t
 | [],t=>by simp [u7]
 | n :: r,t=>by
   rw [u7,fj,xT S r t];by_cases e:t=n
   · simp [e]
   · simp [e]
theorem R.close (h:R E cx tm S a w ρ) (hf:fG nx ρ) {n:Nat} {e e2:TypeId} {zs ws:List aE} {ns:List Nat} (hl:lk S n=some (.deep e e2 zs)) (hz:gk S e2 zs=some (ws,ns)) (hnd:dd (n :: ns)=true) :
   ∃ ρ',R E cx tm ((nx,.deep e e2 ws) :: del n (u7 ns S)) a w ρ'∧fG (nx+1) ρ'∧∀ u,nmv ρ' n=some u→nmv ρ' nx=some u:=by
 obtain ⟨c1,c2,c3,c4⟩:=lP hz;simp only [dd,zAE,zAJ] at hnd;have hnin:n ∉ ns:=fun hin=>by rw [dH.2 hin] at hnd; exact absurd hnd.1 (by simp)
 have c4:=c4 hnd.2;obtain ⟨u,vs,us,hd⟩:=h.st _ _ hl;have hfn:=hf nx (zAL _);have at_:∀ (i:Nat) (xs:List (List D)) (x:Value),ws[i]?=some (.an xs)→us[i]?=some x→(zs[i]?=some (.an xs)∧vs[i]?=some x)∨∃ b,zs[i]?=some (.nm b)∧b∈ns∧lk S b=some (.own e2 xs)∧ρ b=some x:=by
  intro i xs x hw hx;obtain ⟨ys,q1,q2⟩:=c2 i _ hw;cases q1;rcases q2 with q2|⟨b,q2,q3,q4⟩
  · obtain ⟨x',v,g1,g2,g3,_⟩:=hd.us_at q2;rw [hx] at g1;cases g1;exact .inl ⟨q2,by rw [g2,g3]⟩
  · obtain ⟨x',v,g1,g2,g3⟩:=hd.us_at q2;rw [hx] at g1;cases g1;obtain ⟨ub,ubs,r1,r2,_⟩:=h.st _ _ q4;have g3:nmv ρ b=some x:=g3;rw [dt r1 (cJ r2)] at g3;cases g3;exact .inr ⟨b,q2,q3,q4,r1⟩
 have inner:∀ (i:Nat) (xs:List (List D)) (x:Value),ws[i]?=some (.an xs)→us[i]?=some x→∃ ys:List Value,w.ownsRow 0 e2 (E.P.cellsOf e2) x xs.length ys∧Rows (VI w (AvS cx.G S ρ)) (E.P.cellsOf e2) xs ys:=by
  intro i xs x hw hx;rcases at_ i xs x hw hx with ⟨q1,q2⟩|⟨b,q1,q2,q3,q4⟩
  · obtain ⟨x',v,g1,g2,g3,ys,g4,g5⟩:=hd.us_at q1;rw [hx] at g1;cases g1;subst g3;exact ⟨ys,g4,g5⟩
  · obtain ⟨ub,ubs,r1,r2,r3⟩:=h.st _ _ q3;rw [q4] at r1;cases r1;exact ⟨ubs,r2,r3⟩
 have has:∀ (i:Nat) (xs:List (List D)) (x:Value) (y:Nat),ws[i]?=some (.an xs)→us[i]?=some x→be x=some y→(zs[i]?=some (.an xs)∧vs[i]?=some x)∨∃ b,zs[i]?=some (.nm b)∧b∈ns∧lk S b=some (.own e2 xs)∧bk (.own e2 xs) (ρ b) y:=by
  intro i xs x y hw hx hy;rcases at_ i xs x hw hx with q|⟨b,q1,q2,q3,q4⟩
  · exact .inl q
  · exact .inr ⟨b,q1,q2,q3,by rw [q4]; exact hy⟩
 have hms:∀ m∈n :: ns,∃ b,lk S m=some b∧de b=true:=by
  intro m hm;rcases List.mem_cons.1 hm with rfl|hm
  · exact ⟨_,hl,rfl⟩
  · obtain ⟨xs,hx⟩:=c3 m hm;exact ⟨_,hx,rfl⟩
 have hR:=h.swaps hfn (ms:=n :: ns) (b':=.deep e e2 ws) hms (v:=.tuple (u :: us).toArray) (w':=w) (Fr.refl _ w) (fun x hx=>by
  obtain ⟨u',vs',q1,q2⟩:=hx;obtain ⟨rfl,rfl⟩:=iL rfl q1;left;rcases q2 with q2|⟨i,xs,v,q2,q3,q4⟩
  · exact ⟨n,_,by simp,hl,rfl,hd.bk.2 (.inl q2)⟩
  · rcases has i xs v x q2 q3 q4 with ⟨r1,r2⟩|⟨b,r1,r2,r3,r4⟩
    · exact ⟨n,_,by simp,hl,rfl,hd.bk.2 (.inr ⟨i,xs,v,r1,r2,q4⟩)⟩
    · exact ⟨b,_,by simp [r2],r3,rfl,r4⟩) fun hi hr=>by
  refine ⟨u,us,us,aw _ _,by rw [c1]; exact hd.lu,by rw [c1]; exact hd.lu,by rw [c1]; exact hd.own,hd.one,fun i z x v h1 h2 h3=>?_,fun i xs v x h1 h2 h3 hu=>?_,fun i j xs ys v v' x h1 h2 h3 h4 h5 h6=>?_⟩
  · rw [h2] at h3;cases h3;obtain ⟨xs,rfl,_⟩:=c2 i z h1;obtain ⟨ys,q1,q2⟩:=inner i xs x h1 h2;exact ⟨rfl,ys,q1,q2.mono hi⟩
  · rcases has i xs v x h1 h2 h3 with ⟨r1,r2⟩|⟨b,r1,r2,r3,r4⟩
    · exact hd.apart i xs v x r1 r2 h3 hu
    · have:=h.dis n b _ _ x hl r3 rfl rfl (hd.bk.2 (.inl hu)) r4
      subst this;exact hnin r2
  · rcases has i xs v x h1 h3 h5 with ⟨r1,r2⟩|⟨b,r1,r2,r3,r4⟩
    · rcases has j ys v' x h2 h4 h6 with ⟨s1,s2⟩|⟨c,s1,s2,s3,s4⟩
      · exact hd.dis i j xs ys v v' x r1 s1 r2 s2 h5 h6
      · have:=h.dis n c _ _ x hl s3 rfl rfl (hd.bk.2 (.inr ⟨i,xs,v,r1,r2,h5⟩)) s4
        subst this;exact absurd s2 hnin
    · rcases has j ys v' x h2 h4 h6 with ⟨s1,s2⟩|⟨c,s1,s2,s3,s4⟩
      · have:=h.dis n b _ _ x hl r3 rfl rfl (hd.bk.2 (.inr ⟨j,ys,v',s1,s2,h6⟩)) r4
        subst this;exact absurd r2 hnin
      · have:=h.dis b c _ _ x r3 s3 rfl rfl r4 s4
        subst this;exact c4 i j b r1 s1
 refine ⟨_,hR.ext (fun _=>rfl) (fun t=>?_),fun t ht=>?_,fun u' hu'=>?_⟩
 · rw [cl,au,au,fj,xT,jq];by_cases e1:nx=t
   · simp [e1]
   · by_cases e2:t=n
     · subst e2; simp [e1]
     · by_cases e3:t∈ns <;> simp [e1,e2,e3]
 · rw [aL _ (by omega)];exact hf t (by omega)
 · have hne:n≠nx:=by
     rintro rfl;rw [hd.name] at hfn;cases hfn
   rw [my (show aK ρ nx (.tuple (u :: us).toArray) n=ρ n from aL _ hne),dX hd.name] at hu'
   cases hu';exact dX (aw _ _)
theorem R.shut (h:R E cx tm S a w ρ) (hf:fG nx ρ) {n:Nat} {e e2:TypeId} {zs ws:List aE} {ns:List Nat} (hl:lk S n=some (.deep e e2 zs)) (hz:gk S e2 zs=some (ws,ns)) (hnd:dd (n :: ns)=true) :
   ∃ ρ',R E cx tm ((n,.deep e e2 ws) :: del n (u7 ns S)) a w ρ'∧fG nx ρ':=by
 obtain ⟨c1,c2,c3,c4⟩:=lP hz;simp only [dd,zAE,zAJ] at hnd;have hnin:n ∉ ns:=fun hin=>by rw [dH.2 hin] at hnd; exact absurd hnd.1 (by simp)
 have c4:=c4 hnd.2;obtain ⟨u,vs,us,hd⟩:=h.st _ _ hl;have at_:∀ (i:Nat) (xs:List (List D)) (x:Value),ws[i]?=some (.an xs)→us[i]?=some x→(zs[i]?=some (.an xs)∧vs[i]?=some x)∨∃ b,zs[i]?=some (.nm b)∧b∈ns∧lk S b=some (.own e2 xs)∧ρ b=some x:=by
  intro i xs x hw hx;obtain ⟨ys,q1,q2⟩:=c2 i _ hw;cases q1;rcases q2 with q2|⟨b,q2,q3,q4⟩
  · obtain ⟨x',v,g1,g2,g3,_⟩:=hd.us_at q2;rw [hx] at g1;cases g1;exact .inl ⟨q2,by rw [g2,g3]⟩
  · obtain ⟨x',v,g1,g2,g3⟩:=hd.us_at q2;rw [hx] at g1;cases g1;obtain ⟨ub,ubs,r1,r2,_⟩:=h.st _ _ q4;have g3:nmv ρ b=some x:=g3;rw [dt r1 (cJ r2)] at g3;cases g3;exact .inr ⟨b,q2,q3,q4,r1⟩
 have inner:∀ (i:Nat) (xs:List (List D)) (x:Value),ws[i]?=some (.an xs)→us[i]?=some x→∃ ys:List Value,w.ownsRow 0 e2 (E.P.cellsOf e2) x xs.length ys∧Rows (VI w (AvS cx.G S ρ)) (E.P.cellsOf e2) xs ys:=by
  intro i xs x hw hx;rcases at_ i xs x hw hx with ⟨q1,q2⟩|⟨b,q1,q2,q3,q4⟩
  · obtain ⟨x',v,g1,g2,g3,ys,g4,g5⟩:=hd.us_at q1;rw [hx] at g1;cases g1;subst g3;exact ⟨ys,g4,g5⟩
  · obtain ⟨ub,ubs,r1,r2,r3⟩:=h.st _ _ q3;rw [q4] at r1;cases r1;exact ⟨ubs,r2,r3⟩
 have has:∀ (i:Nat) (xs:List (List D)) (x:Value) (y:Nat),ws[i]?=some (.an xs)→us[i]?=some x→be x=some y→(zs[i]?=some (.an xs)∧vs[i]?=some x)∨∃ b,zs[i]?=some (.nm b)∧b∈ns∧lk S b=some (.own e2 xs)∧bk (.own e2 xs) (ρ b) y:=by
  intro i xs x y hw hx hy;rcases at_ i xs x hw hx with q|⟨b,q1,q2,q3,q4⟩
  · exact .inl q
  · exact .inr ⟨b,q1,q2,q3,by rw [q4]; exact hy⟩
 have hms:∀ m∈n :: ns,∃ b,lk S m=some b∧de b=true:=by
  intro m hm;rcases List.mem_cons.1 hm with rfl|hm
  · exact ⟨_,hl,rfl⟩
  · obtain ⟨xs,hx⟩:=c3 m hm;exact ⟨_,hx,rfl⟩
 have hlo:∀ m,lk ((n,some (Blk.deep e e2 ws)) :: gone ns) m=if n=m then some (some (.deep e e2 ws)) else if m∈ns then some none else none:=fun m=>by rw [au,jq]
 have hlo2:∀ m b,lk ((n,some (Blk.deep e e2 ws)) :: gone ns) m=some (some b)→m=n∧b=.deep e e2 ws:=by
  intro m b hm;rw [hlo] at hm;by_cases e1:n=m
  · rw [if_pos e1] at hm; cases hm; exact ⟨e1.symm,rfl⟩
  · rw [if_neg e1] at hm;split at hm <;> cases hm
 have hlo3:∀ m,m∈n :: ns→lk ((n,some (Blk.deep e e2 ws)) :: gone ns) m≠none:=by
  intro m hm;rw [hlo];by_cases e1:n=m
  · rw [if_pos e1]; simp
  · rw [if_neg e1,if_pos ((List.mem_cons.1 hm).resolve_left (Ne.symm e1))]; simp
 have hT:sW E cx S w ρ ((n,some (Blk.deep e e2 ws)) :: gone ns) w (aK ρ n (.tuple (u :: us).toArray)):=by
  refine ⟨Fr.refl _ w,fun t g ht=>?_,fun t g ht hg=>?_,fun m b hm hv x hx=>?_,fun m m' b c x h1 h2 _ _ _ _=>by rw [(hlo2 m b h1).1,(hlo2 m' c h2).1],fun hi m b hm=>?_⟩
  · by_cases e1:t=n
    · subst e1;rw [hd.name] at ht;cases ht;exact ⟨_,aw _ _,.inr ⟨u,vs,us,rfl,rfl⟩⟩
    · exact ⟨g,by rw [aL _ e1]; exact ht,.refl g⟩
  · have e1:t≠n:=by
      rintro rfl;exact hlo3 t (by simp) ht
    rw [aL _ e1];exact hg
  · obtain ⟨e0,rfl⟩:=hlo2 m b hm;have e0:=e0.symm;subst e0;rw [aw] at hx;have conv:(∃ m' b',m'∈n :: ns∧lk S m'=some b'∧de b'=true∧bk b' (ρ m') x)→∃ m' b',lk ((n,some (Blk.deep e e2 ws)) :: gone ns) m'≠none∧lk S m'=some b'∧de b'=true∧bk b' (ρ m') x:=
     fun ⟨m',b',q1,q2⟩=>⟨m',b',hlo3 m' q1,q2⟩
    have hA:∃ m' b',m'∈n :: ns∧lk S m'=some b'∧de b'=true∧bk b' (ρ m') x:=by
     obtain ⟨u',vs',q1,q2⟩:=hx;obtain ⟨rfl,rfl⟩:=iL rfl q1;rcases q2 with q2|⟨i,xs,v,q2,q3,q4⟩
     · exact ⟨n,_,by simp,hl,rfl,hd.bk.2 (.inl q2)⟩
     · rcases has i xs v x q2 q3 q4 with ⟨r1,r2⟩|⟨b,r1,r2,r3,r4⟩
       · exact ⟨n,_,by simp,hl,rfl,hd.bk.2 (.inr ⟨i,xs,v,r1,r2,q4⟩)⟩
       · exact ⟨b,_,by simp [r2],r3,rfl,r4⟩
    exact .inr (conv hA)
  · obtain ⟨e0,rfl⟩:=hlo2 m b hm;have e0:=e0.symm;subst e0;refine ⟨u,us,us,aw _ _,by rw [c1]; exact hd.lu,by rw [c1]; exact hd.lu,by rw [c1]; exact hd.own,hd.one,fun i z x v h1 h2 h3=>?_,fun i xs v x h1 h2 h3 hu=>?_,fun i j xs ys v v' x h1 h2 h3 h4 h5 h6=>?_⟩
    · rw [h2] at h3;cases h3;obtain ⟨xs,rfl,_⟩:=c2 i z h1;obtain ⟨ys,q1,q2⟩:=inner i xs x h1 h2;exact ⟨rfl,ys,q1,q2.mono hi⟩
    · rcases has i xs v x h1 h2 h3 with ⟨r1,r2⟩|⟨b,r1,r2,r3,r4⟩
      · exact hd.apart i xs v x r1 r2 h3 hu
      · have:=h.dis n b _ _ x hl r3 rfl rfl (hd.bk.2 (.inl hu)) r4
        subst this;exact hnin r2
    · rcases has i xs v x h1 h3 h5 with ⟨r1,r2⟩|⟨b,r1,r2,r3,r4⟩
      · rcases has j ys v' x h2 h4 h6 with ⟨s1,s2⟩|⟨c,s1,s2,s3,s4⟩
        · exact hd.dis i j xs ys v v' x r1 s1 r2 s2 h5 h6
        · have:=h.dis n c _ _ x hl s3 rfl rfl (hd.bk.2 (.inr ⟨i,xs,v,r1,r2,h5⟩)) s4
          subst this;exact absurd s2 hnin
      · rcases has j ys v' x h2 h4 h6 with ⟨s1,s2⟩|⟨c,s1,s2,s3,s4⟩
        · have:=h.dis n b _ _ x hl r3 rfl rfl (hd.bk.2 (.inr ⟨j,ys,v',s1,s2,h6⟩)) r4
          subst this;exact absurd r2 hnin
        · have:=h.dis b c _ _ x r3 s3 rfl rfl r4 s4
          subst this;exact c4 i j b r1 s1
 refine ⟨_,(h.turnK hT).ext (fun _=>rfl) (fun t=>?_),fun t ht=>?_⟩
 · rw [cl,hlo,au,fj,xT];by_cases e1:n=t
   · simp [e1]
   · by_cases e3:t∈ns <;> simp [e1,Ne.symm e1,e3]
 · have e1:t≠n:=by
     rintro rfl
     have:=hd.name
     rw [hf t ht] at this;cases this
   rw [aL _ e1];exact hf t ht
theorem Gt {m:Mv} {tm':Tm} {S':ac} {nx':Nat} (hm:mv m tm S nx=some (tm',S',nx')) (h:R E cx tm S a w ρ) (hf:fG nx ρ):∃ ρ',R E cx tm' S' a w ρ'∧fG nx' ρ':=by
 cases m with
 | ice n=>
   simp only [mv] at hm;split at hm
   · rename_i b hl;split at hm
     · rename_i xs hb;cases hm;exact ⟨ρ,h.ice (by rw [hl]; exact hb),hf⟩
     · cases hm
   · cases hm
 | thaw t e=>
   simp only [mv] at hm;split at hm
   · rename_i d hd;split at hm
     · rename_i hn;cases hm
       have:=px hn
       subst this;have hv:=(h.tm t _ hd).nil_inv;obtain ⟨h1,h2,h3⟩:=h.thawed hf e;refine ⟨_,h1.slot ?_,h2⟩;rw [hv];exact .gr (.atom h3)
     · cases hm
   · cases hm
 | iceZ n=>
   simp only [mv] at hm;split at hm
   · rename_i e e2 zs hl;split at hm
     · rename_i xs hb;cases hm;exact ⟨ρ,R.ice1 (h.frzZ hl hb),hf⟩
     · cases hm
   · cases hm
 | thawT t e e2=>
   simp only [mv] at hm;split at hm
   · rename_i d hd;split at hm
     · rename_i hn;cases hm
       have:=px hn
       subst this;have hv:=(h.tm t _ hd).nil_inv;obtain ⟨h1,h2,h3⟩:=h.thawedD hf (e:=e) (e2:=e2);refine ⟨_,h1.slot ?_,h2⟩;rw [hv];exact .gr (.atom h3)
     · cases hm
   · cases hm
 | thawB n i e=>
   simp only [mv] at hm;split at hm
   · rename_i e' cs hl;split at hm
     · rename_i d hd;split at hm
       · rename_i hn;cases hm
         have:=px hn
         subst this;obtain ⟨h1,h2,h3⟩:=h.thawed hf e;have hne:n≠nx:=by
          rintro rfl;obtain ⟨u,hu⟩:=h.named hl;rw [hf n (zAL _)] at hu;cases hu
         have hl':lk ((nx,Blk.own e []) :: S) n=some (.box e' cs):=by rw [au,if_neg (Ne.symm hne)]; exact hl
         refine ⟨_,?_,h2⟩;obtain ⟨b,us,f1,f2,f3,f4,f5⟩:=h1.st n _ hl';have hw:=h1.write (b':=.box e' (cs.set i (.own nx))) hl' rfl (g:=b) (by rw [f1]; rfl) (Fr.refl _ w |>.weaken fun _ h=>h) fun hi=>by
          refine ⟨b,us,f1,f2,by rw [zAS]; exact f3,f4,fun j d u p q=>?_⟩;rw [zAm] at p;by_cases e1:i=j
          · subst e1;rw [if_pos rfl] at p;split at p
            · cases p;have hu:u=.slice none 0 0:=by
               have:=f5 i .nil u hd q
               cases this with|im h=>cases h; rfl
              subst hu;exact h3.mono hi (fun _ _ h=>h)
            · cases p
          · rw [if_neg e1] at p;exact (f5 j d u p q).mono hi (fun _ _ h=>h)
         refine hw.ext (fun _=>rfl) fun m=>?_;rw [cl];simp only [pb,au,fj];by_cases e1:nx=m
         · have:n≠m:=by rintro rfl; exact hne e1.symm
           simp [e1,this,lk]
         · by_cases e2:n=m
           · simp [e1,e2]
           · simp [e1,e2,Ne.symm e2,lk]
       · cases hm
     · cases hm
   · cases hm
 | thawD n i e e2=>
   simp only [mv] at hm;split at hm
   · rename_i e' cs hl;split at hm
     · rename_i d hd;split at hm
       · rename_i hn;cases hm
         have:=px hn
         subst this;obtain ⟨h1,h2,h3⟩:=h.thawedD hf (e:=e) (e2:=e2);have hne:n≠nx:=by
          rintro rfl;obtain ⟨u,hu⟩:=h.named hl;rw [hf n (zAL _)] at hu;cases hu
         have hl':lk ((nx,Blk.deep e e2 []) :: S) n=some (.box e' cs):=by rw [au,if_neg (Ne.symm hne)]; exact hl
         refine ⟨_,?_,h2⟩;obtain ⟨b,us,f1,f2,f3,f4,f5⟩:=h1.st n _ hl';have hw:=h1.write (b':=.box e' (cs.set i (.own nx))) hl' rfl (g:=b) (by rw [f1]; rfl) (Fr.refl _ w |>.weaken fun _ h=>h) fun hi=>by
          refine ⟨b,us,f1,f2,by rw [zAS]; exact f3,f4,fun j d u p q=>?_⟩;rw [zAm] at p;by_cases e1:i=j
          · subst e1;rw [if_pos rfl] at p;split at p
            · cases p;have hu:u=.slice none 0 0:=by
               have:=f5 i .nil u hd q
               cases this with|im h=>cases h; rfl
              subst hu;exact h3.mono hi (fun _ _ h=>h)
            · cases p
          · rw [if_neg e1] at p;exact (f5 j d u p q).mono hi (fun _ _ h=>h)
         refine hw.ext (fun _=>rfl) fun m=>?_;rw [cl];simp only [pb,au,fj];by_cases e1:nx=m
         · have:n≠m:=by rintro rfl; exact hne e1.symm
           simp [e1,this,lk]
         · by_cases e2:n=m
           · simp [e1,e2]
           · simp [e1,e2,Ne.symm e2,lk]
       · cases hm
     · cases hm
   · cases hm
 | shut n=>
   simp only [mv] at hm;split at hm
   · rename_i e e2 zs hl;split at hm
     · rename_i ws ns hz;split at hm
       · rename_i hnd;cases hm;exact h.shut hf hl hz hnd
       · cases hm
     · cases hm
   · cases hm
 | close n=>
   simp only [mv] at hm;split at hm
   · rename_i e e2 zs hl;split at hm
     · rename_i ws ns hz;split at hm
       · rename_i hnd;cases hm;obtain ⟨ρ',h1,h2,h3⟩:=h.close hf hl hz hnd;exact ⟨ρ',h1.named2 h3,h2⟩
       · cases hm
     · cases hm
   · cases hm
 | trim t=>
   simp only [mv] at hm;split at hm
   · rename_i n z b ht;split at hm
     · rename_i e xs hl;cases hm;obtain ⟨n0,c0,A0,hr,p1,p2,p3,p4,hv⟩:=(h.tm t _ ht).vw_inv;obtain ⟨u,us,hr',hown,hc⟩:=h.st _ _ hl;rw [hr] at hr';cases hr';have hn0:n0=xs.length:=by
        rcases hown.2 with ⟨e1,e2⟩|⟨g,cap,cur,e1,_⟩
        · injection e1 with _ q _; omega
        · injection e1
       have hA:(if c0=0 then A0 else A0.map (·.add (0 * z)))=A0:=by
        split
        · rfl
        · rcases hown.2 with ⟨e1,_⟩|⟨g,cap,cur,e1,_⟩
          · have:A0=none:=by injection e1
            rw [this]; rfl
          · have:A0=some ⟨g,0,none⟩:=by injection e1
            rw [this]; simp [iA]
       rw [hA] at hv;simp only [Nat.sub_zero] at hv;have hfn:=hf nx (zAL _);have hlen:(xs.take b).length=b:=by rw [zAd]; omega
       have hR:=h.swap hfn (b':=.own e (xs.take b)) hl rfl (v:=.slice A0 b c0) (w':=w) (Fr.refl _ w) (fun x hx=>by
        left;simp only [bk,hr,Option.bind_some] at hx ⊢;cases A0 <;> exact hx) fun hi=>by
        refine ⟨_,us.take (b * E.P.cellsOf e),aw _ _,?_,(hc.take b).mono hi⟩;refine ⟨by rw [hlen,zAd,hc.len]; exact Nat.min_eq_left (zAf _ (by omega)),?_⟩;rw [hlen];rcases hown.2 with ⟨e1,e2⟩|⟨g,cap,cur,e1,q1,q2,q3,q4,q5,q6⟩
        · left;injection e1 with r1 r2 r3
          have:b=0:=by omega
          subst r1 r3 this;exact ⟨rfl,rfl⟩
        · injection e1 with r1 r2 r3
          subst r1 r3;refine .inr ⟨g,c0,cur,rfl,q1,q2,by omega,q4,q5,?_⟩;rw [← q6,List.take_take];congr 1
          exact (Nat.min_eq_left (zAf _ (by omega))).symm
       have hR2:=hR.ext (tm':=tm) (S':=(nx,.own e (xs.take b)) :: del n S) (fun _=>rfl) fun k=>by
        rw [cl,au,au,au,fj];by_cases e1:nx=k
        · simp [e1]
        · by_cases e2:n=k
          · subst e2; simp [e1]
          · simp [e1,e2,Ne.symm e2,lk]
       refine ⟨_,hR2.slot ?_,fun k hk=>by rw [aL _ (by omega)]; exact hf k (by omega)⟩;rw [hv];exact .gr (.atom (.own (by unfold nmv; rw [aw]; rfl) rfl))
     · cases hm
   · cases hm
 | anew n=>
   simp only [mv] at hm;split at hm
   · rename_i e xs hl;cases hm;obtain ⟨u,us,hr,hown,hc⟩:=h.st _ _ hl;have hfn:=hf nx (zAL _);have hne:n≠nx:=by
      rintro rfl;rw [hr] at hfn;cases hfn
     have hR:=h.swap hfn (b':=.own e xs) hl rfl (v:=u) (w':=w) (Fr.refl _ w) (fun x hx=>.inl (by simpa only [bk,hr] using hx)) fun hi=>⟨_,us,aw _ _,hown,hc.mono hi⟩;have hR2:=hR.ext (tm':=tm) (S':=(nx,.own e xs) :: del n S) (fun _=>rfl) fun k=>by
      rw [cl,au,au,au,fj];by_cases e1:nx=k
      · simp [e1]
      · by_cases e2:n=k
        · subst e2; simp [e1]
        · simp [e1,e2,Ne.symm e2,lk]
     refine ⟨_,hR2.named2 (n:=n) (m:=nx) (fun u' hu'=>?_),fun k hk=>by rw [aL _ (by omega)]; exact hf k (by omega)⟩;rw [my (show aK ρ nx u n=ρ n from aL _ hne),dt hr (cJ hown)] at hu'
     cases hu';exact dt (aw _ _) (cJ hown)
   · cases hm
 | openA n i=>
   simp only [mv] at hm;split at hm
   · rename_i e e2 zs hl;split at hm
     · rename_i xs hz;cases hm;obtain ⟨q,_,_,_,hR⟩:=h.opened (hf nx (zAL _)) hl hz;refine ⟨_,hR.ext (fun _=>rfl) fun m=>?_,fun k hk=>by rw [aL _ (by omega)]; exact hf k (by omega)⟩;rw [cl];simp only [au,pb,fj];by_cases e1:nx=m
       · simp [e1]
       · by_cases e2:n=m
         · simp [e1,e2]
         · simp [e1,e2,Ne.symm e2,lk]
     · cases hm
   · cases hm
theorem nh:∀ {l:List Mv} {tm:Tm} {S:ac} {nx:Nat} {ρ:Nat→Option Value} {tm':Tm} {S':ac} {nx':Nat},mvs l tm S nx=some (tm',S',nx')→R E cx tm S a w ρ→fG nx ρ→∃ ρ',R E cx tm' S' a w ρ'∧fG nx' ρ'
 | [],_,_,_,_,_,_,_,hm,h,hf=>by simp [mvs] at hm; obtain ⟨rfl,rfl,rfl⟩:=hm; exact ⟨_,h,hf⟩
 | m :: r,tm,S,nx,ρ,tm',S',nx',hm,h,hf=>by
   simp only [mvs] at hm;split at hm
   · rename_i tm1 S1 nx1 h1;obtain ⟨ρ1,h2,h3⟩:=Gt h1 h hf;exact nh hm h2 h3
   · cases hm
theorem iE {J:Tm→ac→Nat→Prop} (hj:g9 cx.k0 tm S nx J) (h:R E cx tm S a w ρ) (hf:fG nx ρ):∃ tm' S' nx' ρ',R E cx tm' S' a w ρ'∧fG nx' ρ'∧J tm' S' nx':=by
 obtain ⟨ms,ts,ns,hj⟩:=hj;split at hj
 · rename_i tm1 S1 nx1 hm;obtain ⟨h1,h2,h3⟩:=hj;obtain ⟨ρ1,h4,h5⟩:=nh hm h hf;exact ⟨_,_,_,_,(h4.carry ts h1 h2).1,EK ns,h3⟩
 · exact hj.elim
end
end Go.Ab
namespace Go.Ab
open Go Go.RowKit
section
variable {E:Env} {cx:Cx}
def Nx (E:Env) (cx:Cx) (K:Tm→ac→Nat→Prop) (a:Act) (w:World):Prop:=
 ∃ tm S nx ρ,R E cx tm S a w ρ∧fG nx ρ∧K tm S nx
def B9:Ex→Exit
 | .normal=>.normal
 | .exit i=>.exit i
 | .ret=>.ret
def gm (N:Nat):Code→Bool
 | .region _ ops _=>lO N ops.toList
 | .seq a b=>gm N a && gm N b
 | .cond _ a b=>gm N a && gm N b
 | .block _ b=>gm N b
 | .loop b=>gm N b
 | _=>true
theorem R.drew {tm:Tm} {S:ac} {a:Act} {w:World} {ρ:Nat→Option Value} (h:R E cx tm S a w ρ):R E cx tm S a { w with drawn:=w.drawn+1 } ρ:=by
 have hi:∀ d u,VI w (AvS cx.G S ρ) d u→VI { w with drawn:=w.drawn+1 } (AvS cx.G S ρ) d u:=fun d u hv=>VI.mono (w:=w) (w':={ w with drawn:=w.drawn+1 }) (fun _ _ _=>rfl) (zAL _) (fun _ _ h=>h) hv
 exact ⟨fun t d ht=>(h.tm t d ht).mono hi fun _ _ h=>h,fun t b hl=>(h.st t b hl).mono hi (fun _ _ h=>h) fun _ _ _=>rfl,h.dis,h.new,h.keep,fun g cs hg=>hi _ _ (h.gl g cs hg),⟨h.fr.os,h.fr.tape,h.fr.output,h.fr.size,h.fr.block⟩,h.g,h.gf,h.defers,h.num⟩
def AW (E:Env) (N k0:Nat) (c:Code) (tm:Tm) (S:ac) (nx:Nat) (Q:Ex→Tm→ac→Nat→Prop):Prop:=
 ∀ (cx:Cx) (a:Act) (w:World) (ρ:Nat→Option Value) (Q':Exit→Act→World→Prop),cx.N=N→cx.k0=k0→R E cx tm S a w ρ→fG nx ρ→(∀ e a w,Nx E cx (Q e) a w→Q' (B9 e) a w)→c.wp E.P Q' a w
theorem AW.seq {N k0:Nat} {x y:Code} {tm:Tm} {S:ac} {nx:Nat} {Q:Ex→Tm→ac→Nat→Prop} (J:Tm→ac→Nat→Prop)
   (hx:AW E N k0 x tm S nx fun e tm S nx=>match e with
     | .normal=>g9 k0 tm S nx J
     | e=>Q e tm S nx) (hy:∀ tm S nx,J tm S nx→AW E N k0 y tm S nx Q):AW E N k0 (.seq x y) tm S nx Q:=by
 intro cx a w ρ Q' hN hk0 h hf hQ;refine wp_seq (hx cx a w ρ _ hN hk0 h hf fun e a w hn=>?_);obtain ⟨tm,S,nx,ρ,h,hf,hk⟩:=hn;cases e with
 | normal=>
   subst hk0;obtain ⟨tm1,S1,nx1,ρ1,h1,hf1,hJ⟩:=iE hk h hf;exact hy tm1 S1 nx1 hJ cx a w ρ1 Q' hN rfl h1 hf1 hQ
 | exit i=>exact hQ (.exit i) _ _ ⟨_,_,_,_,h,hf,hk⟩
 | ret=>exact hQ .ret _ _ ⟨_,_,_,_,h,hf,hk⟩
def py:Nat→List D→Tm
 | _,[]=>[]
 | i,d :: r=>(i,d) :: py (i+1) r
theorem zO:∀ (ds:List D) (i t:Nat),lk (py i ds) t=if i≤t then ds[t - i]? else none
 | [],i,t=>by simp [py,lk]
 | d :: r,i,t=>by
   rw [py,au,zO r];by_cases h:i=t
   · subst h; simp
   · rw [if_neg h];by_cases h2:i+1≤t
     · rw [if_pos h2,if_pos (by omega)]
       have:t - i=(t - (i+1))+1:=by omega
       rw [this]; simp
     · rw [if_neg h2,if_neg (by omega)]
def qF (tmps:Array Value) (rv:ResultVar):Sem Value:=
 match rv with
 | .tmp t=>pure (tmps.getD t undef)
 | .cell x t=>do loadVar t (← asAddr (tmps.getD x undef))
theorem tz (hty:dW E) {tm:Tm} {S:ac} {a:Act} {w:World} {ρ:Nat→Option Value} (h:R E cx tm S a w ρ):∀ (rv:List ResultVar) (K:List D→Prop),nA E tm S rv K →
   ∃ ds us,(rv.mapM (qF a.tmps)).run E.P w=.ok us w∧ds.length=us.length ∧
     (∀ (i:Nat) (d:D) (u:Value),ds[i]?=some d→us[i]?=some u→VR w (AvS cx.G S ρ) ρ d u)∧K ds
 | [],K,hk=>⟨[],[],by simp,rfl,by simp,hk⟩
 | .tmp t :: r,K,hk=>by
   unfold nA at hk;split at hk
   · rename_i d hd;obtain ⟨ds,us,e1,e2,e3,e4⟩:=tz hty h r _ hk;refine ⟨d :: ds,a.tmps.getD t undef :: us,by rw [List.mapM_cons]; simp only [qF,Sem.run_bind,Sem.run_pure,Result.andThen_ok,e1],by simp [e2],fun i d' u' p q=>?_,e4⟩;cases i with
     | zero=>simp only [List.getElem?_cons_zero,zAV] at p q; subst p q; exact h.tm t _ hd
     | succ i=>exact e3 i d' u' (by simpa using p) (by simpa using q)
   · exact hk.elim
 | .cell x t :: r,K,hk=>by
   unfold nA at hk;split at hk
   · rename_i d hd;obtain ⟨td,ht,hk⟩:=br hk;obtain ⟨d',u,hrun,hg,hk⟩:=vT hty h ht (h.tm x d hd) hk;obtain ⟨ds,us,e1,e2,e3,e4⟩:=tz hty h r _ hk;have hrun':(qF a.tmps (.cell x t)).run E.P w=.ok u w:=by
      rw [← hrun];unfold qF;simp only;generalize a.tmps.getD x undef=v at hrun ⊢;cases v with
      | pointer p=>cases p <;> simp [Instr.loadAt,Instr.sureAddr,asAddr] at hrun ⊢
      | _=>simp [Instr.loadAt,Instr.sureAddr] at hrun ⊢
     refine ⟨d' :: ds,u :: us,?_,by simp [e2],fun i d2 u2 p q=>?_,e4⟩
     · rw [List.mapM_cons];simp only [Sem.run_bind,hrun',Result.andThen_ok,e1,Sem.run_pure]
     · cases i with
       | zero=>simp at p q; subst p q; exact .gr hg
       | succ i=>exact e3 i d2 u2 (by simpa using p) (by simpa using q)
   · exact hk.elim
theorem VR.carG {w:World} {Av Av':Nat→Prop} {ρ:Nat→Option Value} {ns:List Nat} (hi:∀ d u,VI w Av d u→VI w Av' d u) {d d':D} {u:Value} (h:VR w Av ρ d u) (hc:pe ns d=some d'):VG w Av' (d8 ns ρ) d' u:=by
 cases h with
 | gr h=>exact h.car hi hc
 | tup=>simp [pe] at hc
theorem qG {ns:List Nat}:∀ {ds ds':List D},vR ns ds=some ds'→ds'.length=ds.length∧∀ (i:Nat) (d d':D),ds[i]?=some d→ds'[i]?=some d'→pe ns d=some d'
 | [],ds',h=>by simp [vR] at h; subst h; simp
 | d :: r,ds',h=>by
   simp only [vR] at h;split at h
   · rename_i d1 hd1;split at h
     · rename_i r1 hr1;cases h;obtain ⟨h1,h2⟩:=qG hr1;refine ⟨by simp [h1],fun i e e' p q=>?_⟩;cases i with
       | zero=>simp at p q; subst p q; exact hd1
       | succ i=>exact h2 i e e' (by simpa using p) (by simpa using q)
     · cases h
   · cases h
theorem zP {P:Program} {fn:Func} {tmps:Array Value} {w:World} {us:List Value} (h:(fn.results.toList.mapM (qF tmps)).run P w=.ok us w) :
   (results fn tmps).run P w=.ok (match us with|[u]=>u|us=>.tuple us.toArray) w:=by
 have he:results fn tmps=(do
    let vs ← fn.results.mapM (qF tmps)
    pure (if h:vs.size=1 then vs[0] else .tuple vs)):=by
  unfold results;congr 1
 rw [he];simp only [Sem.run_bind,Array.mapM_eq_mapM_toList,Sem.run_map,h,Result.andThen_ok,Sem.run_pure]
 match us with
 | []=>rfl
 | [u]=>rfl
 | u :: v :: r=>simp
theorem wn (hty : dW E) {f : FuncId} {fn : Func} {c : Code} (hf : E.P.funcs[f]? = some fn) (hb : fn.body = some c) (hname : (fn.name == "runtime.NumGoroutine") = false)
   {k:Nat} {cds:List D} {Sa:ac} {d:D} {S':ac} (hle:cds.length≤fn.ntmps) (h:AW E fn.ntmps k c (py 0 cds) Sa k (HC E k fn.results.toList d S')):Con E f k cds Sa d S':=by
 refine ⟨⟨fn,hf,by simp [hb],hname⟩,fun w vs ρ G hl hG hGF hargs hst hdis hdom hgl=>?_⟩;refine calls_of_wp hf hb ?_
 let cx:Cx:=⟨fn.ntmps,w,ρ,k,eH Sa ρ,G⟩
 have hR:R E cx (py 0 cds) Sa { tmps:=vs.toArray++Array.replicate (fn.ntmps - vs.toArray.size) undef,defers:=[] } w ρ:=by
  refine ⟨fun t d ht=>?_,hst,hdis,fun x hx=>.inr hx,fun _ u _ h=>⟨u,h,.refl u⟩,hgl,Fr.refl _ _,hG,hGF,rfl,?_⟩
  · rw [zO,if_pos (zAG _)] at ht;simp only [Nat.sub_zero] at ht;have hlt:t < vs.length:=by rw [← hl]; exact (List.getElem?_eq_some_iff.1 ht).1
    have hv:=hargs t d vs[t] ht (zAB hlt)
    have:(vs.toArray++Array.replicate (fn.ntmps - vs.toArray.size) undef).getD t undef=vs[t]:=by
     rw [zBJ,zBf (by simpa using hlt)];simp [hlt]
    show VR w _ ρ d ((vs.toArray++Array.replicate (fn.ntmps - vs.toArray.size) undef).getD t undef)
    rw [this];exact .gr hv
  · simp [cx];omega
 refine h cx _ w ρ _ rfl rfl hR hdom fun e a w' hn=>?_;obtain ⟨tm0,S0,nx0,ρ0,h0,hf0,hk⟩:=hn;have fin:qt E k fn.results.toList d S' tm0 S0 nx0→a.defers=[]∧∃ v,(results fn a.tmps).run E.P w'=.ok v w'∧∃ v' ρ',Ending.returned v=.returned v'∧VR w' (AvS G S' ρ') ρ' d v'∧(∀ t b,lk S' t=some b→SR E.P w' (AvS G S' ρ') ρ' t b)∧Dis S' ρ' ∧
    (∀ x,eH S' ρ' x→w.heap.size≤x∨eH Sa ρ x)∧(∀ t u,t < k→ρ t=some u→∃ u',ρ' t=some u'∧Kp u u')∧Fr (eH Sa ρ) w w':=by
  intro hk;obtain ⟨ms,ns,hk⟩:=hk;split at hk
  · rename_i tm S nx hm;obtain ⟨ρ1,h1,hf1⟩:=nh hm h0 hf0;obtain ⟨ds,us,e1,e2,e3,hn,hp,hcr,hcs⟩:=tz hty h1 _ _ hk;obtain ⟨hc,hi⟩:=h1.carry [] hn hp;rw [hcs] at hc hi;refine ⟨h1.defers,_,zP e1,_,d8 ns ρ1,rfl,?_,hc.st,hc.dis,hc.new,hc.keep,hc.fr⟩;have several:∀ (ds':List D),ds'.length=us.length→(∀ (i:Nat) (d':D) (u:Value),ds'[i]?=some d'→us[i]?=some u→VG w' (AvS G S' (d8 ns ρ1)) (d8 ns ρ1) d' u)→VR w' (AvS G S' (d8 ns ρ1)) (d8 ns ρ1) (.tup ds') (.tuple us.toArray):=fun ds' hl h=>.tup hl h;have each:∀ {ds':List D},vR ns ds=some ds'→ds'.length=us.length∧∀ (i:Nat) (d':D) (u:Value),ds'[i]?=some d'→us[i]?=some u→VG w' (AvS G S' (d8 ns ρ1)) (d8 ns ρ1) d' u:=by
     intro ds' hg;obtain ⟨g1,g2⟩:=qG hg;refine ⟨by rw [g1,e2],fun i d' u p q=>?_⟩;have hlt:i < ds.length:=by rw [← g1]; exact (List.getElem?_eq_some_iff.1 p).1
     have hdi:ds[i]?=some ds[i]:=zAB hlt;exact (e3 i _ u hdi q).carG hi (g2 i _ d' hdi p)
    have tupled:sU ns (.tup ds)=some d→VR w' (AvS G S' (d8 ns ρ1)) (d8 ns ρ1) d (.tuple us.toArray):=by
     intro hcr;simp only [sU] at hcr;split at hcr
     · rename_i ds' hg;cases hcr;obtain ⟨g1,g2⟩:=each hg;exact several ds' g1 g2
     · cases hcr
    have lone:∀ (x:D) (u:Value),ds=[x]→us=[u]→VR w' (AvS G S' (d8 ns ρ1)) (d8 ns ρ1) d u:=by
     intro x u hds hus;subst hds;subst hus;simp only [lG] at hcr;have hx:=e3 0 x u rfl rfl;by_cases ht:∃ ys,x=.tup ys
     · obtain ⟨ys,rfl⟩:=ht;simp only [sU] at hcr;split at hcr
       · rename_i ys' hg;cases hcr;obtain ⟨vs,rfl,q1,q2⟩:=hx.tup_inv;obtain ⟨g1,g2⟩:=qG hg;refine .tup (by rw [g1,q1]) fun i d' u p q=>?_;have hlt:i < ys.length:=by rw [← g1]; exact (List.getElem?_eq_some_iff.1 p).1
         have hdi:ys[i]?=some ys[i]:=zAB hlt;exact (q2 i _ u hdi q).car hi (g2 i _ d' hdi p)
       · cases hcr
     · have:sU ns x=pe ns x:=by cases x <;> first|rfl|exact absurd ⟨_,rfl⟩ ht
       rw [this] at hcr;exact .gr (hx.carG hi hcr)
    clear several each;cases us with
    | nil=>
      have:ds=[]:=List.eq_nil_of_length_eq_zero e2
      subst this;exact tupled hcr
    | cons u q=>
      cases q with
      | nil=>
        have:∃ x,ds=[x]:=by
         match ds,e2 with
         | [x],_=>exact ⟨x,rfl⟩
        obtain ⟨x,hx⟩:=this;exact lone x u hx rfl
      | cons v q=>
        refine tupled ?_
        have:lG ds=.tup ds:=by
         match ds,e2 with
         | x :: y :: r,_=>rfl
        rw [this] at hcr;exact hcr
  · exact hk.elim
 cases e with
 | normal=>exact fin hk
 | ret=>exact fin hk
 | exit i=>exact hk.elim
end
end Go.Ab
namespace Go.Ab
open Go Go.RowKit Go.ChangeShapes Go.WideShapes Go.ChangeAt
def kS (P:Program) (rec:TypeId→Bool):List Field→Nat→Nat→Bool
 | [],off,n=>Nat.beq off n
 | f :: fs,off,n=>Nat.beq f.offset off && rec f.type && kS P rec fs (off+P.cellsOf f.type) n
def mF (P:Program):Nat→TypeId→Bool
 | 0,_=>false
 | d+1,t=>match P.underlying t with
   | some .string=>Nat.beq (P.cellsOf t) 1
   | some .bool=>Nat.beq (P.cellsOf t) 1
   | some (.int _)=>Nat.beq (P.cellsOf t) 1
   | some (.slice e)=>Nat.beq (P.cellsOf t) 1 && Nat.blt 0 (P.cellsOf e) && mF P d e
   | some (.struct fs)=>kS P (mF P d) fs.toList 0 (P.cellsOf t)
   | _=>false
inductive Shp (P:Program):TypeId→List D→Prop
 | str {t:TypeId} (h:P.underlying t=some .string) (l:List UInt8) (hl:l.length≤maxLen):Shp P t [.s l]
 | int {t:TypeId} {k:IntKind} (h:P.underlying t=some (.int k)) (n:Int) (hn:(Lit.int k n).wf=true):Shp P t [.k k n]
 | bool {t:TypeId} (h:P.underlying t=some .bool) (b:Bool):Shp P t [.b b]
 | slice {t e:TypeId} (h:P.underlying t=some (.slice e)) (xs:List (List D)) (hl:xs.length≤maxLen) (hx:∀ cs∈xs,Shp P e cs):Shp P t [.sl xs]
 | struct {t:TypeId} {fs:Array Field} (h:P.underlying t=some (.struct fs)) (dss:List (List D)) (hl:dss.length=fs.toList.length) (hx:∀ (i:Nat) (f:Field) (ds:List D),fs.toList[i]?=some f→dss[i]?=some ds→Shp P f.type ds):Shp P t dss.flatten
section
variable {H:Type} {enc:TypeId × Value→H} {P:Program} {W:World} {sp:Nat→Bool} {held:Bool}
abbrev pz:Nat→Prop:=fun _=>False
theorem tA {fuel:Nat} {rec:TypeId→Bool}
   (ih:∀ (t:TypeId) (cs:List Value) (x:DataW H × List MemPlace),rec t=true→DataW.trod enc P W 0 sp held fuel t cs=some x→cs.length=P.cellsOf t∧(∀ u∈cs,u.oneCell'=true)∧∃ ds,ds.length=cs.length∧(∀ (i:Nat) (d:D) (u:Value),ds[i]?=some d→cs[i]?=some u→VI W pz d u)∧Shp P t ds) :
   ∀ (fs:List Field) (off:Nat) (cs:List Value),kS P rec fs off cs.length=true→(∀ (i:Nat) (f:Field),fs[i]?=some f→∃ x,DataW.trod enc P W 0 sp held fuel f.type ((cs.drop f.offset).take (P.cellsOf f.type))=some x) →
     off≤cs.length∧(∀ u∈cs.drop off,u.oneCell'=true)∧∃ dss:List (List D),dss.length=fs.length∧(∀ (i:Nat) (f:Field) (ds:List D),fs[i]?=some f→dss[i]?=some ds→Shp P f.type ds)∧dss.flatten.length=cs.length - off ∧
       ∀ (i:Nat) (d:D) (u:Value),dss.flatten[i]?=some d→(cs.drop off)[i]?=some u→VI W pz d u
 | [],off,cs,ha,_=>by
   simp only [kS] at ha
   have:=zAI ha
   refine ⟨by omega,by simp [this],[],rfl,by simp,by simp [this],by simp⟩
 | f :: fs,off,cs,ha,hm=>by
   simp only [kS,zAE] at ha;obtain ⟨⟨h1,h2⟩,h3⟩:=ha;have hoff:=zAI h1;obtain ⟨x,hx⟩:=hm 0 f rfl;rw [hoff] at hx;obtain ⟨g1,g2,ds,g3,g4,g5⟩:=ih f.type _ x h2 hx;obtain ⟨q1,q2,dss,q3,q4,q5,q6⟩:=tA ih fs (off+P.cellsOf f.type) cs h3 (fun i f' hf=>hm (i+1) f' (by simpa using hf));have hl:((cs.drop off).take (P.cellsOf f.type)).length=P.cellsOf f.type:=g1;simp only [zAd,zAy] at hl;have hsplit:cs.drop off=(cs.drop off).take (P.cellsOf f.type)++cs.drop (off+P.cellsOf f.type):=by
    rw [← zBb,zBC]
   refine ⟨by omega,fun u hu=>?_,ds :: dss,by simp [q3],fun i f' ds' hf hd=>?_,?_,fun i d u hd hu=>?_⟩
   · rw [hsplit] at hu;rcases zAu.1 hu with h|h
     · exact g2 u h
     · exact q2 u h
   · cases i with
     | zero=>simp at hf hd; subst hf hd; exact g5
     | succ i=>exact q4 i f' ds' (by simpa using hf) (by simpa using hd)
   · simp only [List.flatten_cons,zAT,q5,g3,g1];omega
   · rw [hsplit] at hu;simp only [List.flatten_cons] at hd;by_cases hi:i < ds.length
     · rw [zAU hi] at hd;rw [zAU (by rw [← g3]; exact hi)] at hu;exact g4 i d u hd hu
     · rw [zAW (by omega)] at hd;rw [zAW (by rw [← g3]; omega),← g3] at hu;exact q6 _ d u hd hu
theorem Gu:∀ (dp:Nat) (fuel:Nat) (t:TypeId) (cs:List Value) (x:DataW H × List MemPlace),mF P dp t=true→DataW.trod enc P W 0 sp held fuel t cs=some x →
   cs.length=P.cellsOf t∧(∀ u∈cs,u.oneCell'=true)∧∃ ds,ds.length=cs.length∧(∀ (i:Nat) (d:D) (u:Value),ds[i]?=some d→cs[i]?=some u→VI W pz d u)∧Shp P t ds:=by
 intro dp
 induction dp with
 | zero=>intro fuel t cs x h; simp [mF] at h
 | succ dp ih=>
   intro fuel t cs x h hx;cases fuel with
   | zero=>simp [DataW.trod] at hx
   | succ fuel=>
   unfold mF at h;have one:∀ (v:Value) (d:D),v.oneCell'=true→VI W pz d v→Shp P t [d]→Nat.beq (P.cellsOf t) 1=true→cs=[v]→cs.length=P.cellsOf t∧(∀ u∈cs,u.oneCell'=true)∧∃ ds,ds.length=cs.length∧(∀ (i:Nat) (d:D) (u:Value),ds[i]?=some d→cs[i]?=some u→VI W pz d u)∧Shp P t ds:=by
    intro v d h1 hv hs hz hc;subst hc;refine ⟨by rw [zAI hz]; rfl,by simpa using h1,[d],rfl,fun i d' u p q=>?_,hs⟩;cases i with
    | zero=>simp at p q; subst p q; exact hv
    | succ i=>simp at p
   split at h
   · -- string
     rename_i hu;obtain ⟨v,rfl,_,hs⟩:=DataW.trod_string hu hx;have hse:v=⟨v.data.toList.toArray⟩:=by cases v; simp
     refine one (.string v) (.s v.data.toList) rfl ?_ (.str hu _ (by rw [zBD]; exact hs)) h rfl
     have:=VI.s (w:=W) (Av:=pz) v.data.toList
     rw [← hse] at this;exact this
   · rename_i hu;obtain ⟨b,rfl,_⟩:=DataW.trod_bool hu hx;exact one (.bool b) (.b b) rfl (.b b) (.bool hu b) h rfl
   · rename_i k hu;obtain ⟨n,rfl,_,hw⟩:=DataW.trod_int hu hx;exact one (.int k n) (.k k n) rfl (.k k n) (.int hu n hw) h rfl
   · rename_i e hu;simp only [zAE] at h;obtain ⟨⟨hz,hce0⟩,he⟩:=h;have hce0:0 < P.cellsOf e:=zAC hce0;rcases Go.Deep.open_slice hu hx with ⟨rfl,_⟩|⟨a,len,cap,m,n,Dd,Pl,rfl,_,hlc,hcm,hm,_,hel⟩
     · exact one (.slice none 0 0) (.sl []) rfl .sl0 (.slice hu [] (by simp) (by simp)) hz rfl
     · have hlm:len≤m:=by rw [hm]; split <;> omega
       have elem:∀ i,i < len→∃ (ds:List D) (us:List Value),ds.length=P.cellsOf e∧us.length=P.cellsOf e∧(∀ u∈us,u.oneCell'=true)∧(∀ (j:Nat) (d:D) (u:Value),ds[j]?=some d→us[j]?=some u→VI W pz d u)∧Shp P e ds∧∀ j u,us[j]?=some u→W.cell? (a.add (i * P.cellsOf e+j))=some u:=by
        intro i hi;obtain ⟨cs',h1,h2⟩:=hel i (by omega);obtain ⟨g1,g2,ds,g3,g4,g5⟩:=ih n e cs' _ he h2;obtain ⟨_,c1,c2⟩:=World.cells?_some h1;refine ⟨ds,cs',by rw [g3,g1],g1,g2,g4,g5,fun j u hu=>?_⟩;have hj:j < P.cellsOf e:=by rw [← c1]; exact (List.getElem?_eq_some_iff.1 hu).1
        have:=c2 j hj
        rw [sn] at this;rw [this]; exact hu
       have cho:∃ (F:Nat→List D) (G:Nat→List Value),∀ i,i < len→(F i).length=P.cellsOf e∧(G i).length=P.cellsOf e∧(∀ u∈G i,u.oneCell'=true)∧(∀ (j:Nat) (d:D) (u:Value),(F i)[j]?=some d→(G i)[j]?=some u→VI W pz d u)∧Shp P e (F i)∧∀ j u,(G i)[j]?=some u→W.cell? (a.add (i * P.cellsOf e+j))=some u:=by
        refine ⟨fun i=>if hi:i < len then (elem i hi).choose else [],fun i=>if hi:i < len then (elem i hi).choose_spec.choose else [],fun i hi=>?_⟩
        simp only [hi,dif_pos];exact (elem i hi).choose_spec.choose_spec
       obtain ⟨F,G,hFG⟩:=cho;have hxs:∀ (i:Nat) (cs:List D),((List.range len).map F)[i]?=some cs→i < len∧cs=F i:=by
        intro i cs hc;simp only [zAO,Option.map_eq_some_iff] at hc;obtain ⟨k,hk,rfl⟩:=hc;have hlt:i < len:=by have:=(List.getElem?_eq_some_iff.1 hk).1; simpa using this
        rw [List.getElem?_range hlt] at hk;cases hk;exact ⟨hlt,rfl⟩
       have hcell:∀ (i j:Nat) (cs:List D) (d:D),((List.range len).map F)[i]?=some cs→cs[j]?=some d→W.cell? (a.add (i * P.cellsOf e+j))=some ((G i).getD j undef)∧((G i).getD j undef).oneCell'=true∧VI W pz d ((G i).getD j undef):=by
        intro i j cs d hc hd;obtain ⟨hi,rfl⟩:=hxs i cs hc;obtain ⟨f1,f2,f3,f4,f5,f6⟩:=hFG i hi;have hj:j < (G i).length:=by rw [f2,← f1]; exact (List.getElem?_eq_some_iff.1 hd).1
        have hg:(G i)[j]?=some ((G i).getD j undef):=by simp [List.getD,hj]
        exact ⟨f6 j _ hg,f3 _ (zAD hg),f4 j d _ hd hg⟩
       refine one (.slice (some a) len cap) (.sl ((List.range len).map F)) rfl ?_ (.slice hu _ (by simp; omega) fun cs hcs=>?_) hz rfl
       · refine .sl (sz:=P.cellsOf e) (fun i j=>(G i).getD j undef) (by simp) hlc hcm (fun hne=>?_) (fun _ h=>h) (fun cs hcs=>?_) (fun i j cs d p q=>(hcell i j cs d p q).1) (fun i j cs d p q=>(hcell i j cs d p q).2.1) (fun i j cs d p q=>(hcell i j cs d p q).2.2)
         · have hl0:0 < len:=by
             cases hlen:len with
             | zero=>rw [hlen] at hne; simp at hne
             | succ k=>omega
           obtain ⟨f1,f2,f3,f4,f5,f6⟩:=hFG 0 hl0;have hg:(G 0)[0]?=some ((G 0).getD 0 undef):=by
            have:0 < (G 0).length:=by omega
            simp [List.getD,this]
           have:=f6 0 _ hg
           simp only [zBi,Nat.add_zero] at this;have hc:W.cell? a=some ((G 0).getD 0 undef):=this;unfold World.cell? at hc;split at hc
           · rename_i hh; exact (Array.getElem?_eq_some_iff.1 hh).1
           · cases hc
         · obtain ⟨i,hi⟩:=List.mem_iff_getElem?.1 hcs;obtain ⟨hlt,rfl⟩:=hxs i cs hi;exact (hFG i hlt).1
       · obtain ⟨i,hi⟩:=List.mem_iff_getElem?.1 hcs;obtain ⟨hlt,rfl⟩:=hxs i cs hi;exact (hFG i hlt).2.2.2.2.1
   · rename_i fs hu;obtain ⟨xs,n,rfl',_,hl,hxl,hf⟩:=DataW.trod_struct hu hx;obtain ⟨q1,q2,dss,q3,q4,q5,q6⟩:=tA (rec:=mF P dp) (fun t cs x h1 h2=>ih n t cs x h1 h2) fs.toList 0 cs (by rw [hl]; exact h) (fun i f hi=>by
      have hi':fs[i]?=some f:=by simpa using hi
      have hlt:i < xs.length:=by rw [hxl]; exact (Array.getElem?_eq_some_iff.1 hi').1
      exact ⟨xs[i],by rw [hf i f hi']; exact zAB hlt⟩)
     simp only [List.drop_zero,Nat.sub_zero] at q2 q5 q6;exact ⟨hl,q2,dss.flatten,q5,q6,.struct hu dss q3 q4⟩
   · cases h
def r8 (P:Program) (t:TypeId) (d:D):Prop:=
 match P.underlying t with
 | some (.struct _)=>∃ ds,d=.agg ds∧Shp P t ds
 | _=>Shp P t [d]
theorem HO {dp:Nat} {t:TypeId} (ha:mF P dp t=true) {v:Value} {x:DataW H} {ps:List MemPlace} (h:DataW.Trod enc P W 0 sp held t v x ps) {b0:Nat} (hok:Value.okWide P W .any b0 t v):∃ d,(∀ Av ρ,(∀ y,¬ Av y)→VG W Av ρ d v)∧r8 P t d:=by
 obtain ⟨fuel,hx⟩:=h;obtain ⟨h1,h2,ds,h3,h4,h5⟩:=Gu dp fuel t _ _ ha hx;have up:∀ (Av:Nat→Prop),(∀ y,¬ Av y)→∀ d u,VI W pz d u→VI W Av d u:=fun Av hA d u hv=>hv.mono (fun _ _ _=>rfl) (zAL _) fun x _ hx=>(hA x hx).elim;have one:v.oneCell'=true→∃ d,(∀ Av ρ,(∀ y,¬ Av y)→VG W Av ρ d v)∧Shp P t [d]:=by
  intro hone;rw [kO hone] at h3 h4
  match ds,h3,h4,h5 with
  | [d],_,h4,h5=>exact ⟨d,fun Av ρ hA=>.atom (.im (up Av hA d v (h4 0 d v rfl rfl))),h5⟩
 unfold Value.okWide at hok;unfold r8;cases dp with
 | zero=>simp [mF] at ha
 | succ dp=>
 unfold mF at ha;split at ha
 · rename_i hu;rw [hu] at hok ⊢;exact one (by cases v <;> first|rfl|(simp [Cell.okWide,hu,Cell.ok] at hok))
 · rename_i hu;rw [hu] at hok ⊢;exact one (by cases v <;> first|rfl|(simp [Cell.okWide,hu,Cell.ok] at hok))
 · rename_i hu;rw [hu] at hok ⊢;exact one (by cases v <;> first|rfl|(simp [Cell.okWide,hu,Cell.ok] at hok))
 · rename_i hu;rw [hu] at hok ⊢;exact one (by cases v <;> first|rfl|(simp [Cell.okWide,hu,Cell.ok] at hok))
 · rename_i hu;rw [hu] at hok ⊢;obtain ⟨cs,rfl,_,_⟩:=hok;exact ⟨.agg ds,fun Av ρ hA=>.agg (us:=cs.toList) (by simpa [Value.cells] using h3) (by simpa [Value.cells] using h2) fun i d u p q=>.im (up Av hA d u (h4 i d u p (by simpa [Value.cells] using q))),ds,rfl,h5⟩
 · cases ha
end
section
variable {H:Type} {enc:TypeId × Value→H} {P:Program}
theorem Ca {f:Func} {s:ChangeSpec} {apart fresh handsOn again:Bool} {W W':World} {args:Array Value} {v:Value} {ds gs:List (DataW H)} {before pa pv:List MemPlace}
   (hW:DataW.Whole enc P f.params.toList s.vars apart W args.toList ds gs before)
   (hres:∀ (b:Nat) (sp:Nat→Bool) (hd:Bool),DataW.TrodAll enc P W' b sp hd f.resultTypes.toList (v.resultList f.resultTypes.size) (s.fn H (ds++gs)).results [])
   (hargs:∀ sp:Nat→Bool,(∀ p∈before,sp p.block=true)→DataW.TrodAll enc P W' 0 sp true f.params.toList args.toList (s.fn H (ds++gs)).args pa)
   (hvars:∀ sp:Nat→Bool,(∀ p∈before,sp p.block=true)→DataW.TrodVars enc P W' sp s.vars (s.fn H (ds++gs)).vars pv)
   (hps:before=pa++pv) (hb:Below W.heap.size W W')
   (hok:∀ (j:Nat) (t:TypeId) (r:Value),f.resultTypes[j]?=some t→(v.resultList f.resultTypes.size)[j]?=some r→Value.okWide P W' .any 0 t r) :
   s.post enc P f apart fresh handsOn again W args v W':=by
 have hlt:∀ p∈before,p.block < W.heap.size:=fun p hp=>hW.lt p hp;have hold:∀ p∈before,(fun b=>decide (b < W.heap.size)) p.block=true:=fun p hp=>by simpa using hlt p hp
 refine ⟨ds,gs,before,[],pa,pv,hW,hres _ _ _,hargs _ hold,hvars _ hold,World.keptBut_mono (fun p hp=>⟨hp,?_⟩) (hb.frame (·∈before)),fun _=>?_⟩
 · rw [hps,zAu] at hp;exact Or.inr hp
 · obtain ⟨_,_,_,_,_,hz,hn⟩:=hW;refine ⟨hok,_,_,([]++pa)++pv,⟨[]++pa,pv,trodAll_append (hargs _ (fun _ _=>rfl)) (hres _ _ _),hvars _ (fun _ _=>rfl),rfl,?_,?_⟩,?_⟩
   · intro b off hp;have hin:MemPlace.cell b off∈before:=by rw [hps]; simpa using hp
     rw [hb.frozen (hlt _ hin)];exact hz b off hin
   · intro ha
     have:=hn ha
     rw [hps] at this;simpa using this
   · intro p hp _;rw [hps];simpa using hp
theorem rn {W:World} {sp:Nat→Bool} {held:Bool}:∀ {ts:List TypeId} {vs:List Value} {ds:List (DataW H)} {ps:List MemPlace},DataW.TrodAll enc P W 0 sp held ts vs ds ps→vs.length=ts.length∧ds.length=ts.length
 | [],[],[],_,_=>⟨rfl,rfl⟩
 | t :: ts,v :: vs,d :: ds,ps,h=>by
   obtain ⟨p,q,_,h2,_⟩:=h
   have:=rn h2
   simp [this.1,this.2]
 | [],_ :: _,_,_,h=>h.elim
 | [],[],_ :: _,_,h=>h.elim
 | _ :: _,[],_,_,h=>h.elim
 | _ :: _,_ :: _,[],_,h=>h.elim
def tB (P:Program):List TypeId→List D→Prop
 | [],[]=>True
 | t :: ts,d :: ds=>r8 P t d∧tB P ts ds
 | _,_=>False
theorem zQ {dp:Nat} {W:World} {sp:Nat→Bool} {held:Bool} {b0:Nat}:∀ {ts:List TypeId} {vs:List Value} {ds:List (DataW H)} {ps:List MemPlace},ts.all (mF P dp)=true→(∀ (j:Nat) (t:TypeId) (v:Value),ts[j]?=some t→vs[j]?=some v→Value.okWide P W .any b0 t v) →
   DataW.TrodAll enc P W 0 sp held ts vs ds ps→∃ cds,cds.length=vs.length∧tB P ts cds∧∀ (i:Nat) (d:D) (u:Value),cds[i]?=some d→vs[i]?=some u→∀ Av ρ,(∀ y,¬ Av y)→VG W Av ρ d u
 | [],[],[],_,_,_,_=>⟨[],rfl,trivial,by simp⟩
 | t :: ts,v :: vs,d :: ds,ps,ha,hok,h=>by
   obtain ⟨p,q,h1,h2,_⟩:=h;simp only [List.all_cons,zAE] at ha;obtain ⟨c,g1,g2⟩:=HO ha.1 h1 (hok 0 t v rfl rfl);obtain ⟨cs,k1,k2,k3⟩:=zQ ha.2 (fun j t v p q=>hok (j+1) t v (by simpa using p) (by simpa using q)) h2;refine ⟨c :: cs,by simp [k1],⟨g2,k2⟩,fun i d u p q=>?_⟩;cases i with
   | zero=>simp at p q; subst p q; exact g1
   | succ i=>exact k3 i d u (by simpa using p) (by simpa using q)
 | [],_ :: _,_,_,_,_,h=>h.elim
 | [],[],_ :: _,_,_,_,h=>h.elim
 | _ :: _,[],_,_,_,_,h=>h.elim
 | _ :: _,_ :: _,[],_,_,_,h=>h.elim
theorem wo {W W':World} {sp':Nat→Bool} (hl:laidOutB P=true) (hb:Below W.heap.size W W'):∀ {ts:List TypeId} {vs:List Value} {ds:List (DataW H)} {ps:List MemPlace},(∀ t∈ts,P.readableRec t=true∧t < P.types.size)→(∀ x∈ps,x.block < W.heap.size)→(∀ x∈ps,sp' x.block=true) →
   DataW.TrodAll enc P W 0 (fun _=>true) true ts vs ds ps→DataW.TrodAll enc P W' 0 sp' true ts vs ds ps
 | [],[],[],_,_,_,_,h=>h
 | t :: ts,v :: vs,d :: ds,ps,hr,hlt,hsp,h=>by
   obtain ⟨p,q,h1,h2,rfl⟩:=h;obtain ⟨r1,r2⟩:=hr t (by simp);exact ⟨p,q,WideElems.Trod_stays hl r1 r2 h1 (fun x hx=>hb.same (hlt x (by simp [hx]))) (fun x hx=>hsp x (by simp [hx])),
    wo hl hb (fun t ht=>hr t (by simp [ht])) (fun x hx=>hlt x (by simp [hx])) (fun x hx=>hsp x (by simp [hx])) h2,rfl⟩
 | [],_ :: _,_,_,_,_,_,h=>h.elim
 | [],[],_ :: _,_,_,_,_,h=>h.elim
 | _ :: _,[],_,_,_,_,_,h=>h.elim
 | _ :: _,_ :: _,[],_,_,_,_,h=>h.elim
end
end Go.Ab
namespace Go.Ab
open Go Go.RowKit
section
variable {P:Program}
theorem Shp.str_inv {t:TypeId} {ds:List D} (hu:P.underlying t=some .string) (h:Shp P t ds):∃ l:List UInt8,ds=[.s l]∧l.length≤maxLen:=by
 cases h with
 | str h l hl=>exact ⟨l,rfl,hl⟩
 | int h=>rw [hu] at h; cases h
 | bool h=>rw [hu] at h; cases h
 | slice h=>rw [hu] at h; cases h
 | struct h=>rw [hu] at h; cases h
theorem Shp.int_inv {t:TypeId} {ds:List D} {k:IntKind} (hu:P.underlying t=some (.int k)) (h:Shp P t ds):∃ n:Int,ds=[.k k n]∧(Lit.int k n).wf=true:=by
 cases h with
 | str h=>rw [hu] at h; cases h
 | int h n hn=>rw [hu] at h; cases h; exact ⟨n,rfl,hn⟩
 | bool h=>rw [hu] at h; cases h
 | slice h=>rw [hu] at h; cases h
 | struct h=>rw [hu] at h; cases h
theorem Shp.bool_inv {t:TypeId} {ds:List D} (hu:P.underlying t=some .bool) (h:Shp P t ds):∃ b:Bool,ds=[.b b]:=by
 cases h with
 | str h=>rw [hu] at h; cases h
 | int h=>rw [hu] at h; cases h
 | bool h b=>exact ⟨b,rfl⟩
 | slice h=>rw [hu] at h; cases h
 | struct h=>rw [hu] at h; cases h
theorem Shp.slice_inv {t e:TypeId} {ds:List D} (hu:P.underlying t=some (.slice e)) (h:Shp P t ds):∃ xs:List (List D),ds=[.sl xs]∧xs.length≤maxLen∧∀ cs∈xs,Shp P e cs:=by
 cases h with
 | str h=>rw [hu] at h; cases h
 | int h=>rw [hu] at h; cases h
 | bool h=>rw [hu] at h; cases h
 | slice h xs hl hx=>rw [hu] at h; cases h; exact ⟨xs,rfl,hl,hx⟩
 | struct h=>rw [hu] at h; cases h
def qH (P:Program):List TypeId→List D→Prop
 | [],ds=>ds=[]
 | t :: ts,ds=>∃ a b,ds=a++b∧Shp P t a∧qH P ts b
theorem HP {ts:List TypeId}:∀ {dss:List (List D)},dss.length=ts.length→(∀ (i:Nat) (t:TypeId) (ds:List D),ts[i]?=some t→dss[i]?=some ds→Shp P t ds)→qH P ts dss.flatten:=by
 induction ts with
 | nil=>intro dss hl _; match dss,hl with|[],_=>rfl
 | cons t ts ih=>
   intro dss hl hx
   match dss,hl with
   | d :: dss,hl=>
     exact ⟨d,dss.flatten,rfl,hx 0 t d rfl rfl,ih (by simpa using hl) fun i t ds h1 h2=>hx (i+1) t ds (by simpa using h1) (by simpa using h2)⟩
theorem Shp.struct_inv {t:TypeId} {ds:List D} {fs:Array Field} (hu:P.underlying t=some (.struct fs)) (h:Shp P t ds):qH P (fs.toList.map (·.type)) ds:=by
 cases h with
 | str h=>rw [hu] at h; cases h
 | int h=>rw [hu] at h; cases h
 | bool h=>rw [hu] at h; cases h
 | slice h=>rw [hu] at h; cases h
 | struct h dss hl hx=>
   rw [hu] at h; cases h;refine HP (by simpa using hl) fun i t ds h1 h2=>?_;simp only [zAO,Option.map_eq_some_iff] at h1;obtain ⟨f,hf,rfl⟩:=h1;exact hx i f ds hf h2
theorem r8.one {t:TypeId} {d:D} (hu:∀ fs,P.underlying t≠some (.struct fs)) (h:r8 P t d):Shp P t [d]:=by
 unfold r8 at h;split at h
 · rename_i fs hf; exact absurd hf (hu fs)
 · exact h
theorem r8.struct {t:TypeId} {d:D} {fs:Array Field} (hu:P.underlying t=some (.struct fs)) (h:r8 P t d):∃ ds,d=.agg ds∧qH P (fs.toList.map (·.type)) ds:=by
 unfold r8 at h;rw [hu] at h;obtain ⟨ds,rfl,h⟩:=h;exact ⟨ds,rfl,h.struct_inv hu⟩
theorem wu {ts:List TypeId} (h:(ts.all fun t=>P.readableRec t && Nat.blt t P.types.size)=true):∀ t∈ts,P.readableRec t=true∧t < P.types.size:=by
 intro t ht
 have:=zAs.1 h t ht
 simp only [zAE] at this;exact ⟨this.1,zAC this.2⟩
end
end Go.Ab
