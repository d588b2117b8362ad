/- Texts of this claim, set close: lemmas and contracts. -/
import Derived.Test.YtagejnomlkfndaaGreatDoorYY10
set_option linter.unusedSimpArgs false
set_option linter.unusedVariables false
set_option maxHeartbeats 1000000
set_option maxRecDepth 10000
namespace Go.Proofs.YtagejnomlkfndaaGreatDoor
open Go Go.RowKit Go.Ab Go.Par
variable {m:Int}
theorem Jb {a b:Int} (ha:0≤a∧a < 4611686018427387904) (hb:0≤b∧b < 4611686018427387904) {K:Int→Prop} (h:∀ r,0≤r→r < 4611686018427387904→K r):∃ r,Op.intBits .xor .i64 a b=Sem.pure (.int .i64 r)∧K r:=by
 have e1:(BitVec.ofInt 64 a).toNat=a.toNat:=by
  have h64:((2 ^ 64:Nat):Int)=18446744073709551616:=rfl;rw [BitVec.toNat_ofInt,h64]; omega
 have e2:(BitVec.ofInt 64 b).toNat=b.toNat:=by
  have h64:((2 ^ 64:Nat):Int)=18446744073709551616:=rfl;rw [BitVec.toNat_ofInt,h64]; omega
 have hx:(BitVec.ofInt 64 a ^^^ BitVec.ofInt 64 b).toNat < 2 ^ 62:=by
  rw [BitVec.toNat_xor,e1,e2];exact Nat.xor_lt_two_pow (by omega) (by omega)
 refine ⟨IntKind.i64.wrap ((BitVec.ofInt 64 a ^^^ BitVec.ofInt 64 b).toNat:Int),rfl,?_⟩;rw [Go.IntWalk.i64_in _ (by omega)];exact h _ (by omega) (by omega)
theorem GP (l:Bs) (p n:Int) (hp:0≤p∧p≤1048576) (hn:-1099511627776≤n∧n≤1099511627776) (hl:l.length≤2000) :
   ∃ d S',(∃ r:Int,0≤r∧(r < n∨r=0)∧d=.k .i64 r∧S'=[(0,rd l (p+1))])∧Con (E m) 70 1 [.bp 0 0,.k .i64 n] [(0,rd l p)] d S':=by
 obtain ⟨q,rfl⟩:∃ q:Nat,p=q:=⟨p.toNat,by omega⟩;have hlen:(bh l).length=l.length:=by simp [bh]
 by_cases hn1:n < 1
 · refine bU iT mix Tryz.func70 rfl rfl rfl (zAC rfl) ?_;repeat' first|refine Rx ⟨?_⟩|refine Rd (fun h=>⟨?_⟩) fun h=>⟨?_⟩|fail
   refine cv.here (aa ?_)
   conv=>whnf
   refine ⟨rfl,rfl,_,rfl,0,by omega,.inr rfl,rfl,rfl⟩
 · by_cases hl0:l.length=0
   · refine bU iT mix Tryz.func70 rfl rfl rfl (zAC rfl) ?_;repeat' first|refine Ra ⟨?_⟩|(refine bt (by rw [hlen]; omega) ?_ <;> conv=>whnf)|refine Rd (fun h=>⟨?_⟩) fun h=>⟨?_⟩|refine Rb ⟨?_⟩|fail
     refine cv.here (aa ?_)
     conv=>whnf
     refine ⟨rfl,rfl,_,rfl,0,by omega,.inr rfl,rfl,rfl⟩
   · have hpos:0 < n:=by omega
     by_cases hq:q < l.length
     · have hb:=l[q].toNat_lt;have h1:=Int.emod_nonneg (l[q].toNat:Int) (by omega:n≠0);have h2:=zBj (l[q].toNat:Int) hpos;refine bU iT mix Tryz.func70 rfl rfl rfl (zAC rfl) ?_;repeat' first|refine Ra ⟨?_⟩|(refine bf (by rw [hlen]; omega) ?_ <;> conv=>whnf)|(refine bt (by rw [hlen]; omega) ?_ <;> conv=>whnf)|(refine ⟨q,_,by omega,fk hq,rfl,?_⟩ <;> conv=>whnf)|(refine wr (by omega) (by omega) ?_ <;> conv=>whnf)|refine Rd (fun h=>⟨?_⟩) fun h=>⟨?_⟩|refine Rb ⟨?_⟩|fail
       refine cv.here (aa ?_)
       conv=>whnf
       refine ⟨rfl,rfl,_,rfl,_,h1,.inl h2,rfl,rfl⟩
     · have hL:(0:Int) < (bh l).length:=by rw [hlen]; omega
       have a1:=Int.emod_nonneg ((q:Int)+1 - 1) (by omega:((bh l).length:Int)≠0);have a2:=zBj ((q:Int)+1 - 1) hL;have a3:=Int.emod_nonneg (((q:Int)+1 - 1) * 7+3) (by omega:((bh l).length:Int)≠0);have a4:=zBj (((q:Int)+1 - 1) * 7+3) hL;have a5:=Int.ediv_nonneg (by omega:0≤(q:Int)+1 - 1) (by omega:0≤((bh l).length:Int));have a6:=Int.ediv_le_self ((bh l).length:Int) (by omega:0≤(q:Int)+1 - 1);generalize hx:(((q:Int)+1 - 1) % ((bh l).length:Int))=x at *;generalize hy:((((q:Int)+1 - 1) * 7+3) % ((bh l).length:Int))=y at *;generalize hz:(((q:Int)+1 - 1) / ((bh l).length:Int))=z at *;obtain ⟨x,rfl⟩:∃ k:Nat,x=k:=⟨x.toNat,by omega⟩;obtain ⟨y,rfl⟩:∃ k:Nat,y=k:=⟨y.toNat,by omega⟩;have hxl:x < l.length:=by omega
       have hyl:y < l.length:=by omega
       have b1:=l[x].toNat_lt;have b2:=l[y].toNat_lt;have hr:∀ v:Int,0≤v→0≤v % n∧v % n < n:=fun v _=>⟨Int.emod_nonneg v (by omega),zBj v hpos⟩;refine bU iT mix Tryz.func70 rfl rfl rfl (zAC rfl) ?_;repeat' first|refine Ra ⟨?_⟩|(refine bf (by rw [hlen]; omega) ?_ <;> conv=>whnf)|((refine wr (by omega) hL ?_; rw [hx]) <;> conv=>whnf)|((refine wr (by omega) hL ?_; rw [hy]) <;> conv=>whnf)|((refine wq (by omega) hL ?_; rw [hz]) <;> conv=>whnf)|(refine ⟨x,_,rfl,fk hxl,rfl,?_⟩ <;> conv=>whnf)|(refine ⟨y,_,rfl,fk hyl,rfl,?_⟩ <;> conv=>whnf)|(refine wq (by omega) (by omega) ?_ <;> conv=>whnf)|((refine Jb (by omega) (by omega) fun v hv1 hv2=>?_) <;> conv=>whnf)|(refine wr (by omega) hpos ?_ <;> conv=>whnf)|refine Rd (fun h=>⟨?_⟩) fun h=>⟨?_⟩|refine Rb ⟨?_⟩|fail
       refine cv.here (aa ?_)
       conv=>whnf
       refine ⟨rfl,rfl,_,rfl,_,(hr _ (by omega)).1,.inl (hr _ (by omega)).2,rfl,rfl⟩
theorem cM (l:Bs) (p n:Int) (hp:0≤p∧p≤1048576) (hn:-1099511627776≤n∧n≤1099511627776) (hl:l.length≤2000):Con (E m) 70 1 [.bp 0 0,.k .i64 n] [(0,rd l p)] (.k .i64 (gv m l p n)) [(0,rd l (p+1))]:=by
 obtain ⟨d,S',⟨r,h1,h2,rfl,rfl⟩,hc⟩:=GP (m:=m) l p n hp hn hl;unfold gv;rw [dif_pos ⟨r,h1,h2,hc⟩];exact (Exists.choose_spec (⟨r,h1,h2,hc⟩:∃ r:Int,0≤r∧(r < n∨r=0)∧Con (E m) 70 1 [.bp 0 0,.k .i64 n] [(0,rd l p)] (.k .i64 r) [(0,rd l (p+1))])).2.2
theorem gc (l:Bs) (p:Int) {ls:List Bs} (h:ls≠[]):ofV m l p ls∈ls:=by
 have h1:=jU (m:=m) l p ls.length;have h2:=List.length_pos_iff.2 h;unfold ofV;have h3:(gv m l p ls.length).toNat < ls.length:=by omega
 rw [zBA,zAB h3];exact zAX h3
theorem oF (l:Bs) (p:Int) (ls:List Bs) (hp:0≤p∧p≤1048576) (hl:l.length≤2000) (h:ls≠[]) (hls:ls.length≤1000):Con (E m) 136 1 [.bp 0 0,.sl (ls.map fun s=>[.s s])] [(0,rd l p)] (.s (ofV m l p ls)) [(0,rd l (p+1))]:=by
 have h1:=jU (m:=m) l p ls.length;have h2:=List.length_pos_iff.2 h;have h3:(gv m l p ls.length).toNat < ls.length:=by omega
 have hx:ofV m l p ls=ls[(gv m l p ls.length).toNat]:=by unfold ofV; rw [zBA,zAB h3]; rfl
 have c1:=cM (m:=m) l p ls.length hp (by omega) hl;have hm:((ls.map fun s=>[D.s s]).length:Int)=ls.length:=by rw [zAA]
 rw [← hm] at c1;rw [hx];refine G0 Tryz.func136 ?_;repeat' first|refine Ra ⟨?_⟩|refine Rk [0] 0 c1 ⟨?_⟩|(refine ⟨(gv m l p ls.length).toNat,_,by rw [hm]; omega,fk h3,rfl,?_⟩ <;> conv=>whnf)|refine Rd (fun h=>⟨?_⟩) fun h=>⟨?_⟩|refine Rb ⟨?_⟩|fail
 exact Rf
noncomputable def oG (m:Int) (l:Bs) (p:Int) (ls:List Int):Int:=ls.getD (gv m l p ls.length).toNat 0
theorem ld (l:Bs) (p:Int) {ls:List Int} (h:ls≠[]):oG m l p ls∈ls:=by
 have h1:=jU (m:=m) l p ls.length;have h2:=List.length_pos_iff.2 h;unfold oG;have h3:(gv m l p ls.length).toNat < ls.length:=by omega
 rw [zBA,zAB h3];exact zAX h3
theorem fH (l:Bs) (p:Int) (ls:List Int) (hp:0≤p∧p≤1048576) (hl:l.length≤2000) (h:ls≠[]) (hls:ls.length≤1000):Con (E m) 68 1 [.bp 0 0,.sl (ls.map fun n=>[.k .i64 n])] [(0,rd l p)] (.k .i64 (oG m l p ls)) [(0,rd l (p+1))]:=by
 have h1:=jU (m:=m) l p ls.length;have h2:=List.length_pos_iff.2 h;have h3:(gv m l p ls.length).toNat < ls.length:=by omega
 have hx:oG m l p ls=ls[(gv m l p ls.length).toNat]:=by unfold oG; rw [zBA,zAB h3]; rfl
 have c1:=cM (m:=m) l p ls.length hp (by omega) hl;have hm:((ls.map fun n=>[D.k .i64 n]).length:Int)=ls.length:=by rw [zAA]
 rw [← hm] at c1;rw [hx];refine G0 Tryz.func68 ?_;repeat' first|refine Ra ⟨?_⟩|refine Rk [0] 0 c1 ⟨?_⟩|(refine ⟨(gv m l p ls.length).toNat,_,by rw [hm]; omega,fk h3,rfl,?_⟩ <;> conv=>whnf)|refine Rd (fun h=>⟨?_⟩) fun h=>⟨?_⟩|refine Rb ⟨?_⟩|fail
 exact Rf
theorem GQ (l:Bs) (hl:l.length≤1048576):Con (E m) 65 0 [.sl (bh l)] [] (.bp 0 0) [(0,rd (l.take 2000) 0)]:=by
 have hlen:(bh l).length=l.length:=by simp [bh]
 by_cases h:l.length≤2000
 · rw [zAc h];refine G0 Tryz.func65 ?_;repeat' first|refine Ra ⟨?_⟩|(refine bf (by rw [hlen]; omega) ?_ <;> conv=>whnf)|refine Rd (fun h=>⟨?_⟩) fun h=>⟨?_⟩|refine Rb ⟨?_⟩|fail
   exact Rf
 · have hx:bh (l.take 2000)=((bh l).take 2000).drop 0:=by simp [bh,zBW]
   rw [rd,hx];refine G0 Tryz.func65 ?_;repeat' first|refine Ra ⟨?_⟩|(refine bt (by rw [hlen]; omega) ?_ <;> conv=>whnf)|(refine ⟨2000,rfl,zAG _,by rw [hlen]; omega,?_⟩ <;> conv=>whnf)|refine Rd (fun h=>⟨?_⟩) fun h=>⟨?_⟩|refine Rb ⟨?_⟩|fail
   exact Rf
variable {m:Int}
theorem DW {l:Bs} {p:Int} {α:Type} {f:α→List D} {t:List α} (h:0 < t.length):(gv m l p ((t.map f).length:Int)).toNat < t.length:=by
 have h1:=jU (m:=m) l p ((t.map f).length:Int);have h0:(t.map f).length=t.length:=zAA ..;omega
def gd:List Bs:=[[47,97],[47,98],[47,97,47,98],[47,97,47,99],[47,98,47,97],[47,97,98],[47,97,47,98,47,99],[47,97,47,98,47,97],[47,98,47,98],[47,99]]
theorem gR:∀ x∈gd,x.length≤100:=by decide
theorem Cv:∀ x∈gd,ah x=true:=by decide
theorem gH (l:Bs) (p:Int) (hp:0≤p∧p≤1048576) (hl:l.length≤2000):Con (E m) 133 1 [.bp 0 0] [(0,rd l p)] (.s (ofV m l p gd)) [(0,rd l (p+1))]:=by
 have c1:=oF (m:=m) l p gd hp hl (by decide) (by decide);refine G0 Tryz.func133 ?_;repeat' first|refine Ra ⟨?_⟩|refine Rk [0] 0 c1 ⟨?_⟩|refine Rd (fun h=>⟨?_⟩) fun h=>⟨?_⟩|refine Rb ⟨?_⟩|fail
 exact Rf
def pP:List Bs:=[[],[120],[121],[49,50],[97,98,99],[122,57]]
theorem rx:∀ x∈pP,x.length≤100:=by decide
theorem tW (l:Bs) (p:Int) (hp:0≤p∧p≤1048576) (hl:l.length≤2000):Con (E m) 257 1 [.bp 0 0] [(0,rd l p)] (.s (ofV m l p pP)) [(0,rd l (p+1))]:=by
 have c1:=oF (m:=m) l p pP hp hl (by decide) (by decide);refine G0 Tryz.func257 ?_;repeat' first|refine Ra ⟨?_⟩|refine Rk [0] 0 c1 ⟨?_⟩|refine Rd (fun h=>⟨?_⟩) fun h=>⟨?_⟩|refine Rb ⟨?_⟩|fail
 exact Rf
theorem GU (l:Bs) (p:Int) (t:List Ent) (hp:0≤p∧p≤1000000) (hl:l.length≤2000) (ht:t.length≤100) (hb:gG 100 t) :
   ∃ d S',(∃ (o:Opn) (p':Int),(o.path.length≤100∧o.tgt.length≤100∧o.data.length≤100)∧p≤p'∧p'≤p+12∧d=.agg o.c∧S'=[(0,rd l p')])∧Con (E m) 204 1 [.bp 0 0,.sl (t.map Ent.c)] [(0,rd l p)] d S':=by
 have hk:=ld (m:=m) l p (ls:=[1,2,2,3,4,5,1,5]) (by decide);have hq:∀ q,(ofV m l q gd).length≤100:=fun q=>gR _ (gc l q (by decide));have hs:∀ q,(ofV m l q pP).length≤100:=fun q=>rx _ (gc l q (by decide));have h1:∀ q,(ofV m l q [[47],[],[47,65],[47,97,47,98,47,99,47,100]]).length≤100:=fun q=>(by decide:∀ x∈([[47],[],[47,65],[47,97,47,98,47,99,47,100]]:List Bs),x.length≤100) _ (gc l q (by decide));have h2:∀ q,(ofV m l q [[47],[47,97],[47,99,47,99,47,99],[]]).length≤100:=fun q=>(by decide:∀ x∈([[47],[47,97],[47,99,47,99,47,99],[]]:List Bs),x.length≤100) _ (gc l q (by decide));have h3:∀ q,(ofV m l q [[113],[65],[97,98,99,100,101,102,103],[97,98,99,100,101,102]]).length≤100:=fun q=>(by decide:∀ x∈([[113],[65],[97,98,99,100,101,102,103],[97,98,99,100,101,102]]:List Bs),x.length≤100) _ (gc l q (by decide));have hm:((t.map Ent.c).length:Int)=t.length:=by rw [zAA]
 generalize hkk:oG m l p [1,2,2,3,4,5,1,5]=kind at hk;have c0:=fH (m:=m) l p [1,2,2,3,4,5,1,5] (by omega) hl (by decide) (by decide);rw [hkk] at c0;have hb0:∀ x∈t,x.path.length≤100:=fun x hx=>(hb x hx).1;refine bU iT mix Tryz.func204 rfl rfl rfl (zAC rfl) ?_;refine Cd.seqS ?_;repeat' first|refine Rx ⟨?_⟩|refine Rd (fun h=>⟨?_⟩) fun h=>⟨?_⟩|fail
 all_goals (try refine Stop.here ?_)
 refine Cd.seqS ?_;repeat' first|refine Ra ⟨?_⟩|refine Rk [0] 0 c0 ⟨?_⟩|(refine Rc [0] 0 rfl rfl (gH l _ (by omega) hl) ?_ <;> conv=>whnf)|refine Rd (fun h=>⟨?_⟩) fun h=>⟨?_⟩|refine Rb ⟨?_⟩|fail
 all_goals (try refine Stop.here ?_)
 refine Cd.cut (fun tm S nx=>∃ (a:Bs) (q:Int),tm=[(0,.bp 0 0),(1,.sl (t.map Ent.c)),(4,.bp 1 0),(5,.bp 2 0)]∧S=[(0,rd l q),(1,.box 53 op0.c),(2,.box 53 [.k .i64 kind,.s a,.s [],.s []])]∧nx=3∧(a.length≤100)∧(p≤q∧q≤p+4)) ?_ ?_
 · repeat' first|refine Ra ⟨?_⟩|(refine Rc [0] 0 rfl rfl (cM l _ _ (by omega) (by omega) hl) ?_ <;> conv=>whnf)|(refine ⟨_,_,sB l _ _,fk (DW (by omega)),rfl,?_⟩ <;> conv=>whnf)|refine Rd (fun h=>⟨?_⟩) fun h=>⟨?_⟩|refine Rb ⟨?_⟩|fail
   · refine jR.here (la [0,1,4,5] ?_)
     conv=>whnf
     refine ⟨rfl,rfl,_,_,rfl,rfl,rfl,hb0 _ (zAX _),by omega⟩
   all_goals
    refine jR.here (la [0,1,4,5] ?_)
    conv=>whnf
    refine ⟨rfl,rfl,_,_,rfl,rfl,rfl,hq _,by omega⟩
 rintro tm S nx ⟨a,q,rfl,rfl,rfl,ha,hq2⟩;refine Cd.cut (fun tm S nx=>∃ (c:Bs) (q:Int),tm=[(0,.bp 0 0),(1,.sl (t.map Ent.c)),(4,.bp 1 0),(5,.bp 2 0)]∧S=[(0,rd l q),(1,.box 53 op0.c),(2,.box 53 [.k .i64 kind,.s a,.s [],.s c])]∧nx=3∧(c.length≤100)∧(p≤q∧q≤p+5)) ?_ ?_
 · repeat' first|refine Ra ⟨?_⟩|(refine Rc [0] 0 rfl rfl (tW l _ (by omega) hl) ?_ <;> conv=>whnf)|refine Rd (fun h=>⟨?_⟩) fun h=>⟨?_⟩|refine Rb ⟨?_⟩|fail
   · refine jR.here (la [0,1,4,5] ?_)
     conv=>whnf
     refine ⟨rfl,rfl,_,_,rfl,rfl,rfl,hs _,by omega⟩
   · refine jR.here (la [0,1,4,5] ?_)
     conv=>whnf
     refine ⟨rfl,rfl,_,_,rfl,rfl,rfl,by simp,by omega⟩
 rintro tm S nx ⟨c,q,rfl,rfl,rfl,hc,hq3⟩;refine Cd.cut (fun tm S nx=>∃ (b:Bs) (q:Int),tm=[(0,.bp 0 0),(1,.sl (t.map Ent.c)),(4,.bp 1 0),(5,.bp 2 0)]∧S=[(0,rd l q),(1,.box 53 op0.c),(2,.box 53 [.k .i64 kind,.s a,.s b,.s c])]∧nx=3∧(b.length≤100)∧(p≤q∧q≤p+6)) ?_ ?_
 · repeat' first|refine Ra ⟨?_⟩|(refine Rc [0] 0 rfl rfl (gH l _ (by omega) hl) ?_ <;> conv=>whnf)|refine Rd (fun h=>⟨?_⟩) fun h=>⟨?_⟩|refine Rb ⟨?_⟩|fail
   · refine jR.here (la [0,1,4,5] ?_)
     conv=>whnf
     refine ⟨rfl,rfl,_,_,rfl,rfl,rfl,hq _,by omega⟩
   · refine jR.here (la [0,1,4,5] ?_)
     conv=>whnf
     refine ⟨rfl,rfl,_,_,rfl,rfl,rfl,by simp,by omega⟩
 rintro tm S nx ⟨b,q,rfl,rfl,rfl,hbb,hq4⟩;repeat' first|refine Ra ⟨?_⟩|(refine Rc [0] 0 rfl rfl (oF l _ [[47],[],[47,65],[47,97,47,98,47,99,47,100]] (by omega) hl (by decide) (by decide)) ?_ <;> conv=>whnf)|(refine Rc [0] 0 rfl rfl (oF l _ [[47],[47,97],[47,99,47,99,47,99],[]] (by omega) hl (by decide) (by decide)) ?_ <;> conv=>whnf)|(refine Rc [0] 0 rfl rfl (oF l _ [[113],[65],[97,98,99,100,101,102,103],[97,98,99,100,101,102]] (by omega) hl (by decide) (by decide)) ?_ <;> conv=>whnf)|(refine Rc [0] 0 rfl rfl (fH l _ [0,6,-1,1] (by omega) hl (by decide) (by decide)) ?_ <;> conv=>whnf)|(refine Rc [0] 0 rfl rfl (cM l _ _ (by omega) (by omega) hl) ?_ <;> conv=>whnf)|refine Rd (fun h=>⟨?_⟩) fun h=>⟨?_⟩|refine Rb ⟨?_⟩|fail
 all_goals
  refine cv.here (aa ?_)
  conv=>whnf
  refine ⟨rfl,rfl,_,rfl,⟨⟨_,_,_,_⟩,_,⟨?_,?_,?_⟩,?_,?_,rfl,rfl⟩⟩;all_goals first
   | exact ha
   | exact hbb
   | exact hc
   | exact h1 _
   | exact h2 _
   | exact h3 _
   | omega
noncomputable def kp (m:Int) (l:Bs) (p:Int) (t:List Ent):Opn × Int:=
 open Classical in if h : ∃ x : Opn × Int, (x.1.path.length ≤ 100 ∧ x.1.tgt.length ≤ 100 ∧ x.1.data.length ≤ 100) ∧ p ≤ x.2 ∧ x.2 ≤ p + 12 ∧ Con (E m) 204 1 [.bp 0 0, .sl (t.map Ent.c)] [(0, rd l p)] (.agg x.1.c) [(0, rd l x.2)] then h.choose else (op0, p)
theorem tX (l:Bs) (p:Int) (t:List Ent):((kp m l p t).1.path.length≤100∧(kp m l p t).1.tgt.length≤100∧(kp m l p t).1.data.length≤100)∧p≤(kp m l p t).2∧(kp m l p t).2≤p+12:=by
 unfold kp;split
 · rename_i h; exact ⟨h.choose_spec.1,h.choose_spec.2.1,h.choose_spec.2.2.1⟩
 · exact ⟨⟨by simp [op0],by simp [op0],by simp [op0]⟩,by simp,by simp; omega⟩
theorem tY (l:Bs) (p:Int) (t:List Ent) (hp:0≤p∧p≤1000000) (hl:l.length≤2000) (ht:t.length≤100) (hb:gG 100 t):Con (E m) 204 1 [.bp 0 0,.sl (t.map Ent.c)] [(0,rd l p)] (.agg (kp m l p t).1.c) [(0,rd l (kp m l p t).2)]:=by
 have h:∃ x:Opn × Int,(x.1.path.length≤100∧x.1.tgt.length≤100∧x.1.data.length≤100)∧p≤x.2∧x.2≤p+12∧Con (E m) 204 1 [.bp 0 0,.sl (t.map Ent.c)] [(0,rd l p)] (.agg x.1.c) [(0,rd l x.2)]:=by
  obtain ⟨d,S',⟨o,p',h1,h2,h3,rfl,rfl⟩,hc⟩:=GU (m:=m) l p t hp hl ht hb;exact ⟨(o,p'),h1,h2,h3,hc⟩
 unfold kp;rw [dif_pos h];exact h.choose_spec.2.2.2
variable {m:Int}
theorem Cw (l:Bs) (p:Int) (hp:0≤p∧p≤900000) (hl:l.length≤2000) :
   ∃ d S',(∃ (t:List Ent) (p':Int),t.length≤17∧gG 100 t∧p≤p'∧p'≤p+400∧d=.own 1∧S'=[(0,rd l p'),(1,.own 66 (t.map Ent.c))])∧Con (E m) 200 1 [.bp 0 0] [(0,rd l p)] d S':=by
 have hk:=ld (m:=m) l p (ls:=[6,12,18,24,30,3,0]) (by decide);have hk2:=(by decide:∀ x∈([6,12,18,24,30,3,0]:List Int),0≤x∧x≤30) _ hk;refine bU iT mix Tryz.func200 rfl rfl rfl (zAC rfl) ?_;repeat' first|refine Ra ⟨?_⟩|(refine Rc [0] 0 rfl rfl (fH l _ [6,12,18,24,30,3,0] (by omega) hl (by decide) (by decide)) ?_ <;> conv=>whnf)|refine Rd (fun h=>⟨?_⟩) fun h=>⟨?_⟩|refine Rb ⟨?_⟩|fail
 refine Cd.loop2 (fun mq tm S nx=>∃ (i:Int) (q:Int) (t:List Ent),mq=(i.toNat)∧tm=[(0,.bp 0 0),(3,.own 1),(4,.k .i64 i)]∧S=[(0,rd l q),(1,.own 66 (t.map Ent.c))]∧nx=2∧(0≤i∧i≤30)∧(p+1≤q∧q≤p+1+12 * (30 - i))∧(t.length≤17)∧(gG 100 t)) ?_ ?_
 · refine la [0,3,4] ?_
   conv=>whnf
   refine ⟨rfl,rfl,_,_,_,[],rfl,rfl,rfl,rfl,hk2,by omega,by simp,fun _ h=>by cases h⟩
 · rintro mq tm S nx ⟨i,q,t,hn,rfl,rfl,rfl,hi,hq,ht,hb⟩;by_cases hi0:0 < i
   · have hop:=tX (m:=m) l q t;have c1:=tY (m:=m) l q t (by omega) hl (by omega) hb;have c2:=fT (m:=m) t (kp m l q t).1 (by omega) (fun e he=>by have:=hb e he; omega) (by omega) (by omega) (by omega);have hl2:=tO t (kp m l q t).1;have hb2:gG 100 (aJ t (kp m l q t).1).1:=tP (by omega) hb hop.1.1 hop.1.2.2;repeat' first|refine Ra ⟨?_⟩|refine Rk [0] 0 c1 ⟨?_⟩|refine Rk [] 1 c2 ⟨?_⟩|refine Rd (fun h=>⟨?_⟩) fun h=>⟨?_⟩|refine Rb ⟨?_⟩|fail
     refine .here ⟨mq - 1,by omega,?_⟩;refine la [0,3,4] ?_
     conv=>whnf
     refine ⟨rfl,rfl,i - 1,_,_,(by omega),rfl,rfl,rfl,by omega,by omega,hl2,hb2⟩
   · have hi1:i=0:=by omega
     subst hi1;have fin:∀ (t:List Ent) (q:Int),t.length≤17→gG 100 t→p≤q→q≤p+400→∃ (t':List Ent) (p':Int),t'.length≤17∧gG 100 t'∧p≤p'∧p'≤p+400∧D.own 1=.own 1∧[(0,rd l q),(1,.own 66 (t.map Ent.c))]=[(0,rd l p'),(1,.own 66 (t'.map Ent.c))]:=
      fun t q h1 h2 h3 h4=>⟨t,q,h1,h2,h3,h4,rfl,rfl⟩
     repeat' first|refine Ra ⟨?_⟩|(refine Rc [0] 0 rfl rfl (cM l _ _ (by omega) (by omega) hl) ?_ <;> conv=>whnf)|refine Rd (fun h=>⟨?_⟩) fun h=>⟨?_⟩|refine Rb ⟨?_⟩|fail
     · refine Cd.loop2 (fun mq tm S nx=>∃ (i:Nat) (t:List Ent),mq=(26 - i)∧tm=[(3,.own 1),(5,.k .i64 i)]∧S=[(0,rd l (q+1)),(1,.own 66 (t.map Ent.c))]∧nx=2∧(i≤26)∧(t.length≤17)∧(gG 100 t)) ?_ ?_
       · refine la [3,5] ?_
         conv=>whnf
         refine ⟨rfl,rfl,_,0,t,rfl,rfl,rfl,rfl,by omega,ht,hb⟩
       · rintro mq tm S nx ⟨i,t,hn,rfl,rfl,rfl,hi,ht,hb⟩;by_cases hlt:i < 26∧t.length < 16
         · obtain ⟨hlt,hlt2⟩:=hlt;have hu:((UInt8.ofNat (97+i)).toNat:Int)=97+(i:Int):=by
            have:(UInt8.ofNat (97+i)).toNat=(97+i) % 256:=by simp
            omega
           have hby:[[D.k .u8 (97+(i:Int))]]=bh [UInt8.ofNat (97+i)]:=by simp only [bh,List.map_cons,List.map_nil,hu]
           have c2:=fT (m:=m) t ⟨2,[47,122]++[UInt8.ofNat (97+i)],[],[]⟩ (by omega) (fun e he=>by have:=hb e he; omega) (by simp) (by simp) (by simp);have hl2:=tO t ⟨2,[47,122]++[UInt8.ofNat (97+i)],[],[]⟩;have hb2:gG 100 (aJ t ⟨2,[47,122]++[UInt8.ofNat (97+i)],[],[]⟩).1:=tP (by omega) hb (by simp) (by simp);repeat' first|refine Ra ⟨?_⟩|refine Rk [] 1 c2 ⟨?_⟩|(refine wb (by omega) ?_ <;> conv=>whnf)|(refine ⟨_,hby,by simp [eN],?_⟩ <;> conv=>whnf)|refine Rd (fun h=>⟨?_⟩) fun h=>⟨?_⟩|refine Rb ⟨?_⟩|fail
           refine .here ⟨mq - 1,by omega,?_⟩;refine la [3,5] ?_
           conv=>whnf
           refine ⟨rfl,rfl,i+1,_,(by omega),rfl,rfl,rfl,by omega,hl2,hb2⟩
         · repeat' first|refine Ra ⟨?_⟩|((exfalso; omega) <;> conv=>whnf)|refine Rd (fun h=>⟨?_⟩) fun h=>⟨?_⟩|refine Rb ⟨?_⟩|fail
           all_goals
            refine cv.here (aa ?_)
            conv=>whnf
            refine ⟨rfl,rfl,_,rfl,fin _ _ (by omega) hb (by omega) (by omega)⟩
     · refine cv.here (aa ?_)
       conv=>whnf
       refine ⟨rfl,rfl,_,rfl,fin _ _ (by omega) hb (by omega) (by omega)⟩
noncomputable def jv (m:Int) (l:Bs) (p:Int):List Ent × Int:=
 open Classical in if h : ∃ x : List Ent × Int, x.1.length ≤ 17 ∧ gG 100 x.1 ∧ p ≤ x.2 ∧ x.2 ≤ p + 400 ∧ Con (E m) 200 1 [.bp 0 0] [(0, rd l p)] (.own 1) [(0, rd l x.2), (1, .own 66 (x.1.map Ent.c))] then h.choose else ([], p)
theorem Cy (l:Bs) (p:Int):(jv m l p).1.length≤17∧gG 100 (jv m l p).1∧p≤(jv m l p).2∧(jv m l p).2≤p+400:=by
 unfold jv;split
 · rename_i h; exact ⟨h.choose_spec.1,h.choose_spec.2.1,h.choose_spec.2.2.1,h.choose_spec.2.2.2.1⟩
 · exact ⟨by simp,fun _ h=>by simp at h,by simp,by simp; omega⟩
theorem Cz (l:Bs) (p:Int) (hp:0≤p∧p≤900000) (hl:l.length≤2000):Con (E m) 200 1 [.bp 0 0] [(0,rd l p)] (.own 1) [(0,rd l (jv m l p).2),(1,.own 66 ((jv m l p).1.map Ent.c))]:=by
 have h:∃ x:List Ent × Int,x.1.length≤17∧gG 100 x.1∧p≤x.2∧x.2≤p+400∧Con (E m) 200 1 [.bp 0 0] [(0,rd l p)] (.own 1) [(0,rd l x.2),(1,.own 66 (x.1.map Ent.c))]:=by
  obtain ⟨d,S',⟨t,p',h1,h2,h3,h4,rfl,rfl⟩,hc⟩:=Cw (m:=m) l p hp hl;exact ⟨(t,p'),h1,h2,h3,h4,hc⟩
 unfold jv;rw [dif_pos h];exact h.choose_spec.2.2.2.2
end Go.Proofs.YtagejnomlkfndaaGreatDoor
