/- Texts of this claim, set close: lemmas and contracts. -/
import Derived.Test.YtagejnomlkfndaaGreatDoorYY2
import Derived.Lib.SplitLaws
import Derived.Test.YtagejnomlkfndaaGreatDoorYY3
import Derived.Lib.Bytealg
set_option linter.unusedSimpArgs false
set_option linter.unusedVariables false
namespace Go.Par
open Go.Ab
abbrev Bs:=List UInt8
structure Ent where
 path:Bs
 dir:Bool
 data:Bs
 deriving DecidableEq
structure Mrk where
 path:Bs
 kind:Int
 data:Bs
 deriving DecidableEq
def Ent.c (e:Ent):List D:=[.s e.path,.b e.dir,.s e.data]
def Mrk.c (m:Mrk):List D:=[.s m.path,.k .i64 m.kind,.s m.data]
def less (n:Int) (k:Nat):Int:=if n - k < 0 then -1 else n - k
def iU (n:Int) (p d:Nat):Int:=if n - p < 0 then -1 else if n - p - d < 0 then -1 else n - p - d
theorem tG (n:Int) (p d:Nat):iU n p d < 0∨(iU n p d+p+d=n∧0≤iU n p d):=by
 unfold iU;split
 · left; omega
 · split
   · left; omega
   · right; omega
end Go.Par
namespace Go.Par
open Go.Ab
def cut (c:UInt8):Bs→List Bs
 | []=>[[]]
 | x :: r=>if x=c then [] :: cut c r else match cut c r with
   | []=>[[x]]
   | a :: q=>(x :: a) :: q
def join (c:UInt8):List Bs→Bs
 | []=>[]
 | [a]=>a
 | a :: b :: q=>a++c :: join c (b :: q)
theorem xX (c:UInt8):∀ l:Bs,cut c l≠[]
 | []=>by simp [cut]
 | x :: r=>by
   unfold cut;split
   · simp
   · split <;> simp
theorem tH (c:UInt8) (x:UInt8) (r:Bs) (h:x≠c):∃ a q,cut c r=a :: q∧cut c (x :: r)=(x :: a) :: q:=by
 match hc:cut c r with
 | []=>exact absurd hc (xX c r)
 | a :: q=>exact ⟨a,q,rfl,by rw [cut,if_neg h,hc]⟩
theorem pG (c:UInt8):∀ l:Bs,join c (cut c l)=l
 | []=>rfl
 | x :: r=>by
   by_cases h:x=c
   · subst h;rw [cut,if_pos rfl]
     match hc:cut x r with
     | []=>exact absurd hc (xX x r)
     | a :: q=>
       have:=pG x r
       rw [hc] at this;simp [join,this]
   · obtain ⟨a,q,h1,h2⟩:=tH c x r h
     have:=pG c r
     rw [h1] at this;rw [h2]
     match q,this with
     | [],this=>simpa [join] using this
     | b :: q,this=>simpa [join] using this
theorem xY (c:UInt8):∀ (a r:Bs),c ∉ a→cut c (a++c :: r)=a :: cut c r
 | [],r,_=>by simp [cut]
 | x :: a,r,h=>by
   have hx:x≠c:=by rintro rfl; simp at h
   have ih:=xY c a r (by simp at h; exact h.2);simp only [zAh];rw [cut,if_neg hx,ih]
theorem tI (c:UInt8):∀ (a:Bs),c ∉ a→cut c a=[a]
 | [],_=>rfl
 | x :: a,h=>by
   have hx:x≠c:=by rintro rfl; simp at h
   rw [cut,if_neg hx,tI c a (by simp at h; exact h.2)]
theorem zV (c:UInt8):∀ (w:List Bs),w≠[]→(∀ a∈w,c ∉ a)→cut c (join c w)=w
 | [],h,_=>absurd rfl h
 | [a],_,h=>tI c a (h a (by simp))
 | a :: b :: q,_,h=>by
   rw [join,xY c a _ (h a (by simp)),zV c (b :: q) (by simp) (fun x hx=>h x (by simp [hx]))]
theorem EO {l:Bs} {c:UInt8} {i:Nat} (h:Lib.index l [c]=(i:Int)) (b:UInt8) (hb:b≠c):Lib.index (b :: l) [c]=((i+1:Nat):Int):=by
 rw [Lib.index]
 have:([c]:Bs).isPrefixOf (b :: l)=false:=by simp [List.isPrefixOf,Ne.symm hb]
 rw [this,h]
 simp
theorem zW (c:UInt8):∀ s:Bs,Lib.splitK [c] 0 (Lib.count s [c]) s=cut c s
 | []=>by
   have:Lib.count [] [c]=0:=Lib.count_miss (by simp [Lib.index])
   rw [this]; rfl
 | b :: l=>by
   have ih:=zW c l;by_cases hb:b=c
   · subst hb;have hi:Lib.index (b :: l) [b]=((0:Nat):Int):=by simp [Lib.index,List.isPrefixOf]
     rw [Lib.count_cons_eq,Nat.add_comm,Lib.splitK,hi,cut,if_pos rfl];simp [ih]
   · rw [Lib.count_cons_ne b c l hb];obtain ⟨a,q,h1,h2⟩:=tH c b l hb;rw [h2];rcases Lib.index_spec l [c] with ⟨hm,_⟩|⟨i,hi,_⟩
     · rw [Lib.count_miss hm] at ih ⊢;rw [h1] at ih;simp only [Lib.splitK] at ih ⊢;simp at ih;rw [← ih.1,← ih.2]
     · rw [Lib.count_hit (by simp) hi,Nat.add_comm] at ih ⊢;rw [h1] at ih;simp only [Lib.splitK] at ih ⊢;rw [EO hi b hb];rw [hi] at ih;have n1:¬ (((i:Nat):Int) == -1)=true:=by intro e; have:=beq_iff_eq.1 e; omega
       have n2:¬ (((i+1:Nat):Int) == -1)=true:=by intro e; have:=beq_iff_eq.1 e; omega
       rw [if_neg n1] at ih;rw [if_neg n2];simp only [zBQ,Nat.add_zero,List.length_cons,List.length_nil] at ih ⊢;rw [List.cons.injEq] at ih;obtain ⟨e1,e2⟩:=ih;rw [← e1,← e2]
       simp
def eV (b:UInt8):Bool:=decide (97≤b.toNat) && decide (b.toNat≤122)
def kV (b:UInt8):Bool:=decide (48≤b.toNat) && decide (b.toNat≤57)
def bx (s:Bs):Bool:=decide (1≤s.length) && decide (s.length≤3) && s.all eV
def dD (s:Bs):Bool:=decide (s.length≤6) && s.all fun b=>eV b || kV b
def cc:Bs→List Bs
 | []=>[]
 | x :: r=>if x=47∧r≠[] then cut 47 r else []
def ah (s:Bs):Bool:=decide (s.length≤12) && (cc s).all bx && decide (1≤(cc s).length) && decide ((cc s).length≤3)
def ia (s:Bs):Nat→Nat
 | 0=>0
 | k+1=>if s[k+1]?=some 47 then k+1 else ia s k
def jk (s:Bs):Nat:=ia s (s.length - 1)
def al (s:Bs):Bs:=if ah s then (if jk s=0 then [47] else s.take (jk s)) else []
def pathName (s:Bs):Bs:=if ah s then s.drop (jk s+1) else []
structure ib (s:Bs) (c:UInt8) (i fr:Nat) (done:List Bs):Prop where
 len:done.length≤fr
 le:fr≤i
 fin:i≤s.length→cut c s=done++cut c (s.drop fr)
 free:∀ k,fr≤k→k < i→s[k]?≠some c
 all:s.length < i→cut c s=done
 up:i≤s.length+1
theorem xZ (s:Bs) (c:UInt8):ib s c 0 0 []:=⟨by simp,zAL _,fun _=>by simp,fun k _ h=>absurd h (Nat.not_lt_zero _),fun h=>absurd h (Nat.not_lt_zero _),zAG _⟩
theorem tJ {s:Bs} {c:UInt8} {i fr:Nat} (h:∀ k,fr≤k→k < i→s[k]?≠some c):c ∉ (s.take i).drop fr:=by
 intro hm;obtain ⟨k,hk⟩:=List.mem_iff_getElem?.1 hm;rw [zAi,zAn] at hk;split at hk
 · exact h (fr+k) (by omega) (by omega) hk
 · cases hk
theorem ib.hit {s:Bs} {c:UInt8} {i fr:Nat} {done:List Bs} (h:ib s c i fr done) (hi:i < s.length) (hc:s[i]?=some c):ib s c (i+1) (i+1) (done++[(s.take i).drop fr]):=by
 have:=h.len
 have:=h.le
 refine ⟨by simp; omega,zAL _,fun _=>?_,fun k h1 h2=>by omega,fun h'=>by omega,by omega⟩;rw [h.fin (by omega),zAl];congr 1
 have e:s.drop fr=(s.take i).drop fr++c :: s.drop (i+1):=by
  have h1:s.drop fr=(s.take i++s.drop i).drop fr:=by rw [zBC]
  rw [h1,List.drop_append];have h2:fr - (s.take i).length=0:=by simp; omega
  rw [h2,List.drop_zero];congr 1
  obtain ⟨hlt,he⟩:=List.getElem?_eq_some_iff.1 hc;rw [List.drop_eq_getElem_cons hlt,he]
 rw [e,xY c _ _ (tJ h.free)];rfl
theorem ib.miss {s:Bs} {c:UInt8} {i fr:Nat} {done:List Bs} (h:ib s c i fr done) (hi:i < s.length) (hc:s[i]?≠some c):ib s c (i+1) fr done:=by
 refine ⟨h.len,Nat.le_succ_of_le h.le,fun _=>h.fin (by omega),fun k h1 h2=>?_,fun h'=>by omega,by omega⟩;by_cases hk:k=i
 · subst hk; exact hc
 · exact h.free k h1 (by omega)
theorem ib.last {s:Bs} {c:UInt8} {fr:Nat} {done:List Bs} (h:ib s c s.length fr done):ib s c (s.length+1) (s.length+1) (done++[(s.take s.length).drop fr]):=by
 have:=h.len
 have:=h.le
 refine ⟨by simp; omega,zAL _,fun h'=>by omega,fun k h1 h2=>by omega,fun _=>?_,zAL _⟩;rw [h.fin (zAL _)]
 have:=tJ h.free
 rw [zAP] at this ⊢;rw [tI c _ this]
theorem x4 (c:UInt8):∀ l:Bs,(cut c l).length≤l.length+1
 | []=>zAL _
 | x :: r=>by
   have:=x4 c r
   by_cases h:x=c
   · rw [cut,if_pos h]; simp; omega
   · obtain ⟨a,q,h1,h2⟩:=tH c x r h;rw [h1] at this;rw [h2];simp at this ⊢;omega
theorem EP (s:Bs):(cc s).length≤s.length+1:=by
 match s with
 | []=>simp [cc]
 | x :: r=>
   have:=x4 47 r
   have hn:cc (x :: r)=if x=47∧r≠[] then cut 47 r else []:=rfl
   rw [hn];split
   · simp; omega
   · simp
theorem zX (c:UInt8):∀ (w:List Bs),∀ a∈w,a.length≤(join c w).length
 | [],a,h=>by simp at h
 | [b],a,h=>by simp at h; simp [join,h]
 | b :: d :: q,a,h=>by
   rcases List.mem_cons.1 h with rfl|h
   · simp [join]
   · have:=zX c (d :: q) a h
     simp [join];omega
theorem wA (c:UInt8) (l:Bs):∀ a∈cut c l,a.length≤l.length:=by
 intro a h
 have:=zX c (cut c l) a h
 rwa [pG] at this
theorem rp (s:Bs):∀ a∈cc s,a.length≤s.length:=by
 match s with
 | []=>simp [cc]
 | x :: r=>
   intro a h;have hn:cc (x :: r)=if x=47∧r≠[] then cut 47 r else []:=rfl
   rw [hn] at h;split at h
   · have:=wA 47 r a h
     simp; omega
   · simp at h
end Go.Par
namespace Go.Par
open Go.Ab
abbrev lt (a b:Bs):Bool:=Op.bytesLess a b
theorem gP:∀ a:Bs,lt a a=false
 | []=>rfl
 | x :: a=>by
   have:=gP a
   simp only [lt,Op.bytesLess] at this ⊢;simp [this]
theorem lt_trans:∀ a b c:Bs,lt a b=true→lt b c=true→lt a c=true
 | [],_,[],_,h=>by simp [lt,Op.bytesLess] at h
 | [],_,_ :: _,_,_=>rfl
 | _ :: _,[],_,h,_=>by simp [lt,Op.bytesLess] at h
 | _ :: _,_ :: _,[],_,h=>by simp [lt,Op.bytesLess] at h
 | x :: a,y :: b,z :: c,h1,h2=>by
   have ih:=lt_trans a b c;simp only [lt,Op.bytesLess,zAe,zAE,decide_eq_true_eq,beq_iff_eq] at h1 h2 ih ⊢;rcases h1 with h1|⟨rfl,h1⟩
   · rcases h2 with h2|⟨rfl,h2⟩
     · left; exact UInt8.lt_trans h1 h2
     · left; exact h1
   · rcases h2 with h2|⟨rfl,h2⟩
     · left; exact h2
     · right; exact ⟨rfl,ih h1 h2⟩
theorem mH (a b:Bs) (h:lt a b=true):lt b a=false:=by
 cases h':lt b a with
 | false=>rfl
 | true=>have:=lt_trans a b a h h'; rw [gP] at this; cases this
theorem nQ {a b:Bs} (h:lt a b=true):a≠b:=by
 rintro rfl;rw [gP] at h;cases h
theorem gp:∀ a b:Bs,lt a b=true∨a=b∨lt b a=true
 | [],[]=>.inr (.inl rfl)
 | [],_ :: _=>.inl rfl
 | _ :: _,[]=>.inr (.inr rfl)
 | x :: a,y :: b=>by
   have ih:=gp a b;simp only [lt,Op.bytesLess,zAe,zAE,decide_eq_true_eq,beq_iff_eq] at ih ⊢;rcases Nat.lt_trichotomy x.toNat y.toNat with h|h|h
   · left; left; exact UInt8.lt_iff_toNat_lt.2 h
   · have:x=y:=UInt8.toNat_inj.1 h
     subst this;rcases ih with ih|rfl|ih
     · left; right; exact ⟨rfl,ih⟩
     · right; left; rfl
     · right; right; right; exact ⟨rfl,ih⟩
   · right; right; left; exact UInt8.lt_iff_toNat_lt.2 h
theorem Cf:∀ (a b:Bs),b≠[]→lt a (a++b)=true
 | [],[],h=>absurd rfl h
 | [],_ :: _,_=>rfl
 | x :: a,b,h=>by
   have:=Cf a b h
   simp only [lt,zAh,Op.bytesLess] at this ⊢;simp [this]
def ax (w:List Bs):Prop:=w.Pairwise fun a b=>lt a b=true
theorem wB {w:List Bs} (h:∀ (i:Nat) (a b:Bs),w[i]?=some a→w[i+1]?=some b→lt a b=true):ax w:=by
 induction w with
 | nil=>exact .nil
 | cons x w ih=>
   have ih:=ih fun i a b h1 h2=>h (i+1) a b (by simpa using h1) (by simpa using h2);refine .cons (fun b hb=>?_) ih
   match w,ih,hb with
   | y :: w,ih,hb=>
     have h0:=h 0 x y rfl rfl;rcases List.mem_cons.1 hb with rfl|hb
     · exact h0
     · exact lt_trans x y b h0 ((List.pairwise_cons.1 ih).1 b hb)
theorem qJ {w:List Bs} (h:ax w) {i j:Nat} {a b:Bs} (hi:w[i]?=some a) (hj:w[j]?=some b) (hij:i < j):lt a b=true:=by
 obtain ⟨hi',rfl⟩:=List.getElem?_eq_some_iff.1 hi;obtain ⟨hj',rfl⟩:=List.getElem?_eq_some_iff.1 hj;exact zBF.1 h i j hi' hj' hij
theorem ki {w:List Bs} (h:ax w) {i j:Nat} {a b:Bs} (hi:w[i]?=some a) (hj:w[j]?=some b) (hl:lt a b=true):i < j:=by
 rcases Nat.lt_trichotomy i j with k|k|k
 · exact k
 · subst k; rw [hi] at hj; cases hj; rw [gP] at hl; cases hl
 · have:=qJ h hj hi k
   rw [mH _ _ hl] at this;cases this
theorem oz (s:Bs):∀ k,ia s k≤k
 | 0=>zAL _
 | k+1=>by
   unfold ia;split
   · exact zAL _
   · exact Nat.le_succ_of_le (oz s k)
theorem pH (s:Bs) (j:Nat):∀ k,(∀ i,j < i→i≤j+k→s[i]?≠some 47)→ia s (j+k)=ia s j
 | 0,_=>rfl
 | k+1,h=>by
   rw [← Nat.add_assoc,ia,if_neg (h (j+k+1) (by omega) (by omega))];exact pH s j k fun i h1 h2=>h i h1 (by omega)
theorem EQ (a b:Bs) (hb:47 ∉ b) (hne:b≠[]):jk (a++47 :: b)=a.length:=by
 unfold jk;have hl:0 < b.length:=List.length_pos_iff.2 hne;have e:(a++47 :: b).length - 1=a.length+b.length:=by simp
 rw [e,pH]
 · cases h:a.length with
   | zero=>rfl
   | succ n=>
     unfold ia;rw [if_pos];rw [← h,zAW (zAL _)]
     simp
 · intro i h1 h2 h3;rw [zAW (by omega)] at h3
   have:i - a.length=(i - a.length - 1)+1:=by omega
   rw [this,List.getElem?_cons_succ] at h3;exact hb (zAD h3)
theorem ni {a:Bs} (h:bx a=true):47 ∉ a∧a≠[]:=by
 simp only [bx,zAE,decide_eq_true_eq,zAs] at h;obtain ⟨⟨h1,h2⟩,h3⟩:=h;refine ⟨fun hm=>?_,fun he=>by rw [he] at h1; simp at h1⟩
 have:=h3 47 hm
 simp [eV] at this
def dZ:List Bs→Bs
 | []=>[]
 | a :: q=>47 :: (a++dZ q)
theorem sx:∀ (a:Bs) (q:List Bs),47 :: join 47 (a :: q)=dZ (a :: q)
 | a,[]=>by simp [join,dZ]
 | a,b :: q=>by
   have:=sx b q
   rw [join,dZ,← this]
theorem mI:∀ (w:List Bs) (a:Bs),dZ (w++[a])=dZ w++47 :: a
 | [],a=>by simp [dZ]
 | b :: w,a=>by
   have:=mI w a
   simp [dZ,this]
theorem oA {s:Bs} (h:ah s=true):s=dZ (cc s)∧(cc s).all bx=true∧1≤(cc s).length∧(cc s).length≤3∧s.length≤12:=by
 simp only [ah,zAE,decide_eq_true_eq] at h;obtain ⟨⟨⟨h1,h2⟩,h3⟩,h4⟩:=h;refine ⟨?_,h2,h3,h4,h1⟩
 match s,h3 with
 | x :: r,h3=>
   have hn:cc (x :: r)=if x=47∧r≠[] then cut 47 r else []:=rfl
   rw [hn] at h3 ⊢;split at h3
   · rename_i hx;rw [if_pos hx,hx.1]
     have:=pG 47 r
     match hc:cut 47 r with
     | []=>exact absurd hc (xX 47 r)
     | a :: q=>rw [hc] at this; rw [← sx,this]
   · simp at h3
theorem GF {w:List Bs} (hw:w.all bx=true) (hne:w≠[]):cc (dZ w)=w:=by
 match w,hne with
 | a :: q,_=>
   rw [← sx,cc];have hf:∀ x∈a :: q,47 ∉ x:=fun x hx=>(ni (zAs.1 hw x hx)).1;have hj:join 47 (a :: q)≠[]:=by
    have ha:=(ni (zAs.1 hw a (by simp))).2
    match q with
    | []=>simpa [join] using ha
    | b :: q=>simp [join]
   rw [if_pos ⟨rfl,hj⟩,zV 47 _ (by simp) hf]
theorem rq:∀ {w:List Bs},w.all bx=true→(dZ w).length≤4 * w.length
 | [],_=>by simp [dZ]
 | a :: w,h=>by
   simp only [List.all_cons,zAE] at h
   have:=rq h.2
   have h1:=h.1;simp only [bx,zAE,decide_eq_true_eq] at h1;simp only [dZ,List.length_cons,zAT];omega
theorem qK {w:List Bs} (hw:w.all bx=true) (h1:1≤w.length) (h3:w.length≤3):ah (dZ w)=true:=by
 have hn:=GF hw (by rintro rfl; simp at h1)
 have:=rq hw
 simp only [ah,hn,hw,zAE,decide_eq_true_eq];refine ⟨⟨⟨?_,trivial⟩,h1⟩,h3⟩;omega
theorem lR {s:Bs} (h:ah s=true):∃ w a,cc s=w++[a]∧w.all bx=true∧bx a=true∧w.length≤2∧s=dZ w++47 :: a:=by
 obtain ⟨h1,h2,h3,h4,_⟩:=oA h;have hne:cc s≠[]:=by intro e; rw [e] at h3; simp at h3
 refine ⟨(cc s).dropLast,(cc s).getLast hne,(List.dropLast_concat_getLast hne).symm,?_,?_,?_,?_⟩
 · exact zAs.2 fun x hx=>zAs.1 h2 x (List.dropLast_subset _ hx)
 · exact zAs.1 h2 _ (List.getLast_mem hne)
 · simp; omega
 · rw [← mI,List.dropLast_concat_getLast hne]; exact h1
theorem jr {w:List Bs} {a:Bs} (hw:w.all bx=true) (ha:bx a=true) (hl:w.length≤2):al (dZ w++47 :: a)=if w=[] then [47] else dZ w:=by
 have hok:ah (dZ w++47 :: a)=true:=by
  rw [← mI];exact qK (by simp [hw,ha]) (by simp) (by simp; omega)
 obtain ⟨f1,f2⟩:=ni ha;rw [al,if_pos hok,EQ _ _ f1 f2]
 match w with
 | []=>simp [dZ]
 | b :: q=>
   rw [if_neg (by simp [dZ]),if_neg (by simp)]
   simp
theorem iV {s:Bs} (h:ah s=true):al s=[47]∨(ah (al s)=true∧lt (al s) s=true):=by
 obtain ⟨w,a,h1,hw,ha,hl,rfl⟩:=lR h;rw [jr hw ha hl];by_cases hn:w=[]
 · rw [if_pos hn]; exact .inl rfl
 · rw [if_neg hn];refine .inr ⟨qK hw ?_ (by omega),Cf _ _ (by simp)⟩;exact List.length_pos_iff.2 hn
theorem rr {s:Bs} (h:ah s=true):al s=47 :: join 47 ((cc s).dropLast):=by
 obtain ⟨w,a,h1,hw,ha,hl,rfl⟩:=lR h;rw [jr hw ha hl,h1];simp only [List.dropLast_concat]
 match w with
 | []=>rfl
 | b :: q=>rw [if_neg (by simp),sx]
theorem zY {b:UInt8} (h:((b.toNat:Int) < 97∨(b.toNat:Int) > 122)∧((b.toNat:Int) < 48∨(b.toNat:Int) > 57)):(eV b || kV b)=false:=by
 have h1:eV b=false:=by
  unfold eV;rcases h.1 with h|h
  · have:¬ 97≤b.toNat:=by omega
    simp [this]
  · have:¬ b.toNat≤122:=by omega
    simp [this]
 have h2:kV b=false:=by
  unfold kV;rcases h.2 with h|h
  · have:¬ 48≤b.toNat:=by omega
    simp [this]
  · have:¬ b.toNat≤57:=by omega
    simp [this]
 rw [h1,h2]; rfl
theorem DT {b:UInt8} (h:((97:Int)≤b.toNat∧(b.toNat:Int)≤122)∨((48:Int)≤b.toNat∧(b.toNat:Int)≤57)):(eV b || kV b)=true:=by
 rcases h with h|h
 · have:eV b=true:=by
     unfold eV
     have:97≤b.toNat:=by omega
     have:b.toNat≤122:=by omega
     simp [*]
   rw [this]; rfl
 · have:kV b=true:=by
     unfold kV
     have:48≤b.toNat:=by omega
     have:b.toNat≤57:=by omega
     simp [*]
   rw [this]; simp
theorem zZ (s:Bs):jk s≤s.length:=zAq (oz s _) (Nat.sub_le _ _)
theorem aQ {s:Bs} (h:ah s=true):1≤s.length∧s.length≤12:=by
 obtain ⟨h1,_,h3,_,h5⟩:=oA h;refine ⟨?_,h5⟩
 match s,h3 with
 | x :: r,_=>simp
theorem oB (s:Bs):(al s).length≤12:=by
 unfold al;split
 · rename_i h
   have:=aQ h
   split
   · simp
   · rw [zAd]; omega
 · simp
theorem kW {s:Bs} {w:List Bs} (h:cc s=w):ah s=(decide (s.length≤12) && w.all bx && decide (1≤w.length) && decide (w.length≤3)):=by rw [ah,h]
end Go.Par
namespace Go.Par
open Go.Ab
def ao (t:List Ent) (p:Bs):Option Ent:=t.find? fun e=>decide (e.path=p)
def fm:Option Ent→Bool
 | some e=>e.dir
 | none=>false
def gq (t:List Ent) (p:Bs):Bool:=decide (p=[47]) || fm (ao t p)
def bC (t:List Ent) (p:Bs):Int:=
 if al p=[47] then 0 else match ao t (al p) with
  | none=>2
  | some e=>if e.dir then 0 else 3
def fy (e:Ent):Bool:=ah e.path && dD e.data && !(e.dir && !decide (e.data=[]))
def mJ (t:List Ent) (e:Ent):Nat→Bool
 | 0=>true
 | j+1=>match t[j]? with
   | some e'=>lt e'.path e.path
   | none=>true
def okC (t:List Ent) (i:Nat):Bool:=match t[i]? with
 | some e=>fy e && mJ t e i
 | none=>true
def okS (t:List Ent) (i:Nat):Bool:=match t[i]? with
 | some e=>fy e && mJ t e i && gq (t.take i) (al e.path)
 | none=>true
def okI (t:List Ent) (i:Nat):Bool:=match t[i]? with
 | some e=>fy e && mJ t e i && decide (bC t e.path=0)
 | none=>true
def aq (t:List Ent):Bool:=decide (t.length≤16) && (List.range t.length).all (okS t)
def nj (t:List Ent):Bool:=decide (t.length≤16) && (List.range t.length).all (okI t)
theorem cq {n:Nat} {p:Nat→Bool}:(List.range n).all p=true↔∀ i,i < n→p i=true:=by
 simp [zAs]
theorem tK {t:List Ent} (h:∀ i,i < t.length→okC t i=true):ax (t.map (·.path)):=by
 refine wB fun i a b h1 h2=>?_;simp only [zAO,Option.map_eq_some_iff] at h1 h2;obtain ⟨e1,he1,rfl⟩:=h1;obtain ⟨e2,he2,rfl⟩:=h2
 have:=h (i+1) (List.getElem?_eq_some_iff.1 he2).1
 simp only [okC,he2,mJ,he1,zAE] at this;exact this.2
theorem cW {t:List Ent} {p:Bs} {e:Ent} (h:ao t p=some e):e∈t∧e.path=p:=by
 have h1:=List.mem_of_find?_eq_some h;have h2:=List.find?_some h;exact ⟨h1,by simpa using h2⟩
theorem Cg {t:List Ent} (hs:ax (t.map (·.path))) {i:Nat} {e:Ent} (hi:t[i]?=some e) {p:Bs} (hl:lt p e.path=true):ao (t.take i) p=ao t p:=by
 have h1:ao t p=(ao (t.take i) p).or (ao (t.drop i) p):=by
  unfold ao;rw [← zBR,zBC]
 have h2:ao (t.drop i) p=none:=by
  unfold ao;rw [List.find?_eq_none];intro e' he' hp;simp only [decide_eq_true_eq] at hp;obtain ⟨j,hj⟩:=List.mem_iff_getElem?.1 he';rw [zAi] at hj;have a1:(t.map (·.path))[i]?=some e.path:=by simp [hi]
  have a2:(t.map (·.path))[i+j]?=some e'.path:=by simp [hj]
  rw [hp] at a2
  have:=ki hs a2 a1 hl
  omega
 rw [h1,h2]
 simp
theorem Jw {t:List Ent} {i:Nat} (h:okS t i=true):okC t i=true:=by
 unfold okS at h;unfold okC
 match he:t[i]?,h with
 | some e,h=>
   simp only [zAE] at h ⊢;exact h.1
 | none,_=>rfl
theorem Iw {t:List Ent} {i:Nat} (h:okI t i=true):okC t i=true:=by
 unfold okI at h;unfold okC
 match he:t[i]?,h with
 | some e,h=>
   simp only [zAE] at h ⊢;exact h.1
 | none,_=>rfl
theorem GG {t:List Ent} (hs:ax (t.map (·.path))) (i:Nat):okI t i=okS t i:=by
 unfold okI okS
 match he:t[i]? with
 | none=>rfl
 | some e=>
   simp only;cases hok:fy e with
   | false=>simp
   | true=>
     congr 1
     simp only [fy,zAE] at hok;unfold bC gq;rcases iV hok.1.1 with h|⟨h1,h2⟩
     · simp [h]
     · have hne:al e.path≠[47]:=by
         intro h;rw [h] at h1
         revert h1
         decide
       rw [Cg hs he h2,if_neg hne];simp only [hne,decide_false,zAt]
       match ao t (al e.path) with
       | none=>simp [fm]
       | some e'=>cases hd:e'.dir <;> simp [fm,hd]
theorem lS (t:List Ent):nj t=aq t:=by
 unfold nj aq;congr 1
 rw [zAK,cq,cq];constructor
 · intro h i hi;have hs:=tK fun i hi=>Iw (h i hi);rw [← GG hs];exact h i hi
 · intro h i hi;have hs:=tK fun i hi=>Jw (h i hi);rw [GG hs];exact h i hi
def pI (t:List Ent) (p:Bs):Int:=match t.findIdx? fun e=>decide (e.path=p) with
 | some i=>i
 | none=>-1
theorem pJ {t:List Ent} {p:Bs} {i:Nat} {e:Ent} (h:t[i]?=some e) (hp:e.path=p) (hb:∀ k e,k < i→t[k]?=some e→e.path≠p):pI t p=i:=by
 have:(t.findIdx? fun e=>decide (e.path=p))=some i:=by
  rw [List.findIdx?_eq_some_iff_getElem];obtain ⟨hlt,rfl⟩:=List.getElem?_eq_some_iff.1 h;refine ⟨hlt,by simpa using hp,fun j hj=>?_⟩
  have:=hb j t[j] hj (zAB (by omega))
  simpa using this
 rw [pI,this]
theorem oC {t:List Ent} {p:Bs} (hb:∀ (k:Nat) e,t[k]?=some e→e.path≠p):pI t p=-1:=by
 have:(t.findIdx? fun e=>decide (e.path=p))=none:=by
  rw [List.findIdx?_eq_none_iff];intro e he;obtain ⟨k,hk⟩:=List.mem_iff_getElem?.1 he;simpa using hb k e hk
 rw [pI,this]
theorem pK (t:List Ent) (p:Bs):(∃ (i:Nat),pI t p=i∧∃ hi:i < t.length,ao t p=some t[i])∨(pI t p=-1∧ao t p=none):=by
 match h:t.findIdx? fun e=>decide (e.path=p) with
 | some i=>
   left;rw [List.findIdx?_eq_some_iff_getElem] at h;obtain ⟨hlt,h1,h2⟩:=h;refine ⟨i,pJ (zAB hlt) (by simpa using h1) (fun k e hk he=>?_),hlt,?_⟩
   · obtain ⟨hk',rfl⟩:=List.getElem?_eq_some_iff.1 he;simpa using h2 k hk
   · unfold ao;rw [List.find?_eq_some_iff_getElem];exact ⟨h1,i,hlt,rfl,fun j hj=>by simpa using h2 j hj⟩
 | none=>
   right;rw [List.findIdx?_eq_none_iff] at h;refine ⟨oC fun k e he=>by simpa using h e (zAD he),?_⟩;unfold ao;rw [List.find?_eq_none];intro e he;simpa using h e he
theorem Ch {t:List Ent} {i:Nat} (hi:i < t.length):okS t i=(fy t[i] && (if 0 < i then lt (t[i - 1]'(by omega)).path t[i].path else true) && gq (t.take i) (al t[i].path)):=by
 have h:t[i]?=some t[i]:=zAB hi;unfold okS;rw [h];simp only;congr 2
 match i,hi with
 | 0,_=>rfl
 | k+1,hi=>
   have h':t[k]?=some t[k]:=zAB (by omega);simp [mJ,h']
theorem Ci {t:List Ent} {i:Nat} (hi:i < t.length):okI t i=(fy t[i] && (if 0 < i then lt (t[i - 1]'(by omega)).path t[i].path else true) && decide (bC t t[i].path=0)):=by
 have h:t[i]?=some t[i]:=zAB hi;unfold okI;rw [h];simp only;congr 2
 match i,hi with
 | 0,_=>rfl
 | k+1,hi=>
   have h':t[k]?=some t[k]:=zAB (by omega);simp [mJ,h']
theorem pL {t:List Ent} {i:Nat} (hi:i < t.length) (h:okS t i=false):aq t=false:=by
 unfold aq;rw [zAr];right;rw [zBa];exact ⟨i,List.mem_range.2 hi,by simp [h]⟩
theorem nR {t:List Ent} {i:Nat} (hi:i < t.length) (h:okI t i=false):aq t=false:=by
 rw [← lS];unfold nj;rw [zAr];right;rw [zBa];exact ⟨i,List.mem_range.2 hi,by simp [h]⟩
theorem z6 {t:List Ent} (hl:t.length≤16) (h:∀ k,k < t.length→okS t k=true):aq t=true:=by
 unfold aq;rw [zAE,cq];exact ⟨by simpa using hl,h⟩
theorem pM {t:List Ent} (hl:t.length≤16) (h:∀ k,k < t.length→okI t k=true):aq t=true:=by
 rw [← lS];unfold nj;rw [zAE,cq];exact ⟨by simpa using hl,h⟩
theorem aN {t:List Ent} (h:aq t=true):t.length≤16:=by
 unfold aq at h;rw [zAE] at h;simpa using h.1
theorem gE {t:List Ent} (h:aq t=true):∀ e∈t,fy e=true:=by
 intro e he;obtain ⟨i,hi⟩:=List.mem_iff_getElem?.1 he;unfold aq at h;rw [zAE,cq] at h
 have:=h.2 i (List.getElem?_eq_some_iff.1 hi).1
 unfold okS at this;rw [hi] at this;simp only [zAE] at this;exact this.1.1
theorem jF {e:Ent} (h:fy e=true):e.path.length≤12∧e.data.length≤6:=by
 simp only [fy,zAE] at h;refine ⟨(aQ h.1.1).2,?_⟩
 have:=h.1.2
 simp only [dD,zAE,decide_eq_true_eq] at this;exact this.1
theorem kX {α β:Type} {l:List α} {f:α→β} {z:β} {i:Nat} (hi:i < l.length):((l.take i).map f++List.replicate (l.length - i) z)[i]?=some z:=by
 rw [zAW (by simp; omega)]
 have:i - ((l.take i).map f).length=0:=by simp; omega
 rw [this,List.getElem?_replicate]
 simp
 omega
theorem jS {α β:Type} {l:List α} {f:α→β} {z:β} {i:Nat} (hi:i < l.length):((l.take i).map f++List.replicate (l.length - i) z).set i (f l[i])=(l.take (i+1)).map f++List.replicate (l.length - (i+1)) z:=by
 have h1:((l.take i).map f).length=i:=by simp; omega
 rw [List.set_append_right _ _ (by omega),h1,Nat.sub_self];have h2:l.length - i=(l.length - (i+1))+1:=by omega
 rw [h2,List.replicate_succ,List.set_cons_zero,zAY,zAB hi];simp only [Option.toList_some,zAH,List.map_cons,List.map_nil,zAl,zAh,zBB]
def eqE (a b:Ent):Bool:=decide (a.path=b.path) && (a.dir == b.dir) && decide (a.data=b.data)
theorem z7 (a:Ent):eqE a a=true:=by simp [eqE]
end Go.Par
namespace Go.Par
open Go.Ab
structure Opn where
 kind:Int
 path:Bs
 tgt:Bs
 data:Bs
 deriving DecidableEq
def Opn.c (o:Opn):List D:=[.k .i64 o.kind,.s o.path,.s o.tgt,.s o.data]
def op0:Opn:=⟨0,[],[],[]⟩
def iu (o:Opn):Bool:=
 ah o.path && if o.kind=5 then ah o.tgt && decide (o.data=[]) else if o.kind=2 then decide (o.tgt=[]) && dD o.data
  else decide (o.kind=1∨o.kind=3∨o.kind=4) && decide (o.tgt=[]) && decide (o.data=[])
theorem Cj:dD []=true:=rfl
theorem sy (o:Opn):iu o=(decide (1≤o.kind) && decide (o.kind≤5) && ah o.path && if o.kind=5 then ah o.tgt && decide (o.data=[]) else decide (o.tgt=[]) && dD o.data && (decide (o.kind=2) || decide (o.data=[]))):=by
 unfold iu;cases ah o.path
 · simp
 · by_cases h5:o.kind=5
   · simp [h5]
   · by_cases h2:o.kind=2
     · simp [h2]
     · simp only [h5,h2,if_false,decide_false,zAt,zAx,zBO];by_cases hd:o.data=[]
       · rw [hd,Cj]
         have:decide (o.kind=1∨o.kind=3∨o.kind=4)=(decide (1≤o.kind) && decide (o.kind≤5)):=by
          rw [zAK]; simp; omega
         rw [this];simp [Bool.and_assoc]
       · simp [hd]
theorem ER {o:Opn} (h:iu o=true):1≤o.kind∧o.kind≤5:=by
 simp only [iu,zAE] at h;obtain ⟨_,h⟩:=h;split at h
 · omega
 · split at h
   · omega
   · simp only [zAE,decide_eq_true_eq] at h;omega
def mL (n:Int) (p t d:Nat):Int:=if n - p < 0 then -1 else if n - p - t < 0 then -1 else if n - p - t - d < 0 then -1 else n - p - t - d
theorem z8 (n:Int) (p t d:Nat):mL n p t d < 0∨(mL n p t d+p+t+d=n∧0≤mL n p t d):=by
 unfold mL;repeat' split
 all_goals first
  | (left; omega)
  | (right; omega)
def eqO (a b:Opn):Bool:=decide (a.kind=b.kind) && decide (a.path=b.path) && decide (a.tgt=b.tgt) && decide (a.data=b.data)
theorem GH (a:Opn):eqO a a=true:=by simp [eqO]
end Go.Par
namespace Go.Par
open Go.Ab
theorem c47 (b:UInt8):((b.toNat:Int)=47)↔b=47:=by
 constructor
 · intro h;exact UInt8.toNat_inj.1 (Int.ofNat_inj.1 h)
 · intro h;rw [h]; rfl
def bc (s d:Bs):Bool:=decide (d=[47]) || (decide (d.length < s.length) && decide (s.take d.length=d) && decide (s[d.length]?=some 47))
def bW (s d:Bs):Bool:=ah s && (decide (d=[47]) || ah d) && bc s d
theorem tL {s d:Bs} (h:bc s d=true) (hd:d≠[47]):lt d s=true:=by
 simp only [bc,hd,decide_false,zAt,zAE,decide_eq_true_eq] at h;have e:s=d++s.drop d.length:=by
  have h1:=h.1.2
  conv=>lhs; rw [← zBC d.length s,h1]
 rw [e];exact Cf _ _ (by intro h0; have:=congrArg List.length h0; simp at this; omega)
theorem kZ:ah [47]=false:=by decide
theorem oD:ah []=false:=by decide
def am (l:List Mrk) (p:Bs):Option Mrk:=l.find? fun m=>decide (m.path=p)
def dS (m:Mrk):Bool:=decide (m.kind=2) || decide (m.kind=4)
def lT:Option Mrk→Bool
 | some m=>dS m
 | none=>false
def bare (l:List Mrk) (p:Bs):Bool:=l.any fun m=>decide (m.kind=4) && bc p m.path
def lb (l:List Mrk) (p:Bs):Bool:=l.any fun m=>decide (m.kind=4) && bW p m.path
def cX (m:Mrk):Bool:=decide (1≤m.kind) && decide (m.kind≤4) && ah m.path && (if m.kind=1 then dD m.data else decide (m.data=[]))
def kj (l:List Mrk) (e:Mrk):Nat→Bool
 | 0=>true
 | j+1=>match l[j]? with
   | some e'=>lt e'.path e.path
   | none=>true
def inM (l:List Mrk) (p:Bs):Bool:=decide (al p=[47]) || lT (am l (al p))
def x7 (l:List Mrk) (i:Nat):Bool:=match l[i]? with
 | some m=>cX m && kj l m i
 | none=>true
def r9 (l:List Mrk) (i:Nat):Bool:=match l[i]? with
 | some m=>cX m && kj l m i && inM (l.take i) m.path && !(decide (2 < m.kind) && bare (l.take i) m.path)
 | none=>true
def oE (l:List Mrk) (i:Nat):Bool:=match l[i]? with
 | some m=>cX m && kj l m i && inM l m.path && !(decide (2 < m.kind) && lb l m.path)
 | none=>true
def aR (l:List Mrk):Bool:=decide (l.length≤32) && (List.range l.length).all (r9 l)
def mM (l:List Mrk):Bool:=decide (l.length≤32) && (List.range l.length).all (oE l)
theorem Aa {l:List Mrk} (h:∀ i,i < l.length→x7 l i=true):ax (l.map (·.path)):=by
 refine wB fun i a b h1 h2=>?_;simp only [zAO,Option.map_eq_some_iff] at h1 h2;obtain ⟨e1,he1,rfl⟩:=h1;obtain ⟨e2,he2,rfl⟩:=h2
 have:=h (i+1) (List.getElem?_eq_some_iff.1 he2).1
 simp only [x7,he2,kj,he1,zAE] at this;exact this.2
theorem qa1 {m:Mrk} (h:cX m=true):ah m.path=true:=by
 simp only [cX,zAE] at h;exact h.1.2
theorem Ck {m:Mrk} (h:dD m.data=false):cX m=false:=by
 unfold cX;rw [zAr];right;split
 · exact h
 · simp only [decide_eq_false_iff_not];intro h0;rw [h0] at h;cases h
theorem cK {t:List Mrk} {p:Bs} {e:Mrk} (h:am t p=some e):e∈t∧e.path=p:=by
 have h1:=List.mem_of_find?_eq_some h;have h2:=List.find?_some h;exact ⟨h1,by simpa using h2⟩
theorem Ac {t:List Mrk} (hs:ax (t.map (·.path))) {i:Nat} {e:Mrk} (hi:t[i]?=some e) {p:Bs} (hl:lt p e.path=true):am (t.take i) p=am t p:=by
 have h1:am t p=(am (t.take i) p).or (am (t.drop i) p):=by
  unfold am;rw [← zBR,zBC]
 have h2:am (t.drop i) p=none:=by
  unfold am;rw [List.find?_eq_none];intro e' he' hp;simp only [decide_eq_true_eq] at hp;obtain ⟨j,hj⟩:=List.mem_iff_getElem?.1 he';rw [zAi] at hj;have a1:(t.map (·.path))[i]?=some e.path:=by simp [hi]
  have a2:(t.map (·.path))[i+j]?=some e'.path:=by simp [hj]
  rw [hp] at a2
  have:=ki hs a2 a1 hl
  omega
 rw [h1,h2]
 simp
theorem ES {t:List Mrk} (hs:ax (t.map (·.path))) (hok:∀ m∈t,ah m.path=true) {i:Nat} {e:Mrk} (hi:t[i]?=some e):lb t e.path=bare (t.take i) e.path:=by
 rw [zAK];simp only [lb,bare,zAp,zAE,decide_eq_true_eq];constructor
 · rintro ⟨m,hm,hk,hu⟩;simp only [bW,zAE] at hu;have hne:m.path≠[47]:=by
    intro h
    have:=hok m hm
    rw [h,kZ] at this;cases this
   obtain ⟨j,hj⟩:=List.mem_iff_getElem?.1 hm;have a1:(t.map (·.path))[i]?=some e.path:=by simp [hi]
   have a2:(t.map (·.path))[j]?=some m.path:=by simp [hj]
   have hlt:=ki hs a2 a1 (tL hu.2 hne);refine ⟨m,?_,hk,hu.2⟩;rw [List.mem_iff_getElem?];exact ⟨j,by rw [zAn,if_pos hlt,hj]⟩
 · rintro ⟨m,hm,hk,hu⟩;have hm':=zAz hm;exact ⟨m,hm',hk,by simp [bW,hok e (zAD hi),hok m hm',hu]⟩
theorem Cl {t:List Mrk} {i:Nat} (h:r9 t i=true):x7 t i=true:=by
 unfold r9 at h;unfold x7
 match he:t[i]?,h with
 | some e,h=>
   simp only [zAE] at h ⊢;exact h.1.1
 | none,_=>rfl
theorem I9 {t:List Mrk} {i:Nat} (h:oE t i=true):x7 t i=true:=by
 unfold oE at h;unfold x7
 match he:t[i]?,h with
 | some e,h=>
   simp only [zAE] at h ⊢;exact h.1.1
 | none,_=>rfl
theorem Ad {t:List Mrk} (h:∀ i,i < t.length→x7 t i=true):∀ m∈t,cX m=true:=by
 intro m hm;obtain ⟨i,hi⟩:=List.mem_iff_getElem?.1 hm
 have:=h i (List.getElem?_eq_some_iff.1 hi).1
 simp only [x7,hi,zAE] at this;exact this.1
theorem DU {t:List Mrk} (hc:∀ i,i < t.length→x7 t i=true) (i:Nat):oE t i=r9 t i:=by
 have hs:=Aa hc;have hok:=Ad hc;unfold oE r9
 match he:t[i]? with
 | none=>rfl
 | some e=>
   simp only;have hp:=qa1 (hok e (zAD he));rw [ES hs (fun m hm=>qa1 (hok m hm)) he];congr 2
   unfold inM;rcases iV hp with h|⟨h1,h2⟩
   · simp [h]
   · rw [Ac hs he h2]
theorem mN (t:List Mrk):mM t=aR t:=by
 unfold mM aR;congr 1
 rw [zAK,cq,cq];constructor
 · intro h i hi;rw [← DU fun i hi=>I9 (h i hi)];exact h i hi
 · intro h i hi;rw [DU fun i hi=>Cl (h i hi)];exact h i hi
theorem DV {t:List Mrk} {i:Nat} (hi:i < t.length):r9 t i=(cX t[i] && (if 0 < i then lt (t[i - 1]'(by omega)).path t[i].path else true) && inM (t.take i) t[i].path && !(decide (2 < t[i].kind) && bare (t.take i) t[i].path)):=by
 have h:t[i]?=some t[i]:=zAB hi;unfold r9;rw [h];simp only;congr 3
 match i,hi with
 | 0,_=>rfl
 | k+1,hi=>
   have h':t[k]?=some t[k]:=zAB (by omega);simp [kj,h']
theorem HX {t:List Mrk} {i:Nat} (hi:i < t.length):oE t i=(cX t[i] && (if 0 < i then lt (t[i - 1]'(by omega)).path t[i].path else true) && inM t t[i].path && !(decide (2 < t[i].kind) && lb t t[i].path)):=by
 have h:t[i]?=some t[i]:=zAB hi;unfold oE;rw [h];simp only;congr 3
 match i,hi with
 | 0,_=>rfl
 | k+1,hi=>
   have h':t[k]?=some t[k]:=zAB (by omega);simp [kj,h']
theorem Ae {t:List Mrk} {i:Nat} (hi:i < t.length):oE t i=(cX t[i] && (if 0 < i then lt (t[i - 1]'(by omega)).path t[i].path else true) && inM t t[i].path && !((decide (t[i].kind=3) || decide (t[i].kind=4)) && lb t t[i].path)):=by
 rw [HX hi];cases hm:cX t[i] with
 | false=>simp
 | true=>
   have:decide (2 < t[i].kind)=(decide (t[i].kind=3) || decide (t[i].kind=4)):=by
    simp only [cX,zAE,decide_eq_true_eq] at hm;rw [zAK]
    simp
    omega
   rw [this]
theorem vf {t:List Mrk} {i:Nat} (hi:i < t.length) (h:r9 t i=false):aR t=false:=by
 unfold aR;rw [zAr];right;rw [zBa];exact ⟨i,List.mem_range.2 hi,by simp [h]⟩
theorem tM {t:List Mrk} {i:Nat} (hi:i < t.length) (h:oE t i=false):aR t=false:=by
 rw [← mN];unfold mM;rw [zAr];right;rw [zBa];exact ⟨i,List.mem_range.2 hi,by simp [h]⟩
theorem x8 {t:List Mrk} (hl:t.length≤32) (h:∀ k,k < t.length→r9 t k=true):aR t=true:=by
 unfold aR;rw [zAE,cq];exact ⟨by simpa using hl,h⟩
theorem nS {t:List Mrk} (hl:t.length≤32) (h:∀ k,k < t.length→oE t k=true):aR t=true:=by
 rw [← mN];unfold mM;rw [zAE,cq];exact ⟨by simpa using hl,h⟩
theorem mO {t:List Mrk} (h:aR t=true):t.length≤32:=by
 unfold aR at h;rw [zAE] at h;simpa using h.1
theorem x9 {t:List Mrk} (h:aR t=true):∀ e∈t,cX e=true:=by
 unfold aR at h;rw [zAE,cq] at h;exact Ad fun i hi=>Cl (h.2 i hi)
theorem mP {t:List Mrk} (h:aR t=true):ax (t.map (·.path)):=by
 unfold aR at h;rw [zAE,cq] at h;exact Aa fun i hi=>Cl (h.2 i hi)
theorem Cm {d:Bs} (h:dD d=true):d.length≤6:=by
 simp only [dD,zAE,decide_eq_true_eq] at h;exact h.1
def lU (t:List Mrk) (p:Bs):Int:=match t.findIdx? fun e=>decide (e.path=p) with
 | some i=>i
 | none=>-1
theorem wC {t:List Mrk} {p:Bs} {i:Nat} {e:Mrk} (h:t[i]?=some e) (hp:e.path=p) (hb:∀ k e,k < i→t[k]?=some e→e.path≠p):lU t p=i:=by
 have:(t.findIdx? fun e=>decide (e.path=p))=some i:=by
  rw [List.findIdx?_eq_some_iff_getElem];obtain ⟨hlt,rfl⟩:=List.getElem?_eq_some_iff.1 h;refine ⟨hlt,by simpa using hp,fun j hj=>?_⟩
  have:=hb j t[j] hj (zAB (by omega))
  simpa using this
 rw [lU,this]
theorem rs {t:List Mrk} {p:Bs} (hb:∀ (k:Nat) e,t[k]?=some e→e.path≠p):lU t p=-1:=by
 have:(t.findIdx? fun e=>decide (e.path=p))=none:=by
  rw [List.findIdx?_eq_none_iff];intro e he;obtain ⟨k,hk⟩:=List.mem_iff_getElem?.1 he;simpa using hb k e hk
 rw [lU,this]
theorem ET (t:List Mrk) (p:Bs):(∃ (i:Nat),lU t p=i∧∃ hi:i < t.length,am t p=some t[i])∨(lU t p=-1∧am t p=none):=by
 match h:t.findIdx? fun e=>decide (e.path=p) with
 | some i=>
   left;rw [List.findIdx?_eq_some_iff_getElem] at h;obtain ⟨hlt,h1,h2⟩:=h;refine ⟨i,wC (zAB hlt) (by simpa using h1) (fun k e hk he=>?_),hlt,?_⟩
   · obtain ⟨hk',rfl⟩:=List.getElem?_eq_some_iff.1 he;simpa using h2 k hk
   · unfold am;rw [List.find?_eq_some_iff_getElem];exact ⟨h1,i,hlt,rfl,fun j hj=>by simpa using h2 j hj⟩
 | none=>
   right;rw [List.findIdx?_eq_none_iff] at h;refine ⟨rs fun k e he=>by simpa using h e (zAD he),?_⟩;unfold am;rw [List.find?_eq_none];intro e he;simpa using h e he
def cZ (l:List Mrk) (p:Bs):Int:=match am l p with
 | some m=>m.kind
 | none=>0
def eqM (a b:Mrk):Bool:=decide (a.path=b.path) && decide (a.kind=b.kind) && decide (a.data=b.data)
theorem GI (a:Mrk):eqM a a=true:=by simp [eqM]
end Go.Par
namespace Go.Par
open Go.Ab
def Af:Ent:=⟨[47],true,[]⟩
def b9:Ent:=⟨[],false,[]⟩
def aA (t:List Ent) (p:Bs):Option Ent:=if p=[47] then some Af else ao t p
def ea:List Ent→Ent→List Ent
 | [],e=>[e]
 | x :: r,e=>if lt x.path e.path then x :: ea r e else if x.path=e.path then e :: r else e :: x :: r
def aX (s a b:Bs):Option Bs:=
 if ah s && ah a && ah b then (if s≠a∧bc s a=false then some s else if ah (b++s.drop a.length) then some (b++s.drop a.length) else none) else none
def nB (t:List Ent) (p:Bs):List Bs:=(t.filter fun e=>decide (al e.path=p)).map fun e=>pathName e.path
def eF (t:List Ent) (p:Bs):Int:=if bC t p≠0 then bC t p else if (aA t p).isSome then 4 else if 16≤t.length then 8 else 0
def eP (t:List Ent) (p:Bs):Int:=if eF t p=4∧fm (aA t p)=true then 5 else if eF t p=4 then 0 else eF t p
def gb (t:List Ent) (o:Opn):Int:=match aA t o.path with
 | none=>2
 | some e=>if o.kind=3∧e.dir=true then 5 else if o.kind=4∧e.dir=false then 3 else if 0 < (nB t o.path).length then 6 else 0
def dI (t:List Ent) (o:Opn):Int:=
 if (aA t o.path).isNone then 2 else if bC t o.tgt≠0 then bC t o.tgt else if (aA t o.tgt).isSome then 4 else if bc o.tgt o.path then 7
 else if t.all (fun e=>(aX e.path o.path o.tgt).isSome) then 0 else 8
def dh (t:List Ent) (o:Opn):Int:=
 if o.kind=1 then eF t o.path else if o.kind=2 then eP t o.path else if o.kind=5 then dI t o else gb t o
def gt (a b:Bs) (e:Ent):Ent:=⟨(aX e.path a b).getD [],e.dir,e.data⟩
def cF (t:List Ent) (es:List Ent):List Ent:=es.foldl ea t
def js (t:List Ent) (p:Bs):List Ent:=t.filter fun e=>decide (e.path≠p)
def ml (t:List Ent) (a b:Bs):List Ent:=cF [] (t.map (gt a b))
def doT (t:List Ent) (o:Opn):List Ent:=
 if o.kind=1 then ea t ⟨o.path,true,[]⟩ else if o.kind=2 then ea t ⟨o.path,false,o.data⟩ else if o.kind=5 then ml t o.path o.tgt else js t o.path
def aJ (t:List Ent) (o:Opn):List Ent × Int:=
 if aq t=false then ([],1) else if iu o=false then (t,1) else if dh t o≠0 then (t,dh t o) else (doT t o,0)
theorem Cn (t:List Ent) (p:Bs):bC t p=match aA t (al p) with
   | none=>2
   | some e=>if e.dir then 0 else 3:=by
 unfold bC aA;by_cases h:al p=[47]
 · simp [h,Af]
 · simp only [h,if_false] <;> (cases ao t (al p) <;> rfl)
theorem fR (t:List Ent) (e:Ent):t.length≤(ea t e).length∧(ea t e).length≤t.length+1:=by
 induction t with
 | nil=>simp [ea]
 | cons x r ih=>
   unfold ea;split
   · simp; omega
   · split <;> simp
theorem Ag {t:List Ent} {e x:Ent} (h:x∈ea t e):x=e∨x∈t:=by
 induction t with
 | nil=>simp [ea] at h; exact .inl h
 | cons y r ih=>
   unfold ea at h;split at h
   · rcases List.mem_cons.1 h with h|h
     · exact .inr (by simp [h])
     · rcases ih h with h|h
       · exact .inl h
       · exact .inr (by simp [h])
   · split at h
     · rcases List.mem_cons.1 h with h|h
       · exact .inl h
       · exact .inr (by simp [h])
     · rcases List.mem_cons.1 h with h|h
       · exact .inl h
       · exact .inr h
theorem putAll_len:∀ (es t:List Ent),(cF t es).length≤t.length+es.length
 | [],t=>by simp [cF]
 | e :: es,t=>by
   have h1:=putAll_len es (ea t e);have h2:=(fR t e).2;simp only [cF,List.foldl_cons,List.length_cons] at h1 ⊢;omega
theorem tN:∀ {es t:List Ent} {x:Ent},x∈cF t es→x∈es∨x∈t
 | [],t,x,h=>.inr h
 | e :: es,t,x,h=>by
   rcases tN (es:=es) (t:=ea t e) h with h|h
   · exact .inl (by simp [h])
   · rcases Ag h with h|h
     · exact .inl (by simp [h])
     · exact .inr h
theorem Ah (t es:List Ent) (e:Ent):cF t (es++[e])=ea (cF t es) e:=by simp [cF]
theorem ya {s a b o:Bs} (h:aX s a b=some o):o.length≤12:=by
 unfold aX at h;split at h
 · rename_i hc;simp only [zAE] at hc;split at h
   · cases h; exact (aQ hc.1.1).2
   · split at h
     · rename_i ho; cases h; exact (aQ ho).2
     · cases h
 · cases h
theorem EU (a b:Bs) (e:Ent):(gt a b e).path.length≤12:=by
 unfold gt;cases h:aX e.path a b with
 | none=>simp
 | some o=>simpa using ya h
theorem GJ (t:List Ent) (p:Bs):(nB t p).length≤t.length:=by
 unfold nB;rw [zAA];exact zAa _ _
theorem qL {s d:Bs} (h:bc s d=true) (hd:d≠[47]):d.length < s.length∧s.take d.length=d:=by
 simp only [bc,hd,decide_false,zAt,zAE,decide_eq_true_eq] at h;exact h.1
theorem bw {s:Bs} (h:ah s=true):s≠[47]:=by
 rintro rfl
 revert h
 decide
theorem lc {α:Type} {l:List α} {i:Nat} {x:α} {p:α→Bool} (h:l[i]?=some x):(l.take (i+1)).filter p=(l.take i).filter p++if p x then [x] else []:=by
 rw [dv h,zAj];congr 1
 simp only [List.filter_cons,List.filter_nil]
def gG (n:Nat) (t:List Ent):Prop:=∀ e∈t,e.path.length≤n∧e.data.length≤n
theorem gG.put {n:Nat} {t:List Ent} {e:Ent} (h:gG n t) (h1:e.path.length≤n) (h2:e.data.length≤n):gG n (ea t e):=fun x hx=>by
 rcases Ag hx with rfl|hx
 · exact ⟨h1,h2⟩
 · exact h x hx
theorem tO (t:List Ent) (o:Opn):(aJ t o).1.length≤17:=by
 unfold aJ;split
 · simp
 · rename_i hk;have hl:t.length≤16:=aN (by simpa using hk);split
   · simp; omega
   · split
     · simp; omega
     · simp only [doT];split
       · have:=(fR t ⟨o.path,true,[]⟩).2; omega
       · split
         · have:=(fR t ⟨o.path,false,o.data⟩).2; omega
         · split
           · have:=putAll_len (t.map (gt o.path o.tgt)) []
             simp only [zAA,List.length_nil] at this;unfold ml; omega
           · have:=zAa (fun e:Ent=>decide (e.path≠o.path)) t
             unfold js; omega
theorem tP {n:Nat} {t:List Ent} {o:Opn} (hn:12≤n) (hb:gG n t) (h1:o.path.length≤n) (h2:o.data.length≤n):gG n (aJ t o).1:=by
 unfold aJ;split
 · intro e he; simp at he
 · split
   · exact hb
   · split
     · exact hb
     · simp only [doT];split
       · exact hb.put h1 (by simp)
       · split
         · exact hb.put h1 h2
         · split
           · intro e he;rcases tN he with he|he
             · obtain ⟨x,hx,rfl⟩:=List.mem_map.1 he
               have:=EU o.path o.tgt x
               exact ⟨by omega,(hb x hx).2⟩
             · simp at he
           · intro e he;exact hb e (List.mem_filter.1 he).1
end Go.Par
namespace Go.Par
open Go.Ab
def dk:List Mrk→Mrk→List Mrk
 | [],e=>[e]
 | x :: r,e=>if lt x.path e.path then x :: dk r e else if x.path=e.path then e :: r else e :: x :: r
def jg:Nat→List Mrk→Bs→List Mrk
 | 0,l,_=>l
 | n+1,l,p=>if al p=[47] then l else jg n (if cZ l (al p)=0 then dk l ⟨al p,2,[]⟩ else l) (al p)
theorem iW (t:List Mrk) (e:Mrk):t.length≤(dk t e).length∧(dk t e).length≤t.length+1:=by
 induction t with
 | nil=>simp [dk]
 | cons x r ih=>
   unfold dk;split
   · simp; omega
   · split <;> simp
theorem tQ {t:List Mrk} {e x:Mrk} (h:x∈dk t e):x=e∨x∈t:=by
 induction t with
 | nil=>simp [dk] at h; exact .inl h
 | cons y r ih=>
   unfold dk at h;split at h
   · rcases List.mem_cons.1 h with h|h
     · exact .inr (by simp [h])
     · rcases ih h with h|h
       · exact .inl h
       · exact .inr (by simp [h])
   · split at h
     · rcases List.mem_cons.1 h with h|h
       · exact .inl h
       · exact .inr (by simp [h])
     · rcases List.mem_cons.1 h with h|h
       · exact .inl h
       · exact .inr h
def nC (n:Nat) (t:List Mrk):Prop:=∀ e∈t,e.path.length≤n∧e.data.length≤n
theorem nC.put {n:Nat} {t:List Mrk} {e:Mrk} (h:nC n t) (h1:e.path.length≤n) (h2:e.data.length≤n):nC n (dk t e):=fun x hx=>by
 rcases tQ hx with rfl|hx
 · exact ⟨h1,h2⟩
 · exact h x hx
theorem pN:∀ (n:Nat) (l:List Mrk) (p:Bs),(jg n l p).length≤l.length+n
 | 0,l,_=>zAL _
 | n+1,l,p=>by
   unfold jg;split
   · omega
   · split
     · have h1:=pN n (dk l ⟨al p,2,[]⟩) (al p);have h2:=(iW l ⟨al p,2,[]⟩).2;omega
     · have h1:=pN n l (al p);omega
theorem Ai {k:Nat} (hk:12≤k):∀ (n:Nat) (l:List Mrk) (p:Bs),nC k l→nC k (jg n l p)
 | 0,l,_,h=>h
 | n+1,l,p,h=>by
   unfold jg;split
   · exact h
   · refine Ai hk n _ _ ?_;split
     · exact h.put (zAq (oB p) hk) (by simp)
     · exact h
theorem fo {p:Bs} (h:ah p=true) (hr:al p≠[47]):(al p).length < p.length:=by
 obtain ⟨w,a,h1,hw,ha,hl,rfl⟩:=lR h;rw [jr hw ha hl] at hr ⊢;by_cases hn:w=[]
 · rw [if_pos hn] at hr; exact absurd rfl hr
 · rw [if_neg hn]; simp
end Go.Par
namespace Go.Par
open Go.Ab
end Go.Par
