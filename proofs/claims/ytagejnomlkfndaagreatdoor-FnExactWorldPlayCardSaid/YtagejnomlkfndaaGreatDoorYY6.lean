/- Texts of this claim, set close: lemmas and contracts. -/
import Derived.Test.YtagejnomlkfndaaGreatDoorYY2
import Derived.Lib.SplitLaws
import Derived.Test.YtagejnomlkfndaaGreatDoorYY3
import Derived.Lib.Bytealg
set_option linter.unusedSimpArgs false
set_option linter.unusedVariables false
namespace Go.Par
open Go.Ab
abbrev Bs:=List UInt8
structure Ent where
 path:Bs
 dir:Bool
 data:Bs
 deriving DecidableEq
structure Mrk where
 path:Bs
 kind:Int
 data:Bs
 deriving DecidableEq
def Ent.c (e:Ent):List D:=[.s e.path,.b e.dir,.s e.data]
def Mrk.c (m:Mrk):List D:=[.s m.path,.k .i64 m.kind,.s m.data]
def less (n:Int) (k:Nat):Int:=if n - k < 0 then -1 else n - k
def gF (n:Int) (p d:Nat):Int:=if n - p < 0 then -1 else if n - p - d < 0 then -1 else n - p - d
theorem ry (n:Int) (p d:Nat):gF n p d < 0∨(gF n p d+p+d=n∧0≤gF n p d):=by
 unfold gF;split
 · left; omega
 · split
   · left; omega
   · right; omega
end Go.Par
namespace Go.Par
open Go.Ab
def cut (c:UInt8):Bs→List Bs
 | []=>[[]]
 | x :: r=>if x=c then [] :: cut c r else match cut c r with
   | []=>[[x]]
   | a :: q=>(x :: a) :: q
def join (c:UInt8):List Bs→Bs
 | []=>[]
 | [a]=>a
 | a :: b :: q=>a++c :: join c (b :: q)
theorem vn (c:UInt8):∀ l:Bs,cut c l≠[]
 | []=>by simp [cut]
 | x :: r=>by
   unfold cut;split
   · simp
   · split <;> simp
theorem rz (c:UInt8) (x:UInt8) (r:Bs) (h:x≠c):∃ a q,cut c r=a :: q∧cut c (x :: r)=(x :: a) :: q:=by
 match hc:cut c r with
 | []=>exact absurd hc (vn c r)
 | a :: q=>exact ⟨a,q,rfl,by rw [cut,if_neg h,hc]⟩
theorem nH (c:UInt8):∀ l:Bs,join c (cut c l)=l
 | []=>rfl
 | x :: r=>by
   by_cases h:x=c
   · subst h;rw [cut,if_pos rfl]
     match hc:cut x r with
     | []=>exact absurd hc (vn x r)
     | a :: q=>
       have:=nH x r
       rw [hc] at this;simp [join,this]
   · obtain ⟨a,q,h1,h2⟩:=rz c x r h
     have:=nH c r
     rw [h1] at this;rw [h2]
     match q,this with
     | [],this=>simpa [join] using this
     | b :: q,this=>simpa [join] using this
theorem vo (c:UInt8):∀ (a r:Bs),c ∉ a→cut c (a++c :: r)=a :: cut c r
 | [],r,_=>by simp [cut]
 | x :: a,r,h=>by
   have hx:x≠c:=by rintro rfl; simp at h
   have ih:=vo c a r (by simp at h; exact h.2);simp only [zAk];rw [cut,if_neg hx,ih]
theorem rA (c:UInt8):∀ (a:Bs),c ∉ a→cut c a=[a]
 | [],_=>rfl
 | x :: a,h=>by
   have hx:x≠c:=by rintro rfl; simp at h
   rw [cut,if_neg hx,rA c a (by simp at h; exact h.2)]
theorem xo (c:UInt8):∀ (w:List Bs),w≠[]→(∀ a∈w,c ∉ a)→cut c (join c w)=w
 | [],h,_=>absurd rfl h
 | [a],_,h=>rA c a (h a (by simp))
 | a :: b :: q,_,h=>by
   rw [join,vo c a _ (h a (by simp)),xo c (b :: q) (by simp) (fun x hx=>h x (by simp [hx]))]
theorem BX {l:Bs} {c:UInt8} {i:Nat} (h:Lib.index l [c]=(i:Int)) (b:UInt8) (hb:b≠c):Lib.index (b :: l) [c]=((i+1:Nat):Int):=by
 rw [Lib.index]
 have:([c]:Bs).isPrefixOf (b :: l)=false:=by simp [List.isPrefixOf,Ne.symm hb]
 rw [this,h]
 simp
theorem xp (c:UInt8):∀ s:Bs,Lib.splitK [c] 0 (Lib.count s [c]) s=cut c s
 | []=>by
   have:Lib.count [] [c]=0:=Lib.count_miss (by simp [Lib.index])
   rw [this]; rfl
 | b :: l=>by
   have ih:=xp c l;by_cases hb:b=c
   · subst hb;have hi:Lib.index (b :: l) [b]=((0:Nat):Int):=by simp [Lib.index,List.isPrefixOf]
     rw [Lib.count_cons_eq,Nat.add_comm,Lib.splitK,hi,cut,if_pos rfl];simp [ih]
   · rw [Lib.count_cons_ne b c l hb];obtain ⟨a,q,h1,h2⟩:=rz c b l hb;rw [h2];rcases Lib.index_spec l [c] with ⟨hm,_⟩|⟨i,hi,_⟩
     · rw [Lib.count_miss hm] at ih ⊢;rw [h1] at ih;simp only [Lib.splitK] at ih ⊢;simp at ih;rw [← ih.1,← ih.2]
     · rw [Lib.count_hit (by simp) hi,Nat.add_comm] at ih ⊢;rw [h1] at ih;simp only [Lib.splitK] at ih ⊢;rw [BX hi b hb];rw [hi] at ih;have n1:¬ (((i:Nat):Int) == -1)=true:=by intro e; have:=beq_iff_eq.1 e; omega
       have n2:¬ (((i+1:Nat):Int) == -1)=true:=by intro e; have:=beq_iff_eq.1 e; omega
       rw [if_neg n1] at ih;rw [if_neg n2];simp only [zBK,Nat.add_zero,List.length_cons,List.length_nil] at ih ⊢;rw [List.cons.injEq] at ih;obtain ⟨e1,e2⟩:=ih;rw [← e1,← e2]
       simp
def dR (b:UInt8):Bool:=decide (97≤b.toNat) && decide (b.toNat≤122)
def jB (b:UInt8):Bool:=decide (48≤b.toNat) && decide (b.toNat≤57)
def aU (s:Bs):Bool:=decide (1≤s.length) && decide (s.length≤3) && s.all dR
def cL (s:Bs):Bool:=decide (s.length≤6) && s.all fun b=>dR b || jB b
def bG:Bs→List Bs
 | []=>[]
 | x :: r=>if x=47∧r≠[] then cut 47 r else []
def ae (s:Bs):Bool:=decide (s.length≤12) && (bG s).all aU && decide (1≤(bG s).length) && decide ((bG s).length≤3)
def fP (s:Bs):Nat→Nat
 | 0=>0
 | k+1=>if s[k+1]?=some 47 then k+1 else fP s k
def gW (s:Bs):Nat:=fP s (s.length - 1)
def ag (s:Bs):Bs:=if ae s then (if gW s=0 then [47] else s.take (gW s)) else []
def pathName (s:Bs):Bs:=if ae s then s.drop (gW s+1) else []
structure fQ (s:Bs) (c:UInt8) (i fr:Nat) (done:List Bs):Prop where
 len:done.length≤fr
 le:fr≤i
 fin:i≤s.length→cut c s=done++cut c (s.drop fr)
 free:∀ k,fr≤k→k < i→s[k]?≠some c
 all:s.length < i→cut c s=done
 up:i≤s.length+1
theorem vp (s:Bs) (c:UInt8):fQ s c 0 0 []:=⟨by simp,zAJ _,fun _=>by simp,fun k _ h=>absurd h (Nat.not_lt_zero _),fun h=>absurd h (Nat.not_lt_zero _),zAG _⟩
theorem rB {s:Bs} {c:UInt8} {i fr:Nat} (h:∀ k,fr≤k→k < i→s[k]?≠some c):c ∉ (s.take i).drop fr:=by
 intro hm;obtain ⟨k,hk⟩:=List.mem_iff_getElem?.1 hm;rw [zAj,zAo] at hk;split at hk
 · exact h (fr+k) (by omega) (by omega) hk
 · cases hk
theorem fQ.hit {s:Bs} {c:UInt8} {i fr:Nat} {done:List Bs} (h:fQ s c i fr done) (hi:i < s.length) (hc:s[i]?=some c):fQ s c (i+1) (i+1) (done++[(s.take i).drop fr]):=by
 have:=h.len
 have:=h.le
 refine ⟨by simp; omega,zAJ _,fun _=>?_,fun k h1 h2=>by omega,fun h'=>by omega,by omega⟩;rw [h.fin (by omega),zAg];congr 1
 have e:s.drop fr=(s.take i).drop fr++c :: s.drop (i+1):=by
  have h1:s.drop fr=(s.take i++s.drop i).drop fr:=by rw [zAx]
  rw [h1,List.drop_append];have h2:fr - (s.take i).length=0:=by simp; omega
  rw [h2,List.drop_zero];congr 1
  obtain ⟨hlt,he⟩:=List.getElem?_eq_some_iff.1 hc;rw [List.drop_eq_getElem_cons hlt,he]
 rw [e,vo c _ _ (rB h.free)];rfl
theorem fQ.miss {s:Bs} {c:UInt8} {i fr:Nat} {done:List Bs} (h:fQ s c i fr done) (hi:i < s.length) (hc:s[i]?≠some c):fQ s c (i+1) fr done:=by
 refine ⟨h.len,Nat.le_succ_of_le h.le,fun _=>h.fin (by omega),fun k h1 h2=>?_,fun h'=>by omega,by omega⟩;by_cases hk:k=i
 · subst hk; exact hc
 · exact h.free k h1 (by omega)
theorem fQ.last {s:Bs} {c:UInt8} {fr:Nat} {done:List Bs} (h:fQ s c s.length fr done):fQ s c (s.length+1) (s.length+1) (done++[(s.take s.length).drop fr]):=by
 have:=h.len
 have:=h.le
 refine ⟨by simp; omega,zAJ _,fun h'=>by omega,fun k h1 h2=>by omega,fun _=>?_,zAJ _⟩;rw [h.fin (zAJ _)]
 have:=rB h.free
 rw [zAP] at this ⊢;rw [rA c _ this]
theorem vq (c:UInt8):∀ l:Bs,(cut c l).length≤l.length+1
 | []=>zAJ _
 | x :: r=>by
   have:=vq c r
   by_cases h:x=c
   · rw [cut,if_pos h]; simp; omega
   · obtain ⟨a,q,h1,h2⟩:=rz c x r h;rw [h1] at this;rw [h2];simp at this ⊢;omega
theorem BZ (s:Bs):(bG s).length≤s.length+1:=by
 match s with
 | []=>simp [bG]
 | x :: r=>
   have:=vq 47 r
   have hn:bG (x :: r)=if x=47∧r≠[] then cut 47 r else []:=rfl
   rw [hn];split
   · simp; omega
   · simp
theorem xq (c:UInt8):∀ (w:List Bs),∀ a∈w,a.length≤(join c w).length
 | [],a,h=>by simp at h
 | [b],a,h=>by simp at h; simp [join,h]
 | b :: d :: q,a,h=>by
   rcases List.mem_cons.1 h with rfl|h
   · simp [join]
   · have:=xq c (d :: q) a h
     simp [join];omega
theorem t7 (c:UInt8) (l:Bs):∀ a∈cut c l,a.length≤l.length:=by
 intro a h
 have:=xq c (cut c l) a h
 rwa [nH] at this
theorem pw (s:Bs):∀ a∈bG s,a.length≤s.length:=by
 match s with
 | []=>simp [bG]
 | x :: r=>
   intro a h;have hn:bG (x :: r)=if x=47∧r≠[] then cut 47 r else []:=rfl
   rw [hn] at h;split at h
   · have:=t7 47 r a h
     simp; omega
   · simp at h
end Go.Par
namespace Go.Par
open Go.Ab
abbrev lt (a b:Bs):Bool:=Op.bytesLess a b
theorem fu:∀ a:Bs,lt a a=false
 | []=>rfl
 | x :: a=>by
   have:=fu a
   simp only [lt,Op.bytesLess] at this ⊢;simp [this]
theorem lt_trans:∀ a b c:Bs,lt a b=true→lt b c=true→lt a c=true
 | [],_,[],_,h=>by simp [lt,Op.bytesLess] at h
 | [],_,_ :: _,_,_=>rfl
 | _ :: _,[],_,h,_=>by simp [lt,Op.bytesLess] at h
 | _ :: _,_ :: _,[],_,h=>by simp [lt,Op.bytesLess] at h
 | x :: a,y :: b,z :: c,h1,h2=>by
   have ih:=lt_trans a b c;simp only [lt,Op.bytesLess,zAh,zAE,decide_eq_true_eq,beq_iff_eq] at h1 h2 ih ⊢;rcases h1 with h1|⟨rfl,h1⟩
   · rcases h2 with h2|⟨rfl,h2⟩
     · left; exact UInt8.lt_trans h1 h2
     · left; exact h1
   · rcases h2 with h2|⟨rfl,h2⟩
     · left; exact h2
     · right; exact ⟨rfl,ih h1 h2⟩
theorem kQ (a b:Bs) (h:lt a b=true):lt b a=false:=by
 cases h':lt b a with
 | false=>rfl
 | true=>have:=lt_trans a b a h h'; rw [fu] at this; cases this
theorem l6 {a b:Bs} (h:lt a b=true):a≠b:=by
 rintro rfl;rw [fu] at h;cases h
theorem eZ:∀ a b:Bs,lt a b=true∨a=b∨lt b a=true
 | [],[]=>.inr (.inl rfl)
 | [],_ :: _=>.inl rfl
 | _ :: _,[]=>.inr (.inr rfl)
 | x :: a,y :: b=>by
   have ih:=eZ a b;simp only [lt,Op.bytesLess,zAh,zAE,decide_eq_true_eq,beq_iff_eq] at ih ⊢;rcases Nat.lt_trichotomy x.toNat y.toNat with h|h|h
   · left; left; exact UInt8.lt_iff_toNat_lt.2 h
   · have:x=y:=UInt8.toNat_inj.1 h
     subst this;rcases ih with ih|rfl|ih
     · left; right; exact ⟨rfl,ih⟩
     · right; left; rfl
     · right; right; right; exact ⟨rfl,ih⟩
   · right; right; left; exact UInt8.lt_iff_toNat_lt.2 h
theorem zj:∀ (a b:Bs),b≠[]→lt a (a++b)=true
 | [],[],h=>absurd rfl h
 | [],_ :: _,_=>rfl
 | x :: a,b,h=>by
   have:=zj a b h
   simp only [lt,zAk,Op.bytesLess] at this ⊢;simp [this]
def aD (w:List Bs):Prop:=w.Pairwise fun a b=>lt a b=true
theorem t8 {w:List Bs} (h:∀ (i:Nat) (a b:Bs),w[i]?=some a→w[i+1]?=some b→lt a b=true):aD w:=by
 induction w with
 | nil=>exact .nil
 | cons x w ih=>
   have ih:=ih fun i a b h1 h2=>h (i+1) a b (by simpa using h1) (by simpa using h2);refine .cons (fun b hb=>?_) ih
   match w,ih,hb with
   | y :: w,ih,hb=>
     have h0:=h 0 x y rfl rfl;rcases List.mem_cons.1 hb with rfl|hb
     · exact h0
     · exact lt_trans x y b h0 ((List.pairwise_cons.1 ih).1 b hb)
theorem oN {w:List Bs} (h:aD w) {i j:Nat} {a b:Bs} (hi:w[i]?=some a) (hj:w[j]?=some b) (hij:i < j):lt a b=true:=by
 obtain ⟨hi',rfl⟩:=List.getElem?_eq_some_iff.1 hi;obtain ⟨hj',rfl⟩:=List.getElem?_eq_some_iff.1 hj;exact zBB.1 h i j hi' hj' hij
theorem kR {w:List Bs} (h:aD w) {i j:Nat} {a b:Bs} (hi:w[i]?=some a) (hj:w[j]?=some b) (hl:lt a b=true):i < j:=by
 rcases Nat.lt_trichotomy i j with k|k|k
 · exact k
 · subst k; rw [hi] at hj; cases hj; rw [fu] at hl; cases hl
 · have:=oN h hj hi k
   rw [kQ _ _ hl] at this;cases this
theorem mI (s:Bs):∀ k,fP s k≤k
 | 0=>zAJ _
 | k+1=>by
   unfold fP;split
   · exact zAJ _
   · exact Nat.le_succ_of_le (mI s k)
theorem nI (s:Bs) (j:Nat):∀ k,(∀ i,j < i→i≤j+k→s[i]?≠some 47)→fP s (j+k)=fP s j
 | 0,_=>rfl
 | k+1,h=>by
   rw [← Nat.add_assoc,fP,if_neg (h (j+k+1) (by omega) (by omega))];exact nI s j k fun i h1 h2=>h i h1 (by omega)
theorem B0 (a b:Bs) (hb:47 ∉ b) (hne:b≠[]):gW (a++47 :: b)=a.length:=by
 unfold gW;have hl:0 < b.length:=List.length_pos_iff.2 hne;have e:(a++47 :: b).length - 1=a.length+b.length:=by simp
 rw [e,nI]
 · cases h:a.length with
   | zero=>rfl
   | succ n=>
     unfold fP;rw [if_pos];rw [← h,zAU (zAJ _)]
     simp
 · intro i h1 h2 h3;rw [zAU (by omega)] at h3
   have:i - a.length=(i - a.length - 1)+1:=by omega
   rw [this,List.getElem?_cons_succ] at h3;exact hb (zAD h3)
theorem lH {a:Bs} (h:aU a=true):47 ∉ a∧a≠[]:=by
 simp only [aU,zAE,decide_eq_true_eq,zAq] at h;obtain ⟨⟨h1,h2⟩,h3⟩:=h;refine ⟨fun hm=>?_,fun he=>by rw [he] at h1; simp at h1⟩
 have:=h3 47 hm
 simp [dR] at this
def cY:List Bs→Bs
 | []=>[]
 | a :: q=>47 :: (a++cY q)
theorem qw:∀ (a:Bs) (q:List Bs),47 :: join 47 (a :: q)=cY (a :: q)
 | a,[]=>by simp [join,cY]
 | a,b :: q=>by
   have:=qw b q
   rw [join,cY,← this]
theorem kS:∀ (w:List Bs) (a:Bs),cY (w++[a])=cY w++47 :: a
 | [],a=>by simp [cY]
 | b :: w,a=>by
   have:=kS w a
   simp [cY,this]
theorem mJ {s:Bs} (h:ae s=true):s=cY (bG s)∧(bG s).all aU=true∧1≤(bG s).length∧(bG s).length≤3∧s.length≤12:=by
 simp only [ae,zAE,decide_eq_true_eq] at h;obtain ⟨⟨⟨h1,h2⟩,h3⟩,h4⟩:=h;refine ⟨?_,h2,h3,h4,h1⟩
 match s,h3 with
 | x :: r,h3=>
   have hn:bG (x :: r)=if x=47∧r≠[] then cut 47 r else []:=rfl
   rw [hn] at h3 ⊢;split at h3
   · rename_i hx;rw [if_pos hx,hx.1]
     have:=nH 47 r
     match hc:cut 47 r with
     | []=>exact absurd hc (vn 47 r)
     | a :: q=>rw [hc] at this; rw [← qw,this]
   · simp at h3
theorem DH {w:List Bs} (hw:w.all aU=true) (hne:w≠[]):bG (cY w)=w:=by
 match w,hne with
 | a :: q,_=>
   rw [← qw,bG];have hf:∀ x∈a :: q,47 ∉ x:=fun x hx=>(lH (zAq.1 hw x hx)).1;have hj:join 47 (a :: q)≠[]:=by
    have ha:=(lH (zAq.1 hw a (by simp))).2
    match q with
    | []=>simpa [join] using ha
    | b :: q=>simp [join]
   rw [if_pos ⟨rfl,hj⟩,xo 47 _ (by simp) hf]
theorem px:∀ {w:List Bs},w.all aU=true→(cY w).length≤4 * w.length
 | [],_=>by simp [cY]
 | a :: w,h=>by
   simp only [List.all_cons,zAE] at h
   have:=px h.2
   have h1:=h.1;simp only [aU,zAE,decide_eq_true_eq] at h1;simp only [cY,List.length_cons,zAV];omega
theorem oO {w:List Bs} (hw:w.all aU=true) (h1:1≤w.length) (h3:w.length≤3):ae (cY w)=true:=by
 have hn:=DH hw (by rintro rfl; simp at h1)
 have:=px hw
 simp only [ae,hn,hw,zAE,decide_eq_true_eq];refine ⟨⟨⟨?_,trivial⟩,h1⟩,h3⟩;omega
theorem j5 {s:Bs} (h:ae s=true):∃ w a,bG s=w++[a]∧w.all aU=true∧aU a=true∧w.length≤2∧s=cY w++47 :: a:=by
 obtain ⟨h1,h2,h3,h4,_⟩:=mJ h;have hne:bG s≠[]:=by intro e; rw [e] at h3; simp at h3
 refine ⟨(bG s).dropLast,(bG s).getLast hne,(List.dropLast_concat_getLast hne).symm,?_,?_,?_,?_⟩
 · exact zAq.2 fun x hx=>zAq.1 h2 x (List.dropLast_subset _ hx)
 · exact zAq.1 h2 _ (List.getLast_mem hne)
 · simp; omega
 · rw [← kS,List.dropLast_concat_getLast hne]; exact h1
theorem g9 {w:List Bs} {a:Bs} (hw:w.all aU=true) (ha:aU a=true) (hl:w.length≤2):ag (cY w++47 :: a)=if w=[] then [47] else cY w:=by
 have hok:ae (cY w++47 :: a)=true:=by
  rw [← kS];exact oO (by simp [hw,ha]) (by simp) (by simp; omega)
 obtain ⟨f1,f2⟩:=lH ha;rw [ag,if_pos hok,B0 _ _ f1 f2]
 match w with
 | []=>simp [cY]
 | b :: q=>
   rw [if_neg (by simp [cY]),if_neg (by simp)]
   simp
theorem gG {s:Bs} (h:ae s=true):ag s=[47]∨(ae (ag s)=true∧lt (ag s) s=true):=by
 obtain ⟨w,a,h1,hw,ha,hl,rfl⟩:=j5 h;rw [g9 hw ha hl];by_cases hn:w=[]
 · rw [if_pos hn]; exact .inl rfl
 · rw [if_neg hn];refine .inr ⟨oO hw ?_ (by omega),zj _ _ (by simp)⟩;exact List.length_pos_iff.2 hn
theorem py {s:Bs} (h:ae s=true):ag s=47 :: join 47 ((bG s).dropLast):=by
 obtain ⟨w,a,h1,hw,ha,hl,rfl⟩:=j5 h;rw [g9 hw ha hl,h1];simp only [List.dropLast_concat]
 match w with
 | []=>rfl
 | b :: q=>rw [if_neg (by simp),qw]
theorem xr {b:UInt8} (h:((b.toNat:Int) < 97∨(b.toNat:Int) > 122)∧((b.toNat:Int) < 48∨(b.toNat:Int) > 57)):(dR b || jB b)=false:=by
 have h1:dR b=false:=by
  unfold dR;rcases h.1 with h|h
  · have:¬ 97≤b.toNat:=by omega
    simp [this]
  · have:¬ b.toNat≤122:=by omega
    simp [this]
 have h2:jB b=false:=by
  unfold jB;rcases h.2 with h|h
  · have:¬ 48≤b.toNat:=by omega
    simp [this]
  · have:¬ b.toNat≤57:=by omega
    simp [this]
 rw [h1,h2]; rfl
theorem AR {b:UInt8} (h:((97:Int)≤b.toNat∧(b.toNat:Int)≤122)∨((48:Int)≤b.toNat∧(b.toNat:Int)≤57)):(dR b || jB b)=true:=by
 rcases h with h|h
 · have:dR b=true:=by
     unfold dR
     have:97≤b.toNat:=by omega
     have:b.toNat≤122:=by omega
     simp [*]
   rw [this]; rfl
 · have:jB b=true:=by
     unfold jB
     have:48≤b.toNat:=by omega
     have:b.toNat≤57:=by omega
     simp [*]
   rw [this]; simp
theorem xt (s:Bs):gW s≤s.length:=zBU (mI s _) (Nat.sub_le _ _)
theorem aM {s:Bs} (h:ae s=true):1≤s.length∧s.length≤12:=by
 obtain ⟨h1,_,h3,_,h5⟩:=mJ h;refine ⟨?_,h5⟩
 match s,h3 with
 | x :: r,_=>simp
theorem rC (s:Bs):(ag s).length≤12:=by
 unfold ag;split
 · rename_i h
   have:=aM h
   split
   · simp
   · rw [zAd]; omega
 · simp
theorem jC {s:Bs} {w:List Bs} (h:bG s=w):ae s=(decide (s.length≤12) && w.all aU && decide (1≤w.length) && decide (w.length≤3)):=by rw [ae,h]
end Go.Par
namespace Go.Par
open Go.Ab
def ah (t:List Ent) (p:Bs):Option Ent:=t.find? fun e=>decide (e.path=p)
def ec:Option Ent→Bool
 | some e=>e.dir
 | none=>false
def e7 (t:List Ent) (p:Bs):Bool:=decide (p=[47]) || ec (ah t p)
def bc (t:List Ent) (p:Bs):Int:=
 if ag p=[47] then 0 else match ah t (ag p) with
  | none=>2
  | some e=>if e.dir then 0 else 3
def eu (e:Ent):Bool:=ae e.path && cL e.data && !(e.dir && !decide (e.data=[]))
def kT (t:List Ent) (e:Ent):Nat→Bool
 | 0=>true
 | j+1=>match t[j]? with
   | some e'=>lt e'.path e.path
   | none=>true
def okC (t:List Ent) (i:Nat):Bool:=match t[i]? with
 | some e=>eu e && kT t e i
 | none=>true
def okS (t:List Ent) (i:Nat):Bool:=match t[i]? with
 | some e=>eu e && kT t e i && e7 (t.take i) (ag e.path)
 | none=>true
def okI (t:List Ent) (i:Nat):Bool:=match t[i]? with
 | some e=>eu e && kT t e i && decide (bc t e.path=0)
 | none=>true
def ai (t:List Ent):Bool:=decide (t.length≤16) && (List.range t.length).all (okS t)
def lI (t:List Ent):Bool:=decide (t.length≤16) && (List.range t.length).all (okI t)
theorem bU {n:Nat} {p:Nat→Bool}:(List.range n).all p=true↔∀ i,i < n→p i=true:=by
 simp [zAq]
theorem rD {t:List Ent} (h:∀ i,i < t.length→okC t i=true):aD (t.map (·.path)):=by
 refine t8 fun i a b h1 h2=>?_;simp only [zAR,Option.map_eq_some_iff] at h1 h2;obtain ⟨e1,he1,rfl⟩:=h1;obtain ⟨e2,he2,rfl⟩:=h2
 have:=h (i+1) (List.getElem?_eq_some_iff.1 he2).1
 simp only [okC,he2,kT,he1,zAE] at this;exact this.2
theorem ci {t:List Ent} {p:Bs} {e:Ent} (h:ah t p=some e):e∈t∧e.path=p:=by
 have h1:=List.mem_of_find?_eq_some h;have h2:=List.find?_some h;exact ⟨h1,by simpa using h2⟩
theorem zk {t:List Ent} (hs:aD (t.map (·.path))) {i:Nat} {e:Ent} (hi:t[i]?=some e) {p:Bs} (hl:lt p e.path=true):ah (t.take i) p=ah t p:=by
 have h1:ah t p=(ah (t.take i) p).or (ah (t.drop i) p):=by
  unfold ah;rw [← zBS,zAx]
 have h2:ah (t.drop i) p=none:=by
  unfold ah;rw [List.find?_eq_none];intro e' he' hp;simp only [decide_eq_true_eq] at hp;obtain ⟨j,hj⟩:=List.mem_iff_getElem?.1 he';rw [zAj] at hj;have a1:(t.map (·.path))[i]?=some e.path:=by simp [hi]
  have a2:(t.map (·.path))[i+j]?=some e'.path:=by simp [hj]
  rw [hp] at a2
  have:=kR hs a2 a1 hl
  omega
 rw [h1,h2]
 simp
theorem Gx {t:List Ent} {i:Nat} (h:okS t i=true):okC t i=true:=by
 unfold okS at h;unfold okC
 match he:t[i]?,h with
 | some e,h=>
   simp only [zAE] at h ⊢;exact h.1
 | none,_=>rfl
theorem Fx {t:List Ent} {i:Nat} (h:okI t i=true):okC t i=true:=by
 unfold okI at h;unfold okC
 match he:t[i]?,h with
 | some e,h=>
   simp only [zAE] at h ⊢;exact h.1
 | none,_=>rfl
theorem DI {t:List Ent} (hs:aD (t.map (·.path))) (i:Nat):okI t i=okS t i:=by
 unfold okI okS
 match he:t[i]? with
 | none=>rfl
 | some e=>
   simp only;cases hok:eu e with
   | false=>simp
   | true=>
     congr 1
     simp only [eu,zAE] at hok;unfold bc e7;rcases gG hok.1.1 with h|⟨h1,h2⟩
     · simp [h]
     · have hne:ag e.path≠[47]:=by
         intro h;rw [h] at h1
         revert h1
         decide
       rw [zk hs he h2,if_neg hne];simp only [hne,decide_false,zAu]
       match ah t (ag e.path) with
       | none=>simp [ec]
       | some e'=>cases hd:e'.dir <;> simp [ec,hd]
theorem j6 (t:List Ent):lI t=ai t:=by
 unfold lI ai;congr 1
 rw [zAK,bU,bU];constructor
 · intro h i hi;have hs:=rD fun i hi=>Fx (h i hi);rw [← DI hs];exact h i hi
 · intro h i hi;have hs:=rD fun i hi=>Gx (h i hi);rw [DI hs];exact h i hi
def nJ (t:List Ent) (p:Bs):Int:=match t.findIdx? fun e=>decide (e.path=p) with
 | some i=>i
 | none=>-1
theorem nK {t:List Ent} {p:Bs} {i:Nat} {e:Ent} (h:t[i]?=some e) (hp:e.path=p) (hb:∀ k e,k < i→t[k]?=some e→e.path≠p):nJ t p=i:=by
 have:(t.findIdx? fun e=>decide (e.path=p))=some i:=by
  rw [List.findIdx?_eq_some_iff_getElem];obtain ⟨hlt,rfl⟩:=List.getElem?_eq_some_iff.1 h;refine ⟨hlt,by simpa using hp,fun j hj=>?_⟩
  have:=hb j t[j] hj (zAB (by omega))
  simpa using this
 rw [nJ,this]
theorem mK {t:List Ent} {p:Bs} (hb:∀ (k:Nat) e,t[k]?=some e→e.path≠p):nJ t p=-1:=by
 have:(t.findIdx? fun e=>decide (e.path=p))=none:=by
  rw [List.findIdx?_eq_none_iff];intro e he;obtain ⟨k,hk⟩:=List.mem_iff_getElem?.1 he;simpa using hb k e hk
 rw [nJ,this]
theorem nL (t:List Ent) (p:Bs):(∃ (i:Nat),nJ t p=i∧∃ hi:i < t.length,ah t p=some t[i])∨(nJ t p=-1∧ah t p=none):=by
 match h:t.findIdx? fun e=>decide (e.path=p) with
 | some i=>
   left;rw [List.findIdx?_eq_some_iff_getElem] at h;obtain ⟨hlt,h1,h2⟩:=h;refine ⟨i,nK (zAB hlt) (by simpa using h1) (fun k e hk he=>?_),hlt,?_⟩
   · obtain ⟨hk',rfl⟩:=List.getElem?_eq_some_iff.1 he;simpa using h2 k hk
   · unfold ah;rw [List.find?_eq_some_iff_getElem];exact ⟨h1,i,hlt,rfl,fun j hj=>by simpa using h2 j hj⟩
 | none=>
   right;rw [List.findIdx?_eq_none_iff] at h;refine ⟨mK fun k e he=>by simpa using h e (zAD he),?_⟩;unfold ah;rw [List.find?_eq_none];intro e he;simpa using h e he
theorem zl {t:List Ent} {i:Nat} (hi:i < t.length):okS t i=(eu t[i] && (if 0 < i then lt (t[i - 1]'(by omega)).path t[i].path else true) && e7 (t.take i) (ag t[i].path)):=by
 have h:t[i]?=some t[i]:=zAB hi;unfold okS;rw [h];simp only;congr 2
 match i,hi with
 | 0,_=>rfl
 | k+1,hi=>
   have h':t[k]?=some t[k]:=zAB (by omega);simp [kT,h']
theorem zm {t:List Ent} {i:Nat} (hi:i < t.length):okI t i=(eu t[i] && (if 0 < i then lt (t[i - 1]'(by omega)).path t[i].path else true) && decide (bc t t[i].path=0)):=by
 have h:t[i]?=some t[i]:=zAB hi;unfold okI;rw [h];simp only;congr 2
 match i,hi with
 | 0,_=>rfl
 | k+1,hi=>
   have h':t[k]?=some t[k]:=zAB (by omega);simp [kT,h']
theorem nM {t:List Ent} {i:Nat} (hi:i < t.length) (h:okS t i=false):ai t=false:=by
 unfold ai;rw [zAp];right;rw [zBR];exact ⟨i,List.mem_range.2 hi,by simp [h]⟩
theorem l7 {t:List Ent} {i:Nat} (hi:i < t.length) (h:okI t i=false):ai t=false:=by
 rw [← j6];unfold lI;rw [zAp];right;rw [zBR];exact ⟨i,List.mem_range.2 hi,by simp [h]⟩
theorem xu {t:List Ent} (hl:t.length≤16) (h:∀ k,k < t.length→okS t k=true):ai t=true:=by
 unfold ai;rw [zAE,bU];exact ⟨by simpa using hl,h⟩
theorem nN {t:List Ent} (hl:t.length≤16) (h:∀ k,k < t.length→okI t k=true):ai t=true:=by
 rw [← j6];unfold lI;rw [zAE,bU];exact ⟨by simpa using hl,h⟩
theorem aI {t:List Ent} (h:ai t=true):t.length≤16:=by
 unfold ai at h;rw [zAE] at h;simpa using h.1
theorem iH {t:List Ent} (h:ai t=true):∀ e∈t,eu e=true:=by
 intro e he;obtain ⟨i,hi⟩:=List.mem_iff_getElem?.1 he;unfold ai at h;rw [zAE,bU] at h
 have:=h.2 i (List.getElem?_eq_some_iff.1 hi).1
 unfold okS at this;rw [hi] at this;simp only [zAE] at this;exact this.1.1
theorem lJ {e:Ent} (h:eu e=true):e.path.length≤12∧e.data.length≤6:=by
 simp only [eu,zAE] at h;refine ⟨(aM h.1.1).2,?_⟩
 have:=h.1.2
 simp only [cL,zAE,decide_eq_true_eq] at this;exact this.1
theorem gH {α β:Type} {l:List α} {f:α→β} {z:β} {i:Nat} (hi:i < l.length):((l.take i).map f++List.replicate (l.length - i) z)[i]?=some z:=by
 rw [zAU (by simp; omega)]
 have:i - ((l.take i).map f).length=0:=by simp; omega
 rw [this,List.getElem?_replicate]
 simp
 omega
theorem fR {α β:Type} {l:List α} {f:α→β} {z:β} {i:Nat} (hi:i < l.length):((l.take i).map f++List.replicate (l.length - i) z).set i (f l[i])=(l.take (i+1)).map f++List.replicate (l.length - (i+1)) z:=by
 have h1:((l.take i).map f).length=i:=by simp; omega
 rw [List.set_append_right _ _ (by omega),h1,Nat.sub_self];have h2:l.length - i=(l.length - (i+1))+1:=by omega
 rw [h2,List.replicate_succ,List.set_cons_zero,zAX,zAB hi];simp only [Option.toList_some,zAM,List.map_cons,List.map_nil,zAg,zAk,zAw]
def eqE (a b:Ent):Bool:=decide (a.path=b.path) && (a.dir == b.dir) && decide (a.data=b.data)
theorem xv (a:Ent):eqE a a=true:=by simp [eqE]
end Go.Par
namespace Go.Par
open Go.Ab
structure Opn where
 kind:Int
 path:Bs
 «to»:Bs
 data:Bs
 deriving DecidableEq
def Opn.c (o:Opn):List D:=[.k .i64 o.kind,.s o.path,.s o.to,.s o.data]
def op0:Opn:=⟨0,[],[],[]⟩
def f7 (o:Opn):Bool:=
 ae o.path && if o.kind=5 then ae o.to && decide (o.data=[]) else if o.kind=2 then decide (o.to=[]) && cL o.data
  else decide (o.kind=1∨o.kind=3∨o.kind=4) && decide (o.to=[]) && decide (o.data=[])
theorem zn:cL []=true:=rfl
theorem qx (o:Opn):f7 o=(decide (1≤o.kind) && decide (o.kind≤5) && ae o.path && if o.kind=5 then ae o.to && decide (o.data=[]) else decide (o.to=[]) && cL o.data && (decide (o.kind=2) || decide (o.data=[]))):=by
 unfold f7;cases ae o.path
 · simp
 · by_cases h5:o.kind=5
   · simp [h5]
   · by_cases h2:o.kind=2
     · simp [h2]
     · simp only [h5,h2,if_false,decide_false,zAu,zAv,zBI];by_cases hd:o.data=[]
       · rw [hd,zn]
         have:decide (o.kind=1∨o.kind=3∨o.kind=4)=(decide (1≤o.kind) && decide (o.kind≤5)):=by
          rw [zAK]; simp; omega
         rw [this];simp [Bool.and_assoc]
       · simp [hd]
theorem B1 {o:Opn} (h:f7 o=true):1≤o.kind∧o.kind≤5:=by
 simp only [f7,zAE] at h;obtain ⟨_,h⟩:=h;split at h
 · omega
 · split at h
   · omega
   · simp only [zAE,decide_eq_true_eq] at h;omega
def jD (n:Int) (p t d:Nat):Int:=if n - p < 0 then -1 else if n - p - t < 0 then -1 else if n - p - t - d < 0 then -1 else n - p - t - d
theorem xw (n:Int) (p t d:Nat):jD n p t d < 0∨(jD n p t d+p+t+d=n∧0≤jD n p t d):=by
 unfold jD;repeat' split
 all_goals first
  | (left; omega)
  | (right; omega)
def eqO (a b:Opn):Bool:=decide (a.kind=b.kind) && decide (a.path=b.path) && decide (a.to=b.to) && decide (a.data=b.data)
theorem rE (a:Opn):eqO a a=true:=by simp [eqO]
end Go.Par
namespace Go.Par
open Go.Ab
theorem c47 (b:UInt8):((b.toNat:Int)=47)↔b=47:=by
 constructor
 · intro h;exact UInt8.toNat_inj.1 (Int.ofNat_inj.1 h)
 · intro h;rw [h]; rfl
def under (s d:Bs):Bool:=decide (d=[47]) || (decide (d.length < s.length) && decide (s.take d.length=d) && decide (s[d.length]?=some 47))
def bB (s d:Bs):Bool:=ae s && (decide (d=[47]) || ae d) && under s d
theorem zo {s d:Bs} (h:under s d=true) (hd:d≠[47]):lt d s=true:=by
 simp only [under,hd,decide_false,zAu,zAE,decide_eq_true_eq] at h;have e:s=d++s.drop d.length:=by
  have h1:=h.1.2
  conv=>lhs; rw [← zAx d.length s,h1]
 rw [e];exact zj _ _ (by intro h0; have:=congrArg List.length h0; simp at this; omega)
theorem jE:ae [47]=false:=by decide
theorem mL:ae []=false:=by decide
def aA (l:List Mrk) (p:Bs):Option Mrk:=l.find? fun m=>decide (m.path=p)
def dS (m:Mrk):Bool:=decide (m.kind=2) || decide (m.kind=4)
def j7:Option Mrk→Bool
 | some m=>dS m
 | none=>false
def bare (l:List Mrk) (p:Bs):Bool:=l.any fun m=>decide (m.kind=4) && under p m.path
def jF (l:List Mrk) (p:Bs):Bool:=l.any fun m=>decide (m.kind=4) && bB p m.path
def cn (m:Mrk):Bool:=decide (1≤m.kind) && decide (m.kind≤4) && ae m.path && (if m.kind=1 then cL m.data else decide (m.data=[]))
def i6 (l:List Mrk) (e:Mrk):Nat→Bool
 | 0=>true
 | j+1=>match l[j]? with
   | some e'=>lt e'.path e.path
   | none=>true
def inM (l:List Mrk) (p:Bs):Bool:=decide (ag p=[47]) || j7 (aA l (ag p))
def vt (l:List Mrk) (i:Nat):Bool:=match l[i]? with
 | some m=>cn m && i6 l m i
 | none=>true
def qa (l:List Mrk) (i:Nat):Bool:=match l[i]? with
 | some m=>cn m && i6 l m i && inM (l.take i) m.path && !(decide (2 < m.kind) && bare (l.take i) m.path)
 | none=>true
def mM (l:List Mrk) (i:Nat):Bool:=match l[i]? with
 | some m=>cn m && i6 l m i && inM l m.path && !(decide (2 < m.kind) && jF l m.path)
 | none=>true
def aX (l:List Mrk):Bool:=decide (l.length≤32) && (List.range l.length).all (qa l)
def kU (l:List Mrk):Bool:=decide (l.length≤32) && (List.range l.length).all (mM l)
theorem xx {l:List Mrk} (h:∀ i,i < l.length→vt l i=true):aD (l.map (·.path)):=by
 refine t8 fun i a b h1 h2=>?_;simp only [zAR,Option.map_eq_some_iff] at h1 h2;obtain ⟨e1,he1,rfl⟩:=h1;obtain ⟨e2,he2,rfl⟩:=h2
 have:=h (i+1) (List.getElem?_eq_some_iff.1 he2).1
 simp only [vt,he2,i6,he1,zAE] at this;exact this.2
theorem eG {m:Mrk} (h:cn m=true):ae m.path=true:=by
 simp only [cn,zAE] at h;exact h.1.2
theorem zp {m:Mrk} (h:cL m.data=false):cn m=false:=by
 unfold cn;rw [zAp];right;split
 · exact h
 · simp only [decide_eq_false_iff_not];intro h0;rw [h0] at h;cases h
theorem fv {t:List Mrk} {p:Bs} {e:Mrk} (h:aA t p=some e):e∈t∧e.path=p:=by
 have h1:=List.mem_of_find?_eq_some h;have h2:=List.find?_some h;exact ⟨h1,by simpa using h2⟩
theorem xy {t:List Mrk} (hs:aD (t.map (·.path))) {i:Nat} {e:Mrk} (hi:t[i]?=some e) {p:Bs} (hl:lt p e.path=true):aA (t.take i) p=aA t p:=by
 have h1:aA t p=(aA (t.take i) p).or (aA (t.drop i) p):=by
  unfold aA;rw [← zBS,zAx]
 have h2:aA (t.drop i) p=none:=by
  unfold aA;rw [List.find?_eq_none];intro e' he' hp;simp only [decide_eq_true_eq] at hp;obtain ⟨j,hj⟩:=List.mem_iff_getElem?.1 he';rw [zAj] at hj;have a1:(t.map (·.path))[i]?=some e.path:=by simp [hi]
  have a2:(t.map (·.path))[i+j]?=some e'.path:=by simp [hj]
  rw [hp] at a2
  have:=kR hs a2 a1 hl
  omega
 rw [h1,h2]
 simp
theorem B2 {t:List Mrk} (hs:aD (t.map (·.path))) (hok:∀ m∈t,ae m.path=true) {i:Nat} {e:Mrk} (hi:t[i]?=some e):jF t e.path=bare (t.take i) e.path:=by
 rw [zAK];simp only [jF,bare,zAr,zAE,decide_eq_true_eq];constructor
 · rintro ⟨m,hm,hk,hu⟩;simp only [bB,zAE] at hu;have hne:m.path≠[47]:=by
    intro h
    have:=hok m hm
    rw [h,jE] at this;cases this
   obtain ⟨j,hj⟩:=List.mem_iff_getElem?.1 hm;have a1:(t.map (·.path))[i]?=some e.path:=by simp [hi]
   have a2:(t.map (·.path))[j]?=some m.path:=by simp [hj]
   have hlt:=kR hs a2 a1 (zo hu.2 hne);refine ⟨m,?_,hk,hu.2⟩;rw [List.mem_iff_getElem?];exact ⟨j,by rw [zAo,if_pos hlt,hj]⟩
 · rintro ⟨m,hm,hk,hu⟩;have hm':=zBC hm;exact ⟨m,hm',hk,by simp [bB,hok e (zAD hi),hok m hm',hu]⟩
theorem zq {t:List Mrk} {i:Nat} (h:qa t i=true):vt t i=true:=by
 unfold qa at h;unfold vt
 match he:t[i]?,h with
 | some e,h=>
   simp only [zAE] at h ⊢;exact h.1.1
 | none,_=>rfl
theorem F6 {t:List Mrk} {i:Nat} (h:mM t i=true):vt t i=true:=by
 unfold mM at h;unfold vt
 match he:t[i]?,h with
 | some e,h=>
   simp only [zAE] at h ⊢;exact h.1.1
 | none,_=>rfl
theorem xz {t:List Mrk} (h:∀ i,i < t.length→vt t i=true):∀ m∈t,cn m=true:=by
 intro m hm;obtain ⟨i,hi⟩:=List.mem_iff_getElem?.1 hm
 have:=h i (List.getElem?_eq_some_iff.1 hi).1
 simp only [vt,hi,zAE] at this;exact this.1
theorem AU {t:List Mrk} (hc:∀ i,i < t.length→vt t i=true) (i:Nat):mM t i=qa t i:=by
 have hs:=xx hc;have hok:=xz hc;unfold mM qa
 match he:t[i]? with
 | none=>rfl
 | some e=>
   simp only;have hp:=eG (hok e (zAD he));rw [B2 hs (fun m hm=>eG (hok m hm)) he];congr 2
   unfold inM;rcases gG hp with h|⟨h1,h2⟩
   · simp [h]
   · rw [xy hs he h2]
theorem kV (t:List Mrk):kU t=aX t:=by
 unfold kU aX;congr 1
 rw [zAK,bU,bU];constructor
 · intro h i hi;rw [← AU fun i hi=>F6 (h i hi)];exact h i hi
 · intro h i hi;rw [AU fun i hi=>zq (h i hi)];exact h i hi
theorem AV {t:List Mrk} {i:Nat} (hi:i < t.length):qa t i=(cn t[i] && (if 0 < i then lt (t[i - 1]'(by omega)).path t[i].path else true) && inM (t.take i) t[i].path && !(decide (2 < t[i].kind) && bare (t.take i) t[i].path)):=by
 have h:t[i]?=some t[i]:=zAB hi;unfold qa;rw [h];simp only;congr 3
 match i,hi with
 | 0,_=>rfl
 | k+1,hi=>
   have h':t[k]?=some t[k]:=zAB (by omega);simp [i6,h']
theorem EV {t:List Mrk} {i:Nat} (hi:i < t.length):mM t i=(cn t[i] && (if 0 < i then lt (t[i - 1]'(by omega)).path t[i].path else true) && inM t t[i].path && !(decide (2 < t[i].kind) && jF t t[i].path)):=by
 have h:t[i]?=some t[i]:=zAB hi;unfold mM;rw [h];simp only;congr 3
 match i,hi with
 | 0,_=>rfl
 | k+1,hi=>
   have h':t[k]?=some t[k]:=zAB (by omega);simp [i6,h']
theorem xA {t:List Mrk} {i:Nat} (hi:i < t.length):mM t i=(cn t[i] && (if 0 < i then lt (t[i - 1]'(by omega)).path t[i].path else true) && inM t t[i].path && !((decide (t[i].kind=3) || decide (t[i].kind=4)) && jF t t[i].path)):=by
 rw [EV hi];cases hm:cn t[i] with
 | false=>simp
 | true=>
   have:decide (2 < t[i].kind)=(decide (t[i].kind=3) || decide (t[i].kind=4)):=by
    simp only [cn,zAE,decide_eq_true_eq] at hm;rw [zAK]
    simp
    omega
   rw [this]
theorem sR {t:List Mrk} {i:Nat} (hi:i < t.length) (h:qa t i=false):aX t=false:=by
 unfold aX;rw [zAp];right;rw [zBR];exact ⟨i,List.mem_range.2 hi,by simp [h]⟩
theorem rF {t:List Mrk} {i:Nat} (hi:i < t.length) (h:mM t i=false):aX t=false:=by
 rw [← kV];unfold kU;rw [zAp];right;rw [zBR];exact ⟨i,List.mem_range.2 hi,by simp [h]⟩
theorem vu {t:List Mrk} (hl:t.length≤32) (h:∀ k,k < t.length→qa t k=true):aX t=true:=by
 unfold aX;rw [zAE,bU];exact ⟨by simpa using hl,h⟩
theorem l8 {t:List Mrk} (hl:t.length≤32) (h:∀ k,k < t.length→mM t k=true):aX t=true:=by
 rw [← kV];unfold kU;rw [zAE,bU];exact ⟨by simpa using hl,h⟩
theorem xB {t:List Mrk} (h:aX t=true):t.length≤32:=by
 unfold aX at h;rw [zAE] at h;simpa using h.1
theorem vv {t:List Mrk} (h:aX t=true):∀ e∈t,cn e=true:=by
 unfold aX at h;rw [zAE,bU] at h;exact xz fun i hi=>zq (h.2 i hi)
theorem kW {t:List Mrk} (h:aX t=true):aD (t.map (·.path)):=by
 unfold aX at h;rw [zAE,bU] at h;exact xx fun i hi=>zq (h.2 i hi)
theorem zr {d:Bs} (h:cL d=true):d.length≤6:=by
 simp only [cL,zAE,decide_eq_true_eq] at h;exact h.1
def j8 (t:List Mrk) (p:Bs):Int:=match t.findIdx? fun e=>decide (e.path=p) with
 | some i=>i
 | none=>-1
theorem uc {t:List Mrk} {p:Bs} {i:Nat} {e:Mrk} (h:t[i]?=some e) (hp:e.path=p) (hb:∀ k e,k < i→t[k]?=some e→e.path≠p):j8 t p=i:=by
 have:(t.findIdx? fun e=>decide (e.path=p))=some i:=by
  rw [List.findIdx?_eq_some_iff_getElem];obtain ⟨hlt,rfl⟩:=List.getElem?_eq_some_iff.1 h;refine ⟨hlt,by simpa using hp,fun j hj=>?_⟩
  have:=hb j t[j] hj (zAB (by omega))
  simpa using this
 rw [j8,this]
theorem pz {t:List Mrk} {p:Bs} (hb:∀ (k:Nat) e,t[k]?=some e→e.path≠p):j8 t p=-1:=by
 have:(t.findIdx? fun e=>decide (e.path=p))=none:=by
  rw [List.findIdx?_eq_none_iff];intro e he;obtain ⟨k,hk⟩:=List.mem_iff_getElem?.1 he;simpa using hb k e hk
 rw [j8,this]
theorem B3 (t:List Mrk) (p:Bs):(∃ (i:Nat),j8 t p=i∧∃ hi:i < t.length,aA t p=some t[i])∨(j8 t p=-1∧aA t p=none):=by
 match h:t.findIdx? fun e=>decide (e.path=p) with
 | some i=>
   left;rw [List.findIdx?_eq_some_iff_getElem] at h;obtain ⟨hlt,h1,h2⟩:=h;refine ⟨i,uc (zAB hlt) (by simpa using h1) (fun k e hk he=>?_),hlt,?_⟩
   · obtain ⟨hk',rfl⟩:=List.getElem?_eq_some_iff.1 he;simpa using h2 k hk
   · unfold aA;rw [List.find?_eq_some_iff_getElem];exact ⟨h1,i,hlt,rfl,fun j hj=>by simpa using h2 j hj⟩
 | none=>
   right;rw [List.findIdx?_eq_none_iff] at h;refine ⟨pz fun k e he=>by simpa using h e (zAD he),?_⟩;unfold aA;rw [List.find?_eq_none];intro e he;simpa using h e he
def gg (l:List Mrk) (p:Bs):Int:=match aA l p with
 | some m=>m.kind
 | none=>0
def eqM (a b:Mrk):Bool:=decide (a.path=b.path) && decide (a.kind=b.kind) && decide (a.data=b.data)
theorem DJ (a:Mrk):eqM a a=true:=by simp [eqM]
end Go.Par
namespace Go.Par
open Go.Ab
def AX:Ent:=⟨[47],true,[]⟩
def fG:Ent:=⟨[],false,[]⟩
def az (t:List Ent) (p:Bs):Option Ent:=if p=[47] then some AX else ah t p
def dD:List Ent→Ent→List Ent
 | [],e=>[e]
 | x :: r,e=>if lt x.path e.path then x :: dD r e else if x.path=e.path then e :: r else e :: x :: r
def aO (s a b:Bs):Option Bs:=
 if ae s && ae a && ae b then (if s≠a∧under s a=false then some s else if ae (b++s.drop a.length) then some (b++s.drop a.length) else none) else none
def lT (t:List Ent) (p:Bs):List Bs:=(t.filter fun e=>decide (ag e.path=p)).map fun e=>pathName e.path
def dw (t:List Ent) (p:Bs):Int:=if bc t p≠0 then bc t p else if (az t p).isSome then 4 else if 16≤t.length then 8 else 0
def dN (t:List Ent) (p:Bs):Int:=if dw t p=4∧ec (az t p)=true then 5 else if dw t p=4 then 0 else dw t p
def eP (t:List Ent) (o:Opn):Int:=match az t o.path with
 | none=>2
 | some e=>if o.kind=3∧e.dir=true then 5 else if o.kind=4∧e.dir=false then 3 else if 0 < (lT t o.path).length then 6 else 0
def cO (t:List Ent) (o:Opn):Int:=
 if (az t o.path).isNone then 2 else if bc t o.to≠0 then bc t o.to else if (az t o.to).isSome then 4 else if under o.to o.path then 7
 else if t.all (fun e=>(aO e.path o.path o.to).isSome) then 0 else 8
def cr (t:List Ent) (o:Opn):Int:=
 if o.kind=1 then dw t o.path else if o.kind=2 then dN t o.path else if o.kind=5 then cO t o else eP t o
def f8 (a b:Bs) (e:Ent):Ent:=⟨(aO e.path a b).getD [],e.dir,e.data⟩
def b9 (t:List Ent) (es:List Ent):List Ent:=es.foldl dD t
def iI (t:List Ent) (p:Bs):List Ent:=t.filter fun e=>decide (e.path≠p)
def kX (t:List Ent) (a b:Bs):List Ent:=b9 [] (t.map (f8 a b))
def doT (t:List Ent) (o:Opn):List Ent:=
 if o.kind=1 then dD t ⟨o.path,true,[]⟩ else if o.kind=2 then dD t ⟨o.path,false,o.data⟩ else if o.kind=5 then kX t o.path o.to else iI t o.path
def aC (t:List Ent) (o:Opn):List Ent × Int:=
 if ai t=false then ([],1) else if f7 o=false then (t,1) else if cr t o≠0 then (t,cr t o) else (doT t o,0)
theorem zt (t:List Ent) (p:Bs):bc t p=match az t (ag p) with
   | none=>2
   | some e=>if e.dir then 0 else 3:=by
 unfold bc az;by_cases h:ag p=[47]
 · simp [h,AX]
 · simp only [h,if_false] <;> (cases ah t (ag p) <;> rfl)
theorem fT (t:List Ent) (e:Ent):t.length≤(dD t e).length∧(dD t e).length≤t.length+1:=by
 induction t with
 | nil=>simp [dD]
 | cons x r ih=>
   unfold dD;split
   · simp; omega
   · split <;> simp
theorem putE_mem {t:List Ent} {e x:Ent} (h:x∈dD t e):x=e∨x∈t:=by
 induction t with
 | nil=>simp [dD] at h; exact .inl h
 | cons y r ih=>
   unfold dD at h;split at h
   · rcases List.mem_cons.1 h with h|h
     · exact .inr (by simp [h])
     · rcases ih h with h|h
       · exact .inl h
       · exact .inr (by simp [h])
   · split at h
     · rcases List.mem_cons.1 h with h|h
       · exact .inl h
       · exact .inr (by simp [h])
     · rcases List.mem_cons.1 h with h|h
       · exact .inl h
       · exact .inr h
theorem putAll_len:∀ (es t:List Ent),(b9 t es).length≤t.length+es.length
 | [],t=>by simp [b9]
 | e :: es,t=>by
   have h1:=putAll_len es (dD t e);have h2:=(fT t e).2;simp only [b9,List.foldl_cons,List.length_cons] at h1 ⊢;omega
theorem xC (t es:List Ent) (e:Ent):b9 t (es++[e])=dD (b9 t es) e:=by simp [b9]
theorem DK (t:List Ent) (p:Bs):(lT t p).length≤t.length:=by
 unfold lT;rw [zAA];exact zAf _ _
theorem oP {s d:Bs} (h:under s d=true) (hd:d≠[47]):d.length < s.length∧s.take d.length=d:=by
 simp only [under,hd,decide_false,zAu,zAE,decide_eq_true_eq] at h;exact h.1
theorem aW {s:Bs} (h:ae s=true):s≠[47]:=by
 rintro rfl
 revert h
 decide
theorem jG {α:Type} {l:List α} {i:Nat} {x:α} {p:α→Bool} (h:l[i]?=some x):(l.take (i+1)).filter p=(l.take i).filter p++if p x then [x] else []:=by
 rw [co h,zAl];congr 1
 simp only [List.filter_cons,List.filter_nil]
def xD (n:Nat) (t:List Ent):Prop:=∀ e∈t,e.path.length≤n∧e.data.length≤n
theorem xD.put {n:Nat} {t:List Ent} {e:Ent} (h:xD n t) (h1:e.path.length≤n) (h2:e.data.length≤n):xD n (dD t e):=fun x hx=>by
 rcases putE_mem hx with rfl|hx
 · exact ⟨h1,h2⟩
 · exact h x hx
end Go.Par
namespace Go.Par
open Go.Ab
def dL:List Mrk→Mrk→List Mrk
 | [],e=>[e]
 | x :: r,e=>if lt x.path e.path then x :: dL r e else if x.path=e.path then e :: r else e :: x :: r
def jH:Nat→List Mrk→Bs→List Mrk
 | 0,l,_=>l
 | n+1,l,p=>if ag p=[47] then l else jH n (if gg l (ag p)=0 then dL l ⟨ag p,2,[]⟩ else l) (ag p)
theorem nO (t:List Mrk) (e:Mrk):t.length≤(dL t e).length∧(dL t e).length≤t.length+1:=by
 induction t with
 | nil=>simp [dL]
 | cons x r ih=>
   unfold dL;split
   · simp; omega
   · split <;> simp
theorem xE {t:List Mrk} {e x:Mrk} (h:x∈dL t e):x=e∨x∈t:=by
 induction t with
 | nil=>simp [dL] at h; exact .inl h
 | cons y r ih=>
   unfold dL at h;split at h
   · rcases List.mem_cons.1 h with h|h
     · exact .inr (by simp [h])
     · rcases ih h with h|h
       · exact .inl h
       · exact .inr (by simp [h])
   · split at h
     · rcases List.mem_cons.1 h with h|h
       · exact .inl h
       · exact .inr (by simp [h])
     · rcases List.mem_cons.1 h with h|h
       · exact .inl h
       · exact .inr h
def bndM (n:Nat) (t:List Mrk):Prop:=∀ e∈t,e.path.length≤n∧e.data.length≤n
theorem bndM.put {n:Nat} {t:List Mrk} {e:Mrk} (h:bndM n t) (h1:e.path.length≤n) (h2:e.data.length≤n):bndM n (dL t e):=fun x hx=>by
 rcases xE hx with rfl|hx
 · exact ⟨h1,h2⟩
 · exact h x hx
theorem rG:∀ (n:Nat) (l:List Mrk) (p:Bs),(jH n l p).length≤l.length+n
 | 0,l,_=>zAJ _
 | n+1,l,p=>by
   unfold jH;split
   · omega
   · split
     · have h1:=rG n (dL l ⟨ag p,2,[]⟩) (ag p);have h2:=(nO l ⟨ag p,2,[]⟩).2;omega
     · have h1:=rG n l (ag p);omega
theorem ef {p:Bs} (h:ae p=true) (hr:ag p≠[47]):(ag p).length < p.length:=by
 obtain ⟨w,a,h1,hw,ha,hl,rfl⟩:=j5 h;rw [g9 hw ha hl] at hr ⊢;by_cases hn:w=[]
 · rw [if_pos hn] at hr; exact absurd rfl hr
 · rw [if_neg hn]; simp
end Go.Par
namespace Go.Par
open Go.Ab
end Go.Par
