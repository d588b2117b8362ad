/- Texts of this claim, set close: lemmas and contracts. -/
import Derived.Test.YtagejnomlkfndaaGreatDoorYY5
import Derived.Test.YtagejnomlkfndaaGreatDoorYY3
import Derived.Test.YtagejnomlkfndaaGreatDoorYY6
import Derived.Shelf.Strings.Builder1
import Derived.Shelf.Strings.Builder2
import Derived.Shelf.Strings.OnBuilder
import Derived.Shelf.Small.Bits
import Derived.Shelf.Strings.BuilderF
import Derived.Shelf.Strings.BuilderK
import Derived.Shelf.Utf8.RuneCount
import Derived.Shelf.Strings.Builder2Cap
import Derived.Shelf.Strconv.Itoa0
import Derived.Shelf.Strings.Search1
import Derived.Shelf.Strings.Search2
import Derived.Shelf.Strings.Search3
import Derived.Shelf.Strings.Count
import Derived.Shelf.LaysM
import Derived.Shelf.Strings.Shaped
import Derived.Shelf.Strings.Prefix
import Derived.Shelf.Strings.Split
import Derived.Shelf.Strings.SplitShaped
import Derived.Shelf.Unicode.Decode
import Derived.Shelf.Strings.RuneCount
import Derived.Shelf.Strings.Explode
import Derived.Shelf.Unicode.DecodeSlow
import Derived.Shelf.Unicode.DecodeAny
import Derived.Shelf.Strings.BuilderCap
import Derived.Shelf.Slices.Turned
import Derived.Shelf.Slices.Equal
import Derived.Shelf.Slices.Empties2
import Derived.Test.YtagejnomlkfndaaGreatDoorProg
set_option linter.unusedSimpArgs false
set_option linter.unusedVariables false
set_option maxHeartbeats 1000000
set_option maxRecDepth 10000
namespace Go.Proofs.YtagejnomlkfndaaGreatDoor
open Go Go.RowKit Go.Ab Go.Par
variable {m:Int}
theorem wD (e:Ent):Con (E m) 124 0 [.agg e.c] [] (.agg e.c) []:=by
 refine G0 Tryz.func124 ?_;repeat' first|refine Rw ⟨?_⟩|(refine aH.mk (fun h=>?_) (fun h=>?_) <;> (try simp only [decide_eq_true_eq,decide_eq_false_iff_not,zAJ,zAN,zAR,zAQ,zAM,zAF,zAA] at h) <;> conv=>whnf)|refine Rs ⟨?_⟩|fail
 refine Rg ⟨?_⟩
 first|rfl|(simp_all [Ent.c]; done)|(simp [Ent.c] <;> (repeat' split) <;> omega)|(simp only [Ent.c]; repeat' split) <;> first|omega|(simp_all; done)|(simp_all; omega)|(rw [zAK]; simp [*,Ent.c] <;> omega)
theorem wF (e:Ent) (n:Int) (hn:0≤n∧n≤1048576) (hp:e.path.length≤9223372036854775807) (hd:e.data.length≤9223372036854775807) :
   Con (E m) 116 0 [.agg e.c,.k .i64 n] [] (.k .i64 (iU n e.path.length e.data.length)) []:=by
 refine G0 Tryz.func116 ?_;repeat' first|refine Rw ⟨?_⟩|(refine aH.mk (fun h=>?_) (fun h=>?_) <;> (try simp only [decide_eq_true_eq,decide_eq_false_iff_not,zAJ,zAN,zAR,zAQ,zAM,zAF,zAA] at h) <;> conv=>whnf)|refine Rs ⟨?_⟩|fail
 all_goals
  refine Rg ⟨?_⟩
  first|rfl|(simp_all [iU]; done)|(simp [iU] <;> (repeat' split) <;> omega)|(simp only [iU]; repeat' split) <;> first|omega|(simp_all; done)|(simp_all; omega)|(rw [zAK]; simp [*,iU] <;> omega)
theorem Co (e:Mrk):Con (E m) 125 0 [.agg e.c] [] (.agg e.c) []:=by
 refine G0 Tryz.func125 ?_;repeat' first|refine Rw ⟨?_⟩|(refine aH.mk (fun h=>?_) (fun h=>?_) <;> (try simp only [decide_eq_true_eq,decide_eq_false_iff_not,zAJ,zAN,zAR,zAQ,zAM,zAF,zAA] at h) <;> conv=>whnf)|refine Rs ⟨?_⟩|fail
 refine Rg ⟨?_⟩
 first|rfl|(simp_all [Mrk.c]; done)|(simp [Mrk.c] <;> (repeat' split) <;> omega)|(simp only [Mrk.c]; repeat' split) <;> first|omega|(simp_all; done)|(simp_all; omega)|(rw [zAK]; simp [*,Mrk.c] <;> omega)
theorem Cp (e:Mrk) (n:Int) (hn:0≤n∧n≤1048576) (hp:e.path.length≤9223372036854775807) (hd:e.data.length≤9223372036854775807) :
   Con (E m) 117 0 [.agg e.c,.k .i64 n] [] (.k .i64 (iU n e.path.length e.data.length)) []:=by
 refine G0 Tryz.func117 ?_;repeat' first|refine Rw ⟨?_⟩|(refine aH.mk (fun h=>?_) (fun h=>?_) <;> (try simp only [decide_eq_true_eq,decide_eq_false_iff_not,zAJ,zAN,zAR,zAQ,zAM,zAF,zAA] at h) <;> conv=>whnf)|refine Rs ⟨?_⟩|fail
 all_goals
  refine Rg ⟨?_⟩
  first|rfl|(simp_all [iU]; done)|(simp [iU] <;> (repeat' split) <;> omega)|(simp only [iU]; repeat' split) <;> first|omega|(simp_all; done)|(simp_all; omega)|(rw [zAK]; simp [*,iU] <;> omega)
variable {m:Int}
theorem nk {b:UInt8} (h:(b.toNat:Int) < 97∨(b.toNat:Int) > 122):eV b=false:=by
 unfold eV;rcases h with h|h
 · have:¬ 97≤b.toNat:=by omega
   simp [this]
 · have:¬ b.toNat≤122:=by omega
   simp [this]
theorem Aj {b:UInt8} (h1:¬ (b.toNat:Int) < 97) (h2:¬ (b.toNat:Int) > 122):eV b=true:=by
 unfold eV
 have:97≤b.toNat:=by omega
 have:b.toNat≤122:=by omega
 simp [*]
theorem EV (s:Bs) (hs:s.length≤9223372036854775806):Con (E m) 216 0 [.s s] [] (.b (bx s)) []:=by
 refine G0 Tryz.func216 ?_;repeat' first|refine Rw ⟨?_⟩|(refine aH.mk (fun h=>?_) (fun h=>?_) <;> (try simp only [decide_eq_true_eq,decide_eq_false_iff_not,zAJ,zAN,zAR,zAQ,zAM,zAF,zAA] at h) <;> conv=>whnf)|refine Rs ⟨?_⟩|fail
 refine Cd.loop (fun n tm S nx=>∃ i:Nat,i≤s.length∧n=s.length - i∧tm=[(0,.s s),(3,.k .i64 i)]∧S=[]∧nx=0∧(s.take i).all eV=true) ⟨s.length,?_⟩ ?_
 · refine la [0,3] ?_
   conv=>whnf
   refine ⟨rfl,rfl,0,zAG _,rfl,rfl,rfl,rfl,rfl⟩
 · rintro n tm S nx ⟨i,hi,hn,rfl,rfl,rfl,hp⟩;repeat' first|refine Rw ⟨?_⟩|(refine aH.mk (fun h=>?_) (fun h=>?_) <;> (try simp only [decide_eq_true_eq,decide_eq_false_iff_not,zAJ,zAN,zAR,zAQ,zAM,zAF,zAA] at h) <;> conv=>whnf)|refine Rs ⟨?_⟩|fail
   · have hf:s.all eV=false:=dM (zAB (by omega:i < s.length)) (nk (.inl ‹_›));refine Rg ⟨?_⟩
     first|rfl|(simp_all [bx]; done)|(simp [bx] <;> (repeat' split) <;> omega)|(simp only [bx]; repeat' split) <;> first|omega|(simp_all; done)|(simp_all; omega)|(rw [zAK]; simp [*,bx] <;> omega)
   · have hf:s.all eV=false:=dM (zAB (by omega:i < s.length)) (nk (.inr ‹_›));refine Rg ⟨?_⟩
     first|rfl|(simp_all [bx]; done)|(simp [bx] <;> (repeat' split) <;> omega)|(simp only [bx]; repeat' split) <;> first|omega|(simp_all; done)|(simp_all; omega)|(rw [zAK]; simp [*,bx] <;> omega)
   · refine .here ⟨n - 1,by omega,?_⟩;refine la [0,3] ?_
     conv=>whnf
     refine ⟨rfl,rfl,i+1,by omega,by omega,rfl,rfl,rfl,bN hp (zAB (by omega:i < s.length)) (Aj ‹_› ‹_›)⟩
   all_goals
    have ha:s.all eV=true:=fC hp (by omega);refine Rg ⟨?_⟩
    first|rfl|(simp_all [bx]; done)|(simp [bx] <;> (repeat' split) <;> omega)|(simp only [bx]; repeat' split) <;> first|omega|(simp_all; done)|(simp_all; omega)|(rw [zAK]; simp [*,bx] <;> omega)
theorem EW (s:Bs) (hs:s.length≤9223372036854775806):Con (E m) 166 0 [.s s] [] (.b (bx s)) []:=by
 refine G0 Tryz.func166 ?_;repeat' first|refine Rw ⟨?_⟩|(refine aH.mk (fun h=>?_) (fun h=>?_) <;> (try simp only [decide_eq_true_eq,decide_eq_false_iff_not,zAJ,zAN,zAR,zAQ,zAM,zAF,zAA] at h) <;> conv=>whnf)|refine Rs ⟨?_⟩|fail
 · refine Rg ⟨?_⟩
   first|rfl|(simp_all [bx]; done)|(simp [bx] <;> (repeat' split) <;> omega)|(simp only [bx]; repeat' split) <;> first|omega|(simp_all; done)|(simp_all; omega)|(rw [zAK]; simp [*,bx] <;> omega)
 · refine Rg ⟨?_⟩
   first|rfl|(simp_all [bx]; done)|(simp [bx] <;> (repeat' split) <;> omega)|(simp only [bx]; repeat' split) <;> first|omega|(simp_all; done)|(simp_all; omega)|(rw [zAK]; simp [*,bx] <;> omega)
 refine Cd.loop (fun n tm S nx=>∃ i:Nat,i≤s.length∧n=s.length - i∧tm=[(0,.s s),(3,.k .i64 i)]∧S=[]∧nx=0∧(s.take i).all eV=true) ⟨s.length,?_⟩ ?_
 · refine la [0,3] ?_
   conv=>whnf
   refine ⟨rfl,rfl,0,zAG _,rfl,rfl,rfl,rfl,rfl⟩
 · rintro n tm S nx ⟨i,hi,hn,rfl,rfl,rfl,hp⟩;repeat' first|refine Rw ⟨?_⟩|(refine aH.mk (fun h=>?_) (fun h=>?_) <;> (try simp only [decide_eq_true_eq,decide_eq_false_iff_not,zAJ,zAN,zAR,zAQ,zAM,zAF,zAA] at h) <;> conv=>whnf)|refine Rs ⟨?_⟩|fail
   · have hf:s.all eV=false:=dM (zAB (by omega:i < s.length)) (nk (.inl ‹_›));refine Rg ⟨?_⟩
     first|rfl|(simp_all [bx]; done)|(simp [bx] <;> (repeat' split) <;> omega)|(simp only [bx]; repeat' split) <;> first|omega|(simp_all; done)|(simp_all; omega)|(rw [zAK]; simp [*,bx] <;> omega)
   · have hf:s.all eV=false:=dM (zAB (by omega:i < s.length)) (nk (.inr ‹_›));refine Rg ⟨?_⟩
     first|rfl|(simp_all [bx]; done)|(simp [bx] <;> (repeat' split) <;> omega)|(simp only [bx]; repeat' split) <;> first|omega|(simp_all; done)|(simp_all; omega)|(rw [zAK]; simp [*,bx] <;> omega)
   · refine .here ⟨n - 1,by omega,?_⟩;refine la [0,3] ?_
     conv=>whnf
     refine ⟨rfl,rfl,i+1,by omega,by omega,rfl,rfl,rfl,bN hp (zAB (by omega:i < s.length)) (Aj ‹_› ‹_›)⟩
   all_goals
    have ha:s.all eV=true:=fC hp (by omega);refine Rg ⟨?_⟩
    first|rfl|(simp_all [bx]; done)|(simp [bx] <;> (repeat' split) <;> omega)|(simp only [bx]; repeat' split) <;> first|omega|(simp_all; done)|(simp_all; omega)|(rw [zAK]; simp [*,bx] <;> omega)
theorem GK (s:Bs) (c:UInt8) (hs:s.length≤1073741824):Con (E m) 263 0 [.s s,.k .u8 c.toNat] [] (.own 0) [(0,.own 9 ((cut c s).map fun l=>[.s l]))]:=by
 refine G0 Tryz.func263 ?_;repeat' first|refine Rw ⟨?_⟩|(refine aH.mk (fun h=>?_) (fun h=>?_) <;> (try simp only [decide_eq_true_eq,decide_eq_false_iff_not,zAJ,zAN,zAR,zAQ,zAM,zAF,zAA] at h) <;> conv=>whnf)|refine Rs ⟨?_⟩|fail
 refine Cd.loop (fun n tm S nx=>∃ (i fr:Nat) (done:List Bs),n=s.length+1 - i∧tm=[(0,.s s),(1,.k .u8 c.toNat),(5,.own 0),(6,.k .i64 fr),(7,.k .i64 i)]∧S=[(0,.own 9 (done.map fun l=>[.s l]))]∧nx=1∧ib s c i fr done) ⟨s.length+1,?_⟩ ?_
 · refine la [0,1,5,6,7] ?_
   conv=>whnf
   refine ⟨rfl,rfl,0,0,[],rfl,rfl,rfl,rfl,xZ s c⟩
 · rintro n tm S nx ⟨i,fr,done,hn,rfl,rfl,rfl,hp⟩;have hd:=hp.len;have hfi:=hp.le;repeat' first|refine Rw ⟨?_⟩|(refine aH.mk (fun h=>?_) (fun h=>?_) <;> (try simp only [decide_eq_true_eq,decide_eq_false_iff_not,zAJ,zAN,zAR,zAQ,zAM,zAF,zAA] at h) <;> conv=>whnf)|refine Rs ⟨?_⟩|fail
   · obtain rfl:i=s.length:=by omega
     refine .here ⟨n - 1,by omega,?_⟩;refine la [0,1,5,6,7] ?_
     conv=>whnf
     refine ⟨rfl,rfl,s.length+1,s.length+1,done++[(s.take s.length).drop fr],by omega,rfl,by rw [zAH]; rfl,rfl,hp.last⟩
   · have hb:s[i]=c:=UInt8.toNat_inj.1 (by omega);refine .here ⟨n - 1,by omega,?_⟩;refine la [0,1,5,6,7] ?_
     conv=>whnf
     refine ⟨rfl,rfl,i+1,i+1,done++[(s.take i).drop fr],by omega,rfl,by rw [zAH]; rfl,rfl,hp.hit (by omega) (by rw [zAB (by omega),hb])⟩
   · have hb:s[i]≠c:=fun e=>‹¬((s[i].toNat:Int)=c.toNat)› (by rw [e]);refine .here ⟨n - 1,by omega,?_⟩;refine la [0,1,5,6,7] ?_
     conv=>whnf
     refine ⟨rfl,rfl,i+1,fr,done,by omega,rfl,rfl,rfl,hp.miss (by omega) (by rw [zAB (by omega)]; exact fun e=>hb (zAb e))⟩
   · have he:=hp.all (by omega)
     first|refine ak.here (fa ?_)|refine fa ?_
     conv=>whnf
     first|exact ⟨rfl,rfl,rfl,rfl⟩|refine ⟨rfl,rfl,congrArg some (congrArg D.s ?_),rfl⟩|refine ⟨rfl,rfl,congrArg some (congrArg D.b ?_),rfl⟩|refine ⟨rfl,rfl,congrArg some (congrArg (D.k _) ?_),rfl⟩|refine ⟨rfl,rfl,congrArg some (congrArg D.agg ?_),rfl⟩|refine ⟨rfl,rfl,rfl,?_⟩
     rw [he];rfl
theorem Cq (s:Bs) (hs:s.length≤1073741824):Con (E m) 215 0 [.s s] [] (.own 0) [(0,.own 9 ((cc s).map fun l=>[.s l]))]:=by
 match s,hs with
 | [],hs=>
   refine G0 Tryz.func215 ?_;repeat' first|refine Rw ⟨?_⟩|(refine aH.mk (fun h=>?_) (fun h=>?_) <;> (try simp only [decide_eq_true_eq,decide_eq_false_iff_not,zAJ,zAN,zAR,zAQ,zAM,zAF,zAA] at h) <;> conv=>whnf)|refine Rs ⟨?_⟩|fail
   · refine Rg ⟨?_⟩
     first|rfl|(simp_all [cc]; done)|(simp [cc] <;> (repeat' split) <;> omega)|(simp only [cc]; repeat' split) <;> first|omega|(simp_all; done)|(simp_all; omega)|(rw [zAK]; simp [*,cc] <;> omega)
   · exact absurd (by decide:((([]:Bs).length:Int) < 2)) ‹_›
 | x :: r,hs=>
   refine G0 Tryz.func215 ?_;have hs':(((x :: r).take (x :: r).length).drop 1).length≤1073741824:=by simp at hs ⊢; omega
   have hc:=GK (m:=m) (((x :: r).take (x :: r).length).drop 1) 47 hs';rw [show cut 47 (((x :: r).take (x :: r).length).drop 1)=cut 47 r by rw [zAP]; rfl] at hc
   repeat' first|refine Rw ⟨?_⟩|(refine aH.mk (fun h=>?_) (fun h=>?_) <;> (try simp only [decide_eq_true_eq,decide_eq_false_iff_not,zAJ,zAN,zAR,zAQ,zAM,zAF,zAA] at h) <;> conv=>whnf)|(refine Rc [] 1 rfl rfl (hc) ?_; conv=>whnf)|refine Rs ⟨?_⟩|fail
   · have hr:r=[]:=by
       have h:((x :: r).length:Int) < 2:=‹_›;simp only [List.length_cons] at h;exact List.eq_nil_of_length_eq_zero (by omega)
     have hn:cc (x :: r)=[]:=by simp [cc,hr]
     rw [hn];exact Rf
   · have hx:x≠47:=fun e=>‹¬((x.toNat:Int)=47)› (by rw [e]; rfl);have hn:cc (x :: r)=[]:=by simp [cc,hx]
     rw [hn];exact Rf
   · have hx:x=47:=UInt8.toNat_inj.1 (by have h:(x.toNat:Int)=47:=‹_›; exact Int.ofNat_inj.1 h);have hr:r≠[]:=by
      rintro rfl;have h:¬ (([x]:Bs).length:Int) < 2:=‹_›;simp at h
     have hn:cc (x :: r)=cut 47 r:=by simp [cc,hx,hr]
     rw [hn];exact Rf
theorem cY (s:Bs) (hs:s.length≤1073741824):Con (E m) 154 0 [.s s] [] (.b (ah s)) []:=by
 have hl:=EP s;have hp:=rp s;refine G0 Tryz.func154 ?_;repeat' first|refine Rw ⟨?_⟩|(refine aH.mk (fun h=>?_) (fun h=>?_) <;> (try simp only [decide_eq_true_eq,decide_eq_false_iff_not,zAJ,zAN,zAR,zAQ,zAM,zAF,zAA] at h) <;> conv=>whnf)|(refine Rc [] 1 rfl rfl (Cq s hs) ?_; conv=>whnf)|refine Rs ⟨?_⟩|fail
 · refine Rg ⟨?_⟩
   first|rfl|(simp_all [ah]; done)|(simp [ah] <;> (repeat' split) <;> omega)|(simp only [ah]; repeat' split) <;> first|omega|(simp_all; done)|(simp_all; omega)|(rw [zAK]; simp [*,ah] <;> omega)
 · refine Cd.loop (fun n tm S nx=>∃ i:Nat,i≤(cc s).length∧n=(cc s).length - i∧tm=[(0,.s s),(3,.own 0),(4,.k .i64 i)]∧S=[(0,.own 9 ((cc s).map fun l=>[.s l]))]∧nx=1∧((cc s).take i).all bx=true) ⟨(cc s).length,?_⟩ ?_
   · refine la [0,3,4] ?_
     conv=>whnf
     refine ⟨rfl,rfl,0,zAG _,rfl,rfl,rfl,rfl,rfl⟩
   · rintro n tm S nx ⟨i,hi,hn,rfl,rfl,rfl,ha⟩;repeat' first|refine Rw ⟨?_⟩|(refine aH.mk (fun h=>?_) (fun h=>?_) <;> (try simp only [decide_eq_true_eq,decide_eq_false_iff_not,zAJ,zAN,zAR,zAQ,zAM,zAF,zAA] at h) <;> conv=>whnf)|(refine Rc [] 0 rfl rfl (EV _ (by have:=hp _ (zAX (by omega:i < (cc s).length)); omega)) ?_; conv=>whnf)|refine Rs ⟨?_⟩|fail
     · have hf:(cc s).all bx=false:=dM (zAB (by omega:i < (cc s).length)) ‹_›;refine Rg ⟨?_⟩
       first|rfl|(simp_all [ah]; done)|(simp [ah] <;> (repeat' split) <;> omega)|(simp only [ah]; repeat' split) <;> first|omega|(simp_all; done)|(simp_all; omega)|(rw [zAK]; simp [*,ah] <;> omega)
     · refine .here ⟨n - 1,by omega,?_⟩;refine la [0,3,4] ?_
       conv=>whnf
       refine ⟨rfl,rfl,i+1,by omega,by omega,rfl,rfl,rfl,bN ha (zAB (by omega:i < (cc s).length)) ‹_›⟩
     all_goals
      have hf:(cc s).all bx=true:=fC ha (by omega);refine Rg ⟨?_⟩
      first|rfl|(simp_all [ah]; done)|(simp [ah] <;> (repeat' split) <;> omega)|(simp only [ah]; repeat' split) <;> first|omega|(simp_all; done)|(simp_all; omega)|(rw [zAK]; simp [*,ah] <;> omega)
theorem tR (s:Bs) (h1:1≤s.length) (hs:s.length≤1073741824):Con (E m) 232 0 [.s s] [] (.k .i64 (jk s)) []:=by
 refine G0 Tryz.func232 ?_;repeat' first|refine Rw ⟨?_⟩|(refine aH.mk (fun h=>?_) (fun h=>?_) <;> (try simp only [decide_eq_true_eq,decide_eq_false_iff_not,zAJ,zAN,zAR,zAQ,zAM,zAF,zAA] at h) <;> conv=>whnf)|refine Rs ⟨?_⟩|fail
 refine Cd.loop (fun n tm S nx=>∃ (k:Nat) (j:Int),j=k∧k+1≤s.length∧n=k∧tm=[(0,.s s),(3,.k .i64 j)]∧S=[]∧nx=0∧jk s=ia s k) ⟨s.length - 1,?_⟩ ?_
 · refine la [0,3] ?_
   conv=>whnf
   refine ⟨rfl,rfl,s.length - 1,(s.length:Int) - 1,by omega,by omega,rfl,rfl,rfl,rfl,rfl⟩
 · rintro n tm S nx ⟨k,j,rfl,hk,hn,rfl,rfl,rfl,ha⟩;repeat' first|refine Rw ⟨?_⟩|(refine aH.mk (fun h=>?_) (fun h=>?_) <;> (try simp only [decide_eq_true_eq,decide_eq_false_iff_not,zAJ,zAN,zAR,zAQ,zAM,zAF,zAA] at h) <;> conv=>whnf)|refine Rs ⟨?_⟩|fail
   · obtain ⟨k,rfl⟩:∃ q,k=q+1:=⟨k - 1,by omega⟩;have hb:s[k+1]≠47:=fun e=>‹¬((s[k+1].toNat:Int)=47)› (by rw [e]; rfl);refine .here ⟨n - 1,by omega,?_⟩;refine la [0,3] ?_
     conv=>whnf
     refine ⟨rfl,rfl,k,((k+1:Nat):Int) - 1,by omega,by omega,by omega,rfl,rfl,rfl,?_⟩;rw [ha,ia,if_neg (by rw [zAB (by omega)]; exact fun e=>hb (zAb e))]
   · obtain ⟨k,rfl⟩:∃ q,k=q+1:=⟨k - 1,by omega⟩;have hb:s[k+1]=47:=UInt8.toNat_inj.1 (by have h:(s[k+1].toNat:Int)=47:=‹_›; exact Int.ofNat_inj.1 h);have h2:s[k+1]?=some 47:=(zAB (by omega)).trans (congrArg some hb);have he:jk s=k+1:=by rw [ha,ia,if_pos h2]
     rw [he];exact Rf
   · have h0:k=0:=by omega
     subst h0;have he:jk s=0:=ha;rw [he];exact Rf
theorem nn (s:Bs) (hs:s.length≤1073741824):Con (E m) 183 0 [.s s] [] (.s (al s)) []:=by
 have h1:=cY (m:=m) s hs;have hl:=zZ s;cases hok:ah s with
 | false=>
   rw [hok] at h1;refine G0 Tryz.func183 ?_;repeat' first|refine Rw ⟨?_⟩|(refine aH.mk (fun h=>?_) (fun h=>?_) <;> (try simp only [decide_eq_true_eq,decide_eq_false_iff_not,zAJ,zAN,zAR,zAQ,zAM,zAF,zAA] at h) <;> conv=>whnf)|(refine Rc [] 0 rfl rfl (h1) ?_; conv=>whnf)|refine Rs ⟨?_⟩|fail
   refine Rg ⟨?_⟩
   first|rfl|(simp_all [al]; done)|(simp [al] <;> (repeat' split) <;> omega)|(simp only [al]; repeat' split) <;> first|omega|(simp_all; done)|(simp_all; omega)|(rw [zAK]; simp [*,al] <;> omega)
 | true=>
   rw [hok] at h1;have hp:=aQ hok;refine G0 Tryz.func183 ?_;repeat' first|refine Rw ⟨?_⟩|(refine aH.mk (fun h=>?_) (fun h=>?_) <;> (try simp only [decide_eq_true_eq,decide_eq_false_iff_not,zAJ,zAN,zAR,zAQ,zAM,zAF,zAA] at h) <;> conv=>whnf)|(refine Rc [] 0 rfl rfl (h1) ?_; conv=>whnf)|(refine Rc [] 0 rfl rfl (tR s hp.1 hs) ?_; conv=>whnf)|refine Rs ⟨?_⟩|fail
   · have h0:jk s=0:=by omega
     refine Rg ⟨?_⟩
     first|rfl|(simp_all [al]; done)|(simp [al] <;> (repeat' split) <;> omega)|(simp only [al]; repeat' split) <;> first|omega|(simp_all; done)|(simp_all; omega)|(rw [zAK]; simp [*,al] <;> omega)
   · have h0:jk s≠0:=by omega
     refine Rg ⟨?_⟩
     first|rfl|(simp_all [al]; done)|(simp [al] <;> (repeat' split) <;> omega)|(simp only [al]; repeat' split) <;> first|omega|(simp_all; done)|(simp_all; omega)|(rw [zAK]; simp [*,al] <;> omega)
theorem qM (s:Bs) (hs:s.length≤1073741824):Con (E m) 227 0 [.s s] [] (.b (dD s)) []:=by
 refine G0 Tryz.func227 ?_;repeat' first|refine Rw ⟨?_⟩|(refine aH.mk (fun h=>?_) (fun h=>?_) <;> (try simp only [decide_eq_true_eq,decide_eq_false_iff_not,zAJ,zAN,zAR,zAQ,zAM,zAF,zAA] at h) <;> conv=>whnf)|refine Rs ⟨?_⟩|fail
 refine Cd.loop (fun n tm S nx=>∃ i:Nat,i≤s.length∧n=s.length - i∧tm=[(0,.s s),(3,.k .i64 i)]∧S=[]∧nx=0∧(s.take i).all (fun b=>eV b || kV b)=true) ⟨s.length,?_⟩ ?_
 · refine la [0,3] ?_
   conv=>whnf
   refine ⟨rfl,rfl,0,zAG _,rfl,rfl,rfl,rfl,rfl⟩
 · rintro n tm S nx ⟨i,hi,hn,rfl,rfl,rfl,ha⟩;repeat' first|refine Rw ⟨?_⟩|(refine aH.mk (fun h=>?_) (fun h=>?_) <;> (try simp only [decide_eq_true_eq,decide_eq_false_iff_not,zAJ,zAN,zAR,zAQ,zAM,zAF,zAA] at h) <;> conv=>whnf)|refine Rs ⟨?_⟩|fail
   all_goals first
    | (have hf:s.all (fun b=>eV b || kV b)=false:=dM (zAB (by omega:i < s.length)) (zY (by omega))
       (first|refine ak.here (fa ?_)|refine fa ?_)
       conv=>whnf
       refine ⟨rfl,rfl,congrArg some (congrArg D.b ?_),rfl⟩
       first|(simp_all [dD]; done)|(rw [zAK]; simp [*,dD] <;> omega))
    | (refine .here ⟨n - 1,by omega,?_⟩
       refine la [0,3] ?_
       conv=>whnf
       refine ⟨rfl,rfl,i+1,by omega,by omega,rfl,rfl,rfl,bN ha (zAB (by omega:i < s.length)) (DT (by omega))⟩)
    | (have hf:s.all (fun b=>eV b || kV b)=true:=fC ha (by omega)
       (first|refine ak.here (fa ?_)|refine fa ?_)
       conv=>whnf
       refine ⟨rfl,rfl,congrArg some (congrArg D.b ?_),rfl⟩
       first|(simp_all [dD]; done)|(rw [zAK]; simp [*,dD] <;> omega))
theorem wG (t:List Ent) (p:Bs) (ht:t.length≤1073741824):Con (E m) 231 0 [.sl (t.map Ent.c),.s p] [] (.k .i64 (pI t p)) []:=by
 refine G0 Tryz.func231 ?_;repeat' first|refine Rw ⟨?_⟩|(refine aH.mk (fun h=>?_) (fun h=>?_) <;> (try simp only [decide_eq_true_eq,decide_eq_false_iff_not,zAJ,zAN,zAR,zAQ,zAM,zAF,zAA] at h) <;> conv=>whnf)|refine Rs ⟨?_⟩|fail
 refine Cd.loop (fun n tm S nx=>∃ i:Nat,i≤t.length∧n=t.length - i∧tm=[(0,.sl (t.map Ent.c)),(1,.s p),(5,.k .i64 i)]∧S=[]∧nx=0∧∀ k e,k < i→t[k]?=some e→e.path≠p) ⟨t.length,?_⟩ ?_
 · refine la [0,1,5] ?_
   conv=>whnf
   refine ⟨rfl,rfl,0,zAG _,rfl,rfl,rfl,rfl,fun k e h=>absurd h (Nat.not_lt_zero _)⟩
 · rintro n tm S nx ⟨i,hi,hn,rfl,rfl,rfl,ha⟩;repeat' first|refine Rw ⟨?_⟩|(refine aH.mk (fun h=>?_) (fun h=>?_) <;> (try simp only [decide_eq_true_eq,decide_eq_false_iff_not,zAJ,zAN,zAR,zAQ,zAM,zAF,zAA] at h) <;> conv=>whnf)|refine Rs ⟨?_⟩|fail
   · have he:pI t p=i:=pJ (zAB (by omega)) ‹_› ha;rw [he];exact Rf
   · refine .here ⟨n - 1,by omega,?_⟩;refine la [0,1,5] ?_
     conv=>whnf
     refine ⟨rfl,rfl,i+1,by omega,by omega,rfl,rfl,rfl,fun k e h1 h2=>?_⟩;by_cases hk:k=i
     · subst hk;rw [zAB (by omega)] at h2;cases h2;assumption
     · exact ha k e (by omega) h2
   · have he:pI t p=-1:=oC fun k e h=>ha k e (by have:=(List.getElem?_eq_some_iff.1 h).1; omega) h;rw [he];exact Rf
theorem Ak (t:List Ent) (p:Bs) (ht:t.length≤1073741824):Con (E m) 182 0 [.sl (t.map Ent.c),.s p] [] (.b (gq t p)) []:=by
 have h1:=wG (m:=m) t p ht;rcases pK t p with ⟨i,hx,hi,he⟩|⟨hx,he⟩
 · rw [hx] at h1;refine G0 Tryz.func182 ?_;repeat' first|refine Rw ⟨?_⟩|(refine aH.mk (fun h=>?_) (fun h=>?_) <;> (try simp only [decide_eq_true_eq,decide_eq_false_iff_not,zAJ,zAN,zAR,zAQ,zAM,zAF,zAA] at h) <;> conv=>whnf)|(refine Rc [] 0 rfl rfl (h1) ?_; conv=>whnf)|refine Rs ⟨?_⟩|fail
   · refine Rg ⟨?_⟩
     first|rfl|(simp_all [gq]; done)|(simp [gq] <;> (repeat' split) <;> omega)|(simp only [gq]; repeat' split) <;> first|omega|(simp_all; done)|(simp_all; omega)|(rw [zAK]; simp [*,gq] <;> omega)
   · have hd:gq t p=t[i].dir:=by
       unfold gq;rw [he];simp [fm,‹¬p=[47]›]
     rw [hd];exact Rf
   all_goals exact absurd (Int.natCast_nonneg i) ‹_›
 · rw [hx] at h1;refine G0 Tryz.func182 ?_;repeat' first|refine Rw ⟨?_⟩|(refine aH.mk (fun h=>?_) (fun h=>?_) <;> (try simp only [decide_eq_true_eq,decide_eq_false_iff_not,zAJ,zAN,zAR,zAQ,zAM,zAF,zAA] at h) <;> conv=>whnf)|(refine Rc [] 0 rfl rfl (h1) ?_; conv=>whnf)|refine Rs ⟨?_⟩|fail
   · refine Rg ⟨?_⟩
     first|rfl|(simp_all [gq]; done)|(simp [gq] <;> (repeat' split) <;> omega)|(simp only [gq]; repeat' split) <;> first|omega|(simp_all; done)|(simp_all; omega)|(rw [zAK]; simp [*,gq] <;> omega)
   all_goals first
    | exact absurd (by decide:¬ ((-1:Int) ≥ 0)) (not_not_intro ‹_›)
    | (have hd:gq t p=false:=by
         unfold gq;rw [he];simp [fm,‹¬p=[47]›]
       rw [hd]
       (first|refine ak.here (fa ?_)|refine fa ?_)
       conv=>whnf
       refine ⟨rfl,rfl,congrArg some (congrArg D.b ?_),rfl⟩
       first|(simp_all [gq]; done)|(rw [zAK]; simp [*,gq] <;> omega))
theorem mQ (t:List Ent) (hb:∀ e∈t,e.path.length≤1073741824∧e.data.length≤1073741824):Con (E m) 178 0 [.sl (t.map Ent.c)] [] (.b (aq t)) []:=by
 refine G0 Tryz.func178 ?_;repeat' first|refine Rw ⟨?_⟩|(refine aH.mk (fun h=>?_) (fun h=>?_) <;> (try simp only [decide_eq_true_eq,decide_eq_false_iff_not,zAJ,zAN,zAR,zAQ,zAM,zAF,zAA] at h) <;> conv=>whnf)|refine Rs ⟨?_⟩|fail
 · have hf:aq t=false:=by
     have:¬ t.length≤16:=by omega
     simp [aq,this]
   rw [hf];exact Rf
 refine Cd.loop (fun n tm S nx=>∃ i:Nat,i≤t.length∧n=t.length - i∧tm=[(0,.sl (t.map Ent.c)),(3,.k .i64 i)]∧S=[]∧nx=0∧∀ k,k < i→okS t k=true) ⟨t.length,?_⟩ ?_
 · refine la [0,3] ?_
   conv=>whnf
   refine ⟨rfl,rfl,0,zAG _,rfl,rfl,rfl,rfl,fun k h=>absurd h (Nat.not_lt_zero _)⟩
 · rintro n tm S nx ⟨i,hi,hn,rfl,rfl,rfl,ha⟩;by_cases hlt:i < t.length
   · have hq:=hb t[i] (zAX hlt);have h1:=cY (m:=m) t[i].path hq.1;have h2:=qM (m:=m) t[i].data hq.2;have h3:=nn (m:=m) t[i].path hq.1;have h4:=Ak (m:=m) (t.take i) (al t[i].path) (by rw [zAd]; omega);rw [zBW] at h4;repeat' first|refine Rw ⟨?_⟩|(refine aH.mk (fun h=>?_) (fun h=>?_) <;> (try simp only [decide_eq_true_eq,decide_eq_false_iff_not,zAJ,zAN,zAR,zAQ,zAM,zAF,zAA] at h) <;> conv=>whnf)|(refine Rc [] 0 rfl rfl (h1) ?_; conv=>whnf)|(refine Rc [] 0 rfl rfl (h2) ?_; conv=>whnf)|(refine Rc [] 0 rfl rfl (h3) ?_; conv=>whnf)|(refine Rc [] 0 rfl rfl (h4) ?_; conv=>whnf)|(refine ⟨i - 1,_,by omega,fk (by omega),rfl,?_⟩; conv=>whnf)|refine Rs ⟨?_⟩|fail
     all_goals first
      | (have hf:okS t i=false:=by
           clear h1 h2 h3 h4 hb ha hn;rw [Ch hlt];simp_all [fy,lt]
         have hg:=pL hlt hf;rw [hg];refine ak.here (fa ?_)
         conv=>whnf
         exact ⟨rfl,rfl,rfl,rfl⟩)
      | (have hf:okS t i=true:=by
           clear h1 h2 h3 h4 hb ha hn;rw [Ch hlt];simp_all [fy,lt]
         refine .here ⟨n - 1,by omega,?_⟩;refine la [0,3] ?_
         conv=>whnf
         refine ⟨rfl,rfl,i+1,by omega,by omega,rfl,rfl,rfl,fun k hk=>?_⟩;by_cases hki:k=i
         · rw [hki]; exact hf
         · exact ha k (by omega))
      | (have hf:okS t i=false:=by
           have hbl:lt (t[i - 1]'(by omega)).path t[i].path=false:=‹Op.bytesLess (t[i - 1]'(by omega)).path t[i].path=false›;rw [Ch hlt,if_pos (by omega:0 < i),hbl]
           simp
         have hg:=pL hlt hf;rw [hg];refine ak.here (fa ?_)
         conv=>whnf
         exact ⟨rfl,rfl,rfl,rfl⟩)
      | exact absurd hlt (by omega)
   · repeat' first|refine Rw ⟨?_⟩|(refine aH.mk (fun h=>?_) (fun h=>?_) <;> (try simp only [decide_eq_true_eq,decide_eq_false_iff_not,zAJ,zAN,zAR,zAQ,zAM,zAF,zAA] at h) <;> conv=>whnf)|refine Rs ⟨?_⟩|fail
     · exact absurd hlt (by omega)
     · have hf:aq t=true:=z6 (by omega) fun k hk=>ha k (by omega);rw [hf];exact Rf
end Go.Proofs.YtagejnomlkfndaaGreatDoor
namespace Go.Proofs
open Go.Shelf
def Tryz.lays156_ren:Go.Shelf.Ren:=⟨fun|156=>254|165=>287|166=>288|169=>289|240=>309|241=>310|276=>330|277=>331|n=>n,fun|31=>140|9=>9|3=>3|4=>4|0=>0|20=>20|72=>284|76=>288|70=>282|37=>48|75=>287|127=>308|164=>320|5=>5|80=>290|n=>n,fun|n=>n⟩
theorem Tryz.lays156:Go.Proofs.Lays.n156 Tryz.prog Tryz.lays156_ren:={
 mixed:=by kernel_rfl
 f156:=Tryz.func254.trans (congrArg some (by kernel_rfl))
 f165:=Tryz.func287.trans (congrArg some (by kernel_rfl))
 f166:=Tryz.func288.trans (congrArg some (by kernel_rfl))
 f169:=Tryz.func289.trans (congrArg some (by kernel_rfl))
 f240:=Tryz.func309.trans (congrArg some (by kernel_rfl))
 f241:=Tryz.func310.trans (congrArg some (by kernel_rfl))
 f276:=Tryz.func330.trans (congrArg some (by kernel_rfl))
 f277:=Tryz.func331.trans (congrArg some (by kernel_rfl))
 t0:=Tryz.underlying0
 a0:=Tryz.isAgg0
 z0:=Tryz.sizeOf0
 v0:=Tryz.zeroValue0
 t3:=Tryz.underlying3
 a3:=Tryz.isAgg3
 z3:=Tryz.sizeOf3
 v3:=Tryz.zeroValue3
 t4:=Tryz.underlying4
 a4:=Tryz.isAgg4
 z4:=Tryz.sizeOf4
 v4:=Tryz.zeroValue4
 t9:=Tryz.underlying9
 a9:=Tryz.isAgg9
 z9:=Tryz.sizeOf9
 v9:=Tryz.zeroValue9
 t20:=Tryz.underlying20
 a20:=Tryz.isAgg20
 z20:=Tryz.sizeOf20
 v20:=Tryz.zeroValue20
 t31:=Tryz.underlying140
 a31:=Tryz.isAgg140
 z31:=Tryz.sizeOf140
 v31:=Tryz.zeroValue140
 t37:=Tryz.underlying48
 a37:=Tryz.isAgg48
 z37:=Tryz.sizeOf48
 v37:=Tryz.zeroValue48
 t70:=Tryz.underlying282
 a70:=Tryz.isAgg282
 z70:=Tryz.sizeOf282
 v70:=Tryz.zeroValue282
 t72:=Tryz.underlying284
 a72:=Tryz.isAgg284
 z72:=Tryz.sizeOf284
 v72:=Tryz.zeroValue284
 t75:=Tryz.underlying287
 a75:=Tryz.isAgg287
 z75:=Tryz.sizeOf287
 v75:=Tryz.zeroValue287
 t76:=Tryz.underlying288
 a76:=Tryz.isAgg288
 z76:=Tryz.sizeOf288
 v76:=Tryz.zeroValue288
 t127:=Tryz.underlying308
 a127:=Tryz.isAgg308
 z127:=Tryz.sizeOf308
 v127:=Tryz.zeroValue308
 t164:=Tryz.underlying320
 a164:=Tryz.isAgg320
 z164:=Tryz.sizeOf320
 v164:=Tryz.zeroValue320 }
theorem Tryz.Builder_Extra_156:Builder.Extra Tryz.prog Tryz.lays156_ren:={
 sizeBuilder:=by kernel_rfl
 liesBuilder:=by kernel_rfl
 t5:=Tryz.underlying5
 a5:=Tryz.isAgg5
 z5:=Tryz.sizeOf5
 v5:=Tryz.zeroValue5
 infoByte:=by kernel_rfl
 cellsByte:=by kernel_rfl
 sizeByte:=by kernel_rfl
 neB5:=by decide }
open Go.RowKit in
theorem Tryz.strings_Join_none (a:Option Addr) (c:Nat) (sep:ByteArray) (w:World) :
 Calls Tryz.prog 254 #[.slice a 0 c,.string sep] w fun e w'=>e=.returned (.string ⟨#[]⟩)∧w'=w:=Any.strings_Join_none Tryz.lays156 Tryz.Builder_Extra_156 a c sep w
open Go.RowKit in
theorem Tryz.strings_Join (bk o c:Nat) (xs:List ByteArray) (sep:ByteArray) (w:World) (hcells:∀ (j:Nat) x,xs[j]?=some x→w.cell? ⟨bk,o+j,none⟩=some (.string x)) (hbk:bk < w.heap.size) (hN:xs.length≤140737488355328) (hcap:xs.length≤c) (hlen:(Lib.join (xs.map (·.data.toList)) sep.data.toList).length≤140737488355328) :
 Calls Tryz.prog 254 #[.slice (some ⟨bk,o,none⟩) xs.length c,.string sep] w fun e w'=>e=.returned (.string ⟨(Lib.join (xs.map (·.data.toList)) sep.data.toList).toArray⟩)∧Below w.heap.size w w':=Any.strings_Join Tryz.lays156 Tryz.Builder_Extra_156 bk o c xs sep w hcells hbk hN hcap hlen
def Tryz.lays146_ren:Go.Shelf.Ren:=⟨fun|146=>165|221=>223|268=>270|138=>271|143=>272|195=>293|197=>294|218=>295|219=>296|260=>320|217=>321|225=>322|224=>323|267=>324|266=>335|314=>336|n=>n,fun|9=>9|31=>140|3=>3|4=>4|0=>0|105=>293|21=>21|5=>5|46=>281|119=>325|139=>328|138=>327|146=>329|51=>305|n=>n,fun|1=>0|3=>1|4=>2|n=>n⟩
theorem Tryz.lays146:Go.Proofs.Lays.n146 Tryz.prog Tryz.lays146_ren:={
 mixed:=by kernel_rfl
 f138:=Tryz.func271.trans (congrArg some (by kernel_rfl))
 f143:=Tryz.func272.trans (congrArg some (by kernel_rfl))
 f146:=Tryz.func165.trans (congrArg some (by kernel_rfl))
 f195:=Tryz.func293.trans (congrArg some (by kernel_rfl))
 f197:=Tryz.func294.trans (congrArg some (by kernel_rfl))
 f217:=Tryz.func321.trans (congrArg some (by kernel_rfl))
 f218:=Tryz.func295.trans (congrArg some (by kernel_rfl))
 f219:=Tryz.func296.trans (congrArg some (by kernel_rfl))
 f221:=Tryz.func223.trans (congrArg some (by kernel_rfl))
 f224:=Tryz.func323.trans (congrArg some (by kernel_rfl))
 f225:=Tryz.func322.trans (congrArg some (by kernel_rfl))
 f260:=Tryz.func320.trans (congrArg some (by kernel_rfl))
 f266:=Tryz.func335.trans (congrArg some (by kernel_rfl))
 f267:=Tryz.func324.trans (congrArg some (by kernel_rfl))
 f268:=Tryz.func270.trans (congrArg some (by kernel_rfl))
 f314:=Tryz.func336.trans (congrArg some (by kernel_rfl))
 t0:=Tryz.underlying0
 a0:=Tryz.isAgg0
 z0:=Tryz.sizeOf0
 v0:=Tryz.zeroValue0
 t3:=Tryz.underlying3
 a3:=Tryz.isAgg3
 z3:=Tryz.sizeOf3
 v3:=Tryz.zeroValue3
 t4:=Tryz.underlying4
 a4:=Tryz.isAgg4
 z4:=Tryz.sizeOf4
 v4:=Tryz.zeroValue4
 t5:=Tryz.underlying5
 a5:=Tryz.isAgg5
 z5:=Tryz.sizeOf5
 v5:=Tryz.zeroValue5
 t9:=Tryz.underlying9
 a9:=Tryz.isAgg9
 z9:=Tryz.sizeOf9
 v9:=Tryz.zeroValue9
 t21:=Tryz.underlying21
 a21:=Tryz.isAgg21
 z21:=Tryz.sizeOf21
 v21:=Tryz.zeroValue21
 t31:=Tryz.underlying140
 a31:=Tryz.isAgg140
 z31:=Tryz.sizeOf140
 v31:=Tryz.zeroValue140
 t46:=Tryz.underlying281
 a46:=Tryz.isAgg281
 z46:=Tryz.sizeOf281
 v46:=Tryz.zeroValue281
 t51:=Tryz.underlying305
 a51:=Tryz.isAgg305
 z51:=Tryz.sizeOf305
 v51:=Tryz.zeroValue305
 t105:=Tryz.underlying293
 a105:=Tryz.isAgg293
 z105:=Tryz.sizeOf293
 v105:=Tryz.zeroValue293
 t119:=Tryz.underlying325
 a119:=Tryz.isAgg325
 z119:=Tryz.sizeOf325
 t138:=Tryz.underlying327
 a138:=Tryz.isAgg327
 z138:=Tryz.sizeOf327
 v138:=Tryz.zeroValue327
 t139:=Tryz.underlying328
 a139:=Tryz.isAgg328
 z139:=Tryz.sizeOf328
 v139:=Tryz.zeroValue328
 t146:=Tryz.underlying329
 a146:=Tryz.isAgg329
 z146:=Tryz.sizeOf329
 v146:=Tryz.zeroValue329
 g1:=by kernel_rfl
 g3:=by kernel_rfl
 g4:=by kernel_rfl }
open Go.RowKit Go.Lib in
theorem Tryz.strings_Split (s sep:ByteArray) (m:Int) (w:World) (hs:s.size < 4294967281) (hm:w.cell? ⟨0,0,none⟩=some (.int .i64 m)) (h1:1≤sep.size) :
 Calls Tryz.prog 165 #[.string s,.string sep] w fun e w'=>
  e=.returned (.slice (some ⟨w.heap.size,0,none⟩) (Lib.countB s sep+1) (Lib.countB s sep+1))∧w'=w.alloc (.cells ((Lib.splitB sep 0 (Lib.countB s sep) s).map Value.string).toArray 9):=Any.strings_Split Tryz.lays146 (by kernel_rfl) s sep m w hs hm h1
end Go.Proofs
