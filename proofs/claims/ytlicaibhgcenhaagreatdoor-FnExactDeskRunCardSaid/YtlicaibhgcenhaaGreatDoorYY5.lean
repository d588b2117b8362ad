/- Texts of this claim, set close: lemmas and contracts. -/
import Derived.Test.YtlicaibhgcenhaaGreatDoorYY4
import Derived.Test.YtlicaibhgcenhaaGreatDoorYY3
import Derived.Shelf.Strings.Builder1
import Derived.Shelf.Strings.Builder2
import Derived.Shelf.Strings.OnBuilder
import Derived.Shelf.Small.Bits
import Derived.Shelf.Utf8.RuneCount
import Derived.Shelf.Strconv.Itoa0
import Derived.Shelf.Strings.Search1
import Derived.Shelf.Strings.Search2
import Derived.Shelf.Strings.Search3
import Derived.Shelf.Strings.Count
import Derived.Shelf.LaysM
import Derived.Shelf.Strings.Shaped
import Derived.Shelf.Strings.Prefix
import Derived.Shelf.Strings.Split
import Derived.Shelf.Strings.SplitShaped
import Derived.Shelf.Unicode.DecodeSlow
import Derived.Test.YtlicaibhgcenhaaGreatDoorProg
set_option linter.unusedSimpArgs false
set_option linter.unusedVariables false
set_option maxHeartbeats 1000000
set_option maxRecDepth 10000
namespace Go.Proofs.YtlicaibhgcenhaaGreatDoor
open Go Go.RowKit Go.Ab Go.Par
variable {m:Int}
theorem He (e:Ent) (n:Int) (hn:0≤n∧n≤1048576) (hp:e.path.length≤9223372036854775807) (hd:e.data.length≤9223372036854775807) :
   Con (E m) 158 0 [.agg e.c,.k .i64 n] [] (.k .i64 (yo n e.path.length e.data.length)) []:=by
 refine G0 Tryz.func158 ?_;repeat' first|refine Rw ⟨?_⟩|(refine aB.mk (fun h=>?_) (fun h=>?_) <;> (try simp only [decide_eq_true_eq,decide_eq_false_iff_not,zAJ,zAP,zAS,zAR,zAO,zAE,zAA] at h) <;> conv=>whnf)|refine Rs ⟨?_⟩|fail
 all_goals
  refine Rg ⟨?_⟩
  first|rfl|(simp_all [yo]; done)|(simp [yo] <;> (repeat' split) <;> omega)|(simp only [yo]; repeat' split) <;> first|omega|(simp_all; done)|(simp_all; omega)|(rw [zAI]; simp [*,yo] <;> omega)
theorem kL (e:Ent) (hp:e.path.length≤2147483648) (hd:e.data.length≤2147483648):Con (E m) 181 0 [.agg e.c] [] (.s (b8 e)) []:=by
 refine G0 Tryz.func181 ?_;repeat' first|refine Rw ⟨?_⟩|(refine aB.mk (fun h=>?_) (fun h=>?_) <;> (try simp only [decide_eq_true_eq,decide_eq_false_iff_not,zAJ,zAP,zAS,zAR,zAO,zAE,zAA] at h) <;> conv=>whnf)|refine Rs ⟨?_⟩|fail
 all_goals
  refine Rg ⟨?_⟩
  first|rfl|(simp_all [b8]; done)|(simp [b8] <;> (repeat' split) <;> omega)|(simp only [b8]; repeat' split) <;> first|omega|(simp_all; done)|(simp_all; omega)|(rw [zAI]; simp [*,b8] <;> omega)
theorem kM (e:Ent) (hp:e.path.length≤2147483648) (hd:e.data.length≤2147483648):Con (E m) 151 0 [.agg e.c] [] (.s (b8 e)) []:=by
 refine G0 Tryz.func151 ?_;repeat' first|refine Rw ⟨?_⟩|(refine aB.mk (fun h=>?_) (fun h=>?_) <;> (try simp only [decide_eq_true_eq,decide_eq_false_iff_not,zAJ,zAP,zAS,zAR,zAO,zAE,zAA] at h) <;> conv=>whnf)|refine Rs ⟨?_⟩|fail
 all_goals
  refine Rg ⟨?_⟩
  first|rfl|(simp_all [b8]; done)|(simp [b8] <;> (repeat' split) <;> omega)|(simp only [b8]; repeat' split) <;> first|omega|(simp_all; done)|(simp_all; omega)|(rw [zAI]; simp [*,b8] <;> omega)
theorem tZ (e:Mrk) (hp:e.path.length≤2147483648) (hd:e.data.length≤2147483648):Con (E m) 182 0 [.agg e.c] [] (.s (bX e)) []:=by
 refine G0 Tryz.func182 ?_;repeat' first|refine Rw ⟨?_⟩|(refine aB.mk (fun h=>?_) (fun h=>?_) <;> (try simp only [decide_eq_true_eq,decide_eq_false_iff_not,zAJ,zAP,zAS,zAR,zAO,zAE,zAA] at h) <;> conv=>whnf)|(refine Rc [] 0 rfl rfl (kL ⟨e.path,false,e.data⟩ hp hd) ?_; conv=>whnf)|refine Rs ⟨?_⟩|fail
 all_goals
  refine Rg ⟨?_⟩
  first|rfl|(simp_all [bX]; done)|(simp [bX] <;> (repeat' split) <;> omega)|(simp only [bX]; repeat' split) <;> first|omega|(simp_all; done)|(simp_all; omega)|(rw [zAI]; simp [*,bX] <;> omega)
theorem t7 (e:Mrk) (hp:e.path.length≤2147483648) (hd:e.data.length≤2147483648):Con (E m) 153 0 [.agg e.c] [] (.s (bX e)) []:=by
 refine G0 Tryz.func153 ?_;repeat' first|refine Rw ⟨?_⟩|(refine aB.mk (fun h=>?_) (fun h=>?_) <;> (try simp only [decide_eq_true_eq,decide_eq_false_iff_not,zAJ,zAP,zAS,zAR,zAO,zAE,zAA] at h) <;> conv=>whnf)|(refine Rc [] 0 rfl rfl (kM ⟨e.path,false,e.data⟩ hp hd) ?_; conv=>whnf)|refine Rs ⟨?_⟩|fail
 all_goals
  refine Rg ⟨?_⟩
  first|rfl|(simp_all [bX]; done)|(simp [bX] <;> (repeat' split) <;> omega)|(simp only [bX]; repeat' split) <;> first|omega|(simp_all; done)|(simp_all; omega)|(rw [zAI]; simp [*,bX] <;> omega)
variable {m:Int}
theorem mz {b:UInt8} (h:(b.toNat:Int) < 97∨(b.toNat:Int) > 122):dQ b=false:=by
 unfold dQ;rcases h with h|h
 · have:¬ 97≤b.toNat:=by omega
   simp [this]
 · have:¬ b.toNat≤122:=by omega
   simp [this]
theorem yH {b:UInt8} (h1:¬ (b.toNat:Int) < 97) (h2:¬ (b.toNat:Int) > 122):dQ b=true:=by
 unfold dQ
 have:97≤b.toNat:=by omega
 have:b.toNat≤122:=by omega
 simp [*]
theorem C1 (s:Bs) (hs:s.length≤9223372036854775806):Con (E m) 197 0 [.s s] [] (.b (aU s)) []:=by
 refine G0 Tryz.func197 ?_;repeat' first|refine Rw ⟨?_⟩|(refine aB.mk (fun h=>?_) (fun h=>?_) <;> (try simp only [decide_eq_true_eq,decide_eq_false_iff_not,zAJ,zAP,zAS,zAR,zAO,zAE,zAA] at h) <;> conv=>whnf)|refine Rs ⟨?_⟩|fail
 refine Cd.loop (fun n tm S nx=>∃ i:Nat,i≤s.length∧n=s.length - i∧tm=[(0,.s s),(3,.k .i64 i)]∧S=[]∧nx=0∧(s.take i).all dQ=true) ⟨s.length,?_⟩ ?_
 · refine la [0,3] ?_
   conv=>whnf
   refine ⟨rfl,rfl,0,zAG _,rfl,rfl,rfl,rfl,rfl⟩
 · rintro n tm S nx ⟨i,hi,hn,rfl,rfl,rfl,hp⟩;repeat' first|refine Rw ⟨?_⟩|(refine aB.mk (fun h=>?_) (fun h=>?_) <;> (try simp only [decide_eq_true_eq,decide_eq_false_iff_not,zAJ,zAP,zAS,zAR,zAO,zAE,zAA] at h) <;> conv=>whnf)|refine Rs ⟨?_⟩|fail
   · have hf:s.all dQ=false:=cr (zAB (by omega:i < s.length)) (mz (.inl ‹_›));refine Rg ⟨?_⟩
     first|rfl|(simp_all [aU]; done)|(simp [aU] <;> (repeat' split) <;> omega)|(simp only [aU]; repeat' split) <;> first|omega|(simp_all; done)|(simp_all; omega)|(rw [zAI]; simp [*,aU] <;> omega)
   · have hf:s.all dQ=false:=cr (zAB (by omega:i < s.length)) (mz (.inr ‹_›));refine Rg ⟨?_⟩
     first|rfl|(simp_all [aU]; done)|(simp [aU] <;> (repeat' split) <;> omega)|(simp only [aU]; repeat' split) <;> first|omega|(simp_all; done)|(simp_all; omega)|(rw [zAI]; simp [*,aU] <;> omega)
   · refine .here ⟨n - 1,by omega,?_⟩;refine la [0,3] ?_
     conv=>whnf
     refine ⟨rfl,rfl,i+1,by omega,by omega,rfl,rfl,rfl,bA hp (zAB (by omega:i < s.length)) (yH ‹_› ‹_›)⟩
   all_goals
    have ha:s.all dQ=true:=eC hp (by omega);refine Rg ⟨?_⟩
    first|rfl|(simp_all [aU]; done)|(simp [aU] <;> (repeat' split) <;> omega)|(simp only [aU]; repeat' split) <;> first|omega|(simp_all; done)|(simp_all; omega)|(rw [zAI]; simp [*,aU] <;> omega)
theorem C2 (s:Bs) (hs:s.length≤9223372036854775806):Con (E m) 262 0 [.s s] [] (.b (aU s)) []:=by
 refine G0 Tryz.func262 ?_;repeat' first|refine Rw ⟨?_⟩|(refine aB.mk (fun h=>?_) (fun h=>?_) <;> (try simp only [decide_eq_true_eq,decide_eq_false_iff_not,zAJ,zAP,zAS,zAR,zAO,zAE,zAA] at h) <;> conv=>whnf)|refine Rs ⟨?_⟩|fail
 · refine Rg ⟨?_⟩
   first|rfl|(simp_all [aU]; done)|(simp [aU] <;> (repeat' split) <;> omega)|(simp only [aU]; repeat' split) <;> first|omega|(simp_all; done)|(simp_all; omega)|(rw [zAI]; simp [*,aU] <;> omega)
 · refine Rg ⟨?_⟩
   first|rfl|(simp_all [aU]; done)|(simp [aU] <;> (repeat' split) <;> omega)|(simp only [aU]; repeat' split) <;> first|omega|(simp_all; done)|(simp_all; omega)|(rw [zAI]; simp [*,aU] <;> omega)
 refine Cd.loop (fun n tm S nx=>∃ i:Nat,i≤s.length∧n=s.length - i∧tm=[(0,.s s),(3,.k .i64 i)]∧S=[]∧nx=0∧(s.take i).all dQ=true) ⟨s.length,?_⟩ ?_
 · refine la [0,3] ?_
   conv=>whnf
   refine ⟨rfl,rfl,0,zAG _,rfl,rfl,rfl,rfl,rfl⟩
 · rintro n tm S nx ⟨i,hi,hn,rfl,rfl,rfl,hp⟩;repeat' first|refine Rw ⟨?_⟩|(refine aB.mk (fun h=>?_) (fun h=>?_) <;> (try simp only [decide_eq_true_eq,decide_eq_false_iff_not,zAJ,zAP,zAS,zAR,zAO,zAE,zAA] at h) <;> conv=>whnf)|refine Rs ⟨?_⟩|fail
   · have hf:s.all dQ=false:=cr (zAB (by omega:i < s.length)) (mz (.inl ‹_›));refine Rg ⟨?_⟩
     first|rfl|(simp_all [aU]; done)|(simp [aU] <;> (repeat' split) <;> omega)|(simp only [aU]; repeat' split) <;> first|omega|(simp_all; done)|(simp_all; omega)|(rw [zAI]; simp [*,aU] <;> omega)
   · have hf:s.all dQ=false:=cr (zAB (by omega:i < s.length)) (mz (.inr ‹_›));refine Rg ⟨?_⟩
     first|rfl|(simp_all [aU]; done)|(simp [aU] <;> (repeat' split) <;> omega)|(simp only [aU]; repeat' split) <;> first|omega|(simp_all; done)|(simp_all; omega)|(rw [zAI]; simp [*,aU] <;> omega)
   · refine .here ⟨n - 1,by omega,?_⟩;refine la [0,3] ?_
     conv=>whnf
     refine ⟨rfl,rfl,i+1,by omega,by omega,rfl,rfl,rfl,bA hp (zAB (by omega:i < s.length)) (yH ‹_› ‹_›)⟩
   all_goals
    have ha:s.all dQ=true:=eC hp (by omega);refine Rg ⟨?_⟩
    first|rfl|(simp_all [aU]; done)|(simp [aU] <;> (repeat' split) <;> omega)|(simp only [aU]; repeat' split) <;> first|omega|(simp_all; done)|(simp_all; omega)|(rw [zAI]; simp [*,aU] <;> omega)
theorem sH (s:Bs) (c:UInt8) (hs:s.length≤1073741824):Con (E m) 22 0 [.s s,.k .u8 c.toNat] [] (.own 0) [(0,.own 9 ((cut c s).map fun l=>[.s l]))]:=by
 refine G0 Tryz.func22 ?_;repeat' first|refine Rw ⟨?_⟩|(refine aB.mk (fun h=>?_) (fun h=>?_) <;> (try simp only [decide_eq_true_eq,decide_eq_false_iff_not,zAJ,zAP,zAS,zAR,zAO,zAE,zAA] at h) <;> conv=>whnf)|refine Rs ⟨?_⟩|fail
 refine Cd.loop (fun n tm S nx=>∃ (i fr:Nat) (done:List Bs),n=s.length+1 - i∧tm=[(0,.s s),(1,.k .u8 c.toNat),(5,.own 0),(6,.k .i64 fr),(7,.k .i64 i)]∧S=[(0,.own 9 (done.map fun l=>[.s l]))]∧nx=1∧gc s c i fr done) ⟨s.length+1,?_⟩ ?_
 · refine la [0,1,5,6,7] ?_
   conv=>whnf
   refine ⟨rfl,rfl,0,0,[],rfl,rfl,rfl,rfl,wV s c⟩
 · rintro n tm S nx ⟨i,fr,done,hn,rfl,rfl,rfl,hp⟩;have hd:=hp.len;have hfi:=hp.le;repeat' first|refine Rw ⟨?_⟩|(refine aB.mk (fun h=>?_) (fun h=>?_) <;> (try simp only [decide_eq_true_eq,decide_eq_false_iff_not,zAJ,zAP,zAS,zAR,zAO,zAE,zAA] at h) <;> conv=>whnf)|refine Rs ⟨?_⟩|fail
   · obtain rfl:i=s.length:=by omega
     refine .here ⟨n - 1,by omega,?_⟩;refine la [0,1,5,6,7] ?_
     conv=>whnf
     refine ⟨rfl,rfl,s.length+1,s.length+1,done++[(s.take s.length).drop fr],by omega,rfl,by rw [zAK]; rfl,rfl,hp.last⟩
   · have hb:s[i]=c:=UInt8.toNat_inj.1 (by omega);refine .here ⟨n - 1,by omega,?_⟩;refine la [0,1,5,6,7] ?_
     conv=>whnf
     refine ⟨rfl,rfl,i+1,i+1,done++[(s.take i).drop fr],by omega,rfl,by rw [zAK]; rfl,rfl,hp.hit (by omega) (by rw [zAB (by omega),hb])⟩
   · have hb:s[i]≠c:=fun e=>‹¬((s[i].toNat:Int)=c.toNat)› (by rw [e]);refine .here ⟨n - 1,by omega,?_⟩;refine la [0,1,5,6,7] ?_
     conv=>whnf
     refine ⟨rfl,rfl,i+1,fr,done,by omega,rfl,rfl,rfl,hp.miss (by omega) (by rw [zAB (by omega)]; exact fun e=>hb (zAY e))⟩
   · have he:=hp.all (by omega)
     first|refine ai.here (fa ?_)|refine fa ?_
     conv=>whnf
     first|exact ⟨rfl,rfl,rfl,rfl⟩|refine ⟨rfl,rfl,congrArg some (congrArg D.s ?_),rfl⟩|refine ⟨rfl,rfl,congrArg some (congrArg D.b ?_),rfl⟩|refine ⟨rfl,rfl,congrArg some (congrArg (D.k _) ?_),rfl⟩|refine ⟨rfl,rfl,congrArg some (congrArg D.agg ?_),rfl⟩|refine ⟨rfl,rfl,rfl,?_⟩
     rw [he];rfl
theorem AB (s:Bs) (hs:s.length≤1073741824):Con (E m) 196 0 [.s s] [] (.own 0) [(0,.own 9 ((bz s).map fun l=>[.s l]))]:=by
 match s,hs with
 | [],hs=>
   refine G0 Tryz.func196 ?_;repeat' first|refine Rw ⟨?_⟩|(refine aB.mk (fun h=>?_) (fun h=>?_) <;> (try simp only [decide_eq_true_eq,decide_eq_false_iff_not,zAJ,zAP,zAS,zAR,zAO,zAE,zAA] at h) <;> conv=>whnf)|refine Rs ⟨?_⟩|fail
   · refine Rg ⟨?_⟩
     first|rfl|(simp_all [bz]; done)|(simp [bz] <;> (repeat' split) <;> omega)|(simp only [bz]; repeat' split) <;> first|omega|(simp_all; done)|(simp_all; omega)|(rw [zAI]; simp [*,bz] <;> omega)
   · exact absurd (by decide:((([]:Bs).length:Int) < 2)) ‹_›
 | x :: r,hs=>
   refine G0 Tryz.func196 ?_;have hs':(((x :: r).take (x :: r).length).drop 1).length≤1073741824:=by simp at hs ⊢; omega
   have hc:=sH (m:=m) (((x :: r).take (x :: r).length).drop 1) 47 hs';rw [show cut 47 (((x :: r).take (x :: r).length).drop 1)=cut 47 r by rw [zAN]; rfl] at hc
   repeat' first|refine Rw ⟨?_⟩|(refine aB.mk (fun h=>?_) (fun h=>?_) <;> (try simp only [decide_eq_true_eq,decide_eq_false_iff_not,zAJ,zAP,zAS,zAR,zAO,zAE,zAA] at h) <;> conv=>whnf)|(refine Rc [] 1 rfl rfl (hc) ?_; conv=>whnf)|refine Rs ⟨?_⟩|fail
   · have hr:r=[]:=by
       have h:((x :: r).length:Int) < 2:=‹_›;simp only [List.length_cons] at h;exact List.eq_nil_of_length_eq_zero (by omega)
     have hn:bz (x :: r)=[]:=by simp [bz,hr]
     rw [hn];exact Rf
   · have hx:x≠47:=fun e=>‹¬((x.toNat:Int)=47)› (by rw [e]; rfl);have hn:bz (x :: r)=[]:=by simp [bz,hx]
     rw [hn];exact Rf
   · have hx:x=47:=UInt8.toNat_inj.1 (by have h:(x.toNat:Int)=47:=‹_›; exact Int.ofNat_inj.1 h);have hr:r≠[]:=by
      rintro rfl;have h:¬ (([x]:Bs).length:Int) < 2:=‹_›;simp at h
     have hn:bz (x :: r)=cut 47 r:=by simp [bz,hx,hr]
     rw [hn];exact Rf
theorem cc (s:Bs) (hs:s.length≤1073741824):Con (E m) 131 0 [.s s] [] (.b (ac s)) []:=by
 have hl:=CY s;have hp:=qu s;refine G0 Tryz.func131 ?_;repeat' first|refine Rw ⟨?_⟩|(refine aB.mk (fun h=>?_) (fun h=>?_) <;> (try simp only [decide_eq_true_eq,decide_eq_false_iff_not,zAJ,zAP,zAS,zAR,zAO,zAE,zAA] at h) <;> conv=>whnf)|(refine Rc [] 1 rfl rfl (AB s hs) ?_; conv=>whnf)|refine Rs ⟨?_⟩|fail
 · refine Rg ⟨?_⟩
   first|rfl|(simp_all [ac]; done)|(simp [ac] <;> (repeat' split) <;> omega)|(simp only [ac]; repeat' split) <;> first|omega|(simp_all; done)|(simp_all; omega)|(rw [zAI]; simp [*,ac] <;> omega)
 · refine Cd.loop (fun n tm S nx=>∃ i:Nat,i≤(bz s).length∧n=(bz s).length - i∧tm=[(0,.s s),(3,.own 0),(4,.k .i64 i)]∧S=[(0,.own 9 ((bz s).map fun l=>[.s l]))]∧nx=1∧((bz s).take i).all aU=true) ⟨(bz s).length,?_⟩ ?_
   · refine la [0,3,4] ?_
     conv=>whnf
     refine ⟨rfl,rfl,0,zAG _,rfl,rfl,rfl,rfl,rfl⟩
   · rintro n tm S nx ⟨i,hi,hn,rfl,rfl,rfl,ha⟩;repeat' first|refine Rw ⟨?_⟩|(refine aB.mk (fun h=>?_) (fun h=>?_) <;> (try simp only [decide_eq_true_eq,decide_eq_false_iff_not,zAJ,zAP,zAS,zAR,zAO,zAE,zAA] at h) <;> conv=>whnf)|(refine Rc [] 0 rfl rfl (C1 _ (by have:=hp _ (zAb (by omega:i < (bz s).length)); omega)) ?_; conv=>whnf)|refine Rs ⟨?_⟩|fail
     · have hf:(bz s).all aU=false:=cr (zAB (by omega:i < (bz s).length)) ‹_›;refine Rg ⟨?_⟩
       first|rfl|(simp_all [ac]; done)|(simp [ac] <;> (repeat' split) <;> omega)|(simp only [ac]; repeat' split) <;> first|omega|(simp_all; done)|(simp_all; omega)|(rw [zAI]; simp [*,ac] <;> omega)
     · refine .here ⟨n - 1,by omega,?_⟩;refine la [0,3,4] ?_
       conv=>whnf
       refine ⟨rfl,rfl,i+1,by omega,by omega,rfl,rfl,rfl,bA ha (zAB (by omega:i < (bz s).length)) ‹_›⟩
     all_goals
      have hf:(bz s).all aU=true:=eC ha (by omega);refine Rg ⟨?_⟩
      first|rfl|(simp_all [ac]; done)|(simp [ac] <;> (repeat' split) <;> omega)|(simp only [ac]; repeat' split) <;> first|omega|(simp_all; done)|(simp_all; omega)|(rw [zAI]; simp [*,ac] <;> omega)
theorem sI (s:Bs) (h1:1≤s.length) (hs:s.length≤1073741824):Con (E m) 255 0 [.s s] [] (.k .i64 (iu s)) []:=by
 refine G0 Tryz.func255 ?_;repeat' first|refine Rw ⟨?_⟩|(refine aB.mk (fun h=>?_) (fun h=>?_) <;> (try simp only [decide_eq_true_eq,decide_eq_false_iff_not,zAJ,zAP,zAS,zAR,zAO,zAE,zAA] at h) <;> conv=>whnf)|refine Rs ⟨?_⟩|fail
 refine Cd.loop (fun n tm S nx=>∃ (k:Nat) (j:Int),j=k∧k+1≤s.length∧n=k∧tm=[(0,.s s),(3,.k .i64 j)]∧S=[]∧nx=0∧iu s=gb s k) ⟨s.length - 1,?_⟩ ?_
 · refine la [0,3] ?_
   conv=>whnf
   refine ⟨rfl,rfl,s.length - 1,(s.length:Int) - 1,by omega,by omega,rfl,rfl,rfl,rfl,rfl⟩
 · rintro n tm S nx ⟨k,j,rfl,hk,hn,rfl,rfl,rfl,ha⟩;repeat' first|refine Rw ⟨?_⟩|(refine aB.mk (fun h=>?_) (fun h=>?_) <;> (try simp only [decide_eq_true_eq,decide_eq_false_iff_not,zAJ,zAP,zAS,zAR,zAO,zAE,zAA] at h) <;> conv=>whnf)|refine Rs ⟨?_⟩|fail
   · obtain ⟨k,rfl⟩:∃ q,k=q+1:=⟨k - 1,by omega⟩;have hb:s[k+1]≠47:=fun e=>‹¬((s[k+1].toNat:Int)=47)› (by rw [e]; rfl);refine .here ⟨n - 1,by omega,?_⟩;refine la [0,3] ?_
     conv=>whnf
     refine ⟨rfl,rfl,k,((k+1:Nat):Int) - 1,by omega,by omega,by omega,rfl,rfl,rfl,?_⟩;rw [ha,gb,if_neg (by rw [zAB (by omega)]; exact fun e=>hb (zAY e))]
   · obtain ⟨k,rfl⟩:∃ q,k=q+1:=⟨k - 1,by omega⟩;have hb:s[k+1]=47:=UInt8.toNat_inj.1 (by have h:(s[k+1].toNat:Int)=47:=‹_›; exact Int.ofNat_inj.1 h);have h2:s[k+1]?=some 47:=(zAB (by omega)).trans (congrArg some hb);have he:iu s=k+1:=by rw [ha,gb,if_pos h2]
     rw [he];exact Rf
   · have h0:k=0:=by omega
     subst h0;have he:iu s=0:=ha;rw [he];exact Rf
theorem mA (s:Bs) (hs:s.length≤1073741824):Con (E m) 195 0 [.s s] [] (.s (ae s)) []:=by
 have h1:=cc (m:=m) s hs;have hl:=yv s;cases hok:ac s with
 | false=>
   rw [hok] at h1;refine G0 Tryz.func195 ?_;repeat' first|refine Rw ⟨?_⟩|(refine aB.mk (fun h=>?_) (fun h=>?_) <;> (try simp only [decide_eq_true_eq,decide_eq_false_iff_not,zAJ,zAP,zAS,zAR,zAO,zAE,zAA] at h) <;> conv=>whnf)|(refine Rc [] 0 rfl rfl (h1) ?_; conv=>whnf)|refine Rs ⟨?_⟩|fail
   refine Rg ⟨?_⟩
   first|rfl|(simp_all [ae]; done)|(simp [ae] <;> (repeat' split) <;> omega)|(simp only [ae]; repeat' split) <;> first|omega|(simp_all; done)|(simp_all; omega)|(rw [zAI]; simp [*,ae] <;> omega)
 | true=>
   rw [hok] at h1;have hp:=aC hok;refine G0 Tryz.func195 ?_;repeat' first|refine Rw ⟨?_⟩|(refine aB.mk (fun h=>?_) (fun h=>?_) <;> (try simp only [decide_eq_true_eq,decide_eq_false_iff_not,zAJ,zAP,zAS,zAR,zAO,zAE,zAA] at h) <;> conv=>whnf)|(refine Rc [] 0 rfl rfl (h1) ?_; conv=>whnf)|(refine Rc [] 0 rfl rfl (sI s hp.1 hs) ?_; conv=>whnf)|refine Rs ⟨?_⟩|fail
   · have h0:iu s=0:=by omega
     refine Rg ⟨?_⟩
     first|rfl|(simp_all [ae]; done)|(simp [ae] <;> (repeat' split) <;> omega)|(simp only [ae]; repeat' split) <;> first|omega|(simp_all; done)|(simp_all; omega)|(rw [zAI]; simp [*,ae] <;> omega)
   · have h0:iu s≠0:=by omega
     refine Rg ⟨?_⟩
     first|rfl|(simp_all [ae]; done)|(simp [ae] <;> (repeat' split) <;> omega)|(simp only [ae]; repeat' split) <;> first|omega|(simp_all; done)|(simp_all; omega)|(rw [zAI]; simp [*,ae] <;> omega)
theorem pJ (s:Bs) (hs:s.length≤1073741824):Con (E m) 186 0 [.s s] [] (.b (cy s)) []:=by
 refine G0 Tryz.func186 ?_;repeat' first|refine Rw ⟨?_⟩|(refine aB.mk (fun h=>?_) (fun h=>?_) <;> (try simp only [decide_eq_true_eq,decide_eq_false_iff_not,zAJ,zAP,zAS,zAR,zAO,zAE,zAA] at h) <;> conv=>whnf)|refine Rs ⟨?_⟩|fail
 refine Cd.loop (fun n tm S nx=>∃ i:Nat,i≤s.length∧n=s.length - i∧tm=[(0,.s s),(3,.k .i64 i)]∧S=[]∧nx=0∧(s.take i).all (fun b=>dQ b || dR b)=true) ⟨s.length,?_⟩ ?_
 · refine la [0,3] ?_
   conv=>whnf
   refine ⟨rfl,rfl,0,zAG _,rfl,rfl,rfl,rfl,rfl⟩
 · rintro n tm S nx ⟨i,hi,hn,rfl,rfl,rfl,ha⟩;repeat' first|refine Rw ⟨?_⟩|(refine aB.mk (fun h=>?_) (fun h=>?_) <;> (try simp only [decide_eq_true_eq,decide_eq_false_iff_not,zAJ,zAP,zAS,zAR,zAO,zAE,zAA] at h) <;> conv=>whnf)|refine Rs ⟨?_⟩|fail
   all_goals first
    | (have hf:s.all (fun b=>dQ b || dR b)=false:=cr (zAB (by omega:i < s.length)) (yu (by omega))
       (first|refine ai.here (fa ?_)|refine fa ?_)
       conv=>whnf
       refine ⟨rfl,rfl,congrArg some (congrArg D.b ?_),rfl⟩
       first|(simp_all [cy]; done)|(rw [zAI]; simp [*,cy] <;> omega))
    | (refine .here ⟨n - 1,by omega,?_⟩
       refine la [0,3] ?_
       conv=>whnf
       refine ⟨rfl,rfl,i+1,by omega,by omega,rfl,rfl,rfl,bA ha (zAB (by omega:i < s.length)) (B1 (by omega))⟩)
    | (have hf:s.all (fun b=>dQ b || dR b)=true:=eC ha (by omega)
       (first|refine ai.here (fa ?_)|refine fa ?_)
       conv=>whnf
       refine ⟨rfl,rfl,congrArg some (congrArg D.b ?_),rfl⟩
       first|(simp_all [cy]; done)|(rw [zAI]; simp [*,cy] <;> omega))
theorem vp (t:List Ent) (p:Bs) (ht:t.length≤1073741824):Con (E m) 198 0 [.sl (t.map Ent.c),.s p] [] (.k .i64 (ox t p)) []:=by
 refine G0 Tryz.func198 ?_;repeat' first|refine Rw ⟨?_⟩|(refine aB.mk (fun h=>?_) (fun h=>?_) <;> (try simp only [decide_eq_true_eq,decide_eq_false_iff_not,zAJ,zAP,zAS,zAR,zAO,zAE,zAA] at h) <;> conv=>whnf)|refine Rs ⟨?_⟩|fail
 refine Cd.loop (fun n tm S nx=>∃ i:Nat,i≤t.length∧n=t.length - i∧tm=[(0,.sl (t.map Ent.c)),(1,.s p),(5,.k .i64 i)]∧S=[]∧nx=0∧∀ k e,k < i→t[k]?=some e→e.path≠p) ⟨t.length,?_⟩ ?_
 · refine la [0,1,5] ?_
   conv=>whnf
   refine ⟨rfl,rfl,0,zAG _,rfl,rfl,rfl,rfl,fun k e h=>absurd h (Nat.not_lt_zero _)⟩
 · rintro n tm S nx ⟨i,hi,hn,rfl,rfl,rfl,ha⟩;repeat' first|refine Rw ⟨?_⟩|(refine aB.mk (fun h=>?_) (fun h=>?_) <;> (try simp only [decide_eq_true_eq,decide_eq_false_iff_not,zAJ,zAP,zAS,zAR,zAO,zAE,zAA] at h) <;> conv=>whnf)|refine Rs ⟨?_⟩|fail
   · have he:ox t p=i:=oy (zAB (by omega)) ‹_› ha;rw [he];exact Rf
   · refine .here ⟨n - 1,by omega,?_⟩;refine la [0,1,5] ?_
     conv=>whnf
     refine ⟨rfl,rfl,i+1,by omega,by omega,rfl,rfl,rfl,fun k e h1 h2=>?_⟩;by_cases hk:k=i
     · subst hk;rw [zAB (by omega)] at h2;cases h2;assumption
     · exact ha k e (by omega) h2
   · have he:ox t p=-1:=np fun k e h=>ha k e (by have:=(List.getElem?_eq_some_iff.1 h).1; omega) h;rw [he];exact Rf
theorem yI (t:List Ent) (p:Bs) (ht:t.length≤1073741824):Con (E m) 194 0 [.sl (t.map Ent.c),.s p] [] (.b (fv t p)) []:=by
 have h1:=vp (m:=m) t p ht;rcases oz t p with ⟨i,hx,hi,he⟩|⟨hx,he⟩
 · rw [hx] at h1;refine G0 Tryz.func194 ?_;repeat' first|refine Rw ⟨?_⟩|(refine aB.mk (fun h=>?_) (fun h=>?_) <;> (try simp only [decide_eq_true_eq,decide_eq_false_iff_not,zAJ,zAP,zAS,zAR,zAO,zAE,zAA] at h) <;> conv=>whnf)|(refine Rc [] 0 rfl rfl (h1) ?_; conv=>whnf)|refine Rs ⟨?_⟩|fail
   · refine Rg ⟨?_⟩
     first|rfl|(simp_all [fv]; done)|(simp [fv] <;> (repeat' split) <;> omega)|(simp only [fv]; repeat' split) <;> first|omega|(simp_all; done)|(simp_all; omega)|(rw [zAI]; simp [*,fv] <;> omega)
   · have hd:fv t p=t[i].dir:=by
       unfold fv;rw [he];simp [ef,‹¬p=[47]›]
     rw [hd];exact Rf
   all_goals exact absurd (Int.natCast_nonneg i) ‹_›
 · rw [hx] at h1;refine G0 Tryz.func194 ?_;repeat' first|refine Rw ⟨?_⟩|(refine aB.mk (fun h=>?_) (fun h=>?_) <;> (try simp only [decide_eq_true_eq,decide_eq_false_iff_not,zAJ,zAP,zAS,zAR,zAO,zAE,zAA] at h) <;> conv=>whnf)|(refine Rc [] 0 rfl rfl (h1) ?_; conv=>whnf)|refine Rs ⟨?_⟩|fail
   · refine Rg ⟨?_⟩
     first|rfl|(simp_all [fv]; done)|(simp [fv] <;> (repeat' split) <;> omega)|(simp only [fv]; repeat' split) <;> first|omega|(simp_all; done)|(simp_all; omega)|(rw [zAI]; simp [*,fv] <;> omega)
   all_goals first
    | exact absurd (by decide:¬ ((-1:Int) ≥ 0)) (not_not_intro ‹_›)
    | (have hd:fv t p=false:=by
         unfold fv;rw [he];simp [ef,‹¬p=[47]›]
       rw [hd]
       (first|refine ai.here (fa ?_)|refine fa ?_)
       conv=>whnf
       refine ⟨rfl,rfl,congrArg some (congrArg D.b ?_),rfl⟩
       first|(simp_all [fv]; done)|(rw [zAI]; simp [*,fv] <;> omega))
theorem jm (t:List Ent) (hb:∀ e∈t,e.path.length≤1073741824∧e.data.length≤1073741824):Con (E m) 130 0 [.sl (t.map Ent.c)] [] (.b (af t)) []:=by
 refine G0 Tryz.func130 ?_;repeat' first|refine Rw ⟨?_⟩|(refine aB.mk (fun h=>?_) (fun h=>?_) <;> (try simp only [decide_eq_true_eq,decide_eq_false_iff_not,zAJ,zAP,zAS,zAR,zAO,zAE,zAA] at h) <;> conv=>whnf)|refine Rs ⟨?_⟩|fail
 · have hf:af t=false:=by
     have:¬ t.length≤16:=by omega
     simp [af,this]
   rw [hf];exact Rf
 refine Cd.loop (fun n tm S nx=>∃ i:Nat,i≤t.length∧n=t.length - i∧tm=[(0,.sl (t.map Ent.c)),(3,.k .i64 i)]∧S=[]∧nx=0∧∀ k,k < i→okS t k=true) ⟨t.length,?_⟩ ?_
 · refine la [0,3] ?_
   conv=>whnf
   refine ⟨rfl,rfl,0,zAG _,rfl,rfl,rfl,rfl,fun k h=>absurd h (Nat.not_lt_zero _)⟩
 · rintro n tm S nx ⟨i,hi,hn,rfl,rfl,rfl,ha⟩;by_cases hlt:i < t.length
   · have hq:=hb t[i] (zAb hlt);have h1:=cc (m:=m) t[i].path hq.1;have h2:=pJ (m:=m) t[i].data hq.2;have h3:=mA (m:=m) t[i].path hq.1;have h4:=yI (m:=m) (t.take i) (ae t[i].path) (by rw [zAW]; omega);rw [zBU] at h4;repeat' first|refine Rw ⟨?_⟩|(refine aB.mk (fun h=>?_) (fun h=>?_) <;> (try simp only [decide_eq_true_eq,decide_eq_false_iff_not,zAJ,zAP,zAS,zAR,zAO,zAE,zAA] at h) <;> conv=>whnf)|(refine Rc [] 0 rfl rfl (h1) ?_; conv=>whnf)|(refine Rc [] 0 rfl rfl (h2) ?_; conv=>whnf)|(refine Rc [] 0 rfl rfl (h3) ?_; conv=>whnf)|(refine Rc [] 0 rfl rfl (h4) ?_; conv=>whnf)|(refine ⟨i - 1,_,by omega,eY (by omega),rfl,?_⟩; conv=>whnf)|refine Rs ⟨?_⟩|fail
     all_goals first
      | (have hf:okS t i=false:=by
           clear h1 h2 h3 h4 hb ha hn;rw [Aw hlt];simp_all [ew,lt]
         have hg:=oA hlt hf;rw [hg];refine ai.here (fa ?_)
         conv=>whnf
         exact ⟨rfl,rfl,rfl,rfl⟩)
      | (have hf:okS t i=true:=by
           clear h1 h2 h3 h4 hb ha hn;rw [Aw hlt];simp_all [ew,lt]
         refine .here ⟨n - 1,by omega,?_⟩;refine la [0,3] ?_
         conv=>whnf
         refine ⟨rfl,rfl,i+1,by omega,by omega,rfl,rfl,rfl,fun k hk=>?_⟩;by_cases hki:k=i
         · rw [hki]; exact hf
         · exact ha k (by omega))
      | (have hf:okS t i=false:=by
           have hbl:lt (t[i - 1]'(by omega)).path t[i].path=false:=‹Op.bytesLess (t[i - 1]'(by omega)).path t[i].path=false›;rw [Aw hlt,if_pos (by omega:0 < i),hbl]
           simp
         have hg:=oA hlt hf;rw [hg];refine ai.here (fa ?_)
         conv=>whnf
         exact ⟨rfl,rfl,rfl,rfl⟩)
      | exact absurd hlt (by omega)
   · repeat' first|refine Rw ⟨?_⟩|(refine aB.mk (fun h=>?_) (fun h=>?_) <;> (try simp only [decide_eq_true_eq,decide_eq_false_iff_not,zAJ,zAP,zAS,zAR,zAO,zAE,zAA] at h) <;> conv=>whnf)|refine Rs ⟨?_⟩|fail
     · exact absurd hlt (by omega)
     · have hf:af t=true:=yw (by omega) fun k hk=>ha k (by omega);rw [hf];exact Rf
end Go.Proofs.YtlicaibhgcenhaaGreatDoor
namespace Go.Proofs
open Go.Shelf
def Tryz.lays156_ren:Go.Shelf.Ren:=⟨fun|156=>301|165=>323|166=>324|169=>325|240=>336|241=>337|276=>349|277=>350|n=>n,fun|31=>63|9=>9|3=>3|4=>4|0=>0|20=>20|72=>311|76=>315|70=>309|37=>24|75=>314|127=>328|164=>337|5=>5|80=>317|n=>n,fun|n=>n⟩
theorem Tryz.lays156:Go.Proofs.Lays.n156 Tryz.prog Tryz.lays156_ren:={
 mixed:=by kernel_rfl
 f156:=Tryz.func301.trans (congrArg some (by kernel_rfl))
 f165:=Tryz.func323.trans (congrArg some (by kernel_rfl))
 f166:=Tryz.func324.trans (congrArg some (by kernel_rfl))
 f169:=Tryz.func325.trans (congrArg some (by kernel_rfl))
 f240:=Tryz.func336.trans (congrArg some (by kernel_rfl))
 f241:=Tryz.func337.trans (congrArg some (by kernel_rfl))
 f276:=Tryz.func349.trans (congrArg some (by kernel_rfl))
 f277:=Tryz.func350.trans (congrArg some (by kernel_rfl))
 t0:=Tryz.underlying0
 a0:=Tryz.isAgg0
 z0:=Tryz.sizeOf0
 v0:=Tryz.zeroValue0
 t3:=Tryz.underlying3
 a3:=Tryz.isAgg3
 z3:=Tryz.sizeOf3
 v3:=Tryz.zeroValue3
 t4:=Tryz.underlying4
 a4:=Tryz.isAgg4
 z4:=Tryz.sizeOf4
 v4:=Tryz.zeroValue4
 t9:=Tryz.underlying9
 a9:=Tryz.isAgg9
 z9:=Tryz.sizeOf9
 v9:=Tryz.zeroValue9
 t20:=Tryz.underlying20
 a20:=Tryz.isAgg20
 z20:=Tryz.sizeOf20
 v20:=Tryz.zeroValue20
 t31:=Tryz.underlying63
 a31:=Tryz.isAgg63
 z31:=Tryz.sizeOf63
 v31:=Tryz.zeroValue63
 t37:=Tryz.underlying24
 a37:=Tryz.isAgg24
 z37:=Tryz.sizeOf24
 v37:=Tryz.zeroValue24
 t70:=Tryz.underlying309
 a70:=Tryz.isAgg309
 z70:=Tryz.sizeOf309
 v70:=Tryz.zeroValue309
 t72:=Tryz.underlying311
 a72:=Tryz.isAgg311
 z72:=Tryz.sizeOf311
 v72:=Tryz.zeroValue311
 t75:=Tryz.underlying314
 a75:=Tryz.isAgg314
 z75:=Tryz.sizeOf314
 v75:=Tryz.zeroValue314
 t76:=Tryz.underlying315
 a76:=Tryz.isAgg315
 z76:=Tryz.sizeOf315
 v76:=Tryz.zeroValue315
 t127:=Tryz.underlying328
 a127:=Tryz.isAgg328
 z127:=Tryz.sizeOf328
 v127:=Tryz.zeroValue328
 t164:=Tryz.underlying337
 a164:=Tryz.isAgg337
 z164:=Tryz.sizeOf337
 v164:=Tryz.zeroValue337 }
theorem Tryz.Builder_Extra_156:Builder.Extra Tryz.prog Tryz.lays156_ren:={
 sizeBuilder:=by kernel_rfl
 liesBuilder:=by kernel_rfl
 t5:=Tryz.underlying5
 a5:=Tryz.isAgg5
 z5:=Tryz.sizeOf5
 v5:=Tryz.zeroValue5
 infoByte:=by kernel_rfl
 cellsByte:=by kernel_rfl
 sizeByte:=by kernel_rfl
 neB5:=by decide }
open Go.RowKit in
theorem Tryz.strings_Join_none (a:Option Addr) (c:Nat) (sep:ByteArray) (w:World) :
 Calls Tryz.prog 301 #[.slice a 0 c,.string sep] w fun e w'=>e=.returned (.string ⟨#[]⟩)∧w'=w:=Any.strings_Join_none Tryz.lays156 Tryz.Builder_Extra_156 a c sep w
open Go.RowKit in
theorem Tryz.strings_Join (bk o c:Nat) (xs:List ByteArray) (sep:ByteArray) (w:World) (hcells:∀ (j:Nat) x,xs[j]?=some x→w.cell? ⟨bk,o+j,none⟩=some (.string x)) (hbk:bk < w.heap.size) (hN:xs.length≤140737488355328) (hcap:xs.length≤c) (hlen:(Lib.join (xs.map (·.data.toList)) sep.data.toList).length≤140737488355328) :
 Calls Tryz.prog 301 #[.slice (some ⟨bk,o,none⟩) xs.length c,.string sep] w fun e w'=>e=.returned (.string ⟨(Lib.join (xs.map (·.data.toList)) sep.data.toList).toArray⟩)∧Below w.heap.size w w':=Any.strings_Join Tryz.lays156 Tryz.Builder_Extra_156 bk o c xs sep w hcells hbk hN hcap hlen
def Tryz.lays221_ren:Go.Shelf.Ren:=⟨fun|221=>72|268=>137|138=>138|143=>139|195=>201|197=>202|218=>203|219=>204|260=>256|217=>257|225=>258|224=>259|267=>260|266=>298|314=>299|n=>n,fun|9=>9|3=>3|31=>63|4=>4|0=>0|105=>232|21=>21|5=>5|46=>263|119=>284|139=>287|138=>286|146=>289|51=>288|n=>n,fun|1=>1|3=>2|4=>3|n=>n⟩
def Tryz.lays146_ren:Go.Shelf.Ren:=⟨fun|146=>26|221=>72|268=>137|138=>138|143=>139|195=>201|197=>202|218=>203|219=>204|260=>256|217=>257|225=>258|224=>259|267=>260|266=>298|314=>299|n=>n,fun|9=>9|31=>63|3=>3|4=>4|0=>0|105=>232|21=>21|5=>5|46=>263|119=>284|139=>287|138=>286|146=>289|51=>288|n=>n,fun|1=>1|3=>2|4=>3|n=>n⟩
theorem Tryz.lays146:Go.Proofs.Lays.n146 Tryz.prog Tryz.lays146_ren:={
 mixed:=by kernel_rfl
 f138:=Tryz.func138.trans (congrArg some (by kernel_rfl))
 f143:=Tryz.func139.trans (congrArg some (by kernel_rfl))
 f146:=Tryz.func26.trans (congrArg some (by kernel_rfl))
 f195:=Tryz.func201.trans (congrArg some (by kernel_rfl))
 f197:=Tryz.func202.trans (congrArg some (by kernel_rfl))
 f217:=Tryz.func257.trans (congrArg some (by kernel_rfl))
 f218:=Tryz.func203.trans (congrArg some (by kernel_rfl))
 f219:=Tryz.func204.trans (congrArg some (by kernel_rfl))
 f221:=Tryz.func72.trans (congrArg some (by kernel_rfl))
 f224:=Tryz.func259.trans (congrArg some (by kernel_rfl))
 f225:=Tryz.func258.trans (congrArg some (by kernel_rfl))
 f260:=Tryz.func256.trans (congrArg some (by kernel_rfl))
 f266:=Tryz.func298.trans (congrArg some (by kernel_rfl))
 f267:=Tryz.func260.trans (congrArg some (by kernel_rfl))
 f268:=Tryz.func137.trans (congrArg some (by kernel_rfl))
 f314:=Tryz.func299.trans (congrArg some (by kernel_rfl))
 t0:=Tryz.underlying0
 a0:=Tryz.isAgg0
 z0:=Tryz.sizeOf0
 v0:=Tryz.zeroValue0
 t3:=Tryz.underlying3
 a3:=Tryz.isAgg3
 z3:=Tryz.sizeOf3
 v3:=Tryz.zeroValue3
 t4:=Tryz.underlying4
 a4:=Tryz.isAgg4
 z4:=Tryz.sizeOf4
 v4:=Tryz.zeroValue4
 t5:=Tryz.underlying5
 a5:=Tryz.isAgg5
 z5:=Tryz.sizeOf5
 v5:=Tryz.zeroValue5
 t9:=Tryz.underlying9
 a9:=Tryz.isAgg9
 z9:=Tryz.sizeOf9
 v9:=Tryz.zeroValue9
 t21:=Tryz.underlying21
 a21:=Tryz.isAgg21
 z21:=Tryz.sizeOf21
 v21:=Tryz.zeroValue21
 t31:=Tryz.underlying63
 a31:=Tryz.isAgg63
 z31:=Tryz.sizeOf63
 v31:=Tryz.zeroValue63
 t46:=Tryz.underlying263
 a46:=Tryz.isAgg263
 z46:=Tryz.sizeOf263
 v46:=Tryz.zeroValue263
 t51:=Tryz.underlying288
 a51:=Tryz.isAgg288
 z51:=Tryz.sizeOf288
 v51:=Tryz.zeroValue288
 t105:=Tryz.underlying232
 a105:=Tryz.isAgg232
 z105:=Tryz.sizeOf232
 v105:=Tryz.zeroValue232
 t119:=Tryz.underlying284
 a119:=Tryz.isAgg284
 z119:=Tryz.sizeOf284
 t138:=Tryz.underlying286
 a138:=Tryz.isAgg286
 z138:=Tryz.sizeOf286
 v138:=Tryz.zeroValue286
 t139:=Tryz.underlying287
 a139:=Tryz.isAgg287
 z139:=Tryz.sizeOf287
 v139:=Tryz.zeroValue287
 t146:=Tryz.underlying289
 a146:=Tryz.isAgg289
 z146:=Tryz.sizeOf289
 v146:=Tryz.zeroValue289
 g1:=by kernel_rfl
 g3:=by kernel_rfl
 g4:=by kernel_rfl }
open Go.RowKit Go.Lib in
theorem Tryz.strings_Split (s sep:ByteArray) (m:Int) (w:World) (hs:s.size < 4294967281) (hm:w.cell? ⟨1,0,none⟩=some (.int .i64 m)) (h1:1≤sep.size) :
 Calls Tryz.prog 26 #[.string s,.string sep] w fun e w'=>
  e=.returned (.slice (some ⟨w.heap.size,0,none⟩) (Lib.countB s sep+1) (Lib.countB s sep+1))∧w'=w.alloc (.cells ((Lib.splitB sep 0 (Lib.countB s sep) s).map Value.string).toArray 9):=Any.strings_Split Tryz.lays146 (by kernel_rfl) s sep m w hs hm h1
end Go.Proofs
namespace Go.Proofs.YtlicaibhgcenhaaGreatDoor
open Go Go.RowKit Go.Ab Go.Par
variable {m:Int}
theorem yJ {w:World} {Av:Nat→Prop} {cds:List D} {vs:List Value} (h:yk (E m) w Av cds vs):w.cell? ⟨1,0,none⟩=some (.int .i64 m):=by
 obtain ⟨ad,he,_,_,hc⟩:=(h.gl 1 [.k .i64 m] rfl).ep_inv;cases he;obtain ⟨u,hu,_,hv⟩:=hc 0 (.k .i64 m) rfl
 have:u=.int .i64 m:=by
  cases hv with
  | k=>rfl
 rw [this] at hu;exact hu
theorem Hm (b:ByteArray):(⟨b.data.toList.toArray⟩:ByteArray)=b:=by
 cases b; simp
theorem sJ (c:UInt8) (s:Bs):(Lib.splitB ⟨#[c]⟩ 0 (Lib.countB ⟨s.toArray⟩ ⟨#[c]⟩) ⟨s.toArray⟩).map Value.string=(cut c s).map fun l=>Value.string ⟨l.toArray⟩:=by
 have h:=Lib.splitB_data ⟨#[c]⟩ 0 (Lib.countB ⟨s.toArray⟩ ⟨#[c]⟩) ⟨s.toArray⟩;have h2:Lib.splitK [c] 0 (Lib.countB ⟨s.toArray⟩ ⟨#[c]⟩) s=cut c s:=yq c s;have h3:(Lib.splitB ⟨#[c]⟩ 0 (Lib.countB ⟨s.toArray⟩ ⟨#[c]⟩) ⟨s.toArray⟩).map (·.data.toList)=cut c s:=by
  rw [h];exact h2
 rw [← h3,zBi];refine List.map_congr_left fun b _=>?_;simp only [Function.comp,Hm]
theorem vq (s:Bs) (c:UInt8) (hs:s.length < 4294967281):Con (E m) 26 0 [.s s,.s [c]] [] (.own 0) [(0,.own 9 ((cut c s).map fun l=>[.s l]))]:=by
 have hcl:=kH c s;refine Ez (by kernel_rfl) ⟨_,Tryz.func26,rfl,rfl⟩ (by have:maxLen=9223372036854775807:=rfl; omega) fun w vs Av hM=>?_
 match vs,hM.len,hM with
 | [u0,u1],_,hM=>
   obtain rfl:=(hM.arg 0 _ u0 rfl rfl).s_inv;obtain rfl:=(hM.arg 1 _ u1 rfl rfl).s_inv;have hl:=Lib.splitB_all ⟨#[c]⟩ (zAM 1) 0 _ (⟨s.toArray⟩:ByteArray) rfl;have hl2:=congrArg List.length (sJ c s);rw [zAA,zAA,hl] at hl2;refine (Tryz.strings_Split ⟨s.toArray⟩ ⟨#[c]⟩ m w (by simpa [ByteArray.size] using hs) (yJ hM) (zAM 1)).mono fun e w' ⟨he,hw⟩=>?_;rw [sJ,hl2] at *;exact ⟨he,hw⟩
theorem sK (c:UInt8):∀ w:List Bs,Lib.join w [c]=join c w
 | []=>rfl
 | [a]=>Lib.join_one a [c]
 | a :: b :: q=>by
   have:=sK c (b :: q)
   simp only [Lib.join,List.intercalate,List.intersperse] at this ⊢;simp [join,← this]
theorem EJ (ls:List Bs) (c:UInt8) (h1:ls.length≤1073741824) (h2:(join c ls).length≤1073741824):Con (E m) 301 0 [.sl (ls.map fun l=>[.s l]),.s [c]] [] (.s (join c ls)) []:=by
 refine GR ⟨_,Tryz.func301,rfl,rfl⟩ fun w vs Av hM=>?_
 match vs,hM.len,hM with
 | [u0,u1],_,hM=>
   obtain rfl:=(hM.arg 1 _ u1 rfl rfl).s_inv;rcases (hM.arg 0 _ u0 rfl rfl).strs with ⟨rfl,a,k,rfl⟩|⟨bk,o,k,rfl,hk,hb,hc⟩
   · refine (Tryz.strings_Join_none a k ⟨#[c]⟩ w).mono fun e w' ⟨he,hw⟩=>?_;rw [hw];exact ⟨Fr.refl _ _,_,he,.gr (.atom (.im (.s [])))⟩
   · have e1:((ls.map fun l=>(⟨l.toArray⟩:ByteArray)).map (·.data.toList))=ls:=by simp [Function.comp_def]
     have hJ:=Tryz.strings_Join bk o k (ls.map fun l=>⟨l.toArray⟩) ⟨#[c]⟩ w (fun j x hx=>by
      simp only [zAQ,Option.map_eq_some_iff] at hx;obtain ⟨l,hl,rfl⟩:=hx;exact hc j l hl) hb (by simp; omega) (by simpa using hk) (by rw [e1]; rw [show (⟨#[c]⟩:ByteArray).data.toList=[c] from rfl,sK]; omega)
     rw [e1,show (⟨#[c]⟩:ByteArray).data.toList=[c] from rfl,sK,zAA] at hJ
     refine hJ.mono fun e w' ⟨he,hw⟩=>?_;exact ⟨Fr.of_below hw,_,he,.gr (.atom (.im (.s _)))⟩
variable {m:Int}
theorem nu (s:Bs) (hs:s.length≤1073741824):Con (E m) 208 0 [.s s] [] (.tup [.own 0,.b (ac s)]) [(0,.own 9 ((if ac s then bz s else []).map fun l=>[.s l]))]:=by
 match s,hs with
 | [],hs=>
   refine G0 Tryz.func208 ?_;repeat' first|refine Rw ⟨?_⟩|(refine aB.mk (fun h=>?_) (fun h=>?_) <;> (try simp only [decide_eq_true_eq,decide_eq_false_iff_not,zAJ,zAP,zAS,zAR,zAO,zAE,zAA] at h) <;> conv=>whnf)|refine Rs ⟨?_⟩|fail
   · exact Rf
   · exact absurd trivial ‹¬True›
 | x :: r,hs=>
   have hs':(((x :: r).take (x :: r).length).drop 1).length < 4294967281:=by simp at hs ⊢; omega
   have hc:=vq (m:=m) (((x :: r).take (x :: r).length).drop 1) 47 hs';rw [show cut 47 (((x :: r).take (x :: r).length).drop 1)=cut 47 r by rw [zAN]; rfl] at hc
   have hpc:=jT 47 r;have hn:bz (x :: r)=if x=47∧r≠[] then cut 47 r else []:=rfl
   have bad:ac (x :: r)=false→(if ac (x :: r) then bz (x :: r) else [])=[]:=fun h=>by rw [h]; rfl
   refine G0 Tryz.func208 ?_;repeat' first|refine Rw ⟨?_⟩|(refine aB.mk (fun h=>?_) (fun h=>?_) <;> (try simp only [decide_eq_true_eq,decide_eq_false_iff_not,zAJ,zAP,zAS,zAR,zAO,zAE,zAA] at h) <;> conv=>whnf)|(refine Rc [] 1 rfl rfl (hc) ?_; conv=>whnf)|refine Rs ⟨?_⟩|fail
   · exact absurd ‹x :: r=[]› (by simp)
   · have hx:x≠47:=fun e=>‹¬((x.toNat:Int)=47)› (by rw [e]; rfl);have hp:ac (x :: r)=false:=by
      rw [jV (hn.trans (if_neg fun h=>hx h.1))]
      simp
     rw [bad hp,hp];exact Rf
   · have hp:ac (x :: r)=false:=by
       have h:((x :: r).length:Int) > 12:=‹_›;have h':¬ (x :: r).length≤12:=by omega
       simp only [ac,h',decide_false,zAh]
     rw [bad hp,hp];exact Rf
   · have hcl:((cut 47 r).length:Int) > 3:=‹_›;have hr:r≠[]:=by
      rintro rfl;simp [cut] at hcl
     have hx:x=47:=UInt8.toNat_inj.1 (by have h:(x.toNat:Int)=47:=‹_›; exact Int.ofNat_inj.1 h);have hp:ac (x :: r)=false:=by
      have h':¬ (cut 47 r).length≤3:=by omega
      rw [jV (hn.trans (if_pos ⟨hx,hr⟩))];simp [h']
     rw [bad hp,hp];exact Rf
   · have hx:x=47:=UInt8.toNat_inj.1 (by have h:(x.toNat:Int)=47:=‹_›; exact Int.ofNat_inj.1 h);have hlen:(x :: r).length≤12:=by have h:¬ ((x :: r).length:Int) > 12:=‹_›; omega
     have hcl:(cut 47 r).length≤3:=by have h:¬ ((cut 47 r).length:Int) > 3:=‹_›; omega
     refine Cd.loop (fun n tm S nx=>∃ i:Nat,i≤(cut 47 r).length∧n=(cut 47 r).length - i∧tm=[(4,.own 0),(25,.own 0),(26,.k .i64 ((cut 47 r).map fun l=>[D.s l]).length),(27,.k .i64 i)]∧S=[(0,.own 9 ((cut 47 r).map fun l=>[.s l]))]∧nx=1∧((cut 47 r).take i).all aU=true) ⟨(cut 47 r).length,?_⟩ ?_
     · refine la [4,25,26,27] ?_
       conv=>whnf
       refine ⟨rfl,rfl,0,zAG _,rfl,rfl,rfl,rfl,rfl⟩
     · rintro n tm S nx ⟨i,hi,hn2,rfl,rfl,rfl,ha⟩;by_cases hlt:i < (cut 47 r).length
       · have hpi:=hpc _ (zAb hlt);repeat' first|refine Rw ⟨?_⟩|(refine aB.mk (fun h=>?_) (fun h=>?_) <;> (try simp only [decide_eq_true_eq,decide_eq_false_iff_not,zAJ,zAP,zAS,zAR,zAO,zAE,zAA] at h) <;> conv=>whnf)|(refine Rc [] 0 rfl rfl (C2 (cut 47 r)[i] (by simp at hs; omega)) ?_; conv=>whnf)|refine Rs ⟨?_⟩|fail
         · have hf:(cut 47 r).all aU=false:=cr (zAB hlt) ‹_›;have hp:ac (x :: r)=false:=by
            by_cases hr:r=[]
            · rw [jV (hn.trans (if_neg fun h=>h.2 hr))]
              simp
            · rw [jV (hn.trans (if_pos ⟨hx,hr⟩))];simp [hf]
           rw [bad hp,hp];exact Rf
         · refine .here ⟨n - 1,by omega,?_⟩;refine la [4,25,26,27] ?_
           conv=>whnf
           refine ⟨rfl,rfl,i+1,by omega,by omega,rfl,rfl,rfl,bA ha (zAB hlt) ‹_›⟩
         · exact absurd hlt (by omega)
       · have hal:(cut 47 r).all aU=true:=eC ha (by omega);have hr:r≠[]:=by
          rintro rfl;simp [cut,aU] at hal
         have hne:=List.length_pos_iff.2 (wR 47 r);have hp:ac (x :: r)=true:=by
          have h1:1≤(cut 47 r).length:=by omega
          have h0:r.length+1≤12:=by simpa using hlen
          rw [jV (hn.trans (if_pos ⟨hx,hr⟩))];simp only [hal,hlen,h1,hcl,decide_true,zBT]
         have hnn:bz (x :: r)=cut 47 r:=by rw [hn,if_pos ⟨hx,hr⟩]
         have good:(if ac (x :: r) then bz (x :: r) else [])=cut 47 r:=by rw [hp,hnn]; rfl
         rw [good,hp];repeat' first|refine Rw ⟨?_⟩|(refine aB.mk (fun h=>?_) (fun h=>?_) <;> (try simp only [decide_eq_true_eq,decide_eq_false_iff_not,zAJ,zAP,zAS,zAR,zAO,zAE,zAA] at h) <;> conv=>whnf)|refine Rs ⟨?_⟩|fail
         · exact absurd hlt (by omega)
         · exact Rf
theorem bP (s:Bs) (hs:s.length≤1073741824):Con (E m) 144 0 [.s s] [] (.b (ac s)) []:=by
 refine G0 Tryz.func144 ?_;repeat' first|refine Rw ⟨?_⟩|(refine aB.mk (fun h=>?_) (fun h=>?_) <;> (try simp only [decide_eq_true_eq,decide_eq_false_iff_not,zAJ,zAP,zAS,zAR,zAO,zAE,zAA] at h) <;> conv=>whnf)|(refine Rc [] 1 rfl rfl (nu s hs) ?_; conv=>whnf)|refine Rs ⟨?_⟩|fail
 exact Rf
theorem oD (s:Bs) (hs:s.length≤1073741824):Con (E m) 265 0 [.s s] [] (.s (ae s)) []:=by
 have h1:=nu (m:=m) s hs;cases hok:ac s with
 | false=>
   simp only [hok] at h1;have hx:ae s=[]:=by simp [ae,hok]
   rw [hx];refine G0 Tryz.func265 ?_;repeat' first|refine Rw ⟨?_⟩|(refine aB.mk (fun h=>?_) (fun h=>?_) <;> (try simp only [decide_eq_true_eq,decide_eq_false_iff_not,zAJ,zAP,zAS,zAR,zAO,zAE,zAA] at h) <;> conv=>whnf)|(refine Rc [] 1 rfl rfl (h1) ?_; conv=>whnf)|refine Rs ⟨?_⟩|fail
   exact Rf
 | true=>
   simp only [hok,if_true] at h1;have hp:=nn hok;have hpl:=qu s;have hj:=EJ (m:=m) ((bz s).take ((bz s).length - 1)) 47 (by rw [zAW]; omega) (by
    rw [← List.dropLast_eq_take]
    have:=sA s
    rw [qw hok] at this;simp at this;omega)
   rw [zBU] at hj;have hx:ae s=[47]++join 47 ((bz s).take ((bz s).length - 1)):=by
    rw [qw hok,List.dropLast_eq_take];rfl
   have hlj:(join 47 ((bz s).take ((bz s).length - 1))).length≤12:=by
    have:=sA s
    rw [hx] at this;simp at this;omega
   rw [hx];refine G0 Tryz.func265 ?_;repeat' first|refine Rw ⟨?_⟩|(refine aB.mk (fun h=>?_) (fun h=>?_) <;> (try simp only [decide_eq_true_eq,decide_eq_false_iff_not,zAJ,zAP,zAS,zAR,zAO,zAE,zAA] at h) <;> conv=>whnf)|(refine Rc [] 1 rfl rfl (h1) ?_; conv=>whnf)|(refine Rc [] 0 rfl rfl (hj) ?_; conv=>whnf)|(refine ⟨(bz s).length - 1,by simp only [zAA]; omega,?_⟩; conv=>whnf)|refine Rs ⟨?_⟩|fail
   exact Rf
theorem pK (s:Bs) (hs:s.length≤1073741824):Con (E m) 237 0 [.s s] [] (.b (cy s)) []:=by
 refine G0 Tryz.func237 ?_;repeat' first|refine Rw ⟨?_⟩|(refine aB.mk (fun h=>?_) (fun h=>?_) <;> (try simp only [decide_eq_true_eq,decide_eq_false_iff_not,zAJ,zAP,zAS,zAR,zAO,zAE,zAA] at h) <;> conv=>whnf)|refine Rs ⟨?_⟩|fail
 · have:¬ s.length≤6:=by omega
   refine Rg ⟨?_⟩
   first|rfl|(simp_all [cy]; done)|(simp [cy] <;> (repeat' split) <;> omega)|(simp only [cy]; repeat' split) <;> first|omega|(simp_all; done)|(simp_all; omega)|(rw [zAI]; simp [*,cy] <;> omega)
 refine Cd.loop (fun n tm S nx=>∃ i:Nat,i≤s.length∧n=s.length - i∧tm=[(0,.s s),(3,.k .i64 i)]∧S=[]∧nx=0∧(s.take i).all (fun b=>dQ b || dR b)=true) ⟨s.length,?_⟩ ?_
 · refine la [0,3] ?_
   conv=>whnf
   refine ⟨rfl,rfl,0,zAG _,rfl,rfl,rfl,rfl,rfl⟩
 · rintro n tm S nx ⟨i,hi,hn,rfl,rfl,rfl,ha⟩;repeat' first|refine Rw ⟨?_⟩|(refine aB.mk (fun h=>?_) (fun h=>?_) <;> (try simp only [decide_eq_true_eq,decide_eq_false_iff_not,zAJ,zAP,zAS,zAR,zAO,zAE,zAA] at h) <;> conv=>whnf)|refine Rs ⟨?_⟩|fail
   all_goals first
    | (have hf:s.all (fun b=>dQ b || dR b)=false:=cr (zAB (by omega:i < s.length)) (yu (by omega))
       (first|refine ai.here (fa ?_)|refine fa ?_)
       conv=>whnf
       refine ⟨rfl,rfl,congrArg some (congrArg D.b ?_),rfl⟩
       first|(simp_all [cy]; done)|(rw [zAI]; simp [*,cy] <;> omega))
    | (refine .here ⟨n - 1,by omega,?_⟩
       refine la [0,3] ?_
       conv=>whnf
       refine ⟨rfl,rfl,i+1,by omega,by omega,rfl,rfl,rfl,bA ha (zAB (by omega:i < s.length)) (B1 (by omega))⟩)
    | (have hf:s.all (fun b=>dQ b || dR b)=true:=eC ha (by omega)
       (first|refine ai.here (fa ?_)|refine fa ?_)
       conv=>whnf
       refine ⟨rfl,rfl,congrArg some (congrArg D.b ?_),rfl⟩
       first|(simp_all [cy]; done)|(rw [zAI]; simp [*,cy] <;> omega))
def nv:Option Ent→D
 | some e=>.tup [.agg e.c,.b true]
 | none=>.tup [.agg [.s [],.b false,.s []],.b false]
theorem EK {t:List Ent} {p:Bs} {i:Nat} {e:Ent} (h:t[i]?=some e) (hp:e.path=p) (hb:∀ k e,k < i→t[k]?=some e→e.path≠p):ah t p=some e:=by
 rcases oz t p with ⟨j,hx,hj,he⟩|⟨hx,he⟩
 · rw [oy h hp hb] at hx
   have:i=j:=by omega
   subst this;rw [zAB hj] at h;rw [he,h]
 · rw [oy h hp hb] at hx;omega
theorem AC {t:List Ent} {p:Bs} (hb:∀ (k:Nat) e,t[k]?=some e→e.path≠p):ah t p=none:=by
 rcases oz t p with ⟨j,hx,hj,he⟩|⟨hx,he⟩
 · rw [np hb] at hx;omega
 · exact he
theorem iC (t:List Ent) (p:Bs) (ht:t.length≤1073741824):Con (E m) 284 0 [.sl (t.map Ent.c),.s p] [] (nv (ah t p)) []:=by
 refine G0 Tryz.func284 ?_;repeat' first|refine Rw ⟨?_⟩|(refine aB.mk (fun h=>?_) (fun h=>?_) <;> (try simp only [decide_eq_true_eq,decide_eq_false_iff_not,zAJ,zAP,zAS,zAR,zAO,zAE,zAA] at h) <;> conv=>whnf)|refine Rs ⟨?_⟩|fail
 refine Cd.loop (fun n tm S nx=>∃ i:Nat,i≤t.length∧n=t.length - i∧tm=[(1,.s p),(4,.bp 0 0),(8,.sl (t.map Ent.c)),(9,.k .i64 (t.map Ent.c).length),(10,.k .i64 i)]∧S=[(0,.box 150 [.s [],.b false,.s []])]∧nx=1∧∀ k e,k < i→t[k]?=some e→e.path≠p) ⟨t.length,?_⟩ ?_
 · refine la [1,4,8,9,10] ?_
   conv=>whnf
   refine ⟨rfl,rfl,0,zAG _,rfl,rfl,rfl,rfl,fun k e h=>absurd h (Nat.not_lt_zero _)⟩
 · rintro n tm S nx ⟨i,hi,hn,rfl,rfl,rfl,ha⟩;by_cases hlt:i < t.length
   · repeat' first|refine Rw ⟨?_⟩|(refine aB.mk (fun h=>?_) (fun h=>?_) <;> (try simp only [decide_eq_true_eq,decide_eq_false_iff_not,zAJ,zAP,zAS,zAR,zAO,zAE,zAA] at h) <;> conv=>whnf)|refine Rs ⟨?_⟩|fail
     · have he:ah t p=some t[i]:=EK (zAB hlt) ‹_› ha;rw [he];exact Rf
     · refine .here ⟨n - 1,by omega,?_⟩;refine la [1,4,8,9,10] ?_
       conv=>whnf
       refine ⟨rfl,rfl,i+1,by omega,by omega,rfl,rfl,rfl,fun k e h1 h2=>?_⟩;by_cases hk:k=i
       · subst hk;rw [zAB hlt] at h2;cases h2;assumption
       · exact ha k e (by omega) h2
     · exact absurd hlt (by omega)
   · repeat' first|refine Rw ⟨?_⟩|(refine aB.mk (fun h=>?_) (fun h=>?_) <;> (try simp only [decide_eq_true_eq,decide_eq_false_iff_not,zAJ,zAP,zAS,zAR,zAO,zAE,zAA] at h) <;> conv=>whnf)|refine Rs ⟨?_⟩|fail
     · exact absurd hlt (by omega)
     · have he:ah t p=none:=AC fun k e h=>ha k e (by have:=(List.getElem?_eq_some_iff.1 h).1; omega) h;rw [he];exact Rf
theorem hO (t:List Ent) (p:Bs) (ht:t.length≤1073741824) (hp:p.length≤1073741824):Con (E m) 238 0 [.sl (t.map Ent.c),.s p] [] (.k .i64 (aY t p)) []:=by
 have h1:=oD (m:=m) p hp;have h2:=iC (m:=m) t (ae p) ht;by_cases hr:ae p=[47]
 · have hx:aY t p=0:=by simp [aY,hr]
   rw [hx];rw [hr] at h1;refine G0 Tryz.func238 ?_;repeat' first|refine Rw ⟨?_⟩|(refine aB.mk (fun h=>?_) (fun h=>?_) <;> (try simp only [decide_eq_true_eq,decide_eq_false_iff_not,zAJ,zAP,zAS,zAR,zAO,zAE,zAA] at h) <;> conv=>whnf)|(refine Rc [] 0 rfl rfl (h1) ?_; conv=>whnf)|refine Rs ⟨?_⟩|fail
   all_goals first
    | exact absurd rfl ‹¬([47]:Bs)=[47]›
    | exact absurd trivial ‹¬True›
    | skip
   exact Rf
 · match he:ah t (ae p),h2 with
   | none,h2=>
     have hx:aY t p=2:=by simp [aY,hr,he]
     rw [hx];refine G0 Tryz.func238 ?_;repeat' first|refine Rw ⟨?_⟩|(refine aB.mk (fun h=>?_) (fun h=>?_) <;> (try simp only [decide_eq_true_eq,decide_eq_false_iff_not,zAJ,zAP,zAS,zAR,zAO,zAE,zAA] at h) <;> conv=>whnf)|(refine Rc [] 0 rfl rfl (h1) ?_; conv=>whnf)|(refine Rc [] 0 rfl rfl (h2) ?_; conv=>whnf)|refine Rs ⟨?_⟩|fail
     all_goals first
      | exact absurd ‹ae p=[47]› hr
      | skip
     exact Rf
   | some e,h2=>
     have hx:aY t p=if e.dir then 0 else 3:=by simp [aY,hr,he]
     rw [hx];refine G0 Tryz.func238 ?_;repeat' first|refine Rw ⟨?_⟩|(refine aB.mk (fun h=>?_) (fun h=>?_) <;> (try simp only [decide_eq_true_eq,decide_eq_false_iff_not,zAJ,zAP,zAS,zAR,zAO,zAE,zAA] at h) <;> conv=>whnf)|(refine Rc [] 0 rfl rfl (h1) ?_; conv=>whnf)|(refine Rc [] 0 rfl rfl (h2) ?_; conv=>whnf)|refine Rs ⟨?_⟩|fail
     · exact absurd ‹ae p=[47]› hr
     all_goals
      exact Rf
variable {m:Int}
theorem dX (t:List Ent) (hb:∀ e∈t,e.path.length≤1073741824∧e.data.length≤1073741824):Con (E m) 174 0 [.sl (t.map Ent.c)] [] (.b (af t)) []:=by
 refine G0 Tryz.func174 ?_;repeat' first|refine Rw ⟨?_⟩|(refine aB.mk (fun h=>?_) (fun h=>?_) <;> (try simp only [decide_eq_true_eq,decide_eq_false_iff_not,zAJ,zAP,zAS,zAR,zAO,zAE,zAA] at h) <;> conv=>whnf)|refine Rs ⟨?_⟩|fail
 · have hf:af t=false:=by
     have:¬ t.length≤16:=by omega
     simp [af,this]
   rw [hf];exact Rf
 refine Cd.loop (fun n tm S nx=>∃ i:Nat,i≤t.length∧n=t.length - i∧tm=[(0,.sl (t.map Ent.c)),(8,.sl (t.map Ent.c)),(9,.k .i64 (t.map Ent.c).length),(10,.k .i64 i)]∧S=[]∧nx=0∧∀ k,k < i→okI t k=true) ⟨t.length,?_⟩ ?_
 · refine la [0,8,9,10] ?_
   conv=>whnf
   refine ⟨rfl,rfl,0,zAG _,rfl,rfl,rfl,rfl,fun k h=>absurd h (Nat.not_lt_zero _)⟩
 · rintro n tm S nx ⟨i,hi,hn,rfl,rfl,rfl,ha⟩;by_cases hlt:i < t.length
   · have hq:=hb t[i] (zAb hlt);have h1:=bP (m:=m) t[i].path hq.1;have h2:=pK (m:=m) t[i].data hq.2;have h3:=hO (m:=m) t t[i].path (by omega) hq.1;repeat' first|refine Rw ⟨?_⟩|(refine aB.mk (fun h=>?_) (fun h=>?_) <;> (try simp only [decide_eq_true_eq,decide_eq_false_iff_not,zAJ,zAP,zAS,zAR,zAO,zAE,zAA] at h) <;> conv=>whnf)|(refine Rc [] 0 rfl rfl (h1) ?_; conv=>whnf)|(refine Rc [] 0 rfl rfl (h2) ?_; conv=>whnf)|(refine Rc [] 0 rfl rfl (h3) ?_; conv=>whnf)|(refine ⟨i - 1,_,by omega,eY (by omega),rfl,?_⟩; conv=>whnf)|refine Rs ⟨?_⟩|fail
     all_goals first
      | (have hf:okI t i=false:=by
           clear h1 h2 h3 hb ha hn;rw [Ax hlt];simp_all [ew,lt]
         have hg:=mT hlt hf;rw [hg];refine ai.here (fa ?_)
         conv=>whnf
         exact ⟨rfl,rfl,rfl,rfl⟩)
      | (have hf:okI t i=true:=by
           clear h1 h2 h3 hb ha hn;rw [Ax hlt];simp_all [ew,lt]
         refine .here ⟨n - 1,by omega,?_⟩;refine la [0,8,9,10] ?_
         conv=>whnf
         refine ⟨rfl,rfl,i+1,by omega,by omega,rfl,rfl,rfl,fun k hk=>?_⟩;by_cases hki:k=i
         · rw [hki]; exact hf
         · exact ha k (by omega))
      | (have hf:okI t i=false:=by
           have hbl:lt (t[i - 1]'(by omega)).path t[i].path=false:=‹Op.bytesLess (t[i - 1]'(by omega)).path t[i].path=false›;rw [Ax hlt,if_pos (by omega:0 < i),hbl]
           simp
         have hg:=mT hlt hf;rw [hg];refine ai.here (fa ?_)
         conv=>whnf
         exact ⟨rfl,rfl,rfl,rfl⟩)
      | exact absurd hlt (by omega)
   · repeat' first|refine Rw ⟨?_⟩|(refine aB.mk (fun h=>?_) (fun h=>?_) <;> (try simp only [decide_eq_true_eq,decide_eq_false_iff_not,zAJ,zAP,zAS,zAR,zAO,zAE,zAA] at h) <;> conv=>whnf)|refine Rs ⟨?_⟩|fail
     · exact absurd hlt (by omega)
     · have hf:af t=true:=oB (by omega) fun k hk=>ha k (by omega);rw [hf];exact Rf
variable {m:Int}
theorem vt (o:Opn) (h1:o.path.length≤1073741824) (h2:o.tgt.length≤1073741824) (h3:o.data.length≤1073741824):Con (E m) 206 0 [.agg o.c] [] (.b (dn o)) []:=by
 have c1:=bP (m:=m) o.path h1;have c2:=bP (m:=m) o.tgt h2;have c3:=pK (m:=m) o.data h3;refine G0 Tryz.func206 ?_;repeat' first|refine Rw ⟨?_⟩|(refine aB.mk (fun h=>?_) (fun h=>?_) <;> (try simp only [decide_eq_true_eq,decide_eq_false_iff_not,zAJ,zAP,zAS,zAR,zAO,zAE,zAA] at h) <;> conv=>whnf)|(refine Rc [] 0 rfl rfl (c1) ?_; conv=>whnf)|(refine Rc [] 0 rfl rfl (c2) ?_; conv=>whnf)|(refine Rc [] 0 rfl rfl (c3) ?_; conv=>whnf)|refine Rs ⟨?_⟩|fail
 all_goals
  refine Rg ⟨?_⟩
  first|rfl|(simp_all [dn]; done)|(simp [dn] <;> (repeat' split) <;> omega)|(simp only [dn]; repeat' split) <;> first|omega|(simp_all; done)|(simp_all; omega)|(rw [zAI]; simp [*,dn] <;> omega)
theorem mB (o:Opn) (h1:o.path.length≤1073741824) (h2:o.tgt.length≤1073741824) (h3:o.data.length≤1073741824):Con (E m) 124 0 [.agg o.c] [] (.b (dn o)) []:=by
 have c1:=cc (m:=m) o.path h1;have c2:=cc (m:=m) o.tgt h2;have c3:=pJ (m:=m) o.data h3;refine G0 Tryz.func124 ?_;repeat' first|refine Rw ⟨?_⟩|(refine aB.mk (fun h=>?_) (fun h=>?_) <;> (try simp only [decide_eq_true_eq,decide_eq_false_iff_not,zAJ,zAP,zAS,zAR,zAO,zAE,zAA] at h) <;> conv=>whnf)|(refine Rc [] 0 rfl rfl (c1) ?_; conv=>whnf)|(refine Rc [] 0 rfl rfl (c2) ?_; conv=>whnf)|(refine Rc [] 0 rfl rfl (c3) ?_; conv=>whnf)|refine Rs ⟨?_⟩|fail
 all_goals
  refine Rg ⟨?_⟩
  first|rfl|(simp_all [rC]; done)|(simp [rC] <;> (repeat' split) <;> omega)|(simp only [rC]; repeat' split) <;> first|omega|(simp_all; done)|(simp_all; omega)|(rw [zAI]; simp [*,rC] <;> omega)
end Go.Proofs.YtlicaibhgcenhaaGreatDoor
