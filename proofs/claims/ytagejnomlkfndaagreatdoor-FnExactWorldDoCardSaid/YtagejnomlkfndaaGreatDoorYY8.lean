/- Texts of this claim, set close: lemmas and contracts. -/
import Derived.Test.YtagejnomlkfndaaGreatDoorYY7
import Derived.Test.YtagejnomlkfndaaGreatDoorYY6
set_option linter.unusedSimpArgs false
set_option linter.unusedVariables false
set_option maxHeartbeats 1000000
set_option maxRecDepth 10000
namespace Go.Proofs.YtagejnomlkfndaaGreatDoor
open Go Go.RowKit Go.Ab Go.Par
variable {m:Int}
theorem Al {w:World} {Av:Nat→Prop} {cds:List D} {vs:List Value} (h:Gv (E m) w Av cds vs):w.cell? ⟨0,0,none⟩=some (.int .i64 m):=by
 obtain ⟨ad,he,_,_,hc⟩:=(h.gl 0 [.k .i64 m] rfl).ep_inv;cases he;obtain ⟨u,hu,_,hv⟩:=hc 0 (.k .i64 m) rfl
 have:u=.int .i64 m:=by
  cases hv with
  | k=>rfl
 rw [this] at hu;exact hu
theorem Jx (b:ByteArray):(⟨b.data.toList.toArray⟩:ByteArray)=b:=by
 cases b; simp
theorem tS (c:UInt8) (s:Bs):(Lib.splitB ⟨#[c]⟩ 0 (Lib.countB ⟨s.toArray⟩ ⟨#[c]⟩) ⟨s.toArray⟩).map Value.string=(cut c s).map fun l=>Value.string ⟨l.toArray⟩:=by
 have h:=Lib.splitB_data ⟨#[c]⟩ 0 (Lib.countB ⟨s.toArray⟩ ⟨#[c]⟩) ⟨s.toArray⟩;have h2:Lib.splitK [c] 0 (Lib.countB ⟨s.toArray⟩ ⟨#[c]⟩) s=cut c s:=zW c s;have h3:(Lib.splitB ⟨#[c]⟩ 0 (Lib.countB ⟨s.toArray⟩ ⟨#[c]⟩) ⟨s.toArray⟩).map (·.data.toList)=cut c s:=by
  rw [h];exact h2
 rw [← h3,zBE];refine List.map_congr_left fun b _=>?_;simp only [Function.comp,Jx]
theorem EX (s:Bs) (c:UInt8) (hs:s.length < 4294967281):Con (E m) 165 0 [.s s,.s [c]] [] (.own 0) [(0,.own 9 ((cut c s).map fun l=>[.s l]))]:=by
 have hcl:=x4 c s;refine Gx (by kernel_rfl) ⟨_,Tryz.func165,rfl,rfl⟩ (by have:maxLen=9223372036854775807:=rfl; omega) fun w vs Av hM=>?_
 match vs,hM.len,hM with
 | [u0,u1],_,hM=>
   obtain rfl:=(hM.arg 0 _ u0 rfl rfl).s_inv;obtain rfl:=(hM.arg 1 _ u1 rfl rfl).s_inv;have hl:=Lib.splitB_all ⟨#[c]⟩ (zAL 1) 0 _ (⟨s.toArray⟩:ByteArray) rfl;have hl2:=congrArg List.length (tS c s);rw [zAA,zAA,hl] at hl2;refine (Tryz.strings_Split ⟨s.toArray⟩ ⟨#[c]⟩ m w (by simpa [ByteArray.size] using hs) (Al hM) (zAL 1)).mono fun e w' ⟨he,hw⟩=>?_;rw [tS,hl2] at *;exact ⟨he,hw⟩
theorem tT (c:UInt8):∀ w:List Bs,Lib.join w [c]=join c w
 | []=>rfl
 | [a]=>Lib.join_one a [c]
 | a :: b :: q=>by
   have:=tT c (b :: q)
   simp only [Lib.join,List.intercalate,List.intersperse] at this ⊢;simp [join,← this]
theorem GL (ls:List Bs) (c:UInt8) (h1:ls.length≤1073741824) (h2:(join c ls).length≤1073741824):Con (E m) 254 0 [.sl (ls.map fun l=>[.s l]),.s [c]] [] (.s (join c ls)) []:=by
 refine IY ⟨_,Tryz.func254,rfl,rfl⟩ fun w vs Av hM=>?_
 match vs,hM.len,hM with
 | [u0,u1],_,hM=>
   obtain rfl:=(hM.arg 1 _ u1 rfl rfl).s_inv;rcases (hM.arg 0 _ u0 rfl rfl).strs with ⟨rfl,a,k,rfl⟩|⟨bk,o,k,rfl,hk,hb,hc⟩
   · refine (Tryz.strings_Join_none a k ⟨#[c]⟩ w).mono fun e w' ⟨he,hw⟩=>?_;rw [hw];exact ⟨Fr.refl _ _,_,he,.gr (.atom (.im (.s [])))⟩
   · have e1:((ls.map fun l=>(⟨l.toArray⟩:ByteArray)).map (·.data.toList))=ls:=by simp [Function.comp_def]
     have hJ:=Tryz.strings_Join bk o k (ls.map fun l=>⟨l.toArray⟩) ⟨#[c]⟩ w (fun j x hx=>by
      simp only [zAO,Option.map_eq_some_iff] at hx;obtain ⟨l,hl,rfl⟩:=hx;exact hc j l hl) hb (by simp; omega) (by simpa using hk) (by rw [e1]; rw [show (⟨#[c]⟩:ByteArray).data.toList=[c] from rfl,tT]; omega)
     rw [e1,show (⟨#[c]⟩:ByteArray).data.toList=[c] from rfl,tT,zAA] at hJ
     refine hJ.mono fun e w' ⟨he,hw⟩=>?_;exact ⟨Fr.of_below hw,_,he,.gr (.atom (.im (.s _)))⟩
variable {m:Int}
theorem tU (s:Bs) (hs:s.length≤1073741824):Con (E m) 95 0 [.s s] [] (.tup [.own 0,.b (ah s)]) [(0,.own 9 ((if ah s then cc s else []).map fun l=>[.s l]))]:=by
 match s,hs with
 | [],hs=>
   refine G0 Tryz.func95 ?_;repeat' first|refine Rw ⟨?_⟩|(refine aH.mk (fun h=>?_) (fun h=>?_) <;> (try simp only [decide_eq_true_eq,decide_eq_false_iff_not,zAJ,zAN,zAR,zAQ,zAM,zAF,zAA] at h) <;> conv=>whnf)|refine Rs ⟨?_⟩|fail
   · exact Rf
   · exact absurd trivial ‹¬True›
 | x :: r,hs=>
   have hs':(((x :: r).take (x :: r).length).drop 1).length < 4294967281:=by simp at hs ⊢; omega
   have hc:=EX (m:=m) (((x :: r).take (x :: r).length).drop 1) 47 hs';rw [show cut 47 (((x :: r).take (x :: r).length).drop 1)=cut 47 r by rw [zAP]; rfl] at hc
   have hpc:=wA 47 r;have hn:cc (x :: r)=if x=47∧r≠[] then cut 47 r else []:=rfl
   have bad:ah (x :: r)=false→(if ah (x :: r) then cc (x :: r) else [])=[]:=fun h=>by rw [h]; rfl
   refine G0 Tryz.func95 ?_;repeat' first|refine Rw ⟨?_⟩|(refine aH.mk (fun h=>?_) (fun h=>?_) <;> (try simp only [decide_eq_true_eq,decide_eq_false_iff_not,zAJ,zAN,zAR,zAQ,zAM,zAF,zAA] at h) <;> conv=>whnf)|(refine Rc [] 1 rfl rfl (hc) ?_; conv=>whnf)|refine Rs ⟨?_⟩|fail
   · exact absurd ‹x :: r=[]› (by simp)
   · have hx:x≠47:=fun e=>‹¬((x.toNat:Int)=47)› (by rw [e]; rfl);have hp:ah (x :: r)=false:=by
      rw [kW (hn.trans (if_neg fun h=>hx h.1))]
      simp
     rw [bad hp,hp];exact Rf
   · have hp:ah (x :: r)=false:=by
       have h:((x :: r).length:Int) > 12:=‹_›;have h':¬ (x :: r).length≤12:=by omega
       simp only [ah,h',decide_false,zAg]
     rw [bad hp,hp];exact Rf
   · have hcl:((cut 47 r).length:Int) > 3:=‹_›;have hr:r≠[]:=by
      rintro rfl;simp [cut] at hcl
     have hx:x=47:=UInt8.toNat_inj.1 (by have h:(x.toNat:Int)=47:=‹_›; exact Int.ofNat_inj.1 h);have hp:ah (x :: r)=false:=by
      have h':¬ (cut 47 r).length≤3:=by omega
      rw [kW (hn.trans (if_pos ⟨hx,hr⟩))];simp [h']
     rw [bad hp,hp];exact Rf
   · have hx:x=47:=UInt8.toNat_inj.1 (by have h:(x.toNat:Int)=47:=‹_›; exact Int.ofNat_inj.1 h);have hlen:(x :: r).length≤12:=by have h:¬ ((x :: r).length:Int) > 12:=‹_›; omega
     have hcl:(cut 47 r).length≤3:=by have h:¬ ((cut 47 r).length:Int) > 3:=‹_›; omega
     refine Cd.loop (fun n tm S nx=>∃ i:Nat,i≤(cut 47 r).length∧n=(cut 47 r).length - i∧tm=[(4,.own 0),(25,.own 0),(26,.k .i64 ((cut 47 r).map fun l=>[D.s l]).length),(27,.k .i64 i)]∧S=[(0,.own 9 ((cut 47 r).map fun l=>[.s l]))]∧nx=1∧((cut 47 r).take i).all bx=true) ⟨(cut 47 r).length,?_⟩ ?_
     · refine la [4,25,26,27] ?_
       conv=>whnf
       refine ⟨rfl,rfl,0,zAG _,rfl,rfl,rfl,rfl,rfl⟩
     · rintro n tm S nx ⟨i,hi,hn2,rfl,rfl,rfl,ha⟩;by_cases hlt:i < (cut 47 r).length
       · have hpi:=hpc _ (zAX hlt);repeat' first|refine Rw ⟨?_⟩|(refine aH.mk (fun h=>?_) (fun h=>?_) <;> (try simp only [decide_eq_true_eq,decide_eq_false_iff_not,zAJ,zAN,zAR,zAQ,zAM,zAF,zAA] at h) <;> conv=>whnf)|(refine Rc [] 0 rfl rfl (EW (cut 47 r)[i] (by simp at hs; omega)) ?_; conv=>whnf)|refine Rs ⟨?_⟩|fail
         · have hf:(cut 47 r).all bx=false:=dM (zAB hlt) ‹_›;have hp:ah (x :: r)=false:=by
            by_cases hr:r=[]
            · rw [kW (hn.trans (if_neg fun h=>h.2 hr))]
              simp
            · rw [kW (hn.trans (if_pos ⟨hx,hr⟩))];simp [hf]
           rw [bad hp,hp];exact Rf
         · refine .here ⟨n - 1,by omega,?_⟩;refine la [4,25,26,27] ?_
           conv=>whnf
           refine ⟨rfl,rfl,i+1,by omega,by omega,rfl,rfl,rfl,bN ha (zAB hlt) ‹_›⟩
         · exact absurd hlt (by omega)
       · have hal:(cut 47 r).all bx=true:=fC ha (by omega);have hr:r≠[]:=by
          rintro rfl;simp [cut,bx] at hal
         have hne:=List.length_pos_iff.2 (xX 47 r);have hp:ah (x :: r)=true:=by
          have h1:1≤(cut 47 r).length:=by omega
          have h0:r.length+1≤12:=by simpa using hlen
          rw [kW (hn.trans (if_pos ⟨hx,hr⟩))];simp only [hal,hlen,h1,hcl,decide_true,zBN]
         have hnn:cc (x :: r)=cut 47 r:=by rw [hn,if_pos ⟨hx,hr⟩]
         have good:(if ah (x :: r) then cc (x :: r) else [])=cut 47 r:=by rw [hp,hnn]; rfl
         rw [good,hp];repeat' first|refine Rw ⟨?_⟩|(refine aH.mk (fun h=>?_) (fun h=>?_) <;> (try simp only [decide_eq_true_eq,decide_eq_false_iff_not,zAJ,zAN,zAR,zAQ,zAM,zAF,zAA] at h) <;> conv=>whnf)|refine Rs ⟨?_⟩|fail
         · exact absurd hlt (by omega)
         · exact Rf
theorem cu (s:Bs) (hs:s.length≤1073741824):Con (E m) 26 0 [.s s] [] (.b (ah s)) []:=by
 refine G0 Tryz.func26 ?_;repeat' first|refine Rw ⟨?_⟩|(refine aH.mk (fun h=>?_) (fun h=>?_) <;> (try simp only [decide_eq_true_eq,decide_eq_false_iff_not,zAJ,zAN,zAR,zAQ,zAM,zAF,zAA] at h) <;> conv=>whnf)|(refine Rc [] 1 rfl rfl (tU s hs) ?_; conv=>whnf)|refine Rs ⟨?_⟩|fail
 exact Rf
theorem sA (s:Bs) (hs:s.length≤1073741824):Con (E m) 197 0 [.s s] [] (.s (al s)) []:=by
 have h1:=tU (m:=m) s hs;cases hok:ah s with
 | false=>
   simp only [hok] at h1;have hx:al s=[]:=by simp [al,hok]
   rw [hx];refine G0 Tryz.func197 ?_;repeat' first|refine Rw ⟨?_⟩|(refine aH.mk (fun h=>?_) (fun h=>?_) <;> (try simp only [decide_eq_true_eq,decide_eq_false_iff_not,zAJ,zAN,zAR,zAQ,zAM,zAF,zAA] at h) <;> conv=>whnf)|(refine Rc [] 1 rfl rfl (h1) ?_; conv=>whnf)|refine Rs ⟨?_⟩|fail
   exact Rf
 | true=>
   simp only [hok,if_true] at h1;have hp:=oA hok;have hpl:=rp s;have hj:=GL (m:=m) ((cc s).take ((cc s).length - 1)) 47 (by rw [zAd]; omega) (by
    rw [← List.dropLast_eq_take]
    have:=oB s
    rw [rr hok] at this;simp at this;omega)
   rw [zBW] at hj;have hx:al s=[47]++join 47 ((cc s).take ((cc s).length - 1)):=by
    rw [rr hok,List.dropLast_eq_take];rfl
   have hlj:(join 47 ((cc s).take ((cc s).length - 1))).length≤12:=by
    have:=oB s
    rw [hx] at this;simp at this;omega
   rw [hx];refine G0 Tryz.func197 ?_;repeat' first|refine Rw ⟨?_⟩|(refine aH.mk (fun h=>?_) (fun h=>?_) <;> (try simp only [decide_eq_true_eq,decide_eq_false_iff_not,zAJ,zAN,zAR,zAQ,zAM,zAF,zAA] at h) <;> conv=>whnf)|(refine Rc [] 1 rfl rfl (h1) ?_; conv=>whnf)|(refine Rc [] 0 rfl rfl (hj) ?_; conv=>whnf)|(refine ⟨(cc s).length - 1,by simp only [zAA]; omega,?_⟩; conv=>whnf)|refine Rs ⟨?_⟩|fail
   exact Rf
theorem qN (s:Bs) (hs:s.length≤1073741824):Con (E m) 240 0 [.s s] [] (.b (dD s)) []:=by
 refine G0 Tryz.func240 ?_;repeat' first|refine Rw ⟨?_⟩|(refine aH.mk (fun h=>?_) (fun h=>?_) <;> (try simp only [decide_eq_true_eq,decide_eq_false_iff_not,zAJ,zAN,zAR,zAQ,zAM,zAF,zAA] at h) <;> conv=>whnf)|refine Rs ⟨?_⟩|fail
 · have:¬ s.length≤6:=by omega
   refine Rg ⟨?_⟩
   first|rfl|(simp_all [dD]; done)|(simp [dD] <;> (repeat' split) <;> omega)|(simp only [dD]; repeat' split) <;> first|omega|(simp_all; done)|(simp_all; omega)|(rw [zAK]; simp [*,dD] <;> omega)
 refine Cd.loop (fun n tm S nx=>∃ i:Nat,i≤s.length∧n=s.length - i∧tm=[(0,.s s),(3,.k .i64 i)]∧S=[]∧nx=0∧(s.take i).all (fun b=>eV b || kV b)=true) ⟨s.length,?_⟩ ?_
 · refine la [0,3] ?_
   conv=>whnf
   refine ⟨rfl,rfl,0,zAG _,rfl,rfl,rfl,rfl,rfl⟩
 · rintro n tm S nx ⟨i,hi,hn,rfl,rfl,rfl,ha⟩;repeat' first|refine Rw ⟨?_⟩|(refine aH.mk (fun h=>?_) (fun h=>?_) <;> (try simp only [decide_eq_true_eq,decide_eq_false_iff_not,zAJ,zAN,zAR,zAQ,zAM,zAF,zAA] at h) <;> conv=>whnf)|refine Rs ⟨?_⟩|fail
   all_goals first
    | (have hf:s.all (fun b=>eV b || kV b)=false:=dM (zAB (by omega:i < s.length)) (zY (by omega))
       (first|refine ak.here (fa ?_)|refine fa ?_)
       conv=>whnf
       refine ⟨rfl,rfl,congrArg some (congrArg D.b ?_),rfl⟩
       first|(simp_all [dD]; done)|(rw [zAK]; simp [*,dD] <;> omega))
    | (refine .here ⟨n - 1,by omega,?_⟩
       refine la [0,3] ?_
       conv=>whnf
       refine ⟨rfl,rfl,i+1,by omega,by omega,rfl,rfl,rfl,bN ha (zAB (by omega:i < s.length)) (DT (by omega))⟩)
    | (have hf:s.all (fun b=>eV b || kV b)=true:=fC ha (by omega)
       (first|refine ak.here (fa ?_)|refine fa ?_)
       conv=>whnf
       refine ⟨rfl,rfl,congrArg some (congrArg D.b ?_),rfl⟩
       first|(simp_all [dD]; done)|(rw [zAK]; simp [*,dD] <;> omega))
def nD:Option Ent→D
 | some e=>.tup [.agg e.c,.b true]
 | none=>.tup [.agg [.s [],.b false,.s []],.b false]
theorem GM {t:List Ent} {p:Bs} {i:Nat} {e:Ent} (h:t[i]?=some e) (hp:e.path=p) (hb:∀ k e,k < i→t[k]?=some e→e.path≠p):ao t p=some e:=by
 rcases pK t p with ⟨j,hx,hj,he⟩|⟨hx,he⟩
 · rw [pJ h hp hb] at hx
   have:i=j:=by omega
   subst this;rw [zAB hj] at h;rw [he,h]
 · rw [pJ h hp hb] at hx;omega
theorem Cr {t:List Ent} {p:Bs} (hb:∀ (k:Nat) e,t[k]?=some e→e.path≠p):ao t p=none:=by
 rcases pK t p with ⟨j,hx,hj,he⟩|⟨hx,he⟩
 · rw [oC hb] at hx;omega
 · exact he
theorem jt (t:List Ent) (p:Bs) (ht:t.length≤1073741824):Con (E m) 195 0 [.sl (t.map Ent.c),.s p] [] (nD (ao t p)) []:=by
 refine G0 Tryz.func195 ?_;repeat' first|refine Rw ⟨?_⟩|(refine aH.mk (fun h=>?_) (fun h=>?_) <;> (try simp only [decide_eq_true_eq,decide_eq_false_iff_not,zAJ,zAN,zAR,zAQ,zAM,zAF,zAA] at h) <;> conv=>whnf)|refine Rs ⟨?_⟩|fail
 refine Cd.loop (fun n tm S nx=>∃ i:Nat,i≤t.length∧n=t.length - i∧tm=[(1,.s p),(4,.bp 0 0),(8,.sl (t.map Ent.c)),(9,.k .i64 (t.map Ent.c).length),(10,.k .i64 i)]∧S=[(0,.box 66 [.s [],.b false,.s []])]∧nx=1∧∀ k e,k < i→t[k]?=some e→e.path≠p) ⟨t.length,?_⟩ ?_
 · refine la [1,4,8,9,10] ?_
   conv=>whnf
   refine ⟨rfl,rfl,0,zAG _,rfl,rfl,rfl,rfl,fun k e h=>absurd h (Nat.not_lt_zero _)⟩
 · rintro n tm S nx ⟨i,hi,hn,rfl,rfl,rfl,ha⟩;by_cases hlt:i < t.length
   · repeat' first|refine Rw ⟨?_⟩|(refine aH.mk (fun h=>?_) (fun h=>?_) <;> (try simp only [decide_eq_true_eq,decide_eq_false_iff_not,zAJ,zAN,zAR,zAQ,zAM,zAF,zAA] at h) <;> conv=>whnf)|refine Rs ⟨?_⟩|fail
     · have he:ao t p=some t[i]:=GM (zAB hlt) ‹_› ha;rw [he];exact Rf
     · refine .here ⟨n - 1,by omega,?_⟩;refine la [1,4,8,9,10] ?_
       conv=>whnf
       refine ⟨rfl,rfl,i+1,by omega,by omega,rfl,rfl,rfl,fun k e h1 h2=>?_⟩;by_cases hk:k=i
       · subst hk;rw [zAB hlt] at h2;cases h2;assumption
       · exact ha k e (by omega) h2
     · exact absurd hlt (by omega)
   · repeat' first|refine Rw ⟨?_⟩|(refine aH.mk (fun h=>?_) (fun h=>?_) <;> (try simp only [decide_eq_true_eq,decide_eq_false_iff_not,zAJ,zAN,zAR,zAQ,zAM,zAF,zAA] at h) <;> conv=>whnf)|refine Rs ⟨?_⟩|fail
     · exact absurd hlt (by omega)
     · have he:ao t p=none:=Cr fun k e h=>ha k e (by have:=(List.getElem?_eq_some_iff.1 h).1; omega) h;rw [he];exact Rf
theorem iX (t:List Ent) (p:Bs) (ht:t.length≤1073741824) (hp:p.length≤1073741824):Con (E m) 196 0 [.sl (t.map Ent.c),.s p] [] (.k .i64 (bC t p)) []:=by
 have h1:=sA (m:=m) p hp;have h2:=jt (m:=m) t (al p) ht;by_cases hr:al p=[47]
 · have hx:bC t p=0:=by simp [bC,hr]
   rw [hx];rw [hr] at h1;refine G0 Tryz.func196 ?_;repeat' first|refine Rw ⟨?_⟩|(refine aH.mk (fun h=>?_) (fun h=>?_) <;> (try simp only [decide_eq_true_eq,decide_eq_false_iff_not,zAJ,zAN,zAR,zAQ,zAM,zAF,zAA] at h) <;> conv=>whnf)|(refine Rc [] 0 rfl rfl (h1) ?_; conv=>whnf)|refine Rs ⟨?_⟩|fail
   all_goals first
    | exact absurd rfl ‹¬([47]:Bs)=[47]›
    | exact absurd trivial ‹¬True›
    | skip
   exact Rf
 · match he:ao t (al p),h2 with
   | none,h2=>
     have hx:bC t p=2:=by simp [bC,hr,he]
     rw [hx];refine G0 Tryz.func196 ?_;repeat' first|refine Rw ⟨?_⟩|(refine aH.mk (fun h=>?_) (fun h=>?_) <;> (try simp only [decide_eq_true_eq,decide_eq_false_iff_not,zAJ,zAN,zAR,zAQ,zAM,zAF,zAA] at h) <;> conv=>whnf)|(refine Rc [] 0 rfl rfl (h1) ?_; conv=>whnf)|(refine Rc [] 0 rfl rfl (h2) ?_; conv=>whnf)|refine Rs ⟨?_⟩|fail
     all_goals first
      | exact absurd ‹al p=[47]› hr
      | skip
     exact Rf
   | some e,h2=>
     have hx:bC t p=if e.dir then 0 else 3:=by simp [bC,hr,he]
     rw [hx];refine G0 Tryz.func196 ?_;repeat' first|refine Rw ⟨?_⟩|(refine aH.mk (fun h=>?_) (fun h=>?_) <;> (try simp only [decide_eq_true_eq,decide_eq_false_iff_not,zAJ,zAN,zAR,zAQ,zAM,zAF,zAA] at h) <;> conv=>whnf)|(refine Rc [] 0 rfl rfl (h1) ?_; conv=>whnf)|(refine Rc [] 0 rfl rfl (h2) ?_; conv=>whnf)|refine Rs ⟨?_⟩|fail
     · exact absurd ‹al p=[47]› hr
     all_goals
      exact Rf
variable {m:Int}
theorem gQ (t:List Ent) (hb:∀ e∈t,e.path.length≤1073741824∧e.data.length≤1073741824):Con (E m) 189 0 [.sl (t.map Ent.c)] [] (.b (aq t)) []:=by
 refine G0 Tryz.func189 ?_;repeat' first|refine Rw ⟨?_⟩|(refine aH.mk (fun h=>?_) (fun h=>?_) <;> (try simp only [decide_eq_true_eq,decide_eq_false_iff_not,zAJ,zAN,zAR,zAQ,zAM,zAF,zAA] at h) <;> conv=>whnf)|refine Rs ⟨?_⟩|fail
 · have hf:aq t=false:=by
     have:¬ t.length≤16:=by omega
     simp [aq,this]
   rw [hf];exact Rf
 refine Cd.loop (fun n tm S nx=>∃ i:Nat,i≤t.length∧n=t.length - i∧tm=[(0,.sl (t.map Ent.c)),(8,.sl (t.map Ent.c)),(9,.k .i64 (t.map Ent.c).length),(10,.k .i64 i)]∧S=[]∧nx=0∧∀ k,k < i→okI t k=true) ⟨t.length,?_⟩ ?_
 · refine la [0,8,9,10] ?_
   conv=>whnf
   refine ⟨rfl,rfl,0,zAG _,rfl,rfl,rfl,rfl,fun k h=>absurd h (Nat.not_lt_zero _)⟩
 · rintro n tm S nx ⟨i,hi,hn,rfl,rfl,rfl,ha⟩;by_cases hlt:i < t.length
   · have hq:=hb t[i] (zAX hlt);have h1:=cu (m:=m) t[i].path hq.1;have h2:=qN (m:=m) t[i].data hq.2;have h3:=iX (m:=m) t t[i].path (by omega) hq.1;repeat' first|refine Rw ⟨?_⟩|(refine aH.mk (fun h=>?_) (fun h=>?_) <;> (try simp only [decide_eq_true_eq,decide_eq_false_iff_not,zAJ,zAN,zAR,zAQ,zAM,zAF,zAA] at h) <;> conv=>whnf)|(refine Rc [] 0 rfl rfl (h1) ?_; conv=>whnf)|(refine Rc [] 0 rfl rfl (h2) ?_; conv=>whnf)|(refine Rc [] 0 rfl rfl (h3) ?_; conv=>whnf)|(refine ⟨i - 1,_,by omega,fk (by omega),rfl,?_⟩; conv=>whnf)|refine Rs ⟨?_⟩|fail
     all_goals first
      | (have hf:okI t i=false:=by
           clear h1 h2 h3 hb ha hn;rw [Ci hlt];simp_all [fy,lt]
         have hg:=nR hlt hf;rw [hg];refine ak.here (fa ?_)
         conv=>whnf
         exact ⟨rfl,rfl,rfl,rfl⟩)
      | (have hf:okI t i=true:=by
           clear h1 h2 h3 hb ha hn;rw [Ci hlt];simp_all [fy,lt]
         refine .here ⟨n - 1,by omega,?_⟩;refine la [0,8,9,10] ?_
         conv=>whnf
         refine ⟨rfl,rfl,i+1,by omega,by omega,rfl,rfl,rfl,fun k hk=>?_⟩;by_cases hki:k=i
         · rw [hki]; exact hf
         · exact ha k (by omega))
      | (have hf:okI t i=false:=by
           have hbl:lt (t[i - 1]'(by omega)).path t[i].path=false:=‹Op.bytesLess (t[i - 1]'(by omega)).path t[i].path=false›;rw [Ci hlt,if_pos (by omega:0 < i),hbl]
           simp
         have hg:=nR hlt hf;rw [hg];refine ak.here (fa ?_)
         conv=>whnf
         exact ⟨rfl,rfl,rfl,rfl⟩)
      | exact absurd hlt (by omega)
   · repeat' first|refine Rw ⟨?_⟩|(refine aH.mk (fun h=>?_) (fun h=>?_) <;> (try simp only [decide_eq_true_eq,decide_eq_false_iff_not,zAJ,zAN,zAR,zAQ,zAM,zAF,zAA] at h) <;> conv=>whnf)|refine Rs ⟨?_⟩|fail
     · exact absurd hlt (by omega)
     · have hf:aq t=true:=pM (by omega) fun k hk=>ha k (by omega);rw [hf];exact Rf
theorem Ct (es:List Ent) (hl:es.length≤1048576):Con (E m) 47 0 [.sl (es.map Ent.c)] [] (.own 0) [(0,.own 66 (es.map Ent.c))]:=by
 refine G0 Tryz.func47 ?_;repeat' first|refine Rw ⟨?_⟩|(refine aH.mk (fun h=>?_) (fun h=>?_) <;> (try simp only [decide_eq_true_eq,decide_eq_false_iff_not,zAJ,zAN,zAR,zAQ,zAM,zAF,zAA] at h) <;> conv=>whnf)|(refine ⟨es.length,by simp only [zAA],by simp only [zAA],(by unfold eN; omega),zAC rfl,?_⟩; conv=>whnf)|refine Rs ⟨?_⟩|fail
 refine Cd.loop (fun q tm S nx=>∃ (i:Nat) (xs:List (List D)),i≤es.length∧q=es.length - i∧tm=[(0,.sl (es.map Ent.c)),(3,.own 0),(4,.k .i64 i)]∧S=[(0,.own 66 xs)]∧nx=1∧xs=(es.take i).map Ent.c++List.replicate (es.length - i) [.s [],.b false,.s []]) ⟨es.length,?_⟩ ?_
 · refine la [0,3,4] ?_
   conv=>whnf
   refine ⟨rfl,rfl,0,_,zAG _,rfl,rfl,rfl,rfl,rfl⟩
 · rintro q tm S nx ⟨i,xs,hi,hq,rfl,rfl,rfl,hxs⟩;have hxl:xs.length=es.length:=by rw [hxs]; simp; omega
   by_cases hlt:i < es.length
   · have hg:xs[i]?=some [.s [],.b false,.s []]:=by rw [hxs]; exact kX hlt
     repeat' first|refine Rw ⟨?_⟩|(refine aH.mk (fun h=>?_) (fun h=>?_) <;> (try simp only [decide_eq_true_eq,decide_eq_false_iff_not,zAJ,zAN,zAR,zAQ,zAM,zAF,zAA] at h) <;> conv=>whnf)|(refine Rc [] 0 rfl rfl (wD es[i]) ?_; conv=>whnf)|(refine ⟨_,hg,zAC rfl,?_⟩; conv=>whnf)|refine Rs ⟨?_⟩|fail
     · refine .here ⟨q - 1,by omega,?_⟩;refine la [0,3,4] ?_
       conv=>whnf
       refine ⟨rfl,rfl,i+1,_,by omega,by omega,rfl,rfl,rfl,(by rw [hxs]; exact jS hlt)⟩
     all_goals exact absurd hlt (by omega)
   · have hx:xs=es.map Ent.c:=by
       rw [hxs,zAc (by omega)]
       have:es.length - i=0:=by omega
       simp [this]
     subst hx;repeat' first|refine Rw ⟨?_⟩|(refine aH.mk (fun h=>?_) (fun h=>?_) <;> (try simp only [decide_eq_true_eq,decide_eq_false_iff_not,zAJ,zAN,zAR,zAQ,zAM,zAF,zAA] at h) <;> conv=>whnf)|refine Rs ⟨?_⟩|fail
     · exact absurd hlt (by omega)
     · exact Rf
theorem wI (a b:Ent):Con (E m) 131 0 [.agg a.c,.agg b.c] [] (.b (eqE a b)) []:=by
 refine G0 Tryz.func131 ?_;repeat' first|refine Rw ⟨?_⟩|(refine aH.mk (fun h=>?_) (fun h=>?_) <;> (try simp only [decide_eq_true_eq,decide_eq_false_iff_not,zAJ,zAN,zAR,zAQ,zAM,zAF,zAA] at h) <;> conv=>whnf)|refine Rs ⟨?_⟩|fail
 all_goals
  refine Rg ⟨?_⟩
  first|rfl|(simp_all [eqE]; done)|(simp [eqE] <;> (repeat' split) <;> omega)|(simp only [eqE]; repeat' split) <;> first|omega|(simp_all; done)|(simp_all; omega)|(rw [zAK]; simp [*,eqE] <;> omega)
theorem Cu (t:List Ent) (hl:t.length≤1048576):Con (E m) 54 0 [.sl (t.map Ent.c),.sl (t.map Ent.c)] [] (.b true) []:=by
 refine G0 Tryz.func54 ?_;repeat' first|refine Rw ⟨?_⟩|(refine aH.mk (fun h=>?_) (fun h=>?_) <;> (try simp only [decide_eq_true_eq,decide_eq_false_iff_not,zAJ,zAN,zAR,zAQ,zAM,zAF,zAA] at h) <;> conv=>whnf)|refine Rs ⟨?_⟩|fail
 · exact absurd trivial ‹¬True›
 refine Cd.loop (fun q tm S nx=>∃ (i:Nat),i≤t.length∧q=t.length - i∧tm=[(0,.sl (t.map Ent.c)),(1,.sl (t.map Ent.c)),(5,.k .i64 i)]∧S=[]∧nx=0) ⟨t.length,?_⟩ ?_
 · refine la [0,1,5] ?_
   conv=>whnf
   refine ⟨rfl,rfl,0,zAG _,rfl,rfl,rfl,rfl⟩
 · rintro q tm S nx ⟨i,hi,hq,rfl,rfl,rfl⟩;by_cases hlt:i < t.length
   · have he:=wI (m:=m) t[i] t[i];rw [z7] at he;repeat' first|refine Rw ⟨?_⟩|(refine aH.mk (fun h=>?_) (fun h=>?_) <;> (try simp only [decide_eq_true_eq,decide_eq_false_iff_not,zAJ,zAN,zAR,zAQ,zAM,zAF,zAA] at h) <;> conv=>whnf)|(refine Rc [] 0 rfl rfl (he) ?_; conv=>whnf)|refine Rs ⟨?_⟩|fail
     · refine .here ⟨q - 1,by omega,?_⟩;refine la [0,1,5] ?_
       conv=>whnf
       refine ⟨rfl,rfl,i+1,by omega,by omega,rfl,rfl,rfl⟩
     all_goals exact absurd hlt (by omega)
   · repeat' first|refine Rw ⟨?_⟩|(refine aH.mk (fun h=>?_) (fun h=>?_) <;> (try simp only [decide_eq_true_eq,decide_eq_false_iff_not,zAJ,zAN,zAR,zAQ,zAM,zAF,zAA] at h) <;> conv=>whnf)|refine Rs ⟨?_⟩|fail
     · exact absurd hlt (by omega)
     · exact Rf
end Go.Proofs.YtagejnomlkfndaaGreatDoor
namespace Go.Par
open Go.Ab
def yb (n:Nat) (acc:Bs):Bs:=if n=0 then acc else yb (n / 10) (UInt8.ofNat (48+n % 10) :: acc)
termination_by n
decreasing_by omega
theorem EY (acc:Bs):yb 0 acc=acc:=by rw [yb]; simp
theorem GN {n:Nat} (h:0 < n) (acc:Bs):yb n acc=yb (n / 10) (UInt8.ofNat (48+n % 10) :: acc):=by rw [yb,if_neg (by omega)]
def gu (k:Int):Bs:=if k≤0 then [109,48] else 109 :: yb k.toNat []
def mkL {α:Type} (f:Int→α) (s k:Int):Nat→List α
 | 0=>[]
 | n+1=>mkL f s k n++[f (k+s * n)]
theorem dF {α:Type} (f:Int→α) (s k:Int):∀ n:Nat,(mkL f s k n).length=n
 | 0=>rfl
 | n+1=>by simp [mkL,dF f s k n]
theorem lV {α:Type} {f:Int→α} {s k:Int}:∀ {n i:Nat},i < n→(mkL f s k n)[i]?=some (f (k+s * i))
 | 0,i,h=>absurd h (Nat.not_lt_zero _)
 | n+1,i,h=>by
   rw [mkL];by_cases hi:i=n
   · subst hi;rw [zAW (by rw [dF]; exact zAL _),dF]
     simp
   · rw [zAU (by rw [dF]; omega)];exact lV (by omega)
def fE (k:Int):Ent:=⟨gu k,decide ((k+1) % 3=0),gu (k+1+1)⟩
def fM (k:Int):Mrk:=⟨gu k,k+1,gu (k+1+1)⟩
def fO (k:Int):Opn:=⟨k,gu (k+1),gu (k+1+1),gu (k+1+1+1)⟩
def fI (k:Int):Int:=k
theorem km {α:Type} {A r:List α} {x:α} {i:Nat} (h:i=A.length):(A++x :: r)[i]?=some x:=by
 subst h; simp
theorem kn {α:Type} {A r:List α} {x y:α} {i:Nat} (h:i=A.length):(A++x :: r).set i y=A++y :: r:=by
 subst h; simp
theorem no {α:Type} {l:List α} {i:Nat} {y:α} (h:i < l.length):(l.set i y)[i]?=some y:=by simp [h]
end Go.Par
