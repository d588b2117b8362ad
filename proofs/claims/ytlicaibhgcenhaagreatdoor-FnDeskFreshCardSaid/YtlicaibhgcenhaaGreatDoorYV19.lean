/- 'laws.FnDeskFresh' returns true whatever its argument is, and leaves the argument as it was; the package variables that the row lists hold what the program's text lays. -/
import Derived.Test.YtlicaibhgcenhaaGreatDoorYY19
import Derived.Test.YtlicaibhgcenhaaGreatDoorYY21
set_option linter.unusedSimpArgs false
set_option linter.unusedVariables false
set_option maxHeartbeats 1000000
set_option maxRecDepth 100000
namespace Go.Proofs.YtlicaibhgcenhaaGreatDoor
open Go Go.RowKit Go.Ab Go.Par
variable {m:Int}
theorem law_FnDeskFresh (l:Bs):Con (Eo m) 5 0 [.sl (aA l)] [] (.b true) []:=by
 have hbl:(aA l).length=l.length:=zAA ..;by_cases hl:l.length≤1048576
 · obtain ⟨t,ht,c0⟩:=pm (m:=m) l hl;have c0:=ir c0;have c1:=ir (ln (m:=m) t (by omega));have c2:=er (m:=m) t (by omega);have c3:=er (m:=m) (lh++t) (by rw [zAL]; have:lh.length=40:=rfl; omega);have hA:=ij t;have hF:t.length≤19800→(aT t).length≤19600→nls t≤191→aT (lh++t)=vZ++aT t:=Bu;generalize aT (lh++t)=F at c3 hF;unfold lh at c3;unfold vZ at hF;generalize aT t=A at c1 c2 hA hF;by_cases g1:19800 < t.length
   · refine G1 Tryz.func5 ?_;repeat' first|refine Ra ⟨?_⟩|refine R0 c0 ⟨?_⟩|refine R0 c1 ⟨?_⟩|refine R0 c2 ⟨?_⟩|refine Rd (fun h=>⟨?_⟩) fun h=>⟨?_⟩|refine Rb ⟨?_⟩|fail
     exact Rf
   · by_cases g2:19600 < A.length
     · refine G1 Tryz.func5 ?_;repeat' first|refine Ra ⟨?_⟩|refine R0 c0 ⟨?_⟩|refine R0 c1 ⟨?_⟩|refine R0 c2 ⟨?_⟩|refine Rd (fun h=>⟨?_⟩) fun h=>⟨?_⟩|refine Rb ⟨?_⟩|fail
       exact Rf
     · have hn:=Br t;refine G1 Tryz.func5 ?_;repeat' first|refine Ra ⟨?_⟩|refine R0 c0 ⟨?_⟩|refine R0 c1 ⟨?_⟩|refine R0 c2 ⟨?_⟩|refine Rd (fun h=>⟨?_⟩) fun h=>⟨?_⟩|refine Rb ⟨?_⟩|fail
       refine Cd.loop2 (fun mq tm S nx=>∃ (i:Nat),mq=(t.length - i)∧tm=[(3,.s t),(4,.s A),(5,.k .i64 (nls (t.take i):Nat)),(6,.k .i64 i)]∧S=[]∧nx=0∧(i≤t.length)) ?_ ?_
       · refine la [3,4,5,6] ?_
         conv=>whnf
         refine ⟨rfl,rfl,_,0,rfl,rfl,rfl,rfl,zAG _⟩
       · rintro mq tm S nx ⟨i,hn,rfl,rfl,rfl,hi⟩;have hn2:=Br (t.take i);rw [zAW] at hn2;rcases au t i hi with ⟨rfl,hd⟩|⟨x,q,hx,hd,hr,hlt⟩
         · rw [zAN] at hn2 ⊢;by_cases g3:191 < nls t
           · repeat' first|refine Rx ⟨?_⟩|refine Rd (fun h=>⟨?_⟩) fun h=>⟨?_⟩|fail
             exact Rf
           · rw [hF (by omega) (by omega) (by omega)] at c3;repeat' first|refine Ra ⟨?_⟩|refine R0 c3 ⟨?_⟩|refine Rd (fun h=>⟨?_⟩) fun h=>⟨?_⟩|refine Rb ⟨?_⟩|fail
             exact Rf
         · have hs:=zr hx;by_cases hb:x=10
           · rw [if_pos hb] at hs;subst hb;repeat' first|refine Rx ⟨?_⟩|refine Rd (fun h=>⟨?_⟩) fun h=>⟨?_⟩|fail
             refine .here ⟨mq - 1,by omega,?_⟩;refine la [3,4,5,6] ?_
             conv=>whnf
             refine ⟨rfl,rfl,i+1,(by omega),?_,rfl,rfl,by omega⟩;rw [hs];rfl
           · rw [if_neg hb] at hs;have hb2:¬ (x.toNat:Int)=10:=fun h=>hb (UInt8.toNat_inj.1 (by show x.toNat=10; omega))
             repeat' first|refine Rx ⟨?_⟩|refine Rd (fun h=>⟨?_⟩) fun h=>⟨?_⟩|fail
             refine .here ⟨mq - 1,by omega,?_⟩;refine la [3,4,5,6] ?_
             conv=>whnf
             refine ⟨rfl,rfl,i+1,(by omega),?_,rfl,rfl,by omega⟩;rw [hs];rfl
 · refine G1 Tryz.func5 ?_;repeat' first|refine Rx ⟨?_⟩|refine Rd (fun h=>⟨?_⟩) fun h=>⟨?_⟩|fail
   exact Rf
theorem FnDeskFresh_con (cds:List D) (h:pE Tryz.prog Tryz.f5.params.toList cds):Con (Eo m) 5 0 cds [] (.b true) []:=by
 rw [Tryz.params5] at h
 match cds,h with
 | [d1],⟨h1,_⟩=>
   obtain ⟨l,rfl⟩:=qg h1;exact law_FnDeskFresh l
open Go.ChangeShapes Go.WideShapes Go.ChangeAt in
theorem FnDeskFresh_lifted (os:Os) (started:os.Started) (H:Type) (enc:TypeId × Value→H) :
   ReturnsInHanded {} Tryz.checked os 5 .any (fun w args=>(Rows.fnDeskFreshSpec.pre enc Tryz.prog Tryz.f5 Rows.fnDeskFreshRow.domain false w args∧laidMetH Tryz.prog Rows.fnDeskFreshRow.laid w)∧sizedMet enc Tryz.prog Tryz.f5 (OpenSpec.ofChange Rows.fnDeskFreshSpec) false w args)
     (Rows.fnDeskFreshSpec.post enc Tryz.prog Tryz.f5 false true false false):=by
 refine kF (C:=Tryz.checked) (X:=fun w _=>laidMetH Tryz.prog Rows.fnDeskFreshRow.laid w) (fun _ _ _ hh h=>h.of_heap hh) GV started (by kernel_rfl) Tryz.func5
  (ChangeSpec.witness_shaped (enc:=enc) (C:=Tryz.checked) (os:=os) (X:=fun w _=>laidMetH Tryz.prog Rows.fnDeskFreshRow.laid w) false (World.laidAll Tryz.prog os Rows.fnDeskFreshRow.laid) #[.slice none 0 0] 8 (World.laidAll_os _ _ _)
   (World.shaped_of_ZipB (by kernel_rfl) (by kernel_rfl)) (by kernel_rfl) (by kernel_rfl) (by kernel_rfl)
   (by rw [MakeChecks.laidMetH_plain _ _ _ (by kernel_rfl)]; exact laidMet_laidAll _ (by kernel_rfl) (by kernel_rfl))) ?_
 intro W base args ds gs before hval hW hsh hx;obtain ⟨m,hm⟩:=jJ W hsh;exact kG (E := Eo m) (dp := 8) (bt := 4) (n := "loop.example/pargeting/impl.opWords") (g := 0) (tv := 235) jS (pF (by kernel_rfl)) (by kernel_rfl) Tryz.underlying4 (by kernel_rfl) rfl (by kernel_rfl) (by kernel_rfl) (by kernel_rfl) (of_decide_eq_true (by kernel_rfl)) (fun H ds g hl => match ds, hl with
  | [d1],_=>rfl) FnDeskFresh_con W (BL hm (by kernel_rfl) (by simp [Rows.fnDeskFreshRow]) hx) base args ds gs before hval hW
theorem FnDeskFresh_place:(Rows.fnDeskFreshRow.inPlace == Tryz.prog.inPlace 5)=true:=by kernel_rfl
theorem FnDeskFresh_unf:(Rows.fnDeskFreshRow.unfollowed == Tryz.prog.unfollowed 5)=true:=by kernel_rfl
theorem FnDeskFresh_rec:(Rows.fnDeskFreshRow.recurses == Tryz.prog.recurses 5)=true:=by kernel_rfl
theorem FnDeskFresh_named:(Rows.fnDeskFreshRow.named == Tryz.prog.varsNamed 5)=true:=by kernel_rfl
theorem FnDeskFresh_joined:joinedFacts Tryz.prog 5 Tryz.f5 Rows.fnDeskFreshSpec Rows.fnDeskFreshRow=true:=
 qf (by kernel_rfl) jS BG (by kernel_rfl) (by kernel_rfl) (by kernel_rfl) (by rw [BI]; rfl) (by kernel_rfl) (by rw [BJ]; rfl) FnDeskFresh_place FnDeskFresh_unf FnDeskFresh_rec FnDeskFresh_named
  (by kernel_rfl) (by kernel_rfl) (by kernel_rfl) (by kernel_rfl) (by kernel_rfl) (by kernel_rfl) (by kernel_rfl) (by kernel_rfl) (by kernel_rfl) (by rw [nS]; rfl) (by kernel_rfl) BH Hd (by rw [BF]; rfl) (by rw [Fx]; rfl) (by kernel_rfl) (by kernel_rfl) (by kernel_rfl) (by kernel_rfl)
theorem FnDeskFresh_holds:Rows.FnDeskFreshSaid:=
 OpenClaim.holds_of_wide 5 Tryz.f5 rfl rfl rfl rfl rfl rfl rfl ⟨rfl,rfl,rfl,rfl,rfl⟩ rfl rfl rfl rfl rfl (by kernel_rfl) Tryz.func5 FnDeskFresh_joined
  (of_decide_eq_true (by kernel_rfl)) (by unfold Func.isWrapper; first|(rw [if_pos (by decide +kernel)]; kernel_rfl)|(rw [if_neg (by decide +kernel)]; exact ⟨rfl,rfl⟩))
  (fun os started H enc _=>FnDeskFresh_lifted os started H enc)
theorem FnDeskFresh_card:Rows.FnDeskFreshCardSaid:=
 Claim7.holds_tied_plain_at .later [] [.data,.data,.data,.data,.data,.pinned] true _ false FnDeskFresh_holds (fun _ h=>by cases h) (by kernel_rfl) (fun _ h=>by cases h) fnDeskFresh_row_tie rfl ⟨rfl,rfl⟩ (xO.trans (by kernel_rfl)) rfl
  (fun f fn hf hfn=>by
   obtain rfl : f = 5 := zAY ((show Tryz.prog.funcNamed "loop.example/pargeting/laws.FnDeskFresh" = some 5 by kernel_rfl).symm.trans hf) |>.symm
   obtain rfl:fn=Tryz.f5:=(zAY (Tryz.func5.symm.trans hfn)).symm;exact ⟨BK.symm,fun j t ht=>by
    have hm:t∈Tryz.f5.params.toList:=by simpa using zBK ht
    have hall:(Tryz.f5.params.toList.all fun u=>!Tryz.prog.wantsStandIn u)=true:=by kernel_rfl
    exact (show Tryz.prog.wantsStandIn t=false by simpa using zAr.1 hall t hm)⟩)
  (Fy _ rfl)
end Go.Proofs.YtlicaibhgcenhaaGreatDoor
