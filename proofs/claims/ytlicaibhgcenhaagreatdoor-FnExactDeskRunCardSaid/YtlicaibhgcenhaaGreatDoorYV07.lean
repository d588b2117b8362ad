/- 'laws.FnExactDeskRun' returns true whatever its argument is, and leaves the argument as it was; the package variables that the row lists hold what the program's text lays. -/
import Derived.Test.YtlicaibhgcenhaaGreatDoorYY19
set_option linter.unusedSimpArgs false
set_option linter.unusedVariables false
set_option maxHeartbeats 1000000
set_option maxRecDepth 100000
namespace Go.Proofs.YtlicaibhgcenhaaGreatDoor
open Go Go.RowKit Go.Ab Go.Par
variable {m:Int}
theorem law_FnExactDeskRun (s:Bs) (h1:s.length≤9223372036854775807):Con (Eo m) 3 0 [.s s] [] (.b true) []:=by
 by_cases hs:s.length≤1048576
 · have c1:=ir (ln (m:=m) s hs);have c2:=er (m:=m) s hs;refine G1 Tryz.func3 ?_;repeat' first|refine Ra ⟨?_⟩|refine R0 c1 ⟨?_⟩|refine R0 c2 ⟨?_⟩|refine Rd (fun h=>⟨?_⟩) fun h=>⟨?_⟩|refine Rb ⟨?_⟩|fail
   exact Rf
 · refine G1 Tryz.func3 ?_;repeat' first|refine Rx ⟨?_⟩|refine Rd (fun h=>⟨?_⟩) fun h=>⟨?_⟩|fail
   exact Rf
theorem FnExactDeskRun_con (cds:List D) (h:pE Tryz.prog Tryz.f3.params.toList cds):Con (Eo m) 3 0 cds [] (.b true) []:=by
 rw [Tryz.params3] at h
 match cds,h with
 | [d],⟨h,_⟩=>
   obtain ⟨s,hs,h1⟩:=(h.one (fun fs=>by rw [Tryz.underlying9]; simp)).str_inv Tryz.underlying9;cases hs;exact law_FnExactDeskRun s h1
open Go.ChangeShapes Go.WideShapes Go.ChangeAt in
theorem FnExactDeskRun_lifted (os:Os) (started:os.Started) (H:Type) (enc:TypeId × Value→H) :
   ReturnsInHanded {} Tryz.checked os 3 .any (fun w args=>(Rows.fnExactDeskRunSpec.pre enc Tryz.prog Tryz.f3 Rows.fnExactDeskRunRow.domain false w args∧laidMetH Tryz.prog Rows.fnExactDeskRunRow.laid w)∧sizedMet enc Tryz.prog Tryz.f3 (OpenSpec.ofChange Rows.fnExactDeskRunSpec) false w args)
     (Rows.fnExactDeskRunSpec.post enc Tryz.prog Tryz.f3 false true false false):=by
 refine kF (C:=Tryz.checked) (X:=fun w _=>laidMetH Tryz.prog Rows.fnExactDeskRunRow.laid w) (fun _ _ _ hh h=>h.of_heap hh) GV started (by kernel_rfl) Tryz.func3
  (ChangeSpec.witness_shaped (enc:=enc) (C:=Tryz.checked) (os:=os) (X:=fun w _=>laidMetH Tryz.prog Rows.fnExactDeskRunRow.laid w) false (World.laidAll Tryz.prog os Rows.fnExactDeskRunRow.laid) #[.string ⟨#[]⟩] 8 (World.laidAll_os _ _ _)
   (World.shaped_of_ZipB (by kernel_rfl) (by kernel_rfl)) (by kernel_rfl) (by kernel_rfl) (by kernel_rfl)
   (by rw [MakeChecks.laidMetH_plain _ _ _ (by kernel_rfl)]; exact laidMet_laidAll _ (by kernel_rfl) (by kernel_rfl))) ?_
 intro W base args ds gs before hval hW hsh hx;obtain ⟨m,hm⟩:=jJ W hsh;exact kG (E := Eo m) (dp := 8) (bt := 4) (n := "loop.example/pargeting/impl.opWords") (g := 0) (tv := 235) jS (pF (by kernel_rfl)) (by kernel_rfl) Tryz.underlying4 (by kernel_rfl) rfl (by kernel_rfl) (by kernel_rfl) (by kernel_rfl) (of_decide_eq_true (by kernel_rfl)) (fun H ds g hl => match ds, hl with
  | [d],_=>rfl) FnExactDeskRun_con W (BL hm (by kernel_rfl) (by simp [Rows.fnExactDeskRunRow]) hx) base args ds gs before hval hW
theorem FnExactDeskRun_place:(Rows.fnExactDeskRunRow.inPlace == Tryz.prog.inPlace 3)=true:=by kernel_rfl
theorem FnExactDeskRun_unf:(Rows.fnExactDeskRunRow.unfollowed == Tryz.prog.unfollowed 3)=true:=by kernel_rfl
theorem FnExactDeskRun_rec:(Rows.fnExactDeskRunRow.recurses == Tryz.prog.recurses 3)=true:=by kernel_rfl
theorem FnExactDeskRun_named:(Rows.fnExactDeskRunRow.named == Tryz.prog.varsNamed 3)=true:=by kernel_rfl
theorem FnExactDeskRun_joined:joinedFacts Tryz.prog 3 Tryz.f3 Rows.fnExactDeskRunSpec Rows.fnExactDeskRunRow=true:=
 qf (by kernel_rfl) jS BG (by kernel_rfl) (by kernel_rfl) (by kernel_rfl) (by rw [BI]; rfl) (by kernel_rfl) (by rw [BJ]; rfl) FnExactDeskRun_place FnExactDeskRun_unf FnExactDeskRun_rec FnExactDeskRun_named
  (by kernel_rfl) (by kernel_rfl) (by kernel_rfl) (by kernel_rfl) (by kernel_rfl) (by kernel_rfl) (by kernel_rfl) (by kernel_rfl) (by kernel_rfl) (by rw [nS]; rfl) (by kernel_rfl) BH Hd (by rw [BF]; rfl) (by rw [Fx]; rfl) (by kernel_rfl) (by kernel_rfl) (by kernel_rfl) (by kernel_rfl)
theorem FnExactDeskRun_holds:Rows.FnExactDeskRunSaid:=
 OpenClaim.holds_of_wide 3 Tryz.f3 rfl rfl rfl rfl rfl rfl rfl ⟨rfl,rfl,rfl,rfl,rfl⟩ rfl rfl rfl rfl rfl (by kernel_rfl) Tryz.func3 FnExactDeskRun_joined
  (of_decide_eq_true (by kernel_rfl)) (by unfold Func.isWrapper; first|(rw [if_pos (by decide +kernel)]; kernel_rfl)|(rw [if_neg (by decide +kernel)]; exact ⟨rfl,rfl⟩))
  (fun os started H enc _=>FnExactDeskRun_lifted os started H enc)
theorem FnExactDeskRun_card:Rows.FnExactDeskRunCardSaid:=
 Claim7.holds_tied_plain_at .later [] [.data,.data,.data,.data,.data,.pinned] true _ false FnExactDeskRun_holds (fun _ h=>by cases h) (by kernel_rfl) (fun _ h=>by cases h) fnExactDeskRun_row_tie rfl ⟨rfl,rfl⟩ (xO.trans (by kernel_rfl)) rfl
  (fun f fn hf hfn=>by
   obtain rfl : f = 3 := zAY ((show Tryz.prog.funcNamed "loop.example/pargeting/laws.FnExactDeskRun" = some 3 by kernel_rfl).symm.trans hf) |>.symm
   obtain rfl:fn=Tryz.f3:=(zAY (Tryz.func3.symm.trans hfn)).symm;exact ⟨BK.symm,fun j t ht=>by
    have hm:t∈Tryz.f3.params.toList:=by simpa using zBK ht
    have hall:(Tryz.f3.params.toList.all fun u=>!Tryz.prog.wantsStandIn u)=true:=by kernel_rfl
    exact (show Tryz.prog.wantsStandIn t=false by simpa using zAr.1 hall t hm)⟩)
  (Fy _ rfl)
end Go.Proofs.YtlicaibhgcenhaaGreatDoor
