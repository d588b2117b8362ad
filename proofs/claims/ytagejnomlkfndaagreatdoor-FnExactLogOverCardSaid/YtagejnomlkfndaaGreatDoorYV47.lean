/- 'laws.FnExactLogOver' returns true whatever its arguments are, and leaves the arguments as they were; the package variables that the row lists hold what the program's text lays. -/
import Derived.Test.YtagejnomlkfndaaGreatDoorYY55
import Derived.Test.YtagejnomlkfndaaGreatDoorYY51
import Derived.Test.YtagejnomlkfndaaGreatDoorYY34
import Derived.Test.YtagejnomlkfndaaGreatDoorYY13
set_option linter.unusedSimpArgs false
set_option linter.unusedVariables false
set_option maxHeartbeats 1000000
set_option maxRecDepth 100000
namespace Go.Proofs.YtagejnomlkfndaaGreatDoor
open Go Go.RowKit Go.Ab Go.Par
variable {m:Int}
theorem law_FnExactLogOver (o:Ovr) (ops:List Opn) (hw:WO o) (hO:bigO ops):Con (E m) 3 0 [.agg o.c,.sl (ops.map Opn.c)] [] (.b true) []:=by
 obtain ⟨n1,z1,y1⟩:=Ds (m:=m) o 1048576 (by omega) hw;rcases y1 with rfl|⟨y1,y2,y3⟩
 · refine G0 Tryz.func3 ?_;repeat' first|refine Ra ⟨?_⟩|refine R0 z1 ⟨?_⟩|refine Rd (fun h=>⟨?_⟩) fun h=>⟨?_⟩|refine Rb ⟨?_⟩|fail
   exact Rf
 · obtain ⟨n2,z2,g1⟩:=szO_con (m:=m) ops n1 ⟨y1,by omega⟩ hO;by_cases h2:n2 < 0
   · refine G0 Tryz.func3 ?_;repeat' first|refine Ra ⟨?_⟩|refine R0 z1 ⟨?_⟩|refine R0 z2 ⟨?_⟩|refine Rd (fun h=>⟨?_⟩) fun h=>⟨?_⟩|refine Rb ⟨?_⟩|fail
     exact Rf
   · obtain ⟨g1,g2,g3⟩:=g1.resolve_left h2;have c1:=Dt (m:=m) o y3.cnt;have c2:=toOpS_con (m:=m) ops (by omega);have c3:=Con.away (k:=4) (sLogOver_con (m:=m) o ops y3.v g3 (by omega)) (imm_oT4 o 53 (ops.map Opn.c)) rfl;have c4:=iLogOverO_con (m:=m) o ops y3.v g3 (by omega);obtain ⟨q1,q2⟩:=logOver_cnt o ops;have q3:=logOver_len2 o ops;generalize logOver o ops=P at c3 c4 q1 q2 q3;have c5:=Du (m:=m) P.1 q1;have c6:=Du (m:=m) o y3.cnt;have c7:=CZ (m:=m) P.2 (by omega);have c8:=eqOpS_con (m:=m) ops (by omega);have m1:=y8 (m:=m) o 1 (by omega) y3.cnt;have m2:=markOpS_con (m:=m) ops (1+3 * ir o) (by omega) (by omega);have m3:=y8 (m:=m) P.1 1 (by omega) q1;have m4:=ye (m:=m) P.2 (1+3 * ir P.1) (by omega) (by omega);have m5:=y9 (m:=m) P.1 1 (by omega) q1;have m6:=yf (m:=m) P.2.length (1+3 * ir P.1) (by omega) (by omega);refine G0 Tryz.func3 ?_;repeat' first|refine Ra ⟨?_⟩|refine R0 z1 ⟨?_⟩|refine R0 z2 ⟨?_⟩|refine Rk [] 1 c2 ⟨?_⟩|(refine Rc [] 3 rfl rfl c1 ?_ rfl rfl (Jh rfl) <;> conv=>whnf)|(refine ⟨[1,2,3,4],_,_,_,_,0,⟨rfl,rfl,stO4 rfl rfl rfl (bi _ _) rfl,c3,rfl,rfl⟩,.inl ⟨[],trivial,rfl,.inr (lentO4 rfl rfl rfl (bi _ _) rfl rfl),?_⟩⟩ <;> conv=>whnf)|(refine ⟨[],_,_,_,_,4,⟨rfl,arO3 (o:=o) rfl rfl rfl (bi _ _) rfl,rfl,c4,rfl,dom_lgR rfl⟩,.inl ⟨[],trivial,rfl,.inl ⟨ni_ovT _ _ _ _,ni_lgR _ _⟩,?_⟩⟩ <;> conv=>whnf)|(refine ⟨[],_,_,_,_,0,⟨rfl,arO2 (o:=P.1) (q':=.agg P.1.c) rfl rfl rfl (bi _ _) rfl,rfl,c5,rfl,rfl⟩,.inl ⟨[],trivial,rfl,.inl ⟨by simp [ay,aD,aj],by simp [aF,aG,aj]⟩,?_⟩⟩ <;> conv=>whnf)|(refine ⟨[],_,_,_,_,0,⟨rfl,arOO (o:=o) rfl rfl rfl (bi _ _) rfl rfl rfl (bi _ _),rfl,c6,rfl,rfl⟩,.inl ⟨[],trivial,rfl,.inl ⟨by simp [ay,aD,aj],by simp [aF,aG,aj]⟩,?_⟩⟩ <;> conv=>whnf)|(refine ⟨[],_,_,_,_,0,⟨rfl,rfl,rfl,c7,rfl,rfl⟩,.inl ⟨[],trivial,rfl,.inl ⟨by simp [ay,aD,aj],by simp [aF,aG,aj,Ent.c,Mrk.c,Opn.c]⟩,?_⟩⟩ <;> conv=>whnf)|(refine ⟨[],_,_,_,_,0,⟨rfl,rfl,rfl,c8,rfl,rfl⟩,.inl ⟨[],trivial,rfl,.inl ⟨by simp [ay,aD,aj],by simp [aF,aG,aj,Ent.c,Mrk.c,Opn.c]⟩,?_⟩⟩ <;> conv=>whnf)|(refine ⟨[6,7,8],_,_,_,_,0,⟨rfl,rfl,st3 rfl rfl rfl (bi _ _),m1,rfl,Jh rfl⟩,.inl ⟨[],trivial,rfl,.inr (JF rfl rfl rfl (bi _ _) rfl),?_⟩⟩ <;> conv=>whnf)|refine Rk [10] 0 m2 ⟨?_⟩|(refine ⟨[11,12,13],_,_,_,_,0,⟨rfl,rfl,st3 rfl rfl rfl (bi _ _),m3,rfl,Jh rfl⟩,.inl ⟨[],trivial,rfl,.inr (JF rfl rfl rfl (bi _ _) rfl),?_⟩⟩ <;> conv=>whnf)|refine Rk [14] 0 m4 ⟨?_⟩|(refine ⟨[],_,_,_,_,0,⟨rfl,arO2 (o:=mkO 1 P.1) (q':=.k .i64 1) rfl rfl rfl (bi _ _) rfl,rfl,m5,rfl,rfl⟩,.inl ⟨[],trivial,rfl,.inl ⟨by simp [ay,aD,aj],by simp [aF,aG,aj]⟩,?_⟩⟩ <;> conv=>whnf)|(refine ⟨[],_,_,_,_,0,⟨rfl,rfl,rfl,m6,rfl,rfl⟩,.inl ⟨[],trivial,rfl,.inl ⟨by simp [ay,aD,aj],by simp [aF,aG,aj,Ent.c,Mrk.c,Opn.c]⟩,?_⟩⟩ <;> conv=>whnf)|refine Rd (fun h=>⟨?_⟩) fun h=>⟨?_⟩|refine Rb ⟨?_⟩|fail
     exact Rf
theorem lOver_shp {d:D} (h:r8 Tryz.prog 26 d):∃ o:Ovr,d=.agg o.c∧WO o:=by
 obtain ⟨ds,rfl,h1⟩:=h.struct Tryz.underlying26;have h2:qH Tryz.prog [22,23,24] ds:=h1;obtain ⟨a,_,rfl,ha,b,_,rfl,hb,c,_,rfl,hc,rfl⟩:=h2;obtain ⟨x,rfl,x1,x2⟩:=qj Tryz.underlying22 En ha;obtain ⟨y,rfl,y1,y2⟩:=qj Tryz.underlying23 FG hb;obtain ⟨z,rfl,z1,z2⟩:=qj Tryz.underlying24 Bg hc;exact ⟨⟨x,y,z⟩,rfl,x1,x2,y1,y2,z1,z2⟩
theorem FnExactLogOver_con (cds:List D) (h:tB Tryz.prog Tryz.f3.params.toList cds):Con (E m) 3 0 cds [] (.b true) []:=by
 rw [Tryz.params3] at h
 match cds,h with
 | [d1,d2],⟨h1,h2,_⟩=>
   obtain ⟨o,rfl,hw⟩:=lOver_shp h1;obtain ⟨ops,rfl,ho⟩:=lOps_shp h2;exact law_FnExactLogOver o ops hw ho
open Go.ChangeShapes Go.WideShapes Go.ChangeAt in
theorem FnExactLogOver_lifted (os:Os) (started:os.Started) (H:Type) (enc:TypeId × Value→H) :
   ReturnsInHanded {} Tryz.checked os 3 .any (fun w args=>(Rows.fnExactLogOverSpec.pre enc Tryz.prog Tryz.f3 Rows.fnExactLogOverRow.domain false w args∧laidMetH Tryz.prog Rows.fnExactLogOverRow.laid w)∧sizedMet enc Tryz.prog Tryz.f3 (OpenSpec.ofChange Rows.fnExactLogOverSpec) false w args)
     (Rows.fnExactLogOverSpec.post enc Tryz.prog Tryz.f3 false true false false):=by
 refine pB (C:=Tryz.checked) (X:=fun w _=>laidMetH Tryz.prog Rows.fnExactLogOverRow.laid w) (fun _ _ _ hh h=>h.of_heap hh) Ju started (by kernel_rfl) Tryz.func3
  (ChangeSpec.witness_shaped (enc:=enc) (C:=Tryz.checked) (os:=os) (X:=fun w _=>laidMetH Tryz.prog Rows.fnExactLogOverRow.laid w) false (World.laidAll Tryz.prog os Rows.fnExactLogOverRow.laid) #[.agg #[.slice none 0 0,.slice none 0 0,.slice none 0 0],.slice none 0 0] 8 (World.laidAll_os _ _ _)
   (World.shaped_of_ZipB (by kernel_rfl) (by kernel_rfl)) (by kernel_rfl) (by kernel_rfl) (by kernel_rfl)
   (by rw [MakeChecks.laidMetH_plain _ _ _ (by kernel_rfl)]; exact laidMet_laidAll _ (by kernel_rfl) (by kernel_rfl))) ?_
 intro W base args ds gs before hval hW hsh _;obtain ⟨m,hm⟩:=nX W hsh;exact pA (E:=E m) (dp:=8) (bt:=4) pF (wu (by kernel_rfl)) (by kernel_rfl) Tryz.underlying4 (by kernel_rfl) rfl (fun H ds hl=>match ds,hl with
  | [d1,d2],_=>rfl) FnExactLogOver_con W (Jz hm) base args ds gs before hval hW
theorem FnExactLogOver_place:(Rows.fnExactLogOverRow.inPlace == Tryz.prog.inPlace 3)=true:=by kernel_rfl
theorem FnExactLogOver_unf:(Rows.fnExactLogOverRow.unfollowed == Tryz.prog.unfollowed 3)=true:=by kernel_rfl
theorem FnExactLogOver_rec:(Rows.fnExactLogOverRow.recurses == Tryz.prog.recurses 3)=true:=by kernel_rfl
theorem FnExactLogOver_named:(Rows.fnExactLogOverRow.named == Tryz.prog.varsNamed 3)=true:=by kernel_rfl
theorem FnExactLogOver_joined:joinedFacts Tryz.prog 3 Tryz.f3 Rows.fnExactLogOverSpec Rows.fnExactLogOverRow=true:=
 joined_of (by kernel_rfl) pF rowed0 (by kernel_rfl) (by kernel_rfl) (by kernel_rfl) (by rw [stops0]; rfl) (by kernel_rfl) (by rw [knobs0]; rfl) FnExactLogOver_place FnExactLogOver_unf FnExactLogOver_rec FnExactLogOver_named
  (by kernel_rfl) (by kernel_rfl) (by kernel_rfl) (by kernel_rfl) (by kernel_rfl) (by kernel_rfl) (by kernel_rfl) (by kernel_rfl) (by kernel_rfl) (by rw [plainKeys0]; rfl) (by kernel_rfl) heard0 may0 (by rw [lifts0]; rfl) (by rw [make0]; rfl) (by kernel_rfl) (by kernel_rfl) (by kernel_rfl) (by kernel_rfl)
theorem FnExactLogOver_holds:Rows.FnExactLogOverSaid:=
 OpenClaim.holds_of_wide 3 Tryz.f3 rfl rfl rfl rfl rfl rfl rfl ⟨rfl,rfl,rfl,rfl,rfl⟩ rfl rfl rfl rfl rfl (by kernel_rfl) Tryz.func3 FnExactLogOver_joined
  (of_decide_eq_true (by kernel_rfl)) (by unfold Func.isWrapper; first|(rw [if_pos (by decide +kernel)]; kernel_rfl)|(rw [if_neg (by decide +kernel)]; exact ⟨rfl,rfl⟩))
  (fun os started H enc _=>FnExactLogOver_lifted os started H enc)
theorem FnExactLogOver_card:Rows.FnExactLogOverCardSaid:=
 Claim7.holds_tied_plain_at .later [] [.data,.pinned] true _ false FnExactLogOver_holds (fun _ h=>by cases h) (by kernel_rfl) (fun _ h=>by cases h) fnExactLogOver_row_tie rfl ⟨rfl,rfl⟩ (mainIs0.trans (by kernel_rfl)) rfl
  (fun f fn hf hfn=>by
   obtain rfl : f = 3 := zAb ((show Tryz.prog.funcNamed "loop.example/pargeting/laws.FnExactLogOver" = some 3 by kernel_rfl).symm.trans hf) |>.symm
   obtain rfl:fn=Tryz.f3:=(zAb (Tryz.func3.symm.trans hfn)).symm;exact ⟨looks0.symm,fun j t ht=>by
    have hm:t∈Tryz.f3.params.toList:=by simpa using zBc ht
    have hall:(Tryz.f3.params.toList.all fun u=>!Tryz.prog.wantsStandIn u)=true:=by kernel_rfl
    exact (show Tryz.prog.wantsStandIn t=false by simpa using zAs.1 hall t hm)⟩)
  (goes0 _ rfl)
end Go.Proofs.YtagejnomlkfndaaGreatDoor
