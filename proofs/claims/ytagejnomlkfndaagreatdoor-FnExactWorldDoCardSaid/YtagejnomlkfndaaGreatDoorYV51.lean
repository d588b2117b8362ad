/- 'laws.FnExactWorldDo' returns true whatever its arguments are, and leaves the arguments as they were; the package variables that the row lists hold what the program's text lays. -/
import Derived.Test.YtagejnomlkfndaaGreatDoorYY63
import Derived.Test.YtagejnomlkfndaaGreatDoorYY13
set_option linter.unusedSimpArgs false
set_option linter.unusedVariables false
set_option maxHeartbeats 1000000
set_option maxRecDepth 100000
namespace Go.Proofs.YtagejnomlkfndaaGreatDoor
open Go Go.RowKit Go.Ab Go.Par
variable {m:Int}
theorem sn_w7 {S:ac} {a b c d e f g:Nat} {x0 x2 x3 x5 x6:List (List D)} {z1 z2:List aE} {t0 t1 t1' t2 t3 t4 t4' t5 t6:TypeId} (h0:lk S a=some (.own t0 x0)) (h1:lk S b=some (.deep t1 t1' z1)) (h2:lk S c=some (.own t2 x2)) (h3:lk S d=some (.own t3 x3)) (h4:lk S e=some (.deep t4 t4' z2)) (h5:lk S f=some (.own t5 x5)) (h6:lk S g=some (.own t6 x6)) (g1:dL z1=[]) (g2:dL z2=[]):bV S [a,b,c,d,e,f,g]=[]:=by
 simp only [bV,h0,h1,h2,h3,h4,h5,h6,cz,g1,g2,List.append_nil]
theorem law_FnExactWorldDo (w:Wld) (e:Evn) (hw:WW w) (he:wEv e):Con (E m) 6 0 [.agg w.c,.agg e.c] [] (.b true) []:=by
 obtain ⟨n1,z1,y1⟩:=Be (m:=m) w 1048576 (by omega) hw;rcases y1 with rfl|⟨y1,y2,y3⟩
 · refine G0 Tryz.func6 ?_;repeat' first|refine Ra ⟨?_⟩|refine R0 z1 ⟨?_⟩|refine Rd (fun h=>⟨?_⟩) fun h=>⟨?_⟩|refine Rb ⟨?_⟩|fail
   exact Rf
 · obtain ⟨n2,z2,g1⟩:=Hu (m:=m) e n1 ⟨y1,by omega⟩ he;rcases g1 with rfl|⟨g1,g2,g3⟩
   · refine G0 Tryz.func6 ?_;repeat' first|refine Ra ⟨?_⟩|refine R0 z1 ⟨?_⟩|refine R0 z2 ⟨?_⟩|refine Rd (fun h=>⟨?_⟩) fun h=>⟨?_⟩|refine Rb ⟨?_⟩|fail
     exact Rf
   · have c1:=Bf (m:=m) w y3.cnt;have c2:=Ht (m:=m) e;have c3:=Con.away (k:=7) (vP (m:=m) w e y3 (by omega) g3) (Jp w (.agg e.c) rfl) rfl;have c4:=vO (m:=m) w e y3.w (fun hok l hl=>by have:=((y3.n5 hok (by omega)).hs l hl).2; omega) g3.b;obtain ⟨q1,q2⟩:=Bz w e (by omega);generalize bX w e=P at c3 c4 q1 q2;have c5:=rX (m:=m) P.1 q1;have c6:=rX (m:=m) w y3.cnt;have c7:=n9 (m:=m) w 1 (by omega) y3.cnt;have hk:0≤mkW w 1:=by unfold mkW; omega
     generalize mkW w 1=K at c7 hk;have m1:=n9 (m:=m) P.1 1 (by omega) q1;have m2:=vK (m:=m) P.1 1 (by omega) q1;have hj:0≤mkW P.1 1:=by unfold mkW; omega
     generalize mkW P.1 1=J at m1 m2 hj;have e0:=Jn P.1 0 1 2 3 4 5 6 .i64 P.2;refine G0 Tryz.func6 ?_;repeat' first|((conv=>whnf); refine And.intro (a:=mf _ _=true) ?_ ?_; focus (rw [sn_w7]; kernel_rfl; all_goals first|exact rfl|exact (congrArg dL (bi _ _)).trans (eU _)); (try (conv=>whnf)))|((conv=>whnf); first|refine Ops.noneF rfl ?_|refine Cd.seq ?_|refine Ops.nil ?_|refine Cd.region ?_|refine Ops.guardF rfl rfl rfl ?_|refine Ops.off rfl rfl rfl ?_|refine Cd.drawn ?_)|refine Ra ⟨?_⟩|refine R0 z1 ⟨?_⟩|refine R0 z2 ⟨?_⟩|refine R0 c2 ⟨?_⟩|(refine Rc [] 7 rfl rfl c1 ?_ rfl rfl (Ih rfl) <;> conv=>whnf)|(refine ⟨[2,3,4,5,6,7,8],_,_,_,_,0,⟨rfl,rfl,st7 rfl rfl rfl rfl rfl rfl rfl (bi _ _) (bi _ _),c3,rfl,rfl⟩,.inl ⟨[],trivial,rfl,.inr (Hr rfl rfl rfl rfl rfl rfl rfl (bi _ _) (bi _ _) rfl),?_⟩⟩ <;> conv=>whnf)|(refine ⟨[],_,_,_,_,7,⟨rfl,Jo (w:=w) (q':=.agg e.c) rfl rfl rfl rfl rfl rfl rfl (bi _ _) (bi _ _) rfl,rfl,c4,rfl,Ih rfl⟩,.inl ⟨[],trivial,rfl,.inl ⟨e0,JN _⟩,?_⟩⟩ <;> conv=>whnf)|(refine ⟨[],_,_,_,_,0,⟨rfl,Jo (w:=P.1) (q':=.agg P.1.c) rfl rfl rfl rfl rfl rfl rfl (bi _ _) (bi _ _) rfl,rfl,c5,rfl,rfl⟩,.inl ⟨[],trivial,rfl,.inl ⟨by simp [ay,aD,aj],by simp [aF,aG,aj]⟩,?_⟩⟩ <;> conv=>whnf)|(refine ⟨[],_,_,_,_,0,⟨rfl,JT (w:=w) rfl rfl rfl rfl rfl rfl rfl (bi _ _) (bi _ _) rfl rfl rfl rfl rfl rfl rfl (bi _ _) (bi _ _),rfl,c6,rfl,rfl⟩,.inl ⟨[],trivial,rfl,.inl ⟨by simp [ay,aD,aj],by simp [aF,aG,aj]⟩,?_⟩⟩ <;> conv=>whnf)|(refine ⟨[10,11,12,13,14,15,16],_,_,_,_,0,⟨rfl,rfl,st7 rfl rfl rfl rfl rfl rfl rfl (bi _ _) (bi _ _),c7,rfl,Ih rfl⟩,.inl ⟨[],trivial,rfl,.inr (Hr rfl rfl rfl rfl rfl rfl rfl (bi _ _) (bi _ _) rfl),?_⟩⟩ <;> conv=>whnf)|(refine ⟨[18,19,20,21,22,23,24],_,_,_,_,0,⟨rfl,rfl,st7 (w:=P.1) rfl rfl rfl rfl rfl rfl rfl (bi _ _) (bi _ _),m1,rfl,Ih rfl⟩,.inl ⟨[],trivial,rfl,.inr (Hr (w:=P.1) rfl rfl rfl rfl rfl rfl rfl (bi _ _) (bi _ _) rfl),?_⟩⟩ <;> conv=>whnf)|(refine ⟨[],_,_,_,_,0,⟨rfl,Jo (w:=mkD P.1 1) (q':=.k .i64 1) rfl rfl rfl rfl rfl rfl rfl (bi _ _) (bi _ _) rfl,rfl,m2,rfl,rfl⟩,.inl ⟨[],trivial,rfl,.inl ⟨by simp [ay,aD,aj],by simp [aF,aG,aj]⟩,?_⟩⟩ <;> conv=>whnf)|refine Rd (fun h=>⟨?_⟩) fun h=>⟨?_⟩|refine Rb ⟨?_⟩|fail
     exact Rf
theorem FnExactWorldDo_con (cds:List D) (h:tB Tryz.prog Tryz.f6.params.toList cds):Con (E m) 6 0 cds [] (.b true) []:=by
 rw [Tryz.params6] at h
 match cds,h with
 | [d1,d2],⟨h1,h2,_⟩=>
   obtain ⟨w,rfl,hw⟩:=Dw h1;obtain ⟨e,rfl,he⟩:=Iq h2;exact law_FnExactWorldDo w e hw he
open Go.ChangeShapes Go.WideShapes Go.ChangeAt in
theorem FnExactWorldDo_lifted (os:Os) (started:os.Started) (H:Type) (enc:TypeId × Value→H) :
   ReturnsInHanded {} Tryz.checked os 6 .any (fun w args=>(Rows.fnExactWorldDoSpec.pre enc Tryz.prog Tryz.f6 Rows.fnExactWorldDoRow.domain false w args∧laidMetH Tryz.prog Rows.fnExactWorldDoRow.laid w)∧sizedMet enc Tryz.prog Tryz.f6 (OpenSpec.ofChange Rows.fnExactWorldDoSpec) false w args)
     (Rows.fnExactWorldDoSpec.post enc Tryz.prog Tryz.f6 false true false false):=by
 refine pB (C:=Tryz.checked) (X:=fun w _=>laidMetH Tryz.prog Rows.fnExactWorldDoRow.laid w) (fun _ _ _ hh h=>h.of_heap hh) Ju started (by kernel_rfl) Tryz.func6
  (ChangeSpec.witness_shaped (enc:=enc) (C:=Tryz.checked) (os:=os) (X:=fun w _=>laidMetH Tryz.prog Rows.fnExactWorldDoRow.laid w) false (World.laidAll Tryz.prog os Rows.fnExactWorldDoRow.laid) #[.agg #[.slice none 0 0,.slice none 0 0,.slice none 0 0,.int .i64 0,.int .i64 0,.slice none 0 0,.slice none 0 0,.slice none 0 0,.slice none 0 0,.bool false,.int .i64 0,.string ⟨#[]⟩,.string ⟨#[]⟩,.string ⟨#[]⟩],.agg #[.int .i64 0,.int .i64 0,.string ⟨#[]⟩,.int .i64 0,.string ⟨#[]⟩,.string ⟨#[]⟩,.string ⟨#[]⟩,.int .i64 0]] 8 (World.laidAll_os _ _ _)
   (World.shaped_of_ZipB (by kernel_rfl) (by kernel_rfl)) (by kernel_rfl) (by kernel_rfl) (by kernel_rfl)
   (by rw [MakeChecks.laidMetH_plain _ _ _ (by kernel_rfl)]; exact laidMet_laidAll _ (by kernel_rfl) (by kernel_rfl))) ?_
 intro W base args ds gs before hval hW hsh _;obtain ⟨m,hm⟩:=nX W hsh;exact pA (E:=E m) (dp:=8) (bt:=4) pF (wu (by kernel_rfl)) (by kernel_rfl) Tryz.underlying4 (by kernel_rfl) rfl (fun H ds hl=>match ds,hl with
  | [d1,d2],_=>rfl) FnExactWorldDo_con W (Jz hm) base args ds gs before hval hW
theorem FnExactWorldDo_place:(Rows.fnExactWorldDoRow.inPlace == Tryz.prog.inPlace 6)=true:=by kernel_rfl
theorem FnExactWorldDo_unf:(Rows.fnExactWorldDoRow.unfollowed == Tryz.prog.unfollowed 6)=true:=by kernel_rfl
theorem FnExactWorldDo_rec:(Rows.fnExactWorldDoRow.recurses == Tryz.prog.recurses 6)=true:=by kernel_rfl
theorem FnExactWorldDo_named:(Rows.fnExactWorldDoRow.named == Tryz.prog.varsNamed 6)=true:=by kernel_rfl
theorem FnExactWorldDo_joined:joinedFacts Tryz.prog 6 Tryz.f6 Rows.fnExactWorldDoSpec Rows.fnExactWorldDoRow=true:=
 joined_of (by kernel_rfl) pF rowed0 (by kernel_rfl) (by kernel_rfl) (by kernel_rfl) (by rw [stops0]; rfl) (by kernel_rfl) (by rw [knobs0]; rfl) FnExactWorldDo_place FnExactWorldDo_unf FnExactWorldDo_rec FnExactWorldDo_named
  (by kernel_rfl) (by kernel_rfl) (by kernel_rfl) (by kernel_rfl) (by kernel_rfl) (by kernel_rfl) (by kernel_rfl) (by kernel_rfl) (by kernel_rfl) (by rw [plainKeys0]; rfl) (by kernel_rfl) heard0 may0 (by rw [lifts0]; rfl) (by rw [make0]; rfl) (by kernel_rfl) (by kernel_rfl) (by kernel_rfl) (by kernel_rfl)
theorem FnExactWorldDo_holds:Rows.FnExactWorldDoSaid:=
 OpenClaim.holds_of_wide 6 Tryz.f6 rfl rfl rfl rfl rfl rfl rfl ⟨rfl,rfl,rfl,rfl,rfl⟩ rfl rfl rfl rfl rfl (by kernel_rfl) Tryz.func6 FnExactWorldDo_joined
  (of_decide_eq_true (by kernel_rfl)) (by unfold Func.isWrapper; first|(rw [if_pos (by decide +kernel)]; kernel_rfl)|(rw [if_neg (by decide +kernel)]; exact ⟨rfl,rfl⟩))
  (fun os started H enc _=>FnExactWorldDo_lifted os started H enc)
theorem FnExactWorldDo_card:Rows.FnExactWorldDoCardSaid:=
 Claim7.holds_tied_plain_at .later [] [.data,.pinned] true _ false FnExactWorldDo_holds (fun _ h=>by cases h) (by kernel_rfl) (fun _ h=>by cases h) fnExactWorldDo_row_tie rfl ⟨rfl,rfl⟩ (mainIs0.trans (by kernel_rfl)) rfl
  (fun f fn hf hfn=>by
   obtain rfl : f = 6 := zAb ((show Tryz.prog.funcNamed "loop.example/pargeting/laws.FnExactWorldDo" = some 6 by kernel_rfl).symm.trans hf) |>.symm
   obtain rfl:fn=Tryz.f6:=(zAb (Tryz.func6.symm.trans hfn)).symm;exact ⟨looks0.symm,fun j t ht=>by
    have hm:t∈Tryz.f6.params.toList:=by simpa using zBc ht
    have hall:(Tryz.f6.params.toList.all fun u=>!Tryz.prog.wantsStandIn u)=true:=by kernel_rfl
    exact (show Tryz.prog.wantsStandIn t=false by simpa using zAs.1 hall t hm)⟩)
  (goes0 _ rfl)
end Go.Proofs.YtagejnomlkfndaaGreatDoor
