/- 'laws.FnWorldAsk' returns true whatever its arguments are, and leaves the arguments as they were; the package variables that the row lists hold what the program's text lays. -/
import Derived.Test.YtagejnomlkfndaaGreatDoorYY66
import Derived.Test.YtagejnomlkfndaaGreatDoorYY39
import Derived.Test.YtagejnomlkfndaaGreatDoorYY56
import Derived.Test.YtagejnomlkfndaaGreatDoorYY13
import Derived.Test.YtagejnomlkfndaaGreatDoorYY32
import Derived.Test.YtagejnomlkfndaaGreatDoorYY22
import Derived.Test.YtagejnomlkfndaaGreatDoorYY40
import Derived.Test.YtagejnomlkfndaaGreatDoorYY44
import Derived.Test.YtagejnomlkfndaaGreatDoorYY50
import Derived.Test.YtagejnomlkfndaaGreatDoorYY23
import Derived.Test.YtagejnomlkfndaaGreatDoorYY19
set_option linter.unusedSimpArgs false
set_option linter.unusedVariables false
set_option maxHeartbeats 1000000
set_option maxRecDepth 100000
namespace Go.Proofs.YtagejnomlkfndaaGreatDoor
open Go Go.RowKit Go.Ab Go.Par
variable {m:Int}
theorem bndN_w0 {n:Nat}:dj n w0:=⟨Hb,by simp [w0],by simp [w0],by simp [w0],by simp [w0],by simp [w0],by simp [w0],by simp [w0],by simp [w0,jc,op0]⟩
theorem bndN_worldDo {n:Nat} {w:Wld} (h:dj n w) {e:Evn} (he:ql e):dj (n+1) (bX w e).1:=by
 unfold bX;by_cases hok:ba w=true
 · rw [if_pos hok];obtain ⟨t,v,ho,hw,_⟩:=bB hok;exact h.do_ ho hw he
 · rw [if_neg hok];exact bndN_w0
theorem law_FnWorldAsk (l:Bs):Con (E m) 4 0 [.sl (bh l)] [] (.b true) []:=by
 have hbl:(bh l).length=l.length:=zAA ..;by_cases hl:l.length≤1048576
 · obtain ⟨w,who,p,hb,hp,c0⟩:=qn (m:=m) l hl;have hE:ql ⟨1,who,p,op0,0⟩:=⟨by simp only; omega,by simp [jc,op0]⟩;have hb1:=hb.up (k:=1048575) (by omega);have hbw:=hb1.w (by omega);have c1:=zh (m:=m) w ⟨1,who,p,op0,0⟩ hbw (fun l h=>(hb1.hs l h).2) hE;have c2:=qm (m:=m) w ⟨1,who,p,op0,0⟩ hb1 hE;have hB:=(bndN_worldDo hb hE).w (by omega);have c3:=m7 (m:=m) (bX w ⟨1,who,p,op0,0⟩).1 (bX w ⟨1,who,p,op0,0⟩).1 hB hB;rw [decide_eq_true rfl] at c3;have c4:=l7 (m:=m) w hbw;have c5:=m7 (m:=m) w w hbw hbw;rw [decide_eq_true rfl] at c5;have c6:=cu (m:=m) p (by omega);by_cases hok:ba w=true
   · rw [hok] at c4;obtain ⟨t,v,ho,hw,_⟩:=bB hok;have hnl:=hw.nl;have e1:(w.net.map Mes.c).length=w.net.length:=zAA ..;have hx:bX w ⟨1,who,p,op0,0⟩=wDo w ⟨1,who,p,op0,0⟩:=by rw [bX,if_pos hok]
     rw [hx] at c1 c2 c3;unfold wDo at c1 c2 c3;simp only [if_true] at c1 c2 c3;by_cases hp2:ah p=true
     · rw [hp2] at c1 c2 c3 c6;by_cases hlo:who < 0
       · have hq:dJ who=false:=by unfold dJ; rw [decide_eq_false (by omega)]; rfl
         rw [hq] at c1 c2 c3;simp only [zAg,zAF,if_false] at c1 c2 c3;refine G0 Tryz.func4 ?_;repeat' first|refine Ra ⟨?_⟩|refine R0 c0 ⟨?_⟩|refine R0 c1 ⟨?_⟩|refine R0 c2 ⟨?_⟩|refine R0 c3 ⟨?_⟩|refine R0 c4 ⟨?_⟩|refine R0 c5 ⟨?_⟩|refine R0 c6 ⟨?_⟩|refine Rd (fun h=>⟨?_⟩) fun h=>⟨?_⟩|refine Rb ⟨?_⟩|fail
         exact Rf
       · by_cases hhi:3≤who
         · have hq:dJ who=false:=by unfold dJ; rw [decide_eq_false (by omega:¬ who≤2),zBH]
           rw [hq] at c1 c2 c3;simp only [zAg,zAF,if_false] at c1 c2 c3;refine G0 Tryz.func4 ?_;repeat' first|refine Ra ⟨?_⟩|refine R0 c0 ⟨?_⟩|refine R0 c1 ⟨?_⟩|refine R0 c2 ⟨?_⟩|refine R0 c3 ⟨?_⟩|refine R0 c4 ⟨?_⟩|refine R0 c5 ⟨?_⟩|refine R0 c6 ⟨?_⟩|refine Rd (fun h=>⟨?_⟩) fun h=>⟨?_⟩|refine Rb ⟨?_⟩|fail
           exact Rf
         · have hq:dJ who=true:=by unfold dJ; rw [decide_eq_true (by omega),decide_eq_true (by omega)]; rfl
           rw [hq] at c1 c2 c3;simp only [zBN,if_true] at c1 c2 c3;by_cases h12:w.net.length < 12
           · have hs:bZ w.net (⟨1,who,aZ p 0⟩:Mes)=w.net++[(⟨1,who,aZ p 0⟩:Mes)]:=by rw [bZ,if_pos h12]
             rw [hs] at c1 c2 c3;have g1:((w.net++[(⟨1,who,aZ p 0⟩:Mes)]).map Mes.c)[(w.net.map Mes.c).length]?=some (Mes.c (⟨1,who,aZ p 0⟩:Mes)):=by rw [e1]; simp
             have g2:((((w.net++[(⟨1,who,aZ p 0⟩:Mes)]).map Mes.c).take (w.net.map Mes.c).length).drop 0)=w.net.map Mes.c:=by rw [e1]; simp
             have g3:((w.net++[(⟨1,who,aZ p 0⟩:Mes)]).map Mes.c).length=w.net.length+1:=by simp
             have hL:(w.net++[(⟨1,who,aZ p 0⟩:Mes)]).length=w.net.length+1:=by simp
             have g4:=IE (⟨1,who,aZ p 0⟩:Mes);have c7:Con (E m) 24 0 [.agg [.sl (w.over.base.map Ent.c),.sl (w.over.layers.map cm),.sl (w.over.upper.map Mrk.c),.k .i64 w.clock,.k .i64 w.count,.sl (w.leases.map Lse.c),.sl (w.holds.map cy),.sl (ck w.floors),.sl ((((w.net++[(⟨1,who,aZ p 0⟩:Mes)]).map Mes.c).take (w.net.map Mes.c).length).drop 0),.b w.waits,.k .i64 w.op.kind,.s w.op.path,.s w.op.tgt,.s w.op.data],.agg w.c] [] (.b true) []:=by
              rw [g2];exact c5
             refine G0 Tryz.func4 ?_;repeat' first|refine Ra ⟨?_⟩|refine R0 c0 ⟨?_⟩|refine R0 c1 ⟨?_⟩|refine R0 c2 ⟨?_⟩|refine R0 c3 ⟨?_⟩|refine R0 c4 ⟨?_⟩|refine R0 c6 ⟨?_⟩|refine R0 c7 ⟨?_⟩|((refine ⟨pC fun _=>rfl,?_⟩) <;> conv=>whnf)|((refine ⟨(w.net.map Mes.c).length,_,rfl,g1,rfl,?_⟩) <;> conv=>whnf)|refine Rd (fun h=>⟨?_⟩) fun h=>⟨?_⟩|refine Rb ⟨?_⟩|fail
             all_goals first|(exfalso; omega)|exact Rf
           · have hs:bZ w.net (⟨1,who,aZ p 0⟩:Mes)=w.net:=by rw [bZ,if_neg h12]
             rw [hs] at c1 c2 c3;refine G0 Tryz.func4 ?_;repeat' first|refine Ra ⟨?_⟩|refine R0 c0 ⟨?_⟩|refine R0 c1 ⟨?_⟩|refine R0 c2 ⟨?_⟩|refine R0 c4 ⟨?_⟩|refine R0 c5 ⟨?_⟩|refine R0 c6 ⟨?_⟩|refine Rd (fun h=>⟨?_⟩) fun h=>⟨?_⟩|refine Rb ⟨?_⟩|fail
             exact Rf
     · have hp2:ah p=false:=by simpa using hp2
       rw [hp2] at c1 c2 c3 c6;simp only [zBH,zAF,if_false] at c1 c2 c3;refine G0 Tryz.func4 ?_;repeat' first|refine Ra ⟨?_⟩|refine R0 c0 ⟨?_⟩|refine R0 c1 ⟨?_⟩|refine R0 c2 ⟨?_⟩|refine R0 c3 ⟨?_⟩|refine R0 c4 ⟨?_⟩|refine R0 c5 ⟨?_⟩|refine R0 c6 ⟨?_⟩|refine Rd (fun h=>⟨?_⟩) fun h=>⟨?_⟩|refine Rb ⟨?_⟩|fail
       all_goals exact Rf
   · have hok:ba w=false:=by simpa using hok
     rw [hok] at c4;generalize bX w ⟨1,who,p,op0,0⟩=P at c1 c2 c3;refine G0 Tryz.func4 ?_;repeat' first|refine Ra ⟨?_⟩|refine R0 c0 ⟨?_⟩|refine R0 c1 ⟨?_⟩|refine R0 c2 ⟨?_⟩|refine R0 c3 ⟨?_⟩|refine R0 c4 ⟨?_⟩|refine Rd (fun h=>⟨?_⟩) fun h=>⟨?_⟩|refine Rb ⟨?_⟩|fail
     exact Rf
 · refine G0 Tryz.func4 ?_;repeat' first|refine Rx ⟨?_⟩|refine Rd (fun h=>⟨?_⟩) fun h=>⟨?_⟩|fail
   exact Rf
theorem FnWorldAsk_con (cds:List D) (h:tB Tryz.prog Tryz.f4.params.toList cds):Con (E m) 4 0 cds [] (.b true) []:=by
 rw [Tryz.params4] at h
 match cds,h with
 | [d1],⟨h1,_⟩=>
   obtain ⟨l,rfl⟩:=Fe h1;exact law_FnWorldAsk l
open Go.ChangeShapes Go.WideShapes Go.ChangeAt in
theorem FnWorldAsk_lifted (os:Os) (started:os.Started) (H:Type) (enc:TypeId × Value→H) :
   ReturnsInHanded {} Tryz.checked os 4 .any (fun w args=>(Rows.fnWorldAskSpec.pre enc Tryz.prog Tryz.f4 Rows.fnWorldAskRow.domain false w args∧laidMetH Tryz.prog Rows.fnWorldAskRow.laid w)∧sizedMet enc Tryz.prog Tryz.f4 (OpenSpec.ofChange Rows.fnWorldAskSpec) false w args)
     (Rows.fnWorldAskSpec.post enc Tryz.prog Tryz.f4 false true false false):=by
 refine pB (C:=Tryz.checked) (X:=fun w _=>laidMetH Tryz.prog Rows.fnWorldAskRow.laid w) (fun _ _ _ hh h=>h.of_heap hh) Ju started (by kernel_rfl) Tryz.func4
  (ChangeSpec.witness_shaped (enc:=enc) (C:=Tryz.checked) (os:=os) (X:=fun w _=>laidMetH Tryz.prog Rows.fnWorldAskRow.laid w) false (World.laidAll Tryz.prog os Rows.fnWorldAskRow.laid) #[.slice none 0 0] 8 (World.laidAll_os _ _ _)
   (World.shaped_of_ZipB (by kernel_rfl) (by kernel_rfl)) (by kernel_rfl) (by kernel_rfl) (by kernel_rfl)
   (by rw [MakeChecks.laidMetH_plain _ _ _ (by kernel_rfl)]; exact laidMet_laidAll _ (by kernel_rfl) (by kernel_rfl))) ?_
 intro W base args ds gs before hval hW hsh _;obtain ⟨m,hm⟩:=nX W hsh;exact pA (E:=E m) (dp:=8) (bt:=4) pF (wu (by kernel_rfl)) (by kernel_rfl) Tryz.underlying4 (by kernel_rfl) rfl (fun H ds hl=>match ds,hl with
  | [d1],_=>rfl) FnWorldAsk_con W (Jz hm) base args ds gs before hval hW
theorem FnWorldAsk_place:(Rows.fnWorldAskRow.inPlace == Tryz.prog.inPlace 4)=true:=by kernel_rfl
theorem FnWorldAsk_unf:(Rows.fnWorldAskRow.unfollowed == Tryz.prog.unfollowed 4)=true:=by kernel_rfl
theorem FnWorldAsk_rec:(Rows.fnWorldAskRow.recurses == Tryz.prog.recurses 4)=true:=by kernel_rfl
theorem FnWorldAsk_named:(Rows.fnWorldAskRow.named == Tryz.prog.varsNamed 4)=true:=by kernel_rfl
theorem FnWorldAsk_joined:joinedFacts Tryz.prog 4 Tryz.f4 Rows.fnWorldAskSpec Rows.fnWorldAskRow=true:=
 joined_of (by kernel_rfl) pF rowed0 (by kernel_rfl) (by kernel_rfl) (by kernel_rfl) (by rw [stops0]; rfl) (by kernel_rfl) (by rw [knobs0]; rfl) FnWorldAsk_place FnWorldAsk_unf FnWorldAsk_rec FnWorldAsk_named
  (by kernel_rfl) (by kernel_rfl) (by kernel_rfl) (by kernel_rfl) (by kernel_rfl) (by kernel_rfl) (by kernel_rfl) (by kernel_rfl) (by kernel_rfl) (by rw [plainKeys0]; rfl) (by kernel_rfl) heard0 may0 (by rw [lifts0]; rfl) (by rw [make0]; rfl) (by kernel_rfl) (by kernel_rfl) (by kernel_rfl) (by kernel_rfl)
theorem FnWorldAsk_holds:Rows.FnWorldAskSaid:=
 OpenClaim.holds_of_wide 4 Tryz.f4 rfl rfl rfl rfl rfl rfl rfl ⟨rfl,rfl,rfl,rfl,rfl⟩ rfl rfl rfl rfl rfl (by kernel_rfl) Tryz.func4 FnWorldAsk_joined
  (of_decide_eq_true (by kernel_rfl)) (by unfold Func.isWrapper; first|(rw [if_pos (by decide +kernel)]; kernel_rfl)|(rw [if_neg (by decide +kernel)]; exact ⟨rfl,rfl⟩))
  (fun os started H enc _=>FnWorldAsk_lifted os started H enc)
theorem FnWorldAsk_card:Rows.FnWorldAskCardSaid:=
 Claim7.holds_tied_plain_at .later [] [.data,.pinned] true _ false FnWorldAsk_holds (fun _ h=>by cases h) (by kernel_rfl) (fun _ h=>by cases h) fnWorldAsk_row_tie rfl ⟨rfl,rfl⟩ (mainIs0.trans (by kernel_rfl)) rfl
  (fun f fn hf hfn=>by
   obtain rfl : f = 4 := zAb ((show Tryz.prog.funcNamed "loop.example/pargeting/laws.FnWorldAsk" = some 4 by kernel_rfl).symm.trans hf) |>.symm
   obtain rfl:fn=Tryz.f4:=(zAb (Tryz.func4.symm.trans hfn)).symm;exact ⟨looks0.symm,fun j t ht=>by
    have hm:t∈Tryz.f4.params.toList:=by simpa using zBc ht
    have hall:(Tryz.f4.params.toList.all fun u=>!Tryz.prog.wantsStandIn u)=true:=by kernel_rfl
    exact (show Tryz.prog.wantsStandIn t=false by simpa using zAs.1 hall t hm)⟩)
  (goes0 _ rfl)
end Go.Proofs.YtagejnomlkfndaaGreatDoor
