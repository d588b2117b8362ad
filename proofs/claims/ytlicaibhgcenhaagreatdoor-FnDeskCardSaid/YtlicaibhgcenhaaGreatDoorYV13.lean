/- 'laws.FnDesk' returns true whatever its arguments are, and leaves the arguments as they were; the package variables that the row lists hold what the program's text lays. -/
import Derived.Test.YtlicaibhgcenhaaGreatDoorYY19
import Derived.Test.YtlicaibhgcenhaaGreatDoorYY21
set_option linter.unusedSimpArgs false
set_option linter.unusedVariables false
set_option maxHeartbeats 1000000
set_option maxRecDepth 100000
namespace Go.Proofs.YtlicaibhgcenhaaGreatDoor
open Go Go.RowKit Go.Ab Go.Par
variable {m:Int}
theorem lay_alike {t:Bs} (h1:t.length≤19910) (h2:(aT t).length≤16000) (h3:nls t≤191):∃ x y u v:Bs,x.length=5∧y.length=5∧aT (lj [112,117,115,104] t)=aT t++(x++u)∧aT (lj [115,105,110,107] t)=aT t++(y++v) ∧
   (x=[102,105,110,101,10]→y=[102,105,110,101,10]→x++u=y++v):=by
 have key:∀ {k:Bs},(k=[112,117,115,104]∨k=[115,105,110,107])→∃ x u:Bs,x.length=5∧aT (lj k t)=aT t++(x++u)∧(x=[102,105,110,101,10]→x++u=[102,105,110,101,10]++Gi (Par.seen (gz (av ov0) (cut 10 t)).over)):=fun {k} hk=>by
  obtain ⟨z,hz⟩:=Gk h1 h2 h3 hk;refine ⟨_,z,?_,hz,fun hf=>?_⟩
  · rcases xF (gz (av ov0) (cut 10 t)) k with h|h|h <;> (rw [h]; rfl)
  · have hf2:(cS (gz (av ov0) (cut 10 t)) k).2=[102,105,110,101]:=by
      rcases xF (gz (av ov0) (cut 10 t)) k with h|h|h
      · rw [h] at hf; exact absurd hf (by decide)
      · exact h
      · rw [h] at hf; exact absurd hf (by decide)
    have:=Fl h1 h2 h3 hk hf2
    rw [hz] at this;exact List.append_cancel_left this
 obtain ⟨x,u,a1,a2,a3⟩:=key (k:=[112,117,115,104]) (.inl rfl);obtain ⟨y,v,b1,b2,b3⟩:=key (k:=[115,105,110,107]) (.inr rfl);exact ⟨x,y,u,v,a1,b1,a2,b2,fun h g=>by rw [a3 h,b3 g]⟩
theorem mid_take (A x u:Bs):((A++(x++u)).take (A.length+x.length)).drop A.length=x:=by
 rw [← zAi,← zAL,List.take_left,List.drop_left]
theorem law_FnDesk (l o:Bs):Con (Eo m) 4 0 [.sl (aA l),.sl (aA o)] [] (.b true) []:=by
 have hbl:(aA l).length=l.length:=zAA ..;have hbo:(aA o).length=o.length:=zAA ..;by_cases hl:l.length≤1048576
 · by_cases ho:o.length≤1048576
   · obtain ⟨t,ht,c0⟩:=pm (m:=m) l hl;have c0:=ir c0;have c1:=ir (ln (m:=m) t (by omega));have c2:=er (m:=m) t (by omega);have c3:=er (m:=m) (lj [112,117,115,104] t) (by unfold lj; simp; omega);have c4:=er (m:=m) (lj [115,105,110,107] t) (by unfold lj; simp; omega);have hcut:∀ k,k≤t.length→Con (Eo m) 8 0 [.s (t.take k)] [] (.s (aT (t.take k))) []:=fun k hk=>er (m:=m) (t.take k) (by rw [zAW]; omega);have hfirst:t.length≤20000→∀ k,k≤t.length→(k=0∨t[k - 1]?=some 10)→∃ z,aT t=aT (t.take k)++z:=fun h k h1 h2=>Bt h h2 h1;have hfl:∀ k,(aT (t.take k)).length≤21005:=fun k=>ij _;have hA:=ij t;have hP:=ij (lj [112,117,115,104] t);have hS:=ij (lj [115,105,110,107] t);have hlay:=fun h1 h2 h3=>lay_alike (t:=t) h1 h2 h3;generalize aT (lj [112,117,115,104] t)=P at c3 hlay hP;generalize aT (lj [115,105,110,107] t)=Z at c4 hlay hS;unfold lj at c3 c4;generalize aT t=A at c1 c2 hA hlay hfirst;have hm:(o.length:Int) % 20=((o.length % 20:Nat):Int):=by omega
     have hbm:(((aA o).length:Nat):Int) % 20=((o.length % 20:Nat):Int):=by rw [hbo]; exact hm
     refine G1 Tryz.func4 ?_;repeat' first|refine Ra ⟨?_⟩|refine R0 c0 ⟨?_⟩|refine R0 c1 ⟨?_⟩|refine R0 c2 ⟨?_⟩|((refine wr (by omega) (by omega) ?_; rw [hbm]) <;> conv=>whnf)|refine Rd (fun h=>⟨?_⟩) fun h=>⟨?_⟩|refine Rb ⟨?_⟩|fail
     refine Cd.loop2 (fun mq tm S nx=>∃ (i:Nat) (k:Nat) (n:Nat),mq=(t.length - i)∧tm=[(5,.s t),(6,.s A),(7,.k .i64 k),(8,.k .i64 n),(9,.k .i64 (nls (t.take i):Nat)),(10,.k .i64 i)]∧S=[]∧nx=0∧(i≤t.length)∧(k≤i)∧(k=0∨t[k - 1]?=some 10)∧(n≤20)) ?_ ?_
     · refine la [5,6,7,8,9,10] ?_
       conv=>whnf
       refine ⟨rfl,rfl,_,0,0,1+o.length % 20,rfl,?_,rfl,rfl,zAG _,zAM _,.inl rfl,by omega⟩;have e:(1:Int)+((o.length % 20:Nat):Int)=((1+o.length % 20:Nat):Int):=by omega
       rw [e];rfl
     · rintro mq tm S nx ⟨i,k,n,hn,rfl,rfl,rfl,hi,hk,hk2,hn⟩;have hn2:=Br (t.take i);rw [zAW] at hn2;rcases au t i hi with ⟨rfl,hd⟩|⟨x,q,hx,hd,hr,hlt⟩
       · rw [zAN] at hn2 ⊢;have c5:Con (Eo m) 8 0 [.s ((t.take k).drop 0)] [] (.s (aT (t.take k))) []:=hcut k hk;have hf1:=hfl k;have hf2:=fun h=>hfirst h k hk hk2;generalize aT (t.take k)=F at c5 hf1 hf2;by_cases g0:t.length≤20000
         · obtain ⟨z,hz⟩:=hf2 g0;have hA1:F.length≤A.length:=by rw [hz,zAL]; omega
           have hA2:(A.take F.length).drop 0=F:=by rw [hz]; simp
           by_cases g1:19910 < t.length
           · repeat' first|refine Ra ⟨?_⟩|refine R0 c5 ⟨?_⟩|(refine ⟨k,rfl,zAG _,hk,?_⟩ <;> conv=>whnf)|(refine ⟨F.length,rfl,zAG _,hA1,?_⟩ <;> conv=>whnf)|(refine bt hA2 ?_ <;> conv=>whnf)|refine Rd (fun h=>⟨?_⟩) fun h=>⟨?_⟩|refine Rb ⟨?_⟩|fail
             exact Rf
           · by_cases g2:191 < nls t
             · repeat' first|refine Ra ⟨?_⟩|refine R0 c5 ⟨?_⟩|(refine ⟨k,rfl,zAG _,hk,?_⟩ <;> conv=>whnf)|(refine ⟨F.length,rfl,zAG _,hA1,?_⟩ <;> conv=>whnf)|(refine bt hA2 ?_ <;> conv=>whnf)|refine Rd (fun h=>⟨?_⟩) fun h=>⟨?_⟩|refine Rb ⟨?_⟩|fail
               exact Rf
             · by_cases g3:16000 < A.length
               · repeat' first|refine Ra ⟨?_⟩|refine R0 c5 ⟨?_⟩|(refine ⟨k,rfl,zAG _,hk,?_⟩ <;> conv=>whnf)|(refine ⟨F.length,rfl,zAG _,hA1,?_⟩ <;> conv=>whnf)|(refine bt hA2 ?_ <;> conv=>whnf)|refine Rd (fun h=>⟨?_⟩) fun h=>⟨?_⟩|refine Rb ⟨?_⟩|fail
                 exact Rf
               · obtain ⟨x,y,u,v,hx5,hy5,hPe,hZe,hxy⟩:=hlay (by omega) (by omega) (by omega);have hP1:P.length=A.length+5+u.length:=by rw [hPe]; simp; omega
                 have hZ1:Z.length=A.length+5+v.length:=by rw [hZe]; simp; omega
                 have hP2:(P.take (A.length+5)).drop A.length=x:=by
                  rw [hPe,← hx5]; exact mid_take A x u
                 have hZ2:(Z.take (A.length+5)).drop A.length=y:=by
                  rw [hZe,← hy5]; exact mid_take A y v
                 by_cases hx:x=[102,105,110,101,10]
                 · have hPf:(P.take (A.length+5)).drop A.length=[102,105,110,101,10]:=by rw [hP2,hx]
                   by_cases hy:y=[102,105,110,101,10]
                   · have hPZ:P=Z:=by rw [hPe,hZe,hxy hx hy]
                     subst hPZ;repeat' first|refine Ra ⟨?_⟩|refine R0 c5 ⟨?_⟩|refine R0 c3 ⟨?_⟩|refine R0 c4 ⟨?_⟩|(refine ⟨k,rfl,zAG _,hk,?_⟩ <;> conv=>whnf)|(refine ⟨F.length,rfl,zAG _,hA1,?_⟩ <;> conv=>whnf)|(refine bt hA2 ?_ <;> conv=>whnf)|(refine bt hPf ?_ <;> conv=>whnf)|(refine ⟨A.length,rfl,A.length+5,by omega,by omega,by omega,?_⟩ <;> conv=>whnf)|(refine ⟨A.length,rfl,by omega,zAM _,?_⟩ <;> conv=>whnf)|refine Rd (fun h=>⟨?_⟩) fun h=>⟨?_⟩|refine Rb ⟨?_⟩|fail
                     exact Rf
                   · have hZf:¬ (Z.take (A.length+5)).drop A.length=[102,105,110,101,10]:=by rw [hZ2]; exact hy
                     repeat' first|refine Ra ⟨?_⟩|refine R0 c5 ⟨?_⟩|refine R0 c3 ⟨?_⟩|refine R0 c4 ⟨?_⟩|(refine ⟨k,rfl,zAG _,hk,?_⟩ <;> conv=>whnf)|(refine ⟨F.length,rfl,zAG _,hA1,?_⟩ <;> conv=>whnf)|(refine bt hA2 ?_ <;> conv=>whnf)|(refine bt hPf ?_ <;> conv=>whnf)|(refine bf hZf ?_ <;> conv=>whnf)|(refine ⟨A.length,rfl,A.length+5,by omega,by omega,by omega,?_⟩ <;> conv=>whnf)|refine Rd (fun h=>⟨?_⟩) fun h=>⟨?_⟩|refine Rb ⟨?_⟩|fail
                     exact Rf
                 · have hPf:¬ (P.take (A.length+5)).drop A.length=[102,105,110,101,10]:=by rw [hP2]; exact hx
                   repeat' first|refine Ra ⟨?_⟩|refine R0 c5 ⟨?_⟩|refine R0 c3 ⟨?_⟩|refine R0 c4 ⟨?_⟩|(refine ⟨k,rfl,zAG _,hk,?_⟩ <;> conv=>whnf)|(refine ⟨F.length,rfl,zAG _,hA1,?_⟩ <;> conv=>whnf)|(refine bt hA2 ?_ <;> conv=>whnf)|(refine bf hPf ?_ <;> conv=>whnf)|(refine ⟨A.length,rfl,A.length+5,by omega,by omega,by omega,?_⟩ <;> conv=>whnf)|refine Rd (fun h=>⟨?_⟩) fun h=>⟨?_⟩|refine Rb ⟨?_⟩|fail
                   exact Rf
         · repeat' first|refine Ra ⟨?_⟩|refine R0 c5 ⟨?_⟩|(refine ⟨k,rfl,zAG _,hk,?_⟩ <;> conv=>whnf)|(refine ⟨F.length,rfl,zAG _,by omega,?_⟩ <;> conv=>whnf)|refine Rd (fun h=>⟨?_⟩) fun h=>⟨?_⟩|refine Rb ⟨?_⟩|fail
           all_goals
            exact Rf
       · have hs:=zr hx;by_cases hb:x=10
         · rw [if_pos hb] at hs;subst hb;by_cases hn0:n=0
           · subst hn0;repeat' first|refine Rx ⟨?_⟩|refine Rd (fun h=>⟨?_⟩) fun h=>⟨?_⟩|fail
             refine .here ⟨mq - 1,by omega,?_⟩;refine la [5,6,7,8,9,10] ?_
             conv=>whnf
             refine ⟨rfl,rfl,i+1,k,0,(by omega),?_,rfl,rfl,by omega,by omega,hk2,by omega⟩;rw [hs];rfl
           · repeat' first|refine Rx ⟨?_⟩|refine Rd (fun h=>⟨?_⟩) fun h=>⟨?_⟩|fail
             refine .here ⟨mq - 1,by omega,?_⟩;refine la [5,6,7,8,9,10] ?_
             conv=>whnf
             refine ⟨rfl,rfl,i+1,i+1,n - 1,(by omega),?_,rfl,rfl,by omega,by omega,.inr hx,by omega⟩;have e:(n:Int) - 1=((n - 1:Nat):Int):=by omega
             rw [hs,e];rfl
         · rw [if_neg hb] at hs;have hb2:¬ (x.toNat:Int)=10:=fun h=>hb (UInt8.toNat_inj.1 (by show x.toNat=10; omega))
           repeat' first|refine Rx ⟨?_⟩|refine Rd (fun h=>⟨?_⟩) fun h=>⟨?_⟩|fail
           refine .here ⟨mq - 1,by omega,?_⟩;refine la [5,6,7,8,9,10] ?_
           conv=>whnf
           refine ⟨rfl,rfl,i+1,k,n,(by omega),?_,rfl,rfl,by omega,by omega,hk2,hn⟩;rw [hs];rfl
   · refine G1 Tryz.func4 ?_;repeat' first|refine Rx ⟨?_⟩|refine Rd (fun h=>⟨?_⟩) fun h=>⟨?_⟩|fail
     exact Rf
 · refine G1 Tryz.func4 ?_;repeat' first|refine Rx ⟨?_⟩|refine Rd (fun h=>⟨?_⟩) fun h=>⟨?_⟩|fail
   exact Rf
theorem FnDesk_con (cds:List D) (h:pE Tryz.prog Tryz.f4.params.toList cds):Con (Eo m) 4 0 cds [] (.b true) []:=by
 rw [Tryz.params4] at h
 match cds,h with
 | [d1,d2],⟨h1,h2,_⟩=>
   obtain ⟨l,rfl⟩:=qg h1;obtain ⟨o,rfl⟩:=qg h2;exact law_FnDesk l o
open Go.ChangeShapes Go.WideShapes Go.ChangeAt in
theorem FnDesk_lifted (os:Os) (started:os.Started) (H:Type) (enc:TypeId × Value→H) :
   ReturnsInHanded {} Tryz.checked os 4 .any (fun w args=>(Rows.fnDeskSpec.pre enc Tryz.prog Tryz.f4 Rows.fnDeskRow.domain false w args∧laidMetH Tryz.prog Rows.fnDeskRow.laid w)∧sizedMet enc Tryz.prog Tryz.f4 (OpenSpec.ofChange Rows.fnDeskSpec) false w args)
     (Rows.fnDeskSpec.post enc Tryz.prog Tryz.f4 false true false false):=by
 refine kF (C:=Tryz.checked) (X:=fun w _=>laidMetH Tryz.prog Rows.fnDeskRow.laid w) (fun _ _ _ hh h=>h.of_heap hh) GV started (by kernel_rfl) Tryz.func4
  (ChangeSpec.witness_shaped (enc:=enc) (C:=Tryz.checked) (os:=os) (X:=fun w _=>laidMetH Tryz.prog Rows.fnDeskRow.laid w) false (World.laidAll Tryz.prog os Rows.fnDeskRow.laid) #[.slice none 0 0,.slice none 0 0] 8 (World.laidAll_os _ _ _)
   (World.shaped_of_ZipB (by kernel_rfl) (by kernel_rfl)) (by kernel_rfl) (by kernel_rfl) (by kernel_rfl)
   (by rw [MakeChecks.laidMetH_plain _ _ _ (by kernel_rfl)]; exact laidMet_laidAll _ (by kernel_rfl) (by kernel_rfl))) ?_
 intro W base args ds gs before hval hW hsh hx;obtain ⟨m,hm⟩:=jJ W hsh;exact kG (E := Eo m) (dp := 8) (bt := 4) (n := "loop.example/pargeting/impl.opWords") (g := 0) (tv := 235) jS (pF (by kernel_rfl)) (by kernel_rfl) Tryz.underlying4 (by kernel_rfl) rfl (by kernel_rfl) (by kernel_rfl) (by kernel_rfl) (of_decide_eq_true (by kernel_rfl)) (fun H ds g hl => match ds, hl with
  | [d1,d2],_=>rfl) FnDesk_con W (BL hm (by kernel_rfl) (by simp [Rows.fnDeskRow]) hx) base args ds gs before hval hW
theorem FnDesk_place:(Rows.fnDeskRow.inPlace == Tryz.prog.inPlace 4)=true:=by kernel_rfl
theorem FnDesk_unf:(Rows.fnDeskRow.unfollowed == Tryz.prog.unfollowed 4)=true:=by kernel_rfl
theorem FnDesk_rec:(Rows.fnDeskRow.recurses == Tryz.prog.recurses 4)=true:=by kernel_rfl
theorem FnDesk_named:(Rows.fnDeskRow.named == Tryz.prog.varsNamed 4)=true:=by kernel_rfl
theorem FnDesk_joined:joinedFacts Tryz.prog 4 Tryz.f4 Rows.fnDeskSpec Rows.fnDeskRow=true:=
 qf (by kernel_rfl) jS BG (by kernel_rfl) (by kernel_rfl) (by kernel_rfl) (by rw [BI]; rfl) (by kernel_rfl) (by rw [BJ]; rfl) FnDesk_place FnDesk_unf FnDesk_rec FnDesk_named
  (by kernel_rfl) (by kernel_rfl) (by kernel_rfl) (by kernel_rfl) (by kernel_rfl) (by kernel_rfl) (by kernel_rfl) (by kernel_rfl) (by kernel_rfl) (by rw [nS]; rfl) (by kernel_rfl) BH Hd (by rw [BF]; rfl) (by rw [Fx]; rfl) (by kernel_rfl) (by kernel_rfl) (by kernel_rfl) (by kernel_rfl)
theorem FnDesk_holds:Rows.FnDeskSaid:=
 OpenClaim.holds_of_wide 4 Tryz.f4 rfl rfl rfl rfl rfl rfl rfl ⟨rfl,rfl,rfl,rfl,rfl⟩ rfl rfl rfl rfl rfl (by kernel_rfl) Tryz.func4 FnDesk_joined
  (of_decide_eq_true (by kernel_rfl)) (by unfold Func.isWrapper; first|(rw [if_pos (by decide +kernel)]; kernel_rfl)|(rw [if_neg (by decide +kernel)]; exact ⟨rfl,rfl⟩))
  (fun os started H enc _=>FnDesk_lifted os started H enc)
theorem FnDesk_card:Rows.FnDeskCardSaid:=
 Claim7.holds_tied_plain_at .later [] [.data,.data,.data,.data,.data,.pinned] true _ false FnDesk_holds (fun _ h=>by cases h) (by kernel_rfl) (fun _ h=>by cases h) fnDesk_row_tie rfl ⟨rfl,rfl⟩ (xO.trans (by kernel_rfl)) rfl
  (fun f fn hf hfn=>by
   obtain rfl : f = 4 := zAY ((show Tryz.prog.funcNamed "loop.example/pargeting/laws.FnDesk" = some 4 by kernel_rfl).symm.trans hf) |>.symm
   obtain rfl:fn=Tryz.f4:=(zAY (Tryz.func4.symm.trans hfn)).symm;exact ⟨BK.symm,fun j t ht=>by
    have hm:t∈Tryz.f4.params.toList:=by simpa using zBK ht
    have hall:(Tryz.f4.params.toList.all fun u=>!Tryz.prog.wantsStandIn u)=true:=by kernel_rfl
    exact (show Tryz.prog.wantsStandIn t=false by simpa using zAr.1 hall t hm)⟩)
  (Fy _ rfl)
end Go.Proofs.YtlicaibhgcenhaaGreatDoor
