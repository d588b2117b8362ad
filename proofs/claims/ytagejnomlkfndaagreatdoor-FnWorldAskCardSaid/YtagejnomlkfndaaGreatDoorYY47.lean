/- Texts of this claim, set close: lemmas and contracts. -/
import Derived.Test.YtagejnomlkfndaaGreatDoorYY39
import Derived.Test.YtagejnomlkfndaaGreatDoorYY44
set_option linter.unusedSimpArgs false
set_option linter.unusedVariables false
set_option maxHeartbeats 1000000
set_option maxRecDepth 10000
namespace Go.Proofs.YtagejnomlkfndaaGreatDoor
open Go Go.RowKit Go.Ab Go.Par
variable {m:Int}
theorem qg (w:Wld) (g:Hld) (h0 h1 h2:List Hld) (f0 f1 f2:Int) (hf:w.floors=[f0,f1,f2]) (hc:¬ (w.clock < g.til∧f0 < g.num)):Con (E m) 151 5 [.bp 0 0,.k .i64 0,.agg g.c] (bxT w 1 2 3 4 [anH h0,anH h1,anH h2]) (.tup []) (bxT w 5 6 7 8 [anH h0,anH h1,anH h2]):=by
 obtain ⟨o,clk,cnt,ls,hs,fl,nt,wt,op⟩:=w;simp only at hf hc;subst hf;by_cases hc1:clk < g.til
 · have hc2:¬ f0 < g.num:=fun h=>hc ⟨hc1,h⟩;refine G0 Tryz.func151 ?_;repeat' first|refine Ra ⟨?_⟩|((refine ⟨0,rfl,by simp,?_⟩) <;> conv=>whnf)|refine Rd (fun h=>⟨?_⟩) fun h=>⟨?_⟩|refine Rb ⟨?_⟩|fail
   refine ak.here (fw [.anew 1,.close 2,.anew 3,.anew 4] ?_)
   conv=>whnf
   exact ⟨rfl,rfl,rfl,rfl⟩
 · refine G0 Tryz.func151 ?_;repeat' first|refine Ra ⟨?_⟩|((refine ⟨0,rfl,by simp,?_⟩) <;> conv=>whnf)|refine Rd (fun h=>⟨?_⟩) fun h=>⟨?_⟩|refine Rb ⟨?_⟩|fail
   refine ak.here (fw [.anew 1,.close 2,.anew 3,.anew 4] ?_)
   conv=>whnf
   exact ⟨rfl,rfl,rfl,rfl⟩
theorem qh (w:Wld) (g:Hld) (h0 h1 h2:List Hld) (f0 f1 f2:Int) (hf:w.floors=[f0,f1,f2]) (hc:¬ (w.clock < g.til∧f1 < g.num)):Con (E m) 151 5 [.bp 0 0,.k .i64 1,.agg g.c] (bxT w 1 2 3 4 [anH h0,anH h1,anH h2]) (.tup []) (bxT w 5 6 7 8 [anH h0,anH h1,anH h2]):=by
 obtain ⟨o,clk,cnt,ls,hs,fl,nt,wt,op⟩:=w;simp only at hf hc;subst hf;by_cases hc1:clk < g.til
 · have hc2:¬ f1 < g.num:=fun h=>hc ⟨hc1,h⟩;refine G0 Tryz.func151 ?_;repeat' first|refine Ra ⟨?_⟩|((refine ⟨1,rfl,by simp,?_⟩) <;> conv=>whnf)|refine Rd (fun h=>⟨?_⟩) fun h=>⟨?_⟩|refine Rb ⟨?_⟩|fail
   refine ak.here (fw [.anew 1,.close 2,.anew 3,.anew 4] ?_)
   conv=>whnf
   exact ⟨rfl,rfl,rfl,rfl⟩
 · refine G0 Tryz.func151 ?_;repeat' first|refine Ra ⟨?_⟩|((refine ⟨1,rfl,by simp,?_⟩) <;> conv=>whnf)|refine Rd (fun h=>⟨?_⟩) fun h=>⟨?_⟩|refine Rb ⟨?_⟩|fail
   refine ak.here (fw [.anew 1,.close 2,.anew 3,.anew 4] ?_)
   conv=>whnf
   exact ⟨rfl,rfl,rfl,rfl⟩
theorem qi (w:Wld) (g:Hld) (h0 h1 h2:List Hld) (f0 f1 f2:Int) (hf:w.floors=[f0,f1,f2]) (hc:¬ (w.clock < g.til∧f2 < g.num)):Con (E m) 151 5 [.bp 0 0,.k .i64 2,.agg g.c] (bxT w 1 2 3 4 [anH h0,anH h1,anH h2]) (.tup []) (bxT w 5 6 7 8 [anH h0,anH h1,anH h2]):=by
 obtain ⟨o,clk,cnt,ls,hs,fl,nt,wt,op⟩:=w;simp only at hf hc;subst hf;by_cases hc1:clk < g.til
 · have hc2:¬ f2 < g.num:=fun h=>hc ⟨hc1,h⟩;refine G0 Tryz.func151 ?_;repeat' first|refine Ra ⟨?_⟩|((refine ⟨2,rfl,by simp,?_⟩) <;> conv=>whnf)|refine Rd (fun h=>⟨?_⟩) fun h=>⟨?_⟩|refine Rb ⟨?_⟩|fail
   refine ak.here (fw [.anew 1,.close 2,.anew 3,.anew 4] ?_)
   conv=>whnf
   exact ⟨rfl,rfl,rfl,rfl⟩
 · refine G0 Tryz.func151 ?_;repeat' first|refine Ra ⟨?_⟩|((refine ⟨2,rfl,by simp,?_⟩) <;> conv=>whnf)|refine Rd (fun h=>⟨?_⟩) fun h=>⟨?_⟩|refine Rb ⟨?_⟩|fail
   refine ak.here (fw [.anew 1,.close 2,.anew 3,.anew 4] ?_)
   conv=>whnf
   exact ⟨rfl,rfl,rfl,rfl⟩
theorem sa (w:Wld) (p:Bs) (n:Int) (hnl:w.net.length≤1048576) (h0 h1 h2:List Hld) (f0 f1 f2:Int) (hf:w.floors=[f0,f1,f2]) (hln:h0.length≤1048575) (hu:h0.Pairwise fun a b=>a.path≠b.path):Con (E m) 152 5 [.bp 0 0,.k .i64 0,.s p,.k .i64 n] (bxT w 1 2 3 4 [anH h0,anH h1,anH h2]) (.tup []) (bxT { w with floors:=[max f0 n,f1,f2],net:=bZ w.net ⟨4,0,aZ p n⟩ } 5 6 7 8 [anH (bP h0 p n),anH h1,anH h2]):=by
 have e1:(h0.map Hld.c).length=h0.length:=zAA ..;have c1:=du (m:=m) h0 p (by omega);obtain ⟨o,clk,cnt,ls,hs,fl,nt,wt,op⟩:=w;simp only at hf hnl ⊢;subst hf;rcases eD (hb p) h0 with ⟨g1,g2⟩|⟨i,x,g1,g2,g3,g4⟩
 · rw [g1] at c1;rw [iI g2];have c9:=fc (m:=m) ⟨o,clk,cnt,ls,[h0,h1,h2],[max f0 n,f1,f2],nt,wt,op⟩ [anH (h0),anH h1,anH h2] ⟨4,0,aZ p n⟩ hnl (h0) h1 h2 rfl;refine G0 Tryz.func152 ?_;refine mw [.openA 2 0] ?_
   conv=>whnf
   refine Cd.seqS ?_;repeat' first|refine Ra ⟨?_⟩|(refine ⟨[],_,_,_,_,0,⟨rfl,rfl,rfl,c1,rfl,rfl⟩,.inl ⟨[],trivial,rfl,.inl ⟨by simp [ay,aD,aj],by simp [aF,aG,aj,Ent.c,Mrk.c,Opn.c,Lse.c,Hld.c,Mes.c,az,anH]⟩,?_⟩⟩ <;> conv=>whnf)|((refine ⟨0,rfl,by simp,?_⟩) <;> conv=>whnf)|((refine ⟨aE.nm 5,rfl,?_⟩) <;> conv=>whnf)|refine Rd (fun h=>⟨?_⟩) fun h=>⟨?_⟩|refine Rb ⟨?_⟩|fail
   all_goals (try refine Stop.here ?_)
   refine Cd.seqS ?_;repeat' first|refine Ra ⟨?_⟩|((refine ⟨0,rfl,by simp,?_⟩) <;> conv=>whnf)|((refine ⟨aE.nm 5,rfl,?_⟩) <;> conv=>whnf)|((refine ⟨zAC rfl,?_⟩) <;> conv=>whnf)|refine Rd (fun h=>⟨?_⟩) fun h=>⟨?_⟩|refine Rb ⟨?_⟩|fail
   all_goals (try refine Stop.here ?_)
   refine mw [.close 2] ?_
   conv=>whnf
   repeat' first|refine Ra ⟨?_⟩|refine Rk [0,1,6,3,4] 4 c9 ⟨?_⟩|((refine ⟨0,rfl,by simp,?_⟩) <;> conv=>whnf)|((refine ⟨zAC rfl,?_⟩) <;> conv=>whnf)|refine Rd (fun h=>⟨?_⟩) fun h=>⟨?_⟩|refine Rb ⟨?_⟩|fail
   exact Rf
 · rw [g1] at c1;have hi:=(List.getElem?_eq_some_iff.1 g2).1;have g5:(h0.map Hld.c)[i]?=some x.c:=mg g2;have c2:=dC (m:=m) h0 i hi (by omega);by_cases hx:x.num≤n
   · skip
     rw [jK hu g2 g3 hx];have c9:=fc (m:=m) ⟨o,clk,cnt,ls,[h0.eraseIdx i,h1,h2],[max f0 n,f1,f2],nt,wt,op⟩ [anH (h0.eraseIdx i),anH h1,anH h2] ⟨4,0,aZ p n⟩ hnl (h0.eraseIdx i) h1 h2 rfl;refine G0 Tryz.func152 ?_;refine mw [.openA 2 0] ?_
     conv=>whnf
     refine Cd.seqS ?_;repeat' first|refine Ra ⟨?_⟩|(refine ⟨[],_,_,_,_,0,⟨rfl,rfl,rfl,c1,rfl,rfl⟩,.inl ⟨[],trivial,rfl,.inl ⟨by simp [ay,aD,aj],by simp [aF,aG,aj,Ent.c,Mrk.c,Opn.c,Lse.c,Hld.c,Mes.c,az,anH]⟩,?_⟩⟩ <;> conv=>whnf)|refine Rk [5] 1 c2 ⟨?_⟩|((refine ⟨0,rfl,by simp,?_⟩) <;> conv=>whnf)|((refine ⟨aE.nm 5,rfl,?_⟩) <;> conv=>whnf)|((refine ⟨i,rfl,by omega,?_⟩) <;> conv=>whnf)|((refine ⟨_,g5,?_⟩) <;> conv=>whnf)|refine Rd (fun h=>⟨?_⟩) fun h=>⟨?_⟩|refine Rb ⟨?_⟩|fail
     all_goals (try refine Stop.here ?_)
     refine Cd.seqS ?_;repeat' first|refine Ra ⟨?_⟩|refine Rk [5] 1 c2 ⟨?_⟩|((refine ⟨0,rfl,by simp,?_⟩) <;> conv=>whnf)|((refine ⟨aE.nm 5,rfl,?_⟩) <;> conv=>whnf)|((refine ⟨i,rfl,by omega,?_⟩) <;> conv=>whnf)|((refine ⟨_,g5,?_⟩) <;> conv=>whnf)|((refine ⟨zAC rfl,?_⟩) <;> conv=>whnf)|refine Rd (fun h=>⟨?_⟩) fun h=>⟨?_⟩|refine Rb ⟨?_⟩|fail
     all_goals (try refine Stop.here ?_)
     refine mw [.close 2] ?_
     conv=>whnf
     repeat' first|refine Ra ⟨?_⟩|refine Rk [0,1,7,3,4] 4 c9 ⟨?_⟩|((refine ⟨0,rfl,by simp,?_⟩) <;> conv=>whnf)|((refine ⟨zAC rfl,?_⟩) <;> conv=>whnf)|refine Rd (fun h=>⟨?_⟩) fun h=>⟨?_⟩|refine Rb ⟨?_⟩|fail
     exact Rf
   · skip
     rw [iJ hu g2 g3 hx];have c9:=fc (m:=m) ⟨o,clk,cnt,ls,[h0,h1,h2],[max f0 n,f1,f2],nt,wt,op⟩ [anH (h0),anH h1,anH h2] ⟨4,0,aZ p n⟩ hnl (h0) h1 h2 rfl;refine G0 Tryz.func152 ?_;refine mw [.openA 2 0] ?_
     conv=>whnf
     refine Cd.seqS ?_;repeat' first|refine Ra ⟨?_⟩|(refine ⟨[],_,_,_,_,0,⟨rfl,rfl,rfl,c1,rfl,rfl⟩,.inl ⟨[],trivial,rfl,.inl ⟨by simp [ay,aD,aj],by simp [aF,aG,aj,Ent.c,Mrk.c,Opn.c,Lse.c,Hld.c,Mes.c,az,anH]⟩,?_⟩⟩ <;> conv=>whnf)|((refine ⟨0,rfl,by simp,?_⟩) <;> conv=>whnf)|((refine ⟨aE.nm 5,rfl,?_⟩) <;> conv=>whnf)|refine Rd (fun h=>⟨?_⟩) fun h=>⟨?_⟩|refine Rb ⟨?_⟩|fail
     all_goals (try refine Stop.here ?_)
     refine Cd.seqS ?_;repeat' first|refine Ra ⟨?_⟩|((refine ⟨0,rfl,by simp,?_⟩) <;> conv=>whnf)|((refine ⟨aE.nm 5,rfl,?_⟩) <;> conv=>whnf)|((refine ⟨i,rfl,by omega,?_⟩) <;> conv=>whnf)|((refine ⟨_,g5,?_⟩) <;> conv=>whnf)|((refine ⟨zAC rfl,?_⟩) <;> conv=>whnf)|refine Rd (fun h=>⟨?_⟩) fun h=>⟨?_⟩|refine Rb ⟨?_⟩|fail
     all_goals (try refine Stop.here ?_)
     refine mw [.close 2] ?_
     conv=>whnf
     repeat' first|refine Ra ⟨?_⟩|refine Rk [0,1,6,3,4] 4 c9 ⟨?_⟩|((refine ⟨0,rfl,by simp,?_⟩) <;> conv=>whnf)|((refine ⟨zAC rfl,?_⟩) <;> conv=>whnf)|refine Rd (fun h=>⟨?_⟩) fun h=>⟨?_⟩|refine Rb ⟨?_⟩|fail
     exact Rf
theorem sb (w:Wld) (p:Bs) (n:Int) (hnl:w.net.length≤1048576) (h0 h1 h2:List Hld) (f0 f1 f2:Int) (hf:w.floors=[f0,f1,f2]) (hln:h1.length≤1048575) (hu:h1.Pairwise fun a b=>a.path≠b.path):Con (E m) 152 5 [.bp 0 0,.k .i64 1,.s p,.k .i64 n] (bxT w 1 2 3 4 [anH h0,anH h1,anH h2]) (.tup []) (bxT { w with floors:=[f0,max f1 n,f2],net:=bZ w.net ⟨4,1,aZ p n⟩ } 5 6 7 8 [anH h0,anH (bP h1 p n),anH h2]):=by
 have e1:(h1.map Hld.c).length=h1.length:=zAA ..;have c1:=du (m:=m) h1 p (by omega);obtain ⟨o,clk,cnt,ls,hs,fl,nt,wt,op⟩:=w;simp only at hf hnl ⊢;subst hf;rcases eD (hb p) h1 with ⟨g1,g2⟩|⟨i,x,g1,g2,g3,g4⟩
 · rw [g1] at c1;rw [iI g2];have c9:=fc (m:=m) ⟨o,clk,cnt,ls,[h0,h1,h2],[f0,max f1 n,f2],nt,wt,op⟩ [anH h0,anH (h1),anH h2] ⟨4,1,aZ p n⟩ hnl h0 (h1) h2 rfl;refine G0 Tryz.func152 ?_;refine mw [.openA 2 1] ?_
   conv=>whnf
   refine Cd.seqS ?_;repeat' first|refine Ra ⟨?_⟩|(refine ⟨[],_,_,_,_,0,⟨rfl,rfl,rfl,c1,rfl,rfl⟩,.inl ⟨[],trivial,rfl,.inl ⟨by simp [ay,aD,aj],by simp [aF,aG,aj,Ent.c,Mrk.c,Opn.c,Lse.c,Hld.c,Mes.c,az,anH]⟩,?_⟩⟩ <;> conv=>whnf)|((refine ⟨1,rfl,by simp,?_⟩) <;> conv=>whnf)|((refine ⟨aE.nm 5,rfl,?_⟩) <;> conv=>whnf)|refine Rd (fun h=>⟨?_⟩) fun h=>⟨?_⟩|refine Rb ⟨?_⟩|fail
   all_goals (try refine Stop.here ?_)
   refine Cd.seqS ?_;repeat' first|refine Ra ⟨?_⟩|((refine ⟨1,rfl,by simp,?_⟩) <;> conv=>whnf)|((refine ⟨aE.nm 5,rfl,?_⟩) <;> conv=>whnf)|((refine ⟨zAC rfl,?_⟩) <;> conv=>whnf)|refine Rd (fun h=>⟨?_⟩) fun h=>⟨?_⟩|refine Rb ⟨?_⟩|fail
   all_goals (try refine Stop.here ?_)
   refine mw [.close 2] ?_
   conv=>whnf
   repeat' first|refine Ra ⟨?_⟩|refine Rk [0,1,6,3,4] 4 c9 ⟨?_⟩|((refine ⟨1,rfl,by simp,?_⟩) <;> conv=>whnf)|((refine ⟨zAC rfl,?_⟩) <;> conv=>whnf)|refine Rd (fun h=>⟨?_⟩) fun h=>⟨?_⟩|refine Rb ⟨?_⟩|fail
   exact Rf
 · rw [g1] at c1;have hi:=(List.getElem?_eq_some_iff.1 g2).1;have g5:(h1.map Hld.c)[i]?=some x.c:=mg g2;have c2:=dC (m:=m) h1 i hi (by omega);by_cases hx:x.num≤n
   · skip
     rw [jK hu g2 g3 hx];have c9:=fc (m:=m) ⟨o,clk,cnt,ls,[h0,h1.eraseIdx i,h2],[f0,max f1 n,f2],nt,wt,op⟩ [anH h0,anH (h1.eraseIdx i),anH h2] ⟨4,1,aZ p n⟩ hnl h0 (h1.eraseIdx i) h2 rfl;refine G0 Tryz.func152 ?_;refine mw [.openA 2 1] ?_
     conv=>whnf
     refine Cd.seqS ?_;repeat' first|refine Ra ⟨?_⟩|(refine ⟨[],_,_,_,_,0,⟨rfl,rfl,rfl,c1,rfl,rfl⟩,.inl ⟨[],trivial,rfl,.inl ⟨by simp [ay,aD,aj],by simp [aF,aG,aj,Ent.c,Mrk.c,Opn.c,Lse.c,Hld.c,Mes.c,az,anH]⟩,?_⟩⟩ <;> conv=>whnf)|refine Rk [5] 1 c2 ⟨?_⟩|((refine ⟨1,rfl,by simp,?_⟩) <;> conv=>whnf)|((refine ⟨aE.nm 5,rfl,?_⟩) <;> conv=>whnf)|((refine ⟨i,rfl,by omega,?_⟩) <;> conv=>whnf)|((refine ⟨_,g5,?_⟩) <;> conv=>whnf)|refine Rd (fun h=>⟨?_⟩) fun h=>⟨?_⟩|refine Rb ⟨?_⟩|fail
     all_goals (try refine Stop.here ?_)
     refine Cd.seqS ?_;repeat' first|refine Ra ⟨?_⟩|refine Rk [5] 1 c2 ⟨?_⟩|((refine ⟨1,rfl,by simp,?_⟩) <;> conv=>whnf)|((refine ⟨aE.nm 5,rfl,?_⟩) <;> conv=>whnf)|((refine ⟨i,rfl,by omega,?_⟩) <;> conv=>whnf)|((refine ⟨_,g5,?_⟩) <;> conv=>whnf)|((refine ⟨zAC rfl,?_⟩) <;> conv=>whnf)|refine Rd (fun h=>⟨?_⟩) fun h=>⟨?_⟩|refine Rb ⟨?_⟩|fail
     all_goals (try refine Stop.here ?_)
     refine mw [.close 2] ?_
     conv=>whnf
     repeat' first|refine Ra ⟨?_⟩|refine Rk [0,1,7,3,4] 4 c9 ⟨?_⟩|((refine ⟨1,rfl,by simp,?_⟩) <;> conv=>whnf)|((refine ⟨zAC rfl,?_⟩) <;> conv=>whnf)|refine Rd (fun h=>⟨?_⟩) fun h=>⟨?_⟩|refine Rb ⟨?_⟩|fail
     exact Rf
   · skip
     rw [iJ hu g2 g3 hx];have c9:=fc (m:=m) ⟨o,clk,cnt,ls,[h0,h1,h2],[f0,max f1 n,f2],nt,wt,op⟩ [anH h0,anH (h1),anH h2] ⟨4,1,aZ p n⟩ hnl h0 (h1) h2 rfl;refine G0 Tryz.func152 ?_;refine mw [.openA 2 1] ?_
     conv=>whnf
     refine Cd.seqS ?_;repeat' first|refine Ra ⟨?_⟩|(refine ⟨[],_,_,_,_,0,⟨rfl,rfl,rfl,c1,rfl,rfl⟩,.inl ⟨[],trivial,rfl,.inl ⟨by simp [ay,aD,aj],by simp [aF,aG,aj,Ent.c,Mrk.c,Opn.c,Lse.c,Hld.c,Mes.c,az,anH]⟩,?_⟩⟩ <;> conv=>whnf)|((refine ⟨1,rfl,by simp,?_⟩) <;> conv=>whnf)|((refine ⟨aE.nm 5,rfl,?_⟩) <;> conv=>whnf)|refine Rd (fun h=>⟨?_⟩) fun h=>⟨?_⟩|refine Rb ⟨?_⟩|fail
     all_goals (try refine Stop.here ?_)
     refine Cd.seqS ?_;repeat' first|refine Ra ⟨?_⟩|((refine ⟨1,rfl,by simp,?_⟩) <;> conv=>whnf)|((refine ⟨aE.nm 5,rfl,?_⟩) <;> conv=>whnf)|((refine ⟨i,rfl,by omega,?_⟩) <;> conv=>whnf)|((refine ⟨_,g5,?_⟩) <;> conv=>whnf)|((refine ⟨zAC rfl,?_⟩) <;> conv=>whnf)|refine Rd (fun h=>⟨?_⟩) fun h=>⟨?_⟩|refine Rb ⟨?_⟩|fail
     all_goals (try refine Stop.here ?_)
     refine mw [.close 2] ?_
     conv=>whnf
     repeat' first|refine Ra ⟨?_⟩|refine Rk [0,1,6,3,4] 4 c9 ⟨?_⟩|((refine ⟨1,rfl,by simp,?_⟩) <;> conv=>whnf)|((refine ⟨zAC rfl,?_⟩) <;> conv=>whnf)|refine Rd (fun h=>⟨?_⟩) fun h=>⟨?_⟩|refine Rb ⟨?_⟩|fail
     exact Rf
theorem sc (w:Wld) (p:Bs) (n:Int) (hnl:w.net.length≤1048576) (h0 h1 h2:List Hld) (f0 f1 f2:Int) (hf:w.floors=[f0,f1,f2]) (hln:h2.length≤1048575) (hu:h2.Pairwise fun a b=>a.path≠b.path):Con (E m) 152 5 [.bp 0 0,.k .i64 2,.s p,.k .i64 n] (bxT w 1 2 3 4 [anH h0,anH h1,anH h2]) (.tup []) (bxT { w with floors:=[f0,f1,max f2 n],net:=bZ w.net ⟨4,2,aZ p n⟩ } 5 6 7 8 [anH h0,anH h1,anH (bP h2 p n)]):=by
 have e1:(h2.map Hld.c).length=h2.length:=zAA ..;have c1:=du (m:=m) h2 p (by omega);obtain ⟨o,clk,cnt,ls,hs,fl,nt,wt,op⟩:=w;simp only at hf hnl ⊢;subst hf;rcases eD (hb p) h2 with ⟨g1,g2⟩|⟨i,x,g1,g2,g3,g4⟩
 · rw [g1] at c1;rw [iI g2];have c9:=fc (m:=m) ⟨o,clk,cnt,ls,[h0,h1,h2],[f0,f1,max f2 n],nt,wt,op⟩ [anH h0,anH h1,anH (h2)] ⟨4,2,aZ p n⟩ hnl h0 h1 (h2) rfl;refine G0 Tryz.func152 ?_;refine mw [.openA 2 2] ?_
   conv=>whnf
   refine Cd.seqS ?_;repeat' first|refine Ra ⟨?_⟩|(refine ⟨[],_,_,_,_,0,⟨rfl,rfl,rfl,c1,rfl,rfl⟩,.inl ⟨[],trivial,rfl,.inl ⟨by simp [ay,aD,aj],by simp [aF,aG,aj,Ent.c,Mrk.c,Opn.c,Lse.c,Hld.c,Mes.c,az,anH]⟩,?_⟩⟩ <;> conv=>whnf)|((refine ⟨2,rfl,by simp,?_⟩) <;> conv=>whnf)|((refine ⟨aE.nm 5,rfl,?_⟩) <;> conv=>whnf)|refine Rd (fun h=>⟨?_⟩) fun h=>⟨?_⟩|refine Rb ⟨?_⟩|fail
   all_goals (try refine Stop.here ?_)
   refine Cd.seqS ?_;repeat' first|refine Ra ⟨?_⟩|((refine ⟨2,rfl,by simp,?_⟩) <;> conv=>whnf)|((refine ⟨aE.nm 5,rfl,?_⟩) <;> conv=>whnf)|((refine ⟨zAC rfl,?_⟩) <;> conv=>whnf)|refine Rd (fun h=>⟨?_⟩) fun h=>⟨?_⟩|refine Rb ⟨?_⟩|fail
   all_goals (try refine Stop.here ?_)
   refine mw [.close 2] ?_
   conv=>whnf
   repeat' first|refine Ra ⟨?_⟩|refine Rk [0,1,6,3,4] 4 c9 ⟨?_⟩|((refine ⟨2,rfl,by simp,?_⟩) <;> conv=>whnf)|((refine ⟨zAC rfl,?_⟩) <;> conv=>whnf)|refine Rd (fun h=>⟨?_⟩) fun h=>⟨?_⟩|refine Rb ⟨?_⟩|fail
   exact Rf
 · rw [g1] at c1;have hi:=(List.getElem?_eq_some_iff.1 g2).1;have g5:(h2.map Hld.c)[i]?=some x.c:=mg g2;have c2:=dC (m:=m) h2 i hi (by omega);by_cases hx:x.num≤n
   · skip
     rw [jK hu g2 g3 hx];have c9:=fc (m:=m) ⟨o,clk,cnt,ls,[h0,h1,h2.eraseIdx i],[f0,f1,max f2 n],nt,wt,op⟩ [anH h0,anH h1,anH (h2.eraseIdx i)] ⟨4,2,aZ p n⟩ hnl h0 h1 (h2.eraseIdx i) rfl;refine G0 Tryz.func152 ?_;refine mw [.openA 2 2] ?_
     conv=>whnf
     refine Cd.seqS ?_;repeat' first|refine Ra ⟨?_⟩|(refine ⟨[],_,_,_,_,0,⟨rfl,rfl,rfl,c1,rfl,rfl⟩,.inl ⟨[],trivial,rfl,.inl ⟨by simp [ay,aD,aj],by simp [aF,aG,aj,Ent.c,Mrk.c,Opn.c,Lse.c,Hld.c,Mes.c,az,anH]⟩,?_⟩⟩ <;> conv=>whnf)|refine Rk [5] 1 c2 ⟨?_⟩|((refine ⟨2,rfl,by simp,?_⟩) <;> conv=>whnf)|((refine ⟨aE.nm 5,rfl,?_⟩) <;> conv=>whnf)|((refine ⟨i,rfl,by omega,?_⟩) <;> conv=>whnf)|((refine ⟨_,g5,?_⟩) <;> conv=>whnf)|refine Rd (fun h=>⟨?_⟩) fun h=>⟨?_⟩|refine Rb ⟨?_⟩|fail
     all_goals (try refine Stop.here ?_)
     refine Cd.seqS ?_;repeat' first|refine Ra ⟨?_⟩|refine Rk [5] 1 c2 ⟨?_⟩|((refine ⟨2,rfl,by simp,?_⟩) <;> conv=>whnf)|((refine ⟨aE.nm 5,rfl,?_⟩) <;> conv=>whnf)|((refine ⟨i,rfl,by omega,?_⟩) <;> conv=>whnf)|((refine ⟨_,g5,?_⟩) <;> conv=>whnf)|((refine ⟨zAC rfl,?_⟩) <;> conv=>whnf)|refine Rd (fun h=>⟨?_⟩) fun h=>⟨?_⟩|refine Rb ⟨?_⟩|fail
     all_goals (try refine Stop.here ?_)
     refine mw [.close 2] ?_
     conv=>whnf
     repeat' first|refine Ra ⟨?_⟩|refine Rk [0,1,7,3,4] 4 c9 ⟨?_⟩|((refine ⟨2,rfl,by simp,?_⟩) <;> conv=>whnf)|((refine ⟨zAC rfl,?_⟩) <;> conv=>whnf)|refine Rd (fun h=>⟨?_⟩) fun h=>⟨?_⟩|refine Rb ⟨?_⟩|fail
     exact Rf
   · skip
     rw [iJ hu g2 g3 hx];have c9:=fc (m:=m) ⟨o,clk,cnt,ls,[h0,h1,h2],[f0,f1,max f2 n],nt,wt,op⟩ [anH h0,anH h1,anH (h2)] ⟨4,2,aZ p n⟩ hnl h0 h1 (h2) rfl;refine G0 Tryz.func152 ?_;refine mw [.openA 2 2] ?_
     conv=>whnf
     refine Cd.seqS ?_;repeat' first|refine Ra ⟨?_⟩|(refine ⟨[],_,_,_,_,0,⟨rfl,rfl,rfl,c1,rfl,rfl⟩,.inl ⟨[],trivial,rfl,.inl ⟨by simp [ay,aD,aj],by simp [aF,aG,aj,Ent.c,Mrk.c,Opn.c,Lse.c,Hld.c,Mes.c,az,anH]⟩,?_⟩⟩ <;> conv=>whnf)|((refine ⟨2,rfl,by simp,?_⟩) <;> conv=>whnf)|((refine ⟨aE.nm 5,rfl,?_⟩) <;> conv=>whnf)|refine Rd (fun h=>⟨?_⟩) fun h=>⟨?_⟩|refine Rb ⟨?_⟩|fail
     all_goals (try refine Stop.here ?_)
     refine Cd.seqS ?_;repeat' first|refine Ra ⟨?_⟩|((refine ⟨2,rfl,by simp,?_⟩) <;> conv=>whnf)|((refine ⟨aE.nm 5,rfl,?_⟩) <;> conv=>whnf)|((refine ⟨i,rfl,by omega,?_⟩) <;> conv=>whnf)|((refine ⟨_,g5,?_⟩) <;> conv=>whnf)|((refine ⟨zAC rfl,?_⟩) <;> conv=>whnf)|refine Rd (fun h=>⟨?_⟩) fun h=>⟨?_⟩|refine Rb ⟨?_⟩|fail
     all_goals (try refine Stop.here ?_)
     refine mw [.close 2] ?_
     conv=>whnf
     repeat' first|refine Ra ⟨?_⟩|refine Rk [0,1,6,3,4] 4 c9 ⟨?_⟩|((refine ⟨2,rfl,by simp,?_⟩) <;> conv=>whnf)|((refine ⟨zAC rfl,?_⟩) <;> conv=>whnf)|refine Rd (fun h=>⟨?_⟩) fun h=>⟨?_⟩|refine Rb ⟨?_⟩|fail
     exact Rf
end Go.Proofs.YtagejnomlkfndaaGreatDoor
