/- Texts of this claim, set close: lemmas and contracts. -/
import Derived.Test.YtagejnomlkfndaaGreatDoorYY48
import Derived.Test.YtagejnomlkfndaaGreatDoorYY39
set_option linter.unusedSimpArgs false
set_option linter.unusedVariables false
set_option maxHeartbeats 1000000
set_option maxRecDepth 10000
namespace Go.Proofs.YtagejnomlkfndaaGreatDoor
open Go Go.RowKit Go.Ab Go.Par
variable {m:Int}
theorem cdI {E:Env} {k0:Nat} {c:Code} {tm:Tm} {S:ac} {nx:Nat} {Q:Ex→Tm→ac→Nat→Prop} (h:Cd E k0 c tm S nx Q):Cd E k0 c tm S nx Q:=h
theorem qk (a b:Int):Con (E m) 205 0 [.k .i64 a,.k .i64 b] [] (.k .i64 (max a b)) []:=by
 by_cases h:a < b
 · rw [Int.max_eq_right (by omega)];refine G0 Tryz.func205 ?_;repeat' first|refine Rx ⟨?_⟩|refine Rd (fun h=>⟨?_⟩) fun h=>⟨?_⟩|fail
   all_goals first|exact Rf|(exfalso; omega)
 · rw [Int.max_eq_left (by omega)];refine G0 Tryz.func205 ?_;repeat' first|refine Rx ⟨?_⟩|refine Rd (fun h=>⟨?_⟩) fun h=>⟨?_⟩|fail
   all_goals first | exact Rf | (have:a=b:=by omega
                                 subst this;exact Rf)|(exfalso; omega)
theorem zf (w:Wld) (h:Hld) (who:Int) (hb:dO w) {t v:List Ent} (ho:bv w.over=some (t,v)) (hcl:0≤w.clock∧w.clock≤10000) (hct:0≤w.count∧w.count≤10000) (h0 h1 h2:List Hld) (hh:w.holds=[h0,h1,h2]) :
   Con (E m) 219 4 [.agg (wcO w 0 1 2 3),.agg (Mes.c ⟨1,who,h⟩)] (wlT w 0 1 2 3 [anH h0,anH h1,anH h2]) (.agg (wcO (ja w who h.path) 4 5 6 7)) (wlT (ja w who h.path) 4 5 6 7 [anH h0,anH h1,anH h2]):=by
 have c1:=Dz (m:=m) w [anH h0,anH h1,anH h2] who h.path hb ho hcl hct h0 h1 h2 hh rfl;generalize ja w who h.path=W at c1;refine G0 Tryz.func219 ?_;repeat' first|refine Ra ⟨?_⟩|refine Rk [0,1,2,3] 4 c1 ⟨?_⟩|refine Rd (fun h=>⟨?_⟩) fun h=>⟨?_⟩|refine Rb ⟨?_⟩|fail
 exact Rf
theorem vM (w:Wld) (h:Hld) (who:Int) (hll:w.leases.length≤1048576) (h0 h1 h2:List Hld) :
   Con (E m) 219 4 [.agg (wcO w 0 1 2 3),.agg (Mes.c ⟨4,who,h⟩)] (wlT w 0 1 2 3 [anH h0,anH h1,anH h2]) (.agg (wcO (iy w who h.path h.num) 4 5 6 7)) (wlT (iy w who h.path h.num) 4 5 6 7 [anH h0,anH h1,anH h2]):=by
 have c1:=xi (m:=m) w.leases who h.path h.num hll;unfold iy;refine G0 Tryz.func219 ?_;repeat' first|refine Ra ⟨?_⟩|(refine ⟨[],_,_,_,_,1,⟨rfl,rfl,rfl,c1,rfl,rfl⟩,.inl ⟨[],trivial,rfl,.inl ⟨by simp [ay,aD,aj],by simp [aF,aG,aj,Ent.c,Mrk.c,Opn.c,Lse.c,Hld.c,Mes.c,az,anH]⟩,?_⟩⟩ <;> conv=>whnf)|refine Rd (fun h=>⟨?_⟩) fun h=>⟨?_⟩|refine Rb ⟨?_⟩|fail
 refine ak.here (fw [.ice 0,.close 1,.anew 2,.anew 3] ?_)
 conv=>whnf
 exact ⟨rfl,rfl,rfl,rfl⟩
theorem sg (w:Wld) (g:Hld) (h0 h1 h2:List Hld) (f0 f1 f2:Int) (hf:w.floors=[f0,f1,f2]) (hln:h0.length≤1048575) (hc:w.clock < g.til) (hn:f0 < g.num):Con (E m) 219 4 [.agg (wcO w 0 1 2 3),.agg (Mes.c ⟨2,0,g⟩)] (wlT w 0 1 2 3 [anH h0,anH h1,anH h2]) (.agg (wcO w 4 5 6 7)) (wlT w 4 5 6 7 [anH (cN h0 g),anH h1,anH h2]):=by
 obtain ⟨o,clk,cnt,ls,hs,fl,nt,wt,op⟩:=w;simp only at hf hc;subst hf;by_cases ha:(h0.any fun x=>decide (x.path=g.path) && decide (g.num≤x.num))=true
 · have c1:=ma (m:=m) h0 g (by omega) ha;have ht:cN h0 g=h0:=by rw [cN,if_pos ha]
   rw [ht];refine G0 Tryz.func219 ?_;refine mw [.openA 1 0] ?_
   conv=>whnf
   repeat' first|refine Ra ⟨?_⟩|refine Rk [4] 0 c1 ⟨?_⟩|((refine ⟨0,rfl,by simp,?_⟩) <;> conv=>whnf)|((refine ⟨aE.nm 4,rfl,?_⟩) <;> conv=>whnf)|refine Rd (fun h=>⟨?_⟩) fun h=>⟨?_⟩|refine Rb ⟨?_⟩|fail
   refine ak.here (fw [.anew 0,.close 1,.anew 2,.anew 3] ?_)
   conv=>whnf
   exact ⟨rfl,rfl,rfl,rfl⟩
 · have c1:=mb (m:=m) h0 g (by omega) (by simpa using ha);refine G0 Tryz.func219 ?_;refine mw [.openA 1 0] ?_
   conv=>whnf
   repeat' first|refine Ra ⟨?_⟩|refine Rk [4] 1 c1 ⟨?_⟩|((refine ⟨0,rfl,by simp,?_⟩) <;> conv=>whnf)|((refine ⟨aE.nm 4,rfl,?_⟩) <;> conv=>whnf)|refine Rd (fun h=>⟨?_⟩) fun h=>⟨?_⟩|refine Rb ⟨?_⟩|fail
   refine ak.here (fw [.anew 0,.close 1,.anew 2,.anew 3] ?_)
   conv=>whnf
   exact ⟨rfl,rfl,rfl,rfl⟩
theorem o6 (w:Wld) (g:Hld) (h0 h1 h2:List Hld) (f0 f1 f2:Int) (hf:w.floors=[f0,f1,f2]) (hc:¬ (w.clock < g.til∧f0 < g.num)):Con (E m) 219 4 [.agg (wcO w 0 1 2 3),.agg (Mes.c ⟨2,0,g⟩)] (wlT w 0 1 2 3 [anH h0,anH h1,anH h2]) (.agg (wcO w 4 5 6 7)) (wlT w 4 5 6 7 [anH h0,anH h1,anH h2]):=by
 obtain ⟨o,clk,cnt,ls,hs,fl,nt,wt,op⟩:=w;simp only at hf hc;subst hf;by_cases hc1:clk < g.til
 · have hc2:¬ f0 < g.num:=fun h=>hc ⟨hc1,h⟩;refine G0 Tryz.func219 ?_;repeat' first|refine Ra ⟨?_⟩|((refine ⟨0,rfl,by simp,?_⟩) <;> conv=>whnf)|refine Rd (fun h=>⟨?_⟩) fun h=>⟨?_⟩|refine Rb ⟨?_⟩|fail
   refine ak.here (fw [.anew 0,.close 1,.anew 2,.anew 3] ?_)
   conv=>whnf
   exact ⟨rfl,rfl,rfl,rfl⟩
 · refine G0 Tryz.func219 ?_;repeat' first|refine Ra ⟨?_⟩|((refine ⟨0,rfl,by simp,?_⟩) <;> conv=>whnf)|refine Rd (fun h=>⟨?_⟩) fun h=>⟨?_⟩|refine Rb ⟨?_⟩|fail
   refine ak.here (fw [.anew 0,.close 1,.anew 2,.anew 3] ?_)
   conv=>whnf
   exact ⟨rfl,rfl,rfl,rfl⟩
theorem si (w:Wld) (g:Hld) (h0 h1 h2:List Hld) (f0 f1 f2:Int) (hf:w.floors=[f0,f1,f2]) (hln:h1.length≤1048575) (hc:w.clock < g.til) (hn:f1 < g.num):Con (E m) 219 4 [.agg (wcO w 0 1 2 3),.agg (Mes.c ⟨2,1,g⟩)] (wlT w 0 1 2 3 [anH h0,anH h1,anH h2]) (.agg (wcO w 4 5 6 7)) (wlT w 4 5 6 7 [anH h0,anH (cN h1 g),anH h2]):=by
 obtain ⟨o,clk,cnt,ls,hs,fl,nt,wt,op⟩:=w;simp only at hf hc;subst hf;by_cases ha:(h1.any fun x=>decide (x.path=g.path) && decide (g.num≤x.num))=true
 · have c1:=ma (m:=m) h1 g (by omega) ha;have ht:cN h1 g=h1:=by rw [cN,if_pos ha]
   rw [ht];refine G0 Tryz.func219 ?_;refine mw [.openA 1 1] ?_
   conv=>whnf
   repeat' first|refine Ra ⟨?_⟩|refine Rk [4] 0 c1 ⟨?_⟩|((refine ⟨1,rfl,by simp,?_⟩) <;> conv=>whnf)|((refine ⟨aE.nm 4,rfl,?_⟩) <;> conv=>whnf)|refine Rd (fun h=>⟨?_⟩) fun h=>⟨?_⟩|refine Rb ⟨?_⟩|fail
   refine ak.here (fw [.anew 0,.close 1,.anew 2,.anew 3] ?_)
   conv=>whnf
   exact ⟨rfl,rfl,rfl,rfl⟩
 · have c1:=mb (m:=m) h1 g (by omega) (by simpa using ha);refine G0 Tryz.func219 ?_;refine mw [.openA 1 1] ?_
   conv=>whnf
   repeat' first|refine Ra ⟨?_⟩|refine Rk [4] 1 c1 ⟨?_⟩|((refine ⟨1,rfl,by simp,?_⟩) <;> conv=>whnf)|((refine ⟨aE.nm 4,rfl,?_⟩) <;> conv=>whnf)|refine Rd (fun h=>⟨?_⟩) fun h=>⟨?_⟩|refine Rb ⟨?_⟩|fail
   refine ak.here (fw [.anew 0,.close 1,.anew 2,.anew 3] ?_)
   conv=>whnf
   exact ⟨rfl,rfl,rfl,rfl⟩
theorem o7 (w:Wld) (g:Hld) (h0 h1 h2:List Hld) (f0 f1 f2:Int) (hf:w.floors=[f0,f1,f2]) (hc:¬ (w.clock < g.til∧f1 < g.num)):Con (E m) 219 4 [.agg (wcO w 0 1 2 3),.agg (Mes.c ⟨2,1,g⟩)] (wlT w 0 1 2 3 [anH h0,anH h1,anH h2]) (.agg (wcO w 4 5 6 7)) (wlT w 4 5 6 7 [anH h0,anH h1,anH h2]):=by
 obtain ⟨o,clk,cnt,ls,hs,fl,nt,wt,op⟩:=w;simp only at hf hc;subst hf;by_cases hc1:clk < g.til
 · have hc2:¬ f1 < g.num:=fun h=>hc ⟨hc1,h⟩;refine G0 Tryz.func219 ?_;repeat' first|refine Ra ⟨?_⟩|((refine ⟨1,rfl,by simp,?_⟩) <;> conv=>whnf)|refine Rd (fun h=>⟨?_⟩) fun h=>⟨?_⟩|refine Rb ⟨?_⟩|fail
   refine ak.here (fw [.anew 0,.close 1,.anew 2,.anew 3] ?_)
   conv=>whnf
   exact ⟨rfl,rfl,rfl,rfl⟩
 · refine G0 Tryz.func219 ?_;repeat' first|refine Ra ⟨?_⟩|((refine ⟨1,rfl,by simp,?_⟩) <;> conv=>whnf)|refine Rd (fun h=>⟨?_⟩) fun h=>⟨?_⟩|refine Rb ⟨?_⟩|fail
   refine ak.here (fw [.anew 0,.close 1,.anew 2,.anew 3] ?_)
   conv=>whnf
   exact ⟨rfl,rfl,rfl,rfl⟩
theorem sj (w:Wld) (g:Hld) (h0 h1 h2:List Hld) (f0 f1 f2:Int) (hf:w.floors=[f0,f1,f2]) (hln:h2.length≤1048575) (hc:w.clock < g.til) (hn:f2 < g.num):Con (E m) 219 4 [.agg (wcO w 0 1 2 3),.agg (Mes.c ⟨2,2,g⟩)] (wlT w 0 1 2 3 [anH h0,anH h1,anH h2]) (.agg (wcO w 4 5 6 7)) (wlT w 4 5 6 7 [anH h0,anH h1,anH (cN h2 g)]):=by
 obtain ⟨o,clk,cnt,ls,hs,fl,nt,wt,op⟩:=w;simp only at hf hc;subst hf;by_cases ha:(h2.any fun x=>decide (x.path=g.path) && decide (g.num≤x.num))=true
 · have c1:=ma (m:=m) h2 g (by omega) ha;have ht:cN h2 g=h2:=by rw [cN,if_pos ha]
   rw [ht];refine G0 Tryz.func219 ?_;refine mw [.openA 1 2] ?_
   conv=>whnf
   repeat' first|refine Ra ⟨?_⟩|refine Rk [4] 0 c1 ⟨?_⟩|((refine ⟨2,rfl,by simp,?_⟩) <;> conv=>whnf)|((refine ⟨aE.nm 4,rfl,?_⟩) <;> conv=>whnf)|refine Rd (fun h=>⟨?_⟩) fun h=>⟨?_⟩|refine Rb ⟨?_⟩|fail
   refine ak.here (fw [.anew 0,.close 1,.anew 2,.anew 3] ?_)
   conv=>whnf
   exact ⟨rfl,rfl,rfl,rfl⟩
 · have c1:=mb (m:=m) h2 g (by omega) (by simpa using ha);refine G0 Tryz.func219 ?_;refine mw [.openA 1 2] ?_
   conv=>whnf
   repeat' first|refine Ra ⟨?_⟩|refine Rk [4] 1 c1 ⟨?_⟩|((refine ⟨2,rfl,by simp,?_⟩) <;> conv=>whnf)|((refine ⟨aE.nm 4,rfl,?_⟩) <;> conv=>whnf)|refine Rd (fun h=>⟨?_⟩) fun h=>⟨?_⟩|refine Rb ⟨?_⟩|fail
   refine ak.here (fw [.anew 0,.close 1,.anew 2,.anew 3] ?_)
   conv=>whnf
   exact ⟨rfl,rfl,rfl,rfl⟩
theorem o8 (w:Wld) (g:Hld) (h0 h1 h2:List Hld) (f0 f1 f2:Int) (hf:w.floors=[f0,f1,f2]) (hc:¬ (w.clock < g.til∧f2 < g.num)):Con (E m) 219 4 [.agg (wcO w 0 1 2 3),.agg (Mes.c ⟨2,2,g⟩)] (wlT w 0 1 2 3 [anH h0,anH h1,anH h2]) (.agg (wcO w 4 5 6 7)) (wlT w 4 5 6 7 [anH h0,anH h1,anH h2]):=by
 obtain ⟨o,clk,cnt,ls,hs,fl,nt,wt,op⟩:=w;simp only at hf hc;subst hf;by_cases hc1:clk < g.til
 · have hc2:¬ f2 < g.num:=fun h=>hc ⟨hc1,h⟩;refine G0 Tryz.func219 ?_;repeat' first|refine Ra ⟨?_⟩|((refine ⟨2,rfl,by simp,?_⟩) <;> conv=>whnf)|refine Rd (fun h=>⟨?_⟩) fun h=>⟨?_⟩|refine Rb ⟨?_⟩|fail
   refine ak.here (fw [.anew 0,.close 1,.anew 2,.anew 3] ?_)
   conv=>whnf
   exact ⟨rfl,rfl,rfl,rfl⟩
 · refine G0 Tryz.func219 ?_;repeat' first|refine Ra ⟨?_⟩|((refine ⟨2,rfl,by simp,?_⟩) <;> conv=>whnf)|refine Rd (fun h=>⟨?_⟩) fun h=>⟨?_⟩|refine Rb ⟨?_⟩|fail
   refine ak.here (fw [.anew 0,.close 1,.anew 2,.anew 3] ?_)
   conv=>whnf
   exact ⟨rfl,rfl,rfl,rfl⟩
theorem q9 (w:Wld) (p:Bs) (n:Int) (hnl:w.net.length≤1048576) (h0 h1 h2:List Hld) (f0 f1 f2:Int) (hf:w.floors=[f0,f1,f2]) (hln:h0.length≤1048575):Con (E m) 219 4 [.agg (wcO w 0 1 2 3),.agg (Mes.c ⟨3,0,aZ p n⟩)] (wlT w 0 1 2 3 [anH h0,anH h1,anH h2]) (.agg (wcO { w with floors:=[max f0 n,f1,f2],net:=bZ w.net ⟨4,0,aZ p n⟩ } 4 5 6 7)) (wlT { w with floors:=[max f0 n,f1,f2],net:=bZ w.net ⟨4,0,aZ p n⟩ } 4 5 6 7 [anH (bP h0 p n),anH h1,anH h2]):=by
 obtain ⟨o,clk,cnt,ls,hs,fl,nt,wt,op⟩:=w;simp only at hf hnl ⊢;subst hf;have c1:=oW (m:=m) h0 p n (by omega);have c2:=qk (m:=m) f0 n;have c9:=iK (m:=m) ⟨o,clk,cnt,ls,[bP h0 p n,h1,h2],[max f0 n,f1,f2],nt,wt,op⟩ [anH (bP h0 p n),anH h1,anH h2] ⟨4,0,aZ p n⟩ hnl (bP h0 p n) (h1) (h2) rfl;refine G0 Tryz.func219 ?_;refine mw [.openA 1 0] ?_
 conv=>whnf
 repeat' first|(refine mw [.anew 4,.close 1] ?_; (conv=>whnf); refine cdI ?_)|((first|refine Ops.noneF rfl ?_|refine Cd.seq ?_|refine Ops.nil ?_|refine Cd.region ?_|refine Ops.guardF rfl rfl rfl ?_|refine Ops.off rfl rfl rfl ?_|refine Cd.cond rfl ?_|refine Cd.block ?_|refine Cd.exit ?_|refine Cd.ret ?_|refine Cd.skip ?_|refine Cd.drawn ?_|refine And.intro (a:=mf _ _=true) (by kernel_rfl) ?_|refine ak.out ?_|refine aH.tt ?_|refine aH.ff ?_|refine bn ?_|refine bt ‹_› ?_|refine bf ‹_› ?_|refine bt (by first|omega|(simp only [zAA,List.length_cons,List.length_nil]; first|done|omega)) ?_|refine bf (by first|omega|(simp only [zAA,List.length_cons,List.length_nil]; first|done|omega)) ?_|refine bT ‹_› ?_|refine bF ‹_› ?_) <;> conv=>whnf)|((first|refine ⟨[],_,_,_,_,1,⟨rfl,rfl,rfl,c1,rfl,rfl⟩,.inl ⟨[],trivial,rfl,.inl ⟨by simp [ay,aD,aj],by simp [aF,aG,aj,Hld.c]⟩,?_⟩⟩|refine Rc [] 0 rfl rfl (c2) ?_|refine Rc [0,9,2,3] 4 rfl rfl (c9) ?_|refine Rc [0,10,2,3] 4 rfl rfl (c9) ?_|refine Rc [0,11,2,3] 4 rfl rfl (c9) ?_|refine Rc [0,12,2,3] 4 rfl rfl (c9) ?_|refine Rc [0,13,2,3] 4 rfl rfl (c9) ?_|refine ⟨0,rfl,by simp,?_⟩|refine ⟨aE.nm 4,rfl,?_⟩|refine ⟨zAC rfl,?_⟩) <;> conv=>whnf)|refine Rb ⟨?_⟩|fail
 exact Rf
theorem ra (w:Wld) (p:Bs) (n:Int) (hnl:w.net.length≤1048576) (h0 h1 h2:List Hld) (f0 f1 f2:Int) (hf:w.floors=[f0,f1,f2]) (hln:h1.length≤1048575):Con (E m) 219 4 [.agg (wcO w 0 1 2 3),.agg (Mes.c ⟨3,1,aZ p n⟩)] (wlT w 0 1 2 3 [anH h0,anH h1,anH h2]) (.agg (wcO { w with floors:=[f0,max f1 n,f2],net:=bZ w.net ⟨4,1,aZ p n⟩ } 4 5 6 7)) (wlT { w with floors:=[f0,max f1 n,f2],net:=bZ w.net ⟨4,1,aZ p n⟩ } 4 5 6 7 [anH h0,anH (bP h1 p n),anH h2]):=by
 obtain ⟨o,clk,cnt,ls,hs,fl,nt,wt,op⟩:=w;simp only at hf hnl ⊢;subst hf;have c1:=oW (m:=m) h1 p n (by omega);have c2:=qk (m:=m) f1 n;have c9:=iK (m:=m) ⟨o,clk,cnt,ls,[h0,bP h1 p n,h2],[f0,max f1 n,f2],nt,wt,op⟩ [anH h0,anH (bP h1 p n),anH h2] ⟨4,1,aZ p n⟩ hnl (h0) (bP h1 p n) (h2) rfl;refine G0 Tryz.func219 ?_;refine mw [.openA 1 1] ?_
 conv=>whnf
 repeat' first|(refine mw [.anew 4,.close 1] ?_; (conv=>whnf); refine cdI ?_)|((first|refine Ops.noneF rfl ?_|refine Cd.seq ?_|refine Ops.nil ?_|refine Cd.region ?_|refine Ops.guardF rfl rfl rfl ?_|refine Ops.off rfl rfl rfl ?_|refine Cd.cond rfl ?_|refine Cd.block ?_|refine Cd.exit ?_|refine Cd.ret ?_|refine Cd.skip ?_|refine Cd.drawn ?_|refine And.intro (a:=mf _ _=true) (by kernel_rfl) ?_|refine ak.out ?_|refine aH.tt ?_|refine aH.ff ?_|refine bn ?_|refine bt ‹_› ?_|refine bf ‹_› ?_|refine bt (by first|omega|(simp only [zAA,List.length_cons,List.length_nil]; first|done|omega)) ?_|refine bf (by first|omega|(simp only [zAA,List.length_cons,List.length_nil]; first|done|omega)) ?_|refine bT ‹_› ?_|refine bF ‹_› ?_) <;> conv=>whnf)|((first|refine ⟨[],_,_,_,_,1,⟨rfl,rfl,rfl,c1,rfl,rfl⟩,.inl ⟨[],trivial,rfl,.inl ⟨by simp [ay,aD,aj],by simp [aF,aG,aj,Hld.c]⟩,?_⟩⟩|refine Rc [] 0 rfl rfl (c2) ?_|refine Rc [0,9,2,3] 4 rfl rfl (c9) ?_|refine Rc [0,10,2,3] 4 rfl rfl (c9) ?_|refine Rc [0,11,2,3] 4 rfl rfl (c9) ?_|refine Rc [0,12,2,3] 4 rfl rfl (c9) ?_|refine Rc [0,13,2,3] 4 rfl rfl (c9) ?_|refine ⟨1,rfl,by simp,?_⟩|refine ⟨aE.nm 4,rfl,?_⟩|refine ⟨zAC rfl,?_⟩) <;> conv=>whnf)|refine Rb ⟨?_⟩|fail
 exact Rf
theorem rb (w:Wld) (p:Bs) (n:Int) (hnl:w.net.length≤1048576) (h0 h1 h2:List Hld) (f0 f1 f2:Int) (hf:w.floors=[f0,f1,f2]) (hln:h2.length≤1048575):Con (E m) 219 4 [.agg (wcO w 0 1 2 3),.agg (Mes.c ⟨3,2,aZ p n⟩)] (wlT w 0 1 2 3 [anH h0,anH h1,anH h2]) (.agg (wcO { w with floors:=[f0,f1,max f2 n],net:=bZ w.net ⟨4,2,aZ p n⟩ } 4 5 6 7)) (wlT { w with floors:=[f0,f1,max f2 n],net:=bZ w.net ⟨4,2,aZ p n⟩ } 4 5 6 7 [anH h0,anH h1,anH (bP h2 p n)]):=by
 obtain ⟨o,clk,cnt,ls,hs,fl,nt,wt,op⟩:=w;simp only at hf hnl ⊢;subst hf;have c1:=oW (m:=m) h2 p n (by omega);have c2:=qk (m:=m) f2 n;have c9:=iK (m:=m) ⟨o,clk,cnt,ls,[h0,h1,bP h2 p n],[f0,f1,max f2 n],nt,wt,op⟩ [anH h0,anH h1,anH (bP h2 p n)] ⟨4,2,aZ p n⟩ hnl (h0) (h1) (bP h2 p n) rfl;refine G0 Tryz.func219 ?_;refine mw [.openA 1 2] ?_
 conv=>whnf
 repeat' first|(refine mw [.anew 4,.close 1] ?_; (conv=>whnf); refine cdI ?_)|((first|refine Ops.noneF rfl ?_|refine Cd.seq ?_|refine Ops.nil ?_|refine Cd.region ?_|refine Ops.guardF rfl rfl rfl ?_|refine Ops.off rfl rfl rfl ?_|refine Cd.cond rfl ?_|refine Cd.block ?_|refine Cd.exit ?_|refine Cd.ret ?_|refine Cd.skip ?_|refine Cd.drawn ?_|refine And.intro (a:=mf _ _=true) (by kernel_rfl) ?_|refine ak.out ?_|refine aH.tt ?_|refine aH.ff ?_|refine bn ?_|refine bt ‹_› ?_|refine bf ‹_› ?_|refine bt (by first|omega|(simp only [zAA,List.length_cons,List.length_nil]; first|done|omega)) ?_|refine bf (by first|omega|(simp only [zAA,List.length_cons,List.length_nil]; first|done|omega)) ?_|refine bT ‹_› ?_|refine bF ‹_› ?_) <;> conv=>whnf)|((first|refine ⟨[],_,_,_,_,1,⟨rfl,rfl,rfl,c1,rfl,rfl⟩,.inl ⟨[],trivial,rfl,.inl ⟨by simp [ay,aD,aj],by simp [aF,aG,aj,Hld.c]⟩,?_⟩⟩|refine Rc [] 0 rfl rfl (c2) ?_|refine Rc [0,9,2,3] 4 rfl rfl (c9) ?_|refine Rc [0,10,2,3] 4 rfl rfl (c9) ?_|refine Rc [0,11,2,3] 4 rfl rfl (c9) ?_|refine Rc [0,12,2,3] 4 rfl rfl (c9) ?_|refine Rc [0,13,2,3] 4 rfl rfl (c9) ?_|refine ⟨2,rfl,by simp,?_⟩|refine ⟨aE.nm 4,rfl,?_⟩|refine ⟨zAC rfl,?_⟩) <;> conv=>whnf)|refine Rb ⟨?_⟩|fail
 exact Rf
variable {m:Int}
theorem FL (w:Wld) (x:Mes) (hb:dO w) {t v:List Ent} (ho:bv w.over=some (t,v)) (hw:OkW v w) (hx:(1≤x.kind∧x.kind≤4)∧(0≤x.who∧x.who≤2)∧(x.kind=2∨x.hold=aZ x.hold.path x.hold.num)) (hl:∀ l∈w.holds,l.length≤1048575) (h0 h1 h2:List Hld) (hh:w.holds=[h0,h1,h2]) :
   ∃ g0 g1 g2,(dA w x).holds=[g0,g1,g2]∧Con (E m) 219 4 [.agg (wcO w 0 1 2 3),.agg x.c] (wlT w 0 1 2 3 [anH h0,anH h1,anH h2]) (.agg (wcO (dA w x) 4 5 6 7)) (wlT (dA w x) 4 5 6 7 [anH g0,anH g1,anH g2]):=by
 obtain ⟨⟨k1,k2⟩,⟨w1,w2⟩,k3⟩:=hx;obtain ⟨kind,who,h⟩:=x;simp only at k1 k2 w1 w2 k3;obtain ⟨f0,f1,f2,hf⟩:=uT hw.fl;have hl':=hl;rw [hh] at hl';obtain rfl|rfl|rfl|rfl:kind=1∨kind=2∨kind=3∨kind=4:=by omega
 · have hq:dA w ⟨1,who,h⟩=ja w who h.path:=by simp [dA]
   rw [hq];exact ⟨h0,h1,h2,by unfold ja; split <;> exact hh,zf (m:=m) w h who hb ho hw.clk hw.cnt h0 h1 h2 hh⟩
 · have hq:dA w ⟨2,who,h⟩=eY w who h:=by simp [dA]
   rw [hq];unfold eY;obtain rfl|rfl|rfl:who=0∨who=1∨who=2:=by omega
   · have q1:bz w.floors 0=f0:=by rw [hf]; rfl
     have q2:aO w.holds 0=h0:=by rw [hh]; rfl
     rw [q1,q2];by_cases hc:w.clock < h.til∧f0 < h.num
     · rw [if_pos hc];exact ⟨cN h0 h,h1,h2,by simp [hh],sg (m:=m) w h h0 h1 h2 f0 f1 f2 hf (hl' h0 (by simp)) hc.1 hc.2⟩
     · rw [if_neg hc];exact ⟨h0,h1,h2,hh,o6 (m:=m) w h h0 h1 h2 f0 f1 f2 hf hc⟩
   · have q1:bz w.floors 1=f1:=by rw [hf]; rfl
     have q2:aO w.holds 1=h1:=by rw [hh]; rfl
     rw [q1,q2];by_cases hc:w.clock < h.til∧f1 < h.num
     · rw [if_pos hc];exact ⟨h0,cN h1 h,h2,by simp [hh],si (m:=m) w h h0 h1 h2 f0 f1 f2 hf (hl' h1 (by simp)) hc.1 hc.2⟩
     · rw [if_neg hc];exact ⟨h0,h1,h2,hh,o7 (m:=m) w h h0 h1 h2 f0 f1 f2 hf hc⟩
   · have q1:bz w.floors 2=f2:=by rw [hf]; rfl
     have q2:aO w.holds 2=h2:=by rw [hh]; rfl
     rw [q1,q2];by_cases hc:w.clock < h.til∧f2 < h.num
     · rw [if_pos hc];exact ⟨h0,h1,cN h2 h,by simp [hh],sj (m:=m) w h h0 h1 h2 f0 f1 f2 hf (hl' h2 (by simp)) hc.1 hc.2⟩
     · rw [if_neg hc];exact ⟨h0,h1,h2,hh,o8 (m:=m) w h h0 h1 h2 f0 f1 f2 hf hc⟩
 · have hq:dA w ⟨3,who,h⟩=d7 w who h.path h.num:=by simp [dA]
   rw [hq];have hbare:h=aZ h.path h.num:=by
    rcases k3 with k|k
    · omega
    · exact k
   have hnl:=hb.nl;unfold d7;obtain rfl|rfl|rfl:who=0∨who=1∨who=2:=by omega
   · have q1:bz w.floors 0=f0:=by rw [hf]; rfl
     have q2:aO w.holds 0=h0:=by rw [hh]; rfl
     rw [q1,q2];refine ⟨bP h0 h.path h.num,h1,h2,by simp [hh],?_⟩
     have:=q9 (m:=m) w h.path h.num hnl h0 h1 h2 f0 f1 f2 hf (hl' h0 (by simp))
     rw [← hbare] at this;rw [hf,← hbare];exact this
   · have q1:bz w.floors 1=f1:=by rw [hf]; rfl
     have q2:aO w.holds 1=h1:=by rw [hh]; rfl
     rw [q1,q2];refine ⟨h0,bP h1 h.path h.num,h2,by simp [hh],?_⟩
     have:=ra (m:=m) w h.path h.num hnl h0 h1 h2 f0 f1 f2 hf (hl' h1 (by simp))
     rw [← hbare] at this;rw [hf,← hbare];exact this
   · have q1:bz w.floors 2=f2:=by rw [hf]; rfl
     have q2:aO w.holds 2=h2:=by rw [hh]; rfl
     rw [q1,q2];refine ⟨h0,h1,bP h2 h.path h.num,by simp [hh],?_⟩
     have:=rb (m:=m) w h.path h.num hnl h0 h1 h2 f0 f1 f2 hf (hl' h2 (by simp))
     rw [← hbare] at this;rw [hf,← hbare];exact this
 · have hq:dA w ⟨4,who,h⟩=iy w who h.path h.num:=by simp [dA]
   rw [hq];exact ⟨h0,h1,h2,hh,vM (m:=m) w h who hb.ll h0 h1 h2⟩
theorem FM (l:List Mes) (i:Nat) (hi:i < l.length):(([]:List (List D))++((l.map Mes.c).take i).drop 0)++((l.map Mes.c).take (l.map Mes.c).length).drop (i+1)=(l.eraseIdx i).map Mes.c:=by
 rw [zAP,List.eraseIdx_eq_take_drop_succ,zAH,zBW,zBX]
 simp
theorem Hw (w:Wld) (e:Evn) (hb:dO w) {t v:List Ent} (ho:bv w.over=some (t,v)) (hw:OkW v w) (hk:e.kind=5∨e.kind=6∨e.kind=7) (hl:∀ l∈w.holds,l.length≤1048575) (h0 h1 h2:List Hld) (hh:w.holds=[h0,h1,h2]) :
   ∃ g0 g1 g2,(jb w e.kind e.pos).1.holds=[g0,g1,g2]∧Con (E m) 159 4 [.agg (wcO w 0 1 2 3),.agg e.c] (wlT w 0 1 2 3 [anH h0,anH h1,anH h2]) (.tup [.agg (wcO (jb w e.kind e.pos).1 4 5 6 7),.k .i64 (jb w e.kind e.pos).2]) (wlT (jb w e.kind e.pos).1 4 5 6 7 [anH g0,anH g1,anH g2]):=by
 obtain ⟨k,who,p,op,pos⟩:=e;simp only at hk ⊢;have hnl:=hb.nl;have e1:(w.net.map Mes.c).length=w.net.length:=zAA ..;unfold jb;by_cases hp:pos < 0
 · rw [if_pos hp];refine ⟨h0,h1,h2,hh,?_⟩;refine G0 Tryz.func159 ?_;repeat' first|refine Rx ⟨?_⟩|refine Rd (fun h=>⟨?_⟩) fun h=>⟨?_⟩|fail
   refine ak.here (fw [.anew 0,.close 1,.anew 2,.anew 3] ?_)
   conv=>whnf
   exact ⟨rfl,rfl,rfl,rfl⟩
 · rw [if_neg hp];obtain ⟨i,rfl⟩:∃ i:Nat,pos=(i:Int):=⟨pos.toNat,by omega⟩;simp only [zBQ];cases hx:w.net[i]? with
   | none=>
     have hi:=List.getElem?_eq_none_iff.1 hx;refine ⟨h0,h1,h2,hh,?_⟩;refine G0 Tryz.func159 ?_;repeat' first|refine Rx ⟨?_⟩|refine Rd (fun h=>⟨?_⟩) fun h=>⟨?_⟩|fail
     refine ak.here (fw [.anew 0,.close 1,.anew 2,.anew 3] ?_)
     conv=>whnf
     exact ⟨rfl,rfl,rfl,rfl⟩
   | some x=>
     have hi:=(List.getElem?_eq_some_iff.1 hx).1;have g5:(w.net.map Mes.c)[i]?=some x.c:=mg hx;have hxm:=zAD hx;have hnt:=hw.nt x hxm;have hlen:(w.net.eraseIdx i).length≤1048576:=by rw [zAk]; split <;> omega
     have hb1:dO { w with net:=w.net.eraseIdx i }:=⟨hb.over,hb.ls,hb.ll,hb.hs,hb.hl,hb.fl,fun y hy=>hb.nt y ((zBM _ _).subset hy),hlen,hb.op⟩
     have hw1:OkW v { w with net:=w.net.eraseIdx i }:=hw.less (by have:=hw.nl; rw [zAk]; split <;> omega) fun y hy=>(zBM _ _).subset hy
     have hraw:=FM w.net i hi;have hels:∀ cs∈w.net.map Mes.c,cs.length=9:=pC fun _=>rfl;by_cases h7:k=7
     · subst h7;simp only [if_pos];refine ⟨h0,h1,h2,hh,?_⟩;have c1:=iK (m:=m) w [anH h0,anH h1,anH h2] x hnl h0 h1 h2 rfl;refine G0 Tryz.func159 ?_;repeat' first|refine Ra ⟨?_⟩|refine Rk [0,1,2,3] 4 c1 ⟨?_⟩|((refine ⟨i,rfl,by omega,?_⟩) <;> conv=>whnf)|((refine ⟨_,g5,?_⟩) <;> conv=>whnf)|refine Rd (fun h=>⟨?_⟩) fun h=>⟨?_⟩|refine Rb ⟨?_⟩|fail
       exact Rf
     · simp only [if_neg h7];have ALT:True:=trivial;by_cases h6:k=6
       · subst h6;simp only [if_neg (by decide:¬ (6:Int)=5)];refine ⟨h0,h1,h2,hh,?_⟩;simp only [wlT,← hraw];refine G0 Tryz.func159 ?_;refine mw [.ice 3] ?_
         conv=>whnf
         repeat' first|refine Ra ⟨?_⟩|((refine ⟨i,rfl,by omega,?_⟩) <;> conv=>whnf)|((refine ⟨_,g5,?_⟩) <;> conv=>whnf)|((refine ⟨hels,?_⟩) <;> conv=>whnf)|((refine ⟨i,rfl,zAG _,by omega,?_⟩) <;> conv=>whnf)|((refine ⟨i+1,by omega,by omega,zAL _,?_⟩) <;> conv=>whnf)|refine Rd (fun h=>⟨?_⟩) fun h=>⟨?_⟩|refine Rb ⟨?_⟩|fail
         refine ak.here (fw [.anew 0,.close 1,.anew 2] ?_)
         conv=>whnf
         exact ⟨rfl,rfl,rfl,rfl⟩
       · have h5:k=5:=by omega
         subst h5;simp only [if_true];obtain ⟨g0,g1,g2,hg,c1⟩:=FL (m:=m) { w with net:=w.net.eraseIdx i } x hb1 ho hw1 ⟨hnt.1,hnt.2.1,hnt.2.2.2.2.2⟩ hl h0 h1 h2 hh
         refine ⟨g0,g1,g2,hg,?_⟩;generalize dA { w with net:=w.net.eraseIdx i } x=W at c1
         simp only [wlT,← hraw] at c1;refine G0 Tryz.func159 ?_;refine mw [.ice 3] ?_
         conv=>whnf
         repeat' first|refine Ra ⟨?_⟩|((refine ⟨i,rfl,by omega,?_⟩) <;> conv=>whnf)|((refine ⟨_,g5,?_⟩) <;> conv=>whnf)|((refine ⟨hels,?_⟩) <;> conv=>whnf)|((refine ⟨i,rfl,zAG _,by omega,?_⟩) <;> conv=>whnf)|((refine ⟨i+1,by omega,by omega,zAL _,?_⟩) <;> conv=>whnf)|refine Rk [0,1,2,8] 4 c1 ⟨?_⟩|refine Rk [0,1,2,9] 4 c1 ⟨?_⟩|refine Rk [0,1,2,7] 4 c1 ⟨?_⟩|refine Rk [0,1,2,10] 4 c1 ⟨?_⟩|refine Rd (fun h=>⟨?_⟩) fun h=>⟨?_⟩|refine Rb ⟨?_⟩|fail
         exact Rf
end Go.Proofs.YtagejnomlkfndaaGreatDoor
