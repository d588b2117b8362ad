/- Texts of this claim, set close: lemmas and contracts. -/
import Derived.Test.YtlicaibhgcenhaaGreatDoorYY17
import Derived.Test.YtlicaibhgcenhaaGreatDoorYY12
import Derived.Test.YtlicaibhgcenhaaGreatDoorYY15
set_option linter.unusedSimpArgs false
set_option linter.unusedVariables false
set_option maxHeartbeats 1000000
set_option maxRecDepth 10000
namespace Go.Proofs.YtlicaibhgcenhaaGreatDoor
open Go Go.RowKit Go.Ab Go.Par
variable {m:Int}
theorem Fz (k x:Nat):(2 * k+1) * x=x+k * (x+x):=by rw [zAx,Nat.one_mul,Nat.mul_comm 2 k,Nat.mul_assoc,Nat.two_mul,Nat.add_comm]
theorem DR (k x:Nat):(2 * k) * x=k * (x+x):=by rw [Nat.mul_comm 2 k,Nat.mul_assoc,Nat.two_mul]
theorem zP (s:Bs) (n:Nat) (hs:n * s.length≤1048576) (hn:n≤1048576):∃ d S',(∃ t:Bs,t.length≤n * s.length∧d=.s t∧S'=[])∧Con (E m) 34 0 [.s s,.k .i64 n] [] d S':=by
 refine gK ym mix Tryz.func34 rfl rfl rfl (zAF rfl) ?_;repeat' first|refine Rx ⟨?_⟩|refine Rd (fun h=>⟨?_⟩) fun h=>⟨?_⟩|fail
 refine Cd.loop2 (fun mq tm S nx=>∃ (x:Bs) (k:Nat) (out:Bs),mq=(k)∧tm=[(0,.s x),(1,.k .i64 k),(5,.s out)]∧S=[]∧nx=0∧(out.length+k * x.length≤n * s.length)∧(k≤1048576)) ?_ ?_
 · refine la [0,1,5] ?_
   conv=>whnf
   refine ⟨rfl,rfl,_,s,n,[],rfl,rfl,rfl,rfl,(by simp),hn⟩
 · rintro mq tm S nx ⟨x,k,out,hn,rfl,rfl,rfl,hk,hkn⟩;by_cases hz:k=0
   · subst hz;repeat' first|refine Rx ⟨?_⟩|refine Rd (fun h=>⟨?_⟩) fun h=>⟨?_⟩|fail
     refine iT.here (aa ?_)
     conv=>whnf
     refine ⟨rfl,rfl,_,rfl,⟨out,by omega,rfl,rfl⟩⟩
   · have hx:x.length≤k * x.length:=Nat.le_mul_of_pos_left _ (by omega);have e2:(k:Int) / 2=((k / 2:Nat):Int):=by omega
     rcases Nat.mod_two_eq_zero_or_one k with h2|h2
     · have e1:(k:Int) % 2=0:=by omega
       have e3:k=2 * (k / 2):=by omega
       have e4:=DR (k / 2) x.length;rw [← e3] at e4;repeat' first|refine Ra ⟨?_⟩|((refine wr (by omega) (by omega) ?_; rw [e1]) <;> conv=>whnf)|((refine wq (by omega) (by omega) ?_; rw [e2]) <;> conv=>whnf)|refine Rd (fun h=>⟨?_⟩) fun h=>⟨?_⟩|refine Rb ⟨?_⟩|fail
       refine .here ⟨mq - (k-k/2),by omega,?_⟩;refine la [0,1,5] ?_
       conv=>whnf
       refine ⟨rfl,rfl,x++x,k / 2,out,(by omega),rfl,rfl,rfl,(by rw [zAL]; omega),by omega⟩
     · have e1:(k:Int) % 2=1:=by omega
       have e3:k=2 * (k / 2)+1:=by omega
       have e4:=Fz (k / 2) x.length;rw [← e3] at e4;repeat' first|refine Ra ⟨?_⟩|((refine wr (by omega) (by omega) ?_; rw [e1]) <;> conv=>whnf)|((refine wq (by omega) (by omega) ?_; rw [e2]) <;> conv=>whnf)|refine Rd (fun h=>⟨?_⟩) fun h=>⟨?_⟩|refine Rb ⟨?_⟩|fail
       refine .here ⟨mq - (k-k/2),by omega,?_⟩;refine la [0,1,5] ?_
       conv=>whnf
       refine ⟨rfl,rfl,x++x,k / 2,out++x,(by omega),rfl,rfl,rfl,(by rw [zAL,zAL]; omega),by omega⟩
theorem BM (l:Bs) (p:Int) (hp:0≤p∧p≤1000000) (hl:l.length≤2000):∃ d S',(∃ (t:Bs) (p':Int),t.length≤60∧p≤p'∧p'≤p+12∧d=.s t∧S'=[(0,rd l p')])∧Con (E m) 32 1 [.bp 0 0] [(0,rd l p)] d S':=by
 have hq:∀ q,(ofV m l q gW).length≤6:=fun q=>(by decide:∀ x∈gW,x.length≤6) _ (iF l q (by decide));have q0:=hq p;have q3:=hq (p+1+1+1);have hb:=jd (m:=m) l (p+1) 3;have cd:=tJ (m:=m) (eL m l (p+1) 3).toNat (by omega);rw [← F8] at cd;have hdl:(gR (eL m l (p+1) 3).toNat).length≤2:=by unfold gR; split <;> simp
 generalize gR (eL m l (p+1) 3).toNat=dt at cd hdl;have f1:(ofV m l (p+1+1+1) [[47,97],[47,98],[47,97,47,98],ofV m l p gW]).length≤6:=by
  have:=iF (m:=m) l (p+1+1+1) (ls:=[[47,97],[47,98],[47,97,47,98],ofV m l p gW]) (by simp)
  simp only [List.mem_cons,List.not_mem_nil,or_false] at this;rcases this with h|h|h|h <;> (rw [h]; first|exact q0|decide)
 have f2:(ofV m l (p+1+1+1) [[120],[121],[49,50]]).length≤6:=(by decide:∀ x∈([[120],[121],[49,50]]:List Bs),x.length≤6) _ (iF l _ (by decide));have f3:(ofV m l (p+1+1+1) [[114,109,32],[114,109,100,105,114,32]]).length≤6:=(by decide:∀ x∈([[114,109,32],[114,109,100,105,114,32]]:List Bs),x.length≤6) _ (iF l _ (by decide));have f4:(ofV m l (p+1+1+1) [[108,111,115,101,32],[99,111,112,121,32]]).length≤6:=(by decide:∀ x∈([[108,111,115,101,32],[99,111,112,121,32]]:List Bs),x.length≤6) _ (iF l _ (by decide));have f5:(ofV m l (p+1+1+1) [[116,114,121,10],[116,105,99,107,10],[116,105,99,107,10,116,105,99,107,10,116,105,99,107,10,116,105,99,107,10,116,105,99,107,10]]).length≤30:=(by decide:∀ x∈([[116,114,121,10],[116,105,99,107,10],[116,105,99,107,10,116,105,99,107,10,116,105,99,107,10,116,105,99,107,10,116,105,99,107,10]]:List Bs),x.length≤30) _ (iF l _ (by decide));have f6:(ofV m l (p+1+1+1) [[112,117,115,104,10],[102,108,97,116,10],[115,105,110,107,10],[110,101,116,10]]).length≤6:=(by decide:∀ x∈([[112,117,115,104,10],[102,108,97,116,10],[115,105,110,107,10],[110,101,116,10]]:List Bs),x.length≤6) _ (iF l _ (by decide));have f7:(ofV m l (p+1+1+1) [[102,108,121,10],[109,97,107,101,10],[112,117,116,32,47,97,32,65,10],[109,111,118,101,32,47,97,10],[97,115,107,32,57,32,47,97,10],[97,115,107,32,48,32,47,65,10],[103,105,118,101,32,120,10],[103,105,118,101,32,45,49,10],[114,101,97,100,32,48,10],[108,105,115,116,32,47,113,10],[32,116,114,101,101,32,10],[10],[84,82,69,69,10],[114,109,32,47,32,10],[109,97,107,101,32,47,97,32,120,10],[108,105,115,116,32,47,97,47,98,47,99,47,100,10]]).length≤30:=(by decide:∀ x∈([[102,108,121,10],[109,97,107,101,10],[112,117,116,32,47,97,32,65,10],[109,111,118,101,32,47,97,10],[97,115,107,32,57,32,47,97,10],[97,115,107,32,48,32,47,65,10],[103,105,118,101,32,120,10],[103,105,118,101,32,45,49,10],[114,101,97,100,32,48,10],[108,105,115,116,32,47,113,10],[32,116,114,101,101,32,10],[10],[84,82,69,69,10],[114,109,32,47,32,10],[109,97,107,101,32,47,97,32,120,10],[108,105,115,116,32,47,97,47,98,47,99,47,100,10]]:List Bs),x.length≤30) _ (iF l _ (by decide));have f8:(ofV m l (p+1+1+1) [[116,114,101,101,10],[117,112,112,101,114,10],[108,105,115,116,32,47,10],[108,105,115,116,32]++ofV m l p gW++[10]]).length≤30:=by
  have:=iF (m:=m) l (p+1+1+1) (ls:=[[116,114,101,101,10],[117,112,112,101,114,10],[108,105,115,116,32,47,10],[108,105,115,116,32]++ofV m l p gW++[10]]) (by simp)
  simp only [List.mem_cons,List.not_mem_nil,or_false] at this;rcases this with h|h|h|h <;> (rw [h]; first|decide|(simp only [zAL,List.length_cons,List.length_nil]; omega))
 refine gK ym mix Tryz.func32 rfl rfl rfl (zAF rfl) ?_;repeat' first|refine Ra ⟨?_⟩|(refine Rc [0] 0 rfl rfl (Bc l _ (by omega) hl) ?_ <;> conv=>whnf)|(refine Rc [0] 0 rfl rfl (o4 l _ _ (by omega) (by omega) hl) ?_ <;> conv=>whnf)|refine R0 cd ⟨?_⟩|(refine Rc [0] 0 rfl rfl (kU l _ [[47,97],[47,98],[47,97,47,98],ofV m l p gW] (by omega) hl (by simp) (by simp)) ?_ <;> conv=>whnf)|(refine Rc [0] 0 rfl rfl (kU l _ [[120],[121],[49,50]] (by omega) hl (by decide) (by decide)) ?_ <;> conv=>whnf)|(refine Rc [0] 0 rfl rfl (kU l _ [[114,109,32],[114,109,100,105,114,32]] (by omega) hl (by decide) (by decide)) ?_ <;> conv=>whnf)|(refine Rc [0] 0 rfl rfl (kU l _ [[108,111,115,101,32],[99,111,112,121,32]] (by omega) hl (by decide) (by decide)) ?_ <;> conv=>whnf)|(refine Rc [0] 0 rfl rfl (kU l _ [[116,114,121,10],[116,105,99,107,10],[116,105,99,107,10,116,105,99,107,10,116,105,99,107,10,116,105,99,107,10,116,105,99,107,10]] (by omega) hl (by decide) (by decide)) ?_ <;> conv=>whnf)|(refine Rc [0] 0 rfl rfl (kU l _ [[112,117,115,104,10],[102,108,97,116,10],[115,105,110,107,10],[110,101,116,10]] (by omega) hl (by decide) (by decide)) ?_ <;> conv=>whnf)|(refine Rc [0] 0 rfl rfl (kU l _ [[102,108,121,10],[109,97,107,101,10],[112,117,116,32,47,97,32,65,10],[109,111,118,101,32,47,97,10],[97,115,107,32,57,32,47,97,10],[97,115,107,32,48,32,47,65,10],[103,105,118,101,32,120,10],[103,105,118,101,32,45,49,10],[114,101,97,100,32,48,10],[108,105,115,116,32,47,113,10],[32,116,114,101,101,32,10],[10],[84,82,69,69,10],[114,109,32,47,32,10],[109,97,107,101,32,47,97,32,120,10],[108,105,115,116,32,47,97,47,98,47,99,47,100,10]] (by omega) hl (by decide) (by decide)) ?_ <;> conv=>whnf)|(refine Rc [0] 0 rfl rfl (kU l _ [[116,114,101,101,10],[117,112,112,101,114,10],[108,105,115,116,32,47,10],[108,105,115,116,32]++ofV m l p gW++[10]] (by omega) hl (by simp) (by simp)) ?_ <;> conv=>whnf)|refine Rd (fun h=>⟨?_⟩) fun h=>⟨?_⟩|refine Rb ⟨?_⟩|fail
 all_goals
  refine iT.here (aa ?_)
  conv=>whnf
  refine ⟨rfl,rfl,_,rfl,⟨_,_,?_,?_,?_,rfl,rfl⟩⟩;all_goals first
   | omega
   | (simp only [zAL,List.length_cons,List.length_nil]; omega)
theorem pm (l:Bs) (hl:l.length≤1048576):∃ t:Bs,t.length≤30000∧Con (E m) 9 0 [.sl (aA l)] [] (.s t) []:=by
 have c0:=E7 (m:=m) l hl;have hl2:(l.take 2000).length≤2000:=by rw [zAW]; omega
 generalize l.take 2000=c at c0 hl2;have hk:=y9 (m:=m) c 0 (ls:=[6,12,20,30]) (by decide);have c1:=Ci (m:=m) c 0 [6,12,20,30] (by omega) hl2 (by decide) (by decide);generalize Bb m c 0 [6,12,20,30]=k at hk c1;have hk2:0≤k∧k≤30:=by
  simp only [List.mem_cons,List.not_mem_nil,or_false] at hk;omega
 suffices H:∃ d S',(∃ t:Bs,t.length≤30000∧d=.s t∧S'=[])∧Con (E m) 9 0 [.sl (aA l)] [] d S' from by
  obtain ⟨d,S',⟨t,h1,rfl,rfl⟩,h2⟩:=H;exact ⟨t,h1,h2⟩
 refine gK ym mix Tryz.func9 rfl rfl rfl (zAF rfl) ?_;repeat' first|refine Ra ⟨?_⟩|refine Rk [] 1 c0 ⟨?_⟩|refine Rk [0] 0 c1 ⟨?_⟩|refine Rd (fun h=>⟨?_⟩) fun h=>⟨?_⟩|refine Rb ⟨?_⟩|fail
 refine Cd.loop2 (fun mq tm S nx=>∃ (i:Nat) (out:Bs) (p:Int),mq=(i)∧tm=[(3,.bp 0 0),(4,.s out),(5,.k .i64 i)]∧S=[(0,rd c p)]∧nx=1∧(i≤30)∧(out.length+60 * i≤1819)∧(0≤p∧p+12 * i≤361)) ?_ ?_
 · obtain ⟨k,rfl⟩:∃ n:Nat,k=n:=⟨k.toNat,by omega⟩;refine la [3,4,5] ?_
   conv=>whnf
   refine ⟨rfl,rfl,_,k,_,_,rfl,rfl,rfl,rfl,by omega,(by simp; omega),by omega⟩
 · rintro mq tm S nx ⟨i,out,p,hn,rfl,rfl,rfl,hi,ho,hp⟩;by_cases hz:i=0
   · subst hz;have hn:=y9 (m:=m) c (p+1) (ls:=[140,170,200]) (by decide);have c3:=Ci (m:=m) c (p+1) [140,170,200] (by omega) hl2 (by decide) (by decide);generalize Bb m c (p+1) [140,170,200]=kk at hn c3;obtain ⟨n,rfl⟩:∃ n:Nat,kk=n:=⟨kk.toNat,by simp only [List.mem_cons,List.not_mem_nil,or_false] at hn; omega⟩;have hn2:n≤200:=by
      simp only [List.mem_cons,List.not_mem_nil,or_false] at hn;omega
     obtain ⟨d4,S4,⟨t4,ht4,rfl,rfl⟩,c4⟩:=zP (m:=m) [110,101,116,10] n (by simp; omega) (by omega);have hb:=jd (m:=m) c (p+1) 2;obtain ⟨q,hq⟩:∃ q:Nat,max 0 (20000 - (out.length:Int)+eL m c (p+1) 2)=q:=⟨(max 0 (20000 - (out.length:Int)+eL m c (p+1) 2)).toNat,by omega⟩;have c5:=pc (m:=m) 0 (20000 - (out.length:Int)+eL m c (p+1) 2);rw [hq] at c5;obtain ⟨d6,S6,⟨t6,ht6,rfl,rfl⟩,c6⟩:=zP (m:=m) [32] q (by simp; omega) (by omega);simp only [List.length_cons,List.length_nil] at ht4 ht6;repeat' first|refine Ra ⟨?_⟩|(refine Rc [0] 0 rfl rfl (o4 c _ _ (by omega) (by omega) hl2) ?_ <;> conv=>whnf)|refine Rk [0] 0 c3 ⟨?_⟩|refine R0 c4 ⟨?_⟩|refine R0 c5 ⟨?_⟩|refine R0 c6 ⟨?_⟩|refine Rd (fun h=>⟨?_⟩) fun h=>⟨?_⟩|refine Rb ⟨?_⟩|fail
     all_goals
      refine iT.here (aa ?_)
      conv=>whnf
      refine ⟨rfl,rfl,_,rfl,⟨_,(by simp only [zAL,List.length_cons,List.length_nil]; omega),rfl,rfl⟩⟩
   · obtain ⟨d2,S2,⟨t,p',h1,h2,h3,rfl,rfl⟩,c2⟩:=BM (m:=m) c p (by omega) hl2;repeat' first|refine Ra ⟨?_⟩|refine Rk [0] 0 c2 ⟨?_⟩|refine Rd (fun h=>⟨?_⟩) fun h=>⟨?_⟩|refine Rb ⟨?_⟩|fail
     refine .here ⟨i - 1,by omega,?_⟩;refine la [3,4,5] ?_
     conv=>whnf
     refine ⟨rfl,rfl,i - 1,out++t,p',(by omega),?_,rfl,rfl,by omega,(by rw [zAL]; omega),by omega⟩;have e:(i:Int) - 1=((i - 1:Nat):Int):=by omega
     rw [e];rfl
end Go.Proofs.YtlicaibhgcenhaaGreatDoor
