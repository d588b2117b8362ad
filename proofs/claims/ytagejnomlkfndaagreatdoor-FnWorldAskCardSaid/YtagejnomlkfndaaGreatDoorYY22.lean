/- Texts of this claim, set close: lemmas and contracts. -/
import Derived.Test.YtagejnomlkfndaaGreatDoorYY11
import Derived.Test.YtagejnomlkfndaaGreatDoorYY16
set_option linter.unusedSimpArgs false
set_option linter.unusedVariables false
set_option maxHeartbeats 1000000
set_option maxRecDepth 10000
namespace Go.Proofs.YtagejnomlkfndaaGreatDoor
open Go Go.RowKit Go.Ab Go.Par
variable {m:Int}
theorem As (l:Bs) (p:Int) (hp:0≤p∧p≤900000) (hl:l.length≤2000) :
   ∃ d S',(∃ (t:List Mrk) (p':Int),t.length≤32∧nC 100 t∧p≤p'∧p'≤p+50∧d=.sl (t.map Mrk.c)∧S'=[(0,rd l p')])∧Con (E m) 201 1 [.bp 0 0] [(0,rd l p)] d S':=by
 have hk:=ld (m:=m) l p (ls:=[3,5,8,2,1,0,12]) (by decide);have hk2:=(by decide:∀ x∈([3,5,8,2,1,0,12]:List Int),0≤x∧x≤12) _ hk;refine bU iT mix Tryz.func201 rfl rfl rfl (zAC rfl) ?_;repeat' first|refine Ra ⟨?_⟩|(refine Rc [0] 0 rfl rfl (fH l _ [3,5,8,2,1,0,12] (by omega) hl (by decide) (by decide)) ?_ <;> conv=>whnf)|refine Rd (fun h=>⟨?_⟩) fun h=>⟨?_⟩|refine Rb ⟨?_⟩|fail
 refine Cd.loop2 (fun mq tm S nx=>∃ (i:Int) (q:Int) (t:List Mrk),mq=(i.toNat)∧tm=[(0,.bp 0 0),(3,.sl (t.map Mrk.c)),(4,.k .i64 i)]∧S=[(0,rd l q)]∧nx=1∧(0≤i∧i≤12)∧(p+1≤q∧q≤p+1+4 * (12 - i))∧(t.length≤32)∧(nC 100 t)) ?_ ?_
 · refine li [3] [0,3,4] ?_
   conv=>whnf
   refine ⟨rfl,rfl,_,_,_,[],rfl,rfl,rfl,rfl,hk2,by omega,by simp,fun _ h=>by cases h⟩
 · rintro mq tm S nx ⟨i,q,t,hn,rfl,rfl,rfl,hi,hq,ht,hb⟩;by_cases hi0:0 < i
   · have hpm:=gc (m:=m) l q (ls:=gd) (by decide);have hpk:=Cv _ hpm;have hpl:=gR _ hpm;generalize hg:ofV m l q gd=path at hpk hpl;have c0:=gH (m:=m) l q (by omega) hl;rw [hg] at c0;have hss:=rx _ (gc (m:=m) l (q+1+1) (ls:=pP) (by decide));have cn:=fH (m:=m) l (q+1) [1,2,3,4,1,3] (by omega) hl (by decide) (by decide);generalize oG m l (q+1) [1,2,3,4,1,3]=kind at cn;refine Cd.seqS ?_;repeat' first|refine Rx ⟨?_⟩|refine Rd (fun h=>⟨?_⟩) fun h=>⟨?_⟩|fail
     all_goals (try refine Stop.here ?_)
     refine Cd.seq ?_;refine Cd.block ?_;refine Cd.seqS ?_;repeat' first|refine Ra ⟨?_⟩|refine Rk [0] 0 c0 ⟨?_⟩|refine Rk [0] 0 cn ⟨?_⟩|refine Rd (fun h=>⟨?_⟩) fun h=>⟨?_⟩|refine Rb ⟨?_⟩|fail
     all_goals (try refine Stop.here ?_)
     refine Cd.cut (fun tm S nx=>∃ (d:Bs) (q2:Int),tm=[(0,.bp 0 0),(3,.sl (t.map Mrk.c)),(4,.k .i64 i),(5,.bp 1 0)]∧S=[(0,rd l q2),(1,.box 166 [.s path,.k .i64 kind,.s d])]∧nx=2∧(d.length≤100)∧(q≤q2∧q2≤q+4)) ?_ ?_
     · repeat' first|refine Ra ⟨?_⟩|(refine Rc [0] 0 rfl rfl (tW l _ (by omega) hl) ?_ <;> conv=>whnf)|refine Rd (fun h=>⟨?_⟩) fun h=>⟨?_⟩|refine Rb ⟨?_⟩|fail
       · refine jR.here (la [0,3,4,5] ?_)
         conv=>whnf
         refine ⟨rfl,rfl,_,_,rfl,rfl,rfl,hss,by omega⟩
       · refine jR.here (la [0,3,4,5] ?_)
         conv=>whnf
         refine ⟨rfl,rfl,_,_,rfl,rfl,rfl,by simp,by omega⟩
     · rintro tm S nx ⟨d,q2,rfl,rfl,rfl,hd,hq2⟩;have key:(dk t ⟨path,kind,d⟩).length≤33∧nC 100 (dk t ⟨path,kind,d⟩):=⟨by have:=(iW t ⟨path,kind,d⟩).2; omega,hb.put hpl hd⟩;have step:(jg 100 (dk t ⟨path,kind,d⟩) path).length≤140∧nC 100 (jg 100 (dk t ⟨path,kind,d⟩) path):=⟨by have:=pN 100 (dk t ⟨path,kind,d⟩) path; omega,Ai (by omega) 100 _ path key.2⟩;have c1:=lf (m:=m) t ⟨path,kind,d⟩ (by omega);have c2:=ic (m:=m) (dk t ⟨path,kind,d⟩) (by omega) (fun e he=>by have:=key.2 e he; omega);have c3:=Ar (m:=m) 100 (dk t ⟨path,kind,d⟩) path (by omega) hpk (by omega);have c4:=ic (m:=m) (jg 100 (dk t ⟨path,kind,d⟩) path) (by omega) (fun e he=>by have:=step.2 e he; omega);repeat' first|refine Ra ⟨?_⟩|refine Rk [] 1 c1 ⟨?_⟩|refine R0 c2 ⟨?_⟩|refine R0 c3 ⟨?_⟩|refine R0 c4 ⟨?_⟩|refine Rd (fun h=>⟨?_⟩) fun h=>⟨?_⟩|refine Rb ⟨?_⟩|fail
       · refine .here ⟨mq - 1,by omega,?_⟩;refine li [3] [0,3,4] ?_
         conv=>whnf
         refine ⟨rfl,rfl,i - 1,q2,_,(by omega),rfl,rfl,rfl,by omega,by omega,mO ‹_›,key.2⟩
       · refine .here ⟨mq - 1,by omega,?_⟩;refine li [3] [0,3,4] ?_
         conv=>whnf
         refine ⟨rfl,rfl,i - 1,q2,_,(by omega),rfl,rfl,rfl,by omega,by omega,mO ‹_›,step.2⟩
       · refine .here ⟨mq - 1,by omega,?_⟩;refine li [3] [0,3,4] ?_
         conv=>whnf
         refine ⟨rfl,rfl,i - 1,q2,_,(by omega),rfl,rfl,rfl,by omega,by omega,ht,hb⟩
   · repeat' first|refine Rx ⟨?_⟩|refine Rd (fun h=>⟨?_⟩) fun h=>⟨?_⟩|fail
     refine cv.here (aa ?_)
     conv=>whnf
     refine ⟨rfl,rfl,_,rfl,t,_,ht,hb,(by omega),(by omega),rfl,rfl⟩
noncomputable def ie (m:Int) (l:Bs) (p:Int):List Mrk × Int:=
 open Classical in if h : ∃ x : List Mrk × Int, x.1.length ≤ 32 ∧ nC 100 x.1 ∧ p ≤ x.2 ∧ x.2 ≤ p + 50 ∧ Con (E m) 201 1 [.bp 0 0] [(0, rd l p)] (.sl (x.1.map Mrk.c)) [(0, rd l x.2)] then h.choose else ([], p)
theorem At (l:Bs) (p:Int):(ie m l p).1.length≤32∧nC 100 (ie m l p).1∧p≤(ie m l p).2∧(ie m l p).2≤p+50:=by
 unfold ie;split
 · rename_i h; exact ⟨h.choose_spec.1,h.choose_spec.2.1,h.choose_spec.2.2.1,h.choose_spec.2.2.2.1⟩
 · exact ⟨by simp,fun _ h=>by simp at h,by simp,by simp; omega⟩
theorem Au (l:Bs) (p:Int) (hp:0≤p∧p≤900000) (hl:l.length≤2000):Con (E m) 201 1 [.bp 0 0] [(0,rd l p)] (.sl ((ie m l p).1.map Mrk.c)) [(0,rd l (ie m l p).2)]:=by
 have h:∃ x:List Mrk × Int,x.1.length≤32∧nC 100 x.1∧p≤x.2∧x.2≤p+50∧Con (E m) 201 1 [.bp 0 0] [(0,rd l p)] (.sl (x.1.map Mrk.c)) [(0,rd l x.2)]:=by
  obtain ⟨d,S',⟨t,p',h1,h2,h3,h4,rfl,rfl⟩,hc⟩:=As (m:=m) l p hp hl;exact ⟨(t,p'),h1,h2,h3,h4,hc⟩
 unfold ie;rw [dif_pos h];exact h.choose_spec.2.2.2.2
variable {m:Int}
def GV:List Bs:=[[47],[],[97],[47,65],[47,97,47],[47,47,97],[47,97,98,99,100],[47,97,47,98,47,99,47,100],[47,97,98,99,47,97,98,99,47,97,98,99],[47,97,32,98],[47,97,49]]
theorem E8:∀ x∈GV,x.length≤100:=by decide
theorem tZ (l:Bs) (p:Int) (hp:0≤p∧p≤1000000) (hl:l.length≤2000):∃ x:Bs,x.length≤100∧Con (E m) 71 1 [.bp 0 0] [(0,rd l p)] (.s x) [(0,rd l (p+1+1))]:=by
 have h1:(ofV m l (p+1) gd).length≤100:=gR _ (gc l _ (by decide));have h2:(ofV m l (p+1) GV).length≤100:=E8 _ (gc l _ (by decide));have c0:=cM (m:=m) l p 4 (by omega) (by omega) hl;have c1:=gH (m:=m) l (p+1) (by omega) hl;have c2:=oF (m:=m) l (p+1) GV (by omega) hl (by decide) (by decide);generalize gv m l p 4=k at c0;by_cases h:0 < k
 · refine ⟨_,h1,?_⟩;refine G0 Tryz.func71 ?_;repeat' first|refine Ra ⟨?_⟩|refine Rk [0] 0 c0 ⟨?_⟩|refine Rk [0] 0 c1 ⟨?_⟩|refine Rd (fun h=>⟨?_⟩) fun h=>⟨?_⟩|refine Rb ⟨?_⟩|fail
   exact Rf
 · refine ⟨_,h2,?_⟩;refine G0 Tryz.func71 ?_;repeat' first|refine Ra ⟨?_⟩|refine Rk [0] 0 c0 ⟨?_⟩|refine Rk [0] 0 c2 ⟨?_⟩|refine Rd (fun h=>⟨?_⟩) fun h=>⟨?_⟩|refine Rb ⟨?_⟩|fail
   exact Rf
end Go.Proofs.YtagejnomlkfndaaGreatDoor
