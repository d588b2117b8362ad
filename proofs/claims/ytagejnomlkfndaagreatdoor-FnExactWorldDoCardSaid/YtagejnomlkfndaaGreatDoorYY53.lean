/- Texts of this claim, set close: lemmas and contracts. -/
import Derived.Test.YtagejnomlkfndaaGreatDoorYY45
set_option linter.unusedSimpArgs false
set_option linter.unusedVariables false
set_option maxHeartbeats 1000000
set_option maxRecDepth 10000
namespace Go.Proofs.YtagejnomlkfndaaGreatDoor
open Go Go.RowKit Go.Ab Go.Par
variable {m:Int}
def fEv (k:Int):Evn:=⟨k,k+1,gu (k+1+1),⟨k+1+1+1,gu (k+1+1+1+1),gu (k+1+1+1+1+1),gu (k+1+1+1+1+1+1)⟩,k+1+1+1+1+1+1+1⟩
def bEv (e:Evn):Prop:=e.path.length≤1048576∧e.op.path.length≤1048576∧e.op.tgt.length≤1048576∧e.op.data.length≤1048576
def wEv (e:Evn):Prop:=e.path.length≤9223372036854775807∧e.op.path.length≤9223372036854775807∧e.op.tgt.length≤9223372036854775807∧e.op.data.length≤9223372036854775807
theorem Ht (e:Evn):Con (E m) 39 0 [.agg e.c] [] (.agg e.c) []:=by
 have c1:=Am (m:=m) e.op;refine G0 Tryz.func39 ?_;repeat' first|refine Ra ⟨?_⟩|refine R0 c1 ⟨?_⟩|refine Rd (fun h=>⟨?_⟩) fun h=>⟨?_⟩|refine Rb ⟨?_⟩|fail
 exact Rf
theorem eqEv_con (e:Evn):Con (E m) 101 0 [.agg e.c,.agg e.c] [] (.b true) []:=by
 have c1:=GO (m:=m) e.op e.op;rw [GH] at c1;refine G0 Tryz.func101 ?_;repeat' first|refine Ra ⟨?_⟩|refine R0 c1 ⟨?_⟩|refine Rd (fun h=>⟨?_⟩) fun h=>⟨?_⟩|refine Rb ⟨?_⟩|fail
 exact Rf
theorem Hu (e:Evn) (n:Int) (hn:0≤n∧n≤1048576) (h:wEv e):∃ r:Int,Con (E m) 37 0 [.agg e.c,.k .i64 n] [] (.k .i64 r) []∧(r=-1∨(0≤r∧r≤n∧bEv e)):=by
 obtain ⟨w1,w2,w3,w4⟩:=h;by_cases h0:n - e.path.length < 0
 · refine ⟨-1,?_,.inl rfl⟩;refine G0 Tryz.func37 ?_;repeat' first|refine Rx ⟨?_⟩|refine Rd (fun h=>⟨?_⟩) fun h=>⟨?_⟩|fail
   exact Rf
 · have c1:=An (m:=m) e.op (n - e.path.length) ⟨by omega,by omega⟩ w2 w3 w4;have hr:=z8 (n - e.path.length) e.op.path.length e.op.tgt.length e.op.data.length;generalize mL (n - e.path.length) e.op.path.length e.op.tgt.length e.op.data.length=r at c1 hr;by_cases h1:r < 0
   · refine ⟨-1,?_,.inl rfl⟩;refine G0 Tryz.func37 ?_;repeat' first|refine Ra ⟨?_⟩|refine R0 c1 ⟨?_⟩|refine Rd (fun h=>⟨?_⟩) fun h=>⟨?_⟩|refine Rb ⟨?_⟩|fail
     exact Rf
   · refine ⟨r,?_,.inr ⟨by omega,by omega,by unfold bEv; omega⟩⟩;refine G0 Tryz.func37 ?_;repeat' first|refine Ra ⟨?_⟩|refine R0 c1 ⟨?_⟩|refine Rd (fun h=>⟨?_⟩) fun h=>⟨?_⟩|refine Rb ⟨?_⟩|fail
     exact Rf
theorem szEvS_any (es:List Evn) (n:Int) (hn:0≤n∧n≤1048576) (hl:es.length≤9223372036854775807) (h:∀ e∈es,wEv e):∃ r:Int,Con (E m) 27 0 [.sl (es.map Evn.c),.k .i64 n] [] (.k .i64 r) []∧(r=-1∨(0≤r∧r+es.length≤n∧∀ e∈es,bEv e)):=by
 have e1:(es.map Evn.c).length=es.length:=zAA ..
 suffices H:∃ d S',(∃ r:Int,d=.k .i64 r∧S'=[]∧(r=-1∨(0≤r∧r+es.length≤n∧∀ e∈es,bEv e)))∧Con (E m) 27 0 [.sl (es.map Evn.c),.k .i64 n] [] d S' from by
  obtain ⟨d,S',⟨r,rfl,rfl,h⟩,c⟩:=H;exact ⟨r,c,h⟩
 by_cases h0:n - es.length < 0
 · refine bU iT mix Tryz.func27 rfl rfl rfl (zAC rfl) ?_;repeat' first|refine Rx ⟨?_⟩|refine Rd (fun h=>⟨?_⟩) fun h=>⟨?_⟩|fail
   refine cv.here (aa ?_)
   conv=>whnf
   refine ⟨rfl,rfl,_,rfl,⟨-1,rfl,rfl,.inl rfl⟩⟩
 · refine bU iT mix Tryz.func27 rfl rfl rfl (zAC rfl) ?_;repeat' first|refine Rx ⟨?_⟩|refine Rd (fun h=>⟨?_⟩) fun h=>⟨?_⟩|fail
   refine Cd.loop2 (fun mq tm S nx=>∃ (i:Nat) (l:Int),mq=(es.length - i)∧tm=[(0,.sl (es.map Evn.c)),(1,.k .i64 l),(5,.k .i64 i)]∧S=[]∧nx=0∧(i≤es.length)∧(0≤l)∧(l+es.length≤n)∧(∀ e∈es.take i,bEv e)) ?_ ?_
   · refine la [0,1,5] ?_
     conv=>whnf
     refine ⟨rfl,rfl,_,0,_,rfl,rfl,rfl,rfl,zAG _,(by omega),(by omega),by simp⟩
   · rintro mq tm S nx ⟨i,l,hn,rfl,rfl,rfl,hi,h1,h2,hB⟩;rcases av es i hi with ⟨rfl,hd⟩|⟨x,r,hx,hd,hr,hlt⟩
     · rw [zAP] at hB;repeat' first|refine Rx ⟨?_⟩|refine Rd (fun h=>⟨?_⟩) fun h=>⟨?_⟩|fail
       refine cv.here (aa ?_)
       conv=>whnf
       refine ⟨rfl,rfl,_,rfl,⟨l,rfl,rfl,.inr ⟨h1,h2,hB⟩⟩⟩
     · obtain ⟨q,c1,hq⟩:=Hu (m:=m) x l ⟨h1,by omega⟩ (h x (zAD hx));rcases hq with rfl|⟨q1,q2,q3⟩
       · repeat' first|refine Ra ⟨?_⟩|refine R0 c1 ⟨?_⟩|refine Rd (fun h=>⟨?_⟩) fun h=>⟨?_⟩|refine Rb ⟨?_⟩|fail
         refine cv.here (aa ?_)
         conv=>whnf
         refine ⟨rfl,rfl,_,rfl,⟨-1,rfl,rfl,.inl rfl⟩⟩
       · repeat' first|refine Ra ⟨?_⟩|refine R0 c1 ⟨?_⟩|refine Rd (fun h=>⟨?_⟩) fun h=>⟨?_⟩|refine Rb ⟨?_⟩|fail
         refine .here ⟨mq - 1,by omega,?_⟩;refine la [0,1,5] ?_
         conv=>whnf
         refine ⟨rfl,rfl,i+1,q,(by omega),rfl,rfl,rfl,by omega,q1,by omega,?_⟩;intro e he;rw [dv hx] at he;rcases zAu.1 he with he|he
         · exact hB e he
         · rw [List.mem_singleton.1 he]; exact q3
theorem toEvS_con (es:List Evn) (hl:es.length≤1048576):Con (E m) 29 0 [.sl (es.map Evn.c)] [] (.own 0) [(0,.own 59 (es.map Evn.c))]:=by
 have e1:(es.map Evn.c).length=es.length:=zAA ..;refine G0 Tryz.func29 ?_;repeat' first|refine Ra ⟨?_⟩|(refine ⟨es.length,by simp only [zAA],by simp only [zAA],(by unfold eN; omega),zAC rfl,?_⟩ <;> conv=>whnf)|refine Rd (fun h=>⟨?_⟩) fun h=>⟨?_⟩|refine Rb ⟨?_⟩|fail
 refine Cd.loop2 (fun mq tm S nx=>∃ (i:Nat) (xs:List (List D)),mq=(es.length - i)∧tm=[(0,.sl (es.map Evn.c)),(3,.own 0),(4,.k .i64 i)]∧S=[(0,.own 59 xs)]∧nx=1∧(i≤es.length)∧(xs=(es.take i).map Evn.c++List.replicate (es.length - i) [.k .i64 0,.k .i64 0,.s [],.k .i64 0,.s [],.s [],.s [],.k .i64 0])) ?_ ?_
 · refine la [0,3,4] ?_
   conv=>whnf
   refine ⟨rfl,rfl,_,0,_,rfl,rfl,rfl,rfl,zAG _,rfl⟩
 · rintro mq tm S nx ⟨i,xs,hn,rfl,rfl,rfl,hi,hxs⟩;have hxl:xs.length=es.length:=by rw [hxs]; simp; omega
   by_cases hlt:i < es.length
   · have hg:xs[i]?=some [.k .i64 0,.k .i64 0,.s [],.k .i64 0,.s [],.s [],.s [],.k .i64 0]:=by rw [hxs]; exact kX hlt
     have g1:es[i]?=some es[i]:=zAB hlt;have g2:=jS (f:=Evn.c) (z:=([.k .i64 0,.k .i64 0,.s [],.k .i64 0,.s [],.s [],.s [],.k .i64 0]:List D)) hlt;rw [← hxs] at g2;generalize es[i]=x at g1 g2;have c1:=Ht (m:=m) x;repeat' first|refine Ra ⟨?_⟩|refine R0 c1 ⟨?_⟩|(refine ⟨_,hg,zAC rfl,?_⟩ <;> conv=>whnf)|refine Rd (fun h=>⟨?_⟩) fun h=>⟨?_⟩|refine Rb ⟨?_⟩|fail
     refine .here ⟨mq - 1,by omega,?_⟩;refine la [0,3,4] ?_
     conv=>whnf
     refine ⟨rfl,rfl,i+1,_,(by omega),rfl,rfl,rfl,by omega,g2⟩
   · have hx:xs=es.map Evn.c:=by
       rw [hxs,zAc (by omega)]
       have:es.length - i=0:=by omega
       simp [this]
     subst hx;repeat' first|refine Rx ⟨?_⟩|refine Rd (fun h=>⟨?_⟩) fun h=>⟨?_⟩|fail
     exact Rf
theorem eqEvS_con (t:List Evn) (hl:t.length≤1048576):Con (E m) 32 0 [.sl (t.map Evn.c),.sl (t.map Evn.c)] [] (.b true) []:=by
 have e1:(t.map Evn.c).length=t.length:=zAA ..;refine G0 Tryz.func32 ?_;repeat' first|refine Rx ⟨?_⟩|refine Rd (fun h=>⟨?_⟩) fun h=>⟨?_⟩|fail
 refine Cd.loop2 (fun mq tm S nx=>∃ (i:Nat),mq=(t.length - i)∧tm=[(0,.sl (t.map Evn.c)),(1,.sl (t.map Evn.c)),(5,.k .i64 i)]∧S=[]∧nx=0∧(i≤t.length)) ?_ ?_
 · refine la [0,1,5] ?_
   conv=>whnf
   refine ⟨rfl,rfl,_,0,rfl,rfl,rfl,rfl,by omega⟩
 · rintro mq tm S nx ⟨i,hn,rfl,rfl,rfl,hi⟩;rcases av t i hi with ⟨rfl,hd⟩|⟨x,r,hx,hd,hr,hlt⟩
   · repeat' first|refine Rx ⟨?_⟩|refine Rd (fun h=>⟨?_⟩) fun h=>⟨?_⟩|fail
     exact Rf
   · have c1:=eqEv_con (m:=m) x;repeat' first|refine Ra ⟨?_⟩|refine R0 c1 ⟨?_⟩|refine Rd (fun h=>⟨?_⟩) fun h=>⟨?_⟩|refine Rb ⟨?_⟩|fail
     refine .here ⟨mq - 1,by omega,?_⟩;refine la [0,1,5] ?_
     conv=>whnf
     refine ⟨rfl,rfl,i+1,(by omega),rfl,rfl,rfl,by omega⟩
theorem markEvS_con (t:List Evn) (k:Int) (hk:0≤k∧k≤10000000) (ht:t.length≤1100000):Con (E m) 33 1 [.own 0,.k .i64 k] [(0,.own 59 (t.map Evn.c))] (.k .i64 (k+8 * t.length)) [(0,.own 59 ((mkL fEv 8 k t.length).map Evn.c))]:=by
 refine G0 Tryz.func33 ?_;repeat' first|refine Rx ⟨?_⟩|refine Rd (fun h=>⟨?_⟩) fun h=>⟨?_⟩|fail
 refine Cd.loop2 (fun mq tm S nx=>∃ (i:Nat) (q:Int) (xs:List (List D)),mq=(t.length - i)∧tm=[(0,.own 0),(1,.k .i64 q),(5,.k .i64 i)]∧S=[(0,.own 59 xs)]∧nx=1∧(i≤t.length)∧(q=k+8 * i)∧(xs=(mkL fEv 8 k i).map Evn.c++(t.drop i).map Evn.c)) ?_ ?_
 · refine la [0,1,5] ?_
   conv=>whnf
   refine ⟨rfl,rfl,_,0,k,_,rfl,rfl,rfl,rfl,zAG _,by omega,rfl⟩
 · rintro mq tm S nx ⟨i,q,xs,hn,rfl,rfl,rfl,hi,hq,hx⟩;rcases av t i hi with ⟨rfl,hd⟩|⟨x,r,hx',hd,hr,hlt⟩
   · rw [hd,List.map_nil,List.append_nil] at hx;have hxl:xs.length=t.length:=by rw [hx,zAA,dF]
     rw [← hx,← hq];repeat' first|refine Ra ⟨?_⟩|(refine bf (by omega) ?_ <;> conv=>whnf)|refine Rd (fun h=>⟨?_⟩) fun h=>⟨?_⟩|refine Rb ⟨?_⟩|fail
     exact Rf
   · rw [hd,List.map_cons] at hx;have hAl:i=((mkL fEv 8 k i).map Evn.c).length:=by rw [zAA,dF]
     have hxl:xs.length=t.length:=by
      have:=congrArg List.length hd
      simp at this;rw [hx,zAT,← hAl,List.length_cons,zAA]; omega
     have hg:xs[i]?=some (Evn.c x):=by rw [hx]; exact km hAl
     have c2:=bm (m:=m) (q+1+1) (by omega);have c4:=bm (m:=m) (q+1+1+1+1) (by omega);have c5:=bm (m:=m) (q+1+1+1+1+1) (by omega);have c6:=bm (m:=m) (q+1+1+1+1+1+1) (by omega);repeat' first|refine Ra ⟨?_⟩|(refine bt (by omega) ?_ <;> conv=>whnf)|refine R0 c2 ⟨?_⟩|refine R0 c4 ⟨?_⟩|refine R0 c5 ⟨?_⟩|refine R0 c6 ⟨?_⟩|(refine ⟨i,rfl,by (try simp only [zAS]); omega,?_⟩ <;> conv=>whnf)|(refine ⟨_,hg,zAC rfl,?_⟩ <;> conv=>whnf)|(refine ⟨_,no (by (try simp only [zAS]); omega),zAC rfl,?_⟩ <;> conv=>whnf)|refine Rd (fun h=>⟨?_⟩) fun h=>⟨?_⟩|refine Rb ⟨?_⟩|fail
     refine .here ⟨mq - 1,by omega,?_⟩;refine la [0,1,5] ?_
     conv=>whnf
     refine ⟨rfl,rfl,i+1,q+1+1+1+1+1+1+1+1,_,(by omega),rfl,rfl,rfl,by omega,by omega,?_⟩;rw [zAo,zAo,zAo,zAo,zAo,zAo,zAo,hx,kn hAl,mkL,hr,← hq,zAH,zAl];rfl
end Go.Proofs.YtagejnomlkfndaaGreatDoor
