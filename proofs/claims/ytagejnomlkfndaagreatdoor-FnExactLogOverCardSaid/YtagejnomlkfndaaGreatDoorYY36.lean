/- Texts of this claim, set close: lemmas and contracts. -/
import Derived.Test.YtagejnomlkfndaaGreatDoorYY5
import Derived.Test.YtagejnomlkfndaaGreatDoorYY9
import Derived.Test.YtagejnomlkfndaaGreatDoorYY29
import Derived.Test.YtagejnomlkfndaaGreatDoorYY30
set_option linter.unusedSimpArgs false
set_option linter.unusedVariables false
set_option maxHeartbeats 1000000
set_option maxRecDepth 10000
namespace Go.Proofs.YtagejnomlkfndaaGreatDoor
open Go Go.RowKit Go.Ab Go.Par
variable {m:Int}
def fLs (k:Int):Lse:=⟨k,gu (k+1),k+1+1,k+1+1+1⟩
def fHd (k:Int):Hld:=⟨gu k,decide ((k+1) % 3=0),⟨gu (k+1+1),decide ((k+1+1+1) % 3=0),gu (k+1+1+1+1)⟩,k+1+1+1+1+1,k+1+1+1+1+1+1⟩
def fMs (k:Int):Mes:=⟨k,k+1,fHd (k+1+1)⟩
def bL (l:Lse):Prop:=l.path.length≤1048576
def bH (h:Hld):Prop:=h.path.length≤1048576∧h.ent.path.length≤1048576∧h.ent.data.length≤1048576
def bM (x:Mes):Prop:=bH x.hold
def wL (l:Lse):Prop:=l.path.length≤9223372036854775807
def wH (h:Hld):Prop:=h.path.length≤9223372036854775807∧h.ent.path.length≤9223372036854775807∧h.ent.data.length≤9223372036854775807
def wM (x:Mes):Prop:=wH x.hold
theorem AX (e:Lse):Con (E m) 175 0 [.agg e.c] [] (.agg e.c) []:=by
 refine G0 Tryz.func175 ?_;repeat' first|refine Rx ⟨?_⟩|refine Rd (fun h=>⟨?_⟩) fun h=>⟨?_⟩|fail
 exact Rf
theorem uF (e:Hld):Con (E m) 226 0 [.agg e.c] [] (.agg e.c) []:=by
 have c1:=wD (m:=m) e.ent;refine G0 Tryz.func226 ?_;repeat' first|refine Ra ⟨?_⟩|refine R0 c1 ⟨?_⟩|refine Rd (fun h=>⟨?_⟩) fun h=>⟨?_⟩|refine Rb ⟨?_⟩|fail
 exact Rf
theorem Fz (e:Mes):Con (E m) 177 0 [.agg e.c] [] (.agg e.c) []:=by
 have c1:=uF (m:=m) e.hold;refine G0 Tryz.func177 ?_;repeat' first|refine Ra ⟨?_⟩|refine R0 c1 ⟨?_⟩|refine Rd (fun h=>⟨?_⟩) fun h=>⟨?_⟩|refine Rb ⟨?_⟩|fail
 exact Rf
theorem AY (e:Lse):Con (E m) 167 0 [.agg e.c,.agg e.c] [] (.b true) []:=by
 refine G0 Tryz.func167 ?_;repeat' first|refine Rx ⟨?_⟩|refine Rd (fun h=>⟨?_⟩) fun h=>⟨?_⟩|fail
 exact Rf
theorem uG (e:Hld):Con (E m) 224 0 [.agg e.c,.agg e.c] [] (.b true) []:=by
 have c1:=wI (m:=m) e.ent e.ent;rw [z7] at c1;refine G0 Tryz.func224 ?_;repeat' first|refine Ra ⟨?_⟩|refine R0 c1 ⟨?_⟩|refine Rd (fun h=>⟨?_⟩) fun h=>⟨?_⟩|refine Rb ⟨?_⟩|fail
 exact Rf
theorem FA (e:Mes):Con (E m) 169 0 [.agg e.c,.agg e.c] [] (.b true) []:=by
 have c1:=uG (m:=m) e.hold;refine G0 Tryz.func169 ?_;repeat' first|refine Ra ⟨?_⟩|refine R0 c1 ⟨?_⟩|refine Rd (fun h=>⟨?_⟩) fun h=>⟨?_⟩|refine Rb ⟨?_⟩|fail
 exact Rf
theorem AZ (e:Lse) (n:Int) (hn:0≤n∧n≤1048576) (h:wL e):∃ r:Int,Con (E m) 172 0 [.agg e.c,.k .i64 n] [] (.k .i64 r) []∧(r=-1∨(0≤r∧r≤n∧bL e)):=by
 unfold wL at h;by_cases h0:n - e.path.length < 0
 · refine ⟨-1,?_,.inl rfl⟩;refine G0 Tryz.func172 ?_;repeat' first|refine Rx ⟨?_⟩|refine Rd (fun h=>⟨?_⟩) fun h=>⟨?_⟩|fail
   exact Rf
 · refine ⟨n - e.path.length,?_,.inr ⟨by omega,by omega,by unfold bL; omega⟩⟩;refine G0 Tryz.func172 ?_;repeat' first|refine Rx ⟨?_⟩|refine Rd (fun h=>⟨?_⟩) fun h=>⟨?_⟩|fail
   exact Rf
theorem uH (e:Hld) (n:Int) (hn:0≤n∧n≤1048576) (h:wH e):∃ r:Int,Con (E m) 225 0 [.agg e.c,.k .i64 n] [] (.k .i64 r) []∧(r=-1∨(0≤r∧r≤n∧bH e)):=by
 obtain ⟨w1,w2,w3⟩:=h;by_cases h0:n - e.path.length < 0
 · refine ⟨-1,?_,.inl rfl⟩;refine G0 Tryz.func225 ?_;repeat' first|refine Rx ⟨?_⟩|refine Rd (fun h=>⟨?_⟩) fun h=>⟨?_⟩|fail
   exact Rf
 · have c1:=wF (m:=m) e.ent (n - e.path.length) ⟨by omega,by omega⟩ w2 w3;have hr:=tG (n - e.path.length) e.ent.path.length e.ent.data.length;generalize iU (n - e.path.length) e.ent.path.length e.ent.data.length=r at c1 hr;by_cases h1:r < 0
   · refine ⟨-1,?_,.inl rfl⟩;refine G0 Tryz.func225 ?_;repeat' first|refine Ra ⟨?_⟩|refine R0 c1 ⟨?_⟩|refine Rd (fun h=>⟨?_⟩) fun h=>⟨?_⟩|refine Rb ⟨?_⟩|fail
     exact Rf
   · refine ⟨r,?_,.inr ⟨by omega,by omega,by unfold bH; omega⟩⟩;refine G0 Tryz.func225 ?_;repeat' first|refine Ra ⟨?_⟩|refine R0 c1 ⟨?_⟩|refine Rd (fun h=>⟨?_⟩) fun h=>⟨?_⟩|refine Rb ⟨?_⟩|fail
     exact Rf
theorem FB (e:Mes) (n:Int) (hn:0≤n∧n≤1048576) (h:wM e):∃ r:Int,Con (E m) 174 0 [.agg e.c,.k .i64 n] [] (.k .i64 r) []∧(r=-1∨(0≤r∧r≤n∧bM e)):=by
 obtain ⟨r,c1,hr⟩:=uH (m:=m) e.hold n hn h;refine ⟨r,?_,hr⟩;by_cases h1:r < 0
 · obtain rfl:r=-1:=by omega
   refine G0 Tryz.func174 ?_;repeat' first|refine Ra ⟨?_⟩|refine R0 c1 ⟨?_⟩|refine Rd (fun h=>⟨?_⟩) fun h=>⟨?_⟩|refine Rb ⟨?_⟩|fail
   exact Rf
 · refine G0 Tryz.func174 ?_;repeat' first|refine Ra ⟨?_⟩|refine R0 c1 ⟨?_⟩|refine Rd (fun h=>⟨?_⟩) fun h=>⟨?_⟩|refine Rb ⟨?_⟩|fail
   exact Rf
theorem yQ (es:List Lse) (n:Int) (hn:0≤n∧n≤1048576) (hl:es.length≤9223372036854775807) (h:∀ e∈es,wL e):∃ r:Int,Con (E m) 108 0 [.sl (es.map Lse.c),.k .i64 n] [] (.k .i64 r) []∧(r=-1∨(0≤r∧r+es.length≤n∧∀ e∈es,bL e)):=by
 have e1:(es.map Lse.c).length=es.length:=zAA ..
 suffices H:∃ d S',(∃ r:Int,d=.k .i64 r∧S'=[]∧(r=-1∨(0≤r∧r+es.length≤n∧∀ e∈es,bL e)))∧Con (E m) 108 0 [.sl (es.map Lse.c),.k .i64 n] [] d S' from by
  obtain ⟨d,S',⟨r,rfl,rfl,h⟩,c⟩:=H;exact ⟨r,c,h⟩
 by_cases h0:n - es.length < 0
 · refine bU iT mix Tryz.func108 rfl rfl rfl (zAC rfl) ?_;repeat' first|refine Rx ⟨?_⟩|refine Rd (fun h=>⟨?_⟩) fun h=>⟨?_⟩|fail
   refine cv.here (aa ?_)
   conv=>whnf
   refine ⟨rfl,rfl,_,rfl,⟨-1,rfl,rfl,.inl rfl⟩⟩
 · refine bU iT mix Tryz.func108 rfl rfl rfl (zAC rfl) ?_;repeat' first|refine Rx ⟨?_⟩|refine Rd (fun h=>⟨?_⟩) fun h=>⟨?_⟩|fail
   refine Cd.loop2 (fun mq tm S nx=>∃ (i:Nat) (l:Int),mq=(es.length - i)∧tm=[(0,.sl (es.map Lse.c)),(1,.k .i64 l),(5,.k .i64 i)]∧S=[]∧nx=0∧(i≤es.length)∧(0≤l)∧(l+es.length≤n)∧(∀ e∈es.take i,bL e)) ?_ ?_
   · refine la [0,1,5] ?_
     conv=>whnf
     refine ⟨rfl,rfl,_,0,_,rfl,rfl,rfl,rfl,zAG _,(by omega),(by omega),by simp⟩
   · rintro mq tm S nx ⟨i,l,hn,rfl,rfl,rfl,hi,h1,h2,hB⟩;rcases av es i hi with ⟨rfl,hd⟩|⟨x,r,hx,hd,hr,hlt⟩
     · rw [zAP] at hB;repeat' first|refine Rx ⟨?_⟩|refine Rd (fun h=>⟨?_⟩) fun h=>⟨?_⟩|fail
       refine cv.here (aa ?_)
       conv=>whnf
       refine ⟨rfl,rfl,_,rfl,⟨l,rfl,rfl,.inr ⟨h1,h2,hB⟩⟩⟩
     · obtain ⟨q,c1,hq⟩:=AZ (m:=m) x l ⟨h1,by omega⟩ (h x (zAD hx));rcases hq with rfl|⟨q1,q2,q3⟩
       · repeat' first|refine Ra ⟨?_⟩|refine R0 c1 ⟨?_⟩|refine Rd (fun h=>⟨?_⟩) fun h=>⟨?_⟩|refine Rb ⟨?_⟩|fail
         refine cv.here (aa ?_)
         conv=>whnf
         refine ⟨rfl,rfl,_,rfl,⟨-1,rfl,rfl,.inl rfl⟩⟩
       · repeat' first|refine Ra ⟨?_⟩|refine R0 c1 ⟨?_⟩|refine Rd (fun h=>⟨?_⟩) fun h=>⟨?_⟩|refine Rb ⟨?_⟩|fail
         refine .here ⟨mq - 1,by omega,?_⟩;refine la [0,1,5] ?_
         conv=>whnf
         refine ⟨rfl,rfl,i+1,q,(by omega),rfl,rfl,rfl,by omega,q1,by omega,?_⟩;intro e he;rw [dv hx] at he;rcases zAu.1 he with he|he
         · exact hB e he
         · rw [List.mem_singleton.1 he]; exact q3
theorem yR (es:List Lse) (hl:es.length≤1048576):Con (E m) 112 0 [.sl (es.map Lse.c)] [] (.own 0) [(0,.own 132 (es.map Lse.c))]:=by
 have e1:(es.map Lse.c).length=es.length:=zAA ..;refine G0 Tryz.func112 ?_;repeat' first|refine Ra ⟨?_⟩|(refine ⟨es.length,by simp only [zAA],by simp only [zAA],(by unfold eN; omega),zAC rfl,?_⟩ <;> conv=>whnf)|refine Rd (fun h=>⟨?_⟩) fun h=>⟨?_⟩|refine Rb ⟨?_⟩|fail
 refine Cd.loop2 (fun mq tm S nx=>∃ (i:Nat) (xs:List (List D)),mq=(es.length - i)∧tm=[(0,.sl (es.map Lse.c)),(3,.own 0),(4,.k .i64 i)]∧S=[(0,.own 132 xs)]∧nx=1∧(i≤es.length)∧(xs=(es.take i).map Lse.c++List.replicate (es.length - i) [.k .i64 0,.s [],.k .i64 0,.k .i64 0])) ?_ ?_
 · refine la [0,3,4] ?_
   conv=>whnf
   refine ⟨rfl,rfl,_,0,_,rfl,rfl,rfl,rfl,zAG _,rfl⟩
 · rintro mq tm S nx ⟨i,xs,hn,rfl,rfl,rfl,hi,hxs⟩;have hxl:xs.length=es.length:=by rw [hxs]; simp; omega
   by_cases hlt:i < es.length
   · have hg:xs[i]?=some [.k .i64 0,.s [],.k .i64 0,.k .i64 0]:=by rw [hxs]; exact kX hlt
     have g1:es[i]?=some es[i]:=zAB hlt;have g2:=jS (f:=Lse.c) (z:=([.k .i64 0,.s [],.k .i64 0,.k .i64 0]:List D)) hlt;rw [← hxs] at g2;generalize es[i]=x at g1 g2;have c1:=AX (m:=m) x;repeat' first|refine Ra ⟨?_⟩|refine R0 c1 ⟨?_⟩|(refine ⟨_,hg,zAC rfl,?_⟩ <;> conv=>whnf)|refine Rd (fun h=>⟨?_⟩) fun h=>⟨?_⟩|refine Rb ⟨?_⟩|fail
     refine .here ⟨mq - 1,by omega,?_⟩;refine la [0,3,4] ?_
     conv=>whnf
     refine ⟨rfl,rfl,i+1,_,(by omega),rfl,rfl,rfl,by omega,g2⟩
   · have hx:xs=es.map Lse.c:=by
       rw [hxs,zAc (by omega)]
       have:es.length - i=0:=by omega
       simp [this]
     subst hx;repeat' first|refine Rx ⟨?_⟩|refine Rd (fun h=>⟨?_⟩) fun h=>⟨?_⟩|fail
     exact Rf
theorem yS (t:List Lse) (hl:t.length≤1048576):Con (E m) 98 0 [.sl (t.map Lse.c),.sl (t.map Lse.c)] [] (.b true) []:=by
 have e1:(t.map Lse.c).length=t.length:=zAA ..;refine G0 Tryz.func98 ?_;repeat' first|refine Rx ⟨?_⟩|refine Rd (fun h=>⟨?_⟩) fun h=>⟨?_⟩|fail
 refine Cd.loop2 (fun mq tm S nx=>∃ (i:Nat),mq=(t.length - i)∧tm=[(0,.sl (t.map Lse.c)),(1,.sl (t.map Lse.c)),(5,.k .i64 i)]∧S=[]∧nx=0∧(i≤t.length)) ?_ ?_
 · refine la [0,1,5] ?_
   conv=>whnf
   refine ⟨rfl,rfl,_,0,rfl,rfl,rfl,rfl,by omega⟩
 · rintro mq tm S nx ⟨i,hn,rfl,rfl,rfl,hi⟩;rcases av t i hi with ⟨rfl,hd⟩|⟨x,r,hx,hd,hr,hlt⟩
   · repeat' first|refine Rx ⟨?_⟩|refine Rd (fun h=>⟨?_⟩) fun h=>⟨?_⟩|fail
     exact Rf
   · have c1:=AY (m:=m) x;repeat' first|refine Ra ⟨?_⟩|refine R0 c1 ⟨?_⟩|refine Rd (fun h=>⟨?_⟩) fun h=>⟨?_⟩|refine Rb ⟨?_⟩|fail
     refine .here ⟨mq - 1,by omega,?_⟩;refine la [0,1,5] ?_
     conv=>whnf
     refine ⟨rfl,rfl,i+1,(by omega),rfl,rfl,rfl,by omega⟩
theorem A2 (es:List Hld) (n:Int) (hn:0≤n∧n≤1048576) (hl:es.length≤9223372036854775807) (h:∀ e∈es,wH e):∃ r:Int,Con (E m) 173 0 [.sl (es.map Hld.c),.k .i64 n] [] (.k .i64 r) []∧(r=-1∨(0≤r∧r+es.length≤n∧∀ e∈es,bH e)):=by
 have e1:(es.map Hld.c).length=es.length:=zAA ..
 suffices H:∃ d S',(∃ r:Int,d=.k .i64 r∧S'=[]∧(r=-1∨(0≤r∧r+es.length≤n∧∀ e∈es,bH e)))∧Con (E m) 173 0 [.sl (es.map Hld.c),.k .i64 n] [] d S' from by
  obtain ⟨d,S',⟨r,rfl,rfl,h⟩,c⟩:=H;exact ⟨r,c,h⟩
 by_cases h0:n - es.length < 0
 · refine bU iT mix Tryz.func173 rfl rfl rfl (zAC rfl) ?_;repeat' first|refine Rx ⟨?_⟩|refine Rd (fun h=>⟨?_⟩) fun h=>⟨?_⟩|fail
   refine cv.here (aa ?_)
   conv=>whnf
   refine ⟨rfl,rfl,_,rfl,⟨-1,rfl,rfl,.inl rfl⟩⟩
 · refine bU iT mix Tryz.func173 rfl rfl rfl (zAC rfl) ?_;repeat' first|refine Rx ⟨?_⟩|refine Rd (fun h=>⟨?_⟩) fun h=>⟨?_⟩|fail
   refine Cd.loop2 (fun mq tm S nx=>∃ (i:Nat) (l:Int),mq=(es.length - i)∧tm=[(0,.sl (es.map Hld.c)),(1,.k .i64 l),(5,.k .i64 i)]∧S=[]∧nx=0∧(i≤es.length)∧(0≤l)∧(l+es.length≤n)∧(∀ e∈es.take i,bH e)) ?_ ?_
   · refine la [0,1,5] ?_
     conv=>whnf
     refine ⟨rfl,rfl,_,0,_,rfl,rfl,rfl,rfl,zAG _,(by omega),(by omega),by simp⟩
   · rintro mq tm S nx ⟨i,l,hn,rfl,rfl,rfl,hi,h1,h2,hB⟩;rcases av es i hi with ⟨rfl,hd⟩|⟨x,r,hx,hd,hr,hlt⟩
     · rw [zAP] at hB;repeat' first|refine Rx ⟨?_⟩|refine Rd (fun h=>⟨?_⟩) fun h=>⟨?_⟩|fail
       refine cv.here (aa ?_)
       conv=>whnf
       refine ⟨rfl,rfl,_,rfl,⟨l,rfl,rfl,.inr ⟨h1,h2,hB⟩⟩⟩
     · obtain ⟨q,c1,hq⟩:=uH (m:=m) x l ⟨h1,by omega⟩ (h x (zAD hx));rcases hq with rfl|⟨q1,q2,q3⟩
       · repeat' first|refine Ra ⟨?_⟩|refine R0 c1 ⟨?_⟩|refine Rd (fun h=>⟨?_⟩) fun h=>⟨?_⟩|refine Rb ⟨?_⟩|fail
         refine cv.here (aa ?_)
         conv=>whnf
         refine ⟨rfl,rfl,_,rfl,⟨-1,rfl,rfl,.inl rfl⟩⟩
       · repeat' first|refine Ra ⟨?_⟩|refine R0 c1 ⟨?_⟩|refine Rd (fun h=>⟨?_⟩) fun h=>⟨?_⟩|refine Rb ⟨?_⟩|fail
         refine .here ⟨mq - 1,by omega,?_⟩;refine la [0,1,5] ?_
         conv=>whnf
         refine ⟨rfl,rfl,i+1,q,(by omega),rfl,rfl,rfl,by omega,q1,by omega,?_⟩;intro e he;rw [dv hx] at he;rcases zAu.1 he with he|he
         · exact hB e he
         · rw [List.mem_singleton.1 he]; exact q3
theorem A3 (es:List Hld) (hl:es.length≤1048576):Con (E m) 176 0 [.sl (es.map Hld.c)] [] (.own 0) [(0,.own 68 (es.map Hld.c))]:=by
 have e1:(es.map Hld.c).length=es.length:=zAA ..;refine G0 Tryz.func176 ?_;repeat' first|refine Ra ⟨?_⟩|(refine ⟨es.length,by simp only [zAA],by simp only [zAA],(by unfold eN; omega),zAC rfl,?_⟩ <;> conv=>whnf)|refine Rd (fun h=>⟨?_⟩) fun h=>⟨?_⟩|refine Rb ⟨?_⟩|fail
 refine Cd.loop2 (fun mq tm S nx=>∃ (i:Nat) (xs:List (List D)),mq=(es.length - i)∧tm=[(0,.sl (es.map Hld.c)),(3,.own 0),(4,.k .i64 i)]∧S=[(0,.own 68 xs)]∧nx=1∧(i≤es.length)∧(xs=(es.take i).map Hld.c++List.replicate (es.length - i) [.s [],.b false,.s [],.b false,.s [],.k .i64 0,.k .i64 0])) ?_ ?_
 · refine la [0,3,4] ?_
   conv=>whnf
   refine ⟨rfl,rfl,_,0,_,rfl,rfl,rfl,rfl,zAG _,rfl⟩
 · rintro mq tm S nx ⟨i,xs,hn,rfl,rfl,rfl,hi,hxs⟩;have hxl:xs.length=es.length:=by rw [hxs]; simp; omega
   by_cases hlt:i < es.length
   · have hg:xs[i]?=some [.s [],.b false,.s [],.b false,.s [],.k .i64 0,.k .i64 0]:=by rw [hxs]; exact kX hlt
     have g1:es[i]?=some es[i]:=zAB hlt;have g2:=jS (f:=Hld.c) (z:=([.s [],.b false,.s [],.b false,.s [],.k .i64 0,.k .i64 0]:List D)) hlt;rw [← hxs] at g2;generalize es[i]=x at g1 g2;have c1:=uF (m:=m) x;repeat' first|refine Ra ⟨?_⟩|refine R0 c1 ⟨?_⟩|(refine ⟨_,hg,zAC rfl,?_⟩ <;> conv=>whnf)|refine Rd (fun h=>⟨?_⟩) fun h=>⟨?_⟩|refine Rb ⟨?_⟩|fail
     refine .here ⟨mq - 1,by omega,?_⟩;refine la [0,3,4] ?_
     conv=>whnf
     refine ⟨rfl,rfl,i+1,_,(by omega),rfl,rfl,rfl,by omega,g2⟩
   · have hx:xs=es.map Hld.c:=by
       rw [hxs,zAc (by omega)]
       have:es.length - i=0:=by omega
       simp [this]
     subst hx;repeat' first|refine Rx ⟨?_⟩|refine Rd (fun h=>⟨?_⟩) fun h=>⟨?_⟩|fail
     exact Rf
theorem A4 (t:List Hld) (hl:t.length≤1048576):Con (E m) 168 0 [.sl (t.map Hld.c),.sl (t.map Hld.c)] [] (.b true) []:=by
 have e1:(t.map Hld.c).length=t.length:=zAA ..;refine G0 Tryz.func168 ?_;repeat' first|refine Rx ⟨?_⟩|refine Rd (fun h=>⟨?_⟩) fun h=>⟨?_⟩|fail
 refine Cd.loop2 (fun mq tm S nx=>∃ (i:Nat),mq=(t.length - i)∧tm=[(0,.sl (t.map Hld.c)),(1,.sl (t.map Hld.c)),(5,.k .i64 i)]∧S=[]∧nx=0∧(i≤t.length)) ?_ ?_
 · refine la [0,1,5] ?_
   conv=>whnf
   refine ⟨rfl,rfl,_,0,rfl,rfl,rfl,rfl,by omega⟩
 · rintro mq tm S nx ⟨i,hn,rfl,rfl,rfl,hi⟩;rcases av t i hi with ⟨rfl,hd⟩|⟨x,r,hx,hd,hr,hlt⟩
   · repeat' first|refine Rx ⟨?_⟩|refine Rd (fun h=>⟨?_⟩) fun h=>⟨?_⟩|fail
     exact Rf
   · have c1:=uG (m:=m) x;repeat' first|refine Ra ⟨?_⟩|refine R0 c1 ⟨?_⟩|refine Rd (fun h=>⟨?_⟩) fun h=>⟨?_⟩|refine Rb ⟨?_⟩|fail
     refine .here ⟨mq - 1,by omega,?_⟩;refine la [0,1,5] ?_
     conv=>whnf
     refine ⟨rfl,rfl,i+1,(by omega),rfl,rfl,rfl,by omega⟩
theorem Df (es:List Mes) (n:Int) (hn:0≤n∧n≤1048576) (hl:es.length≤9223372036854775807) (h:∀ e∈es,wM e):∃ r:Int,Con (E m) 111 0 [.sl (es.map Mes.c),.k .i64 n] [] (.k .i64 r) []∧(r=-1∨(0≤r∧r+es.length≤n∧∀ e∈es,bM e)):=by
 have e1:(es.map Mes.c).length=es.length:=zAA ..
 suffices H:∃ d S',(∃ r:Int,d=.k .i64 r∧S'=[]∧(r=-1∨(0≤r∧r+es.length≤n∧∀ e∈es,bM e)))∧Con (E m) 111 0 [.sl (es.map Mes.c),.k .i64 n] [] d S' from by
  obtain ⟨d,S',⟨r,rfl,rfl,h⟩,c⟩:=H;exact ⟨r,c,h⟩
 by_cases h0:n - es.length < 0
 · refine bU iT mix Tryz.func111 rfl rfl rfl (zAC rfl) ?_;repeat' first|refine Rx ⟨?_⟩|refine Rd (fun h=>⟨?_⟩) fun h=>⟨?_⟩|fail
   refine cv.here (aa ?_)
   conv=>whnf
   refine ⟨rfl,rfl,_,rfl,⟨-1,rfl,rfl,.inl rfl⟩⟩
 · refine bU iT mix Tryz.func111 rfl rfl rfl (zAC rfl) ?_;repeat' first|refine Rx ⟨?_⟩|refine Rd (fun h=>⟨?_⟩) fun h=>⟨?_⟩|fail
   refine Cd.loop2 (fun mq tm S nx=>∃ (i:Nat) (l:Int),mq=(es.length - i)∧tm=[(0,.sl (es.map Mes.c)),(1,.k .i64 l),(5,.k .i64 i)]∧S=[]∧nx=0∧(i≤es.length)∧(0≤l)∧(l+es.length≤n)∧(∀ e∈es.take i,bM e)) ?_ ?_
   · refine la [0,1,5] ?_
     conv=>whnf
     refine ⟨rfl,rfl,_,0,_,rfl,rfl,rfl,rfl,zAG _,(by omega),(by omega),by simp⟩
   · rintro mq tm S nx ⟨i,l,hn,rfl,rfl,rfl,hi,h1,h2,hB⟩;rcases av es i hi with ⟨rfl,hd⟩|⟨x,r,hx,hd,hr,hlt⟩
     · rw [zAP] at hB;repeat' first|refine Rx ⟨?_⟩|refine Rd (fun h=>⟨?_⟩) fun h=>⟨?_⟩|fail
       refine cv.here (aa ?_)
       conv=>whnf
       refine ⟨rfl,rfl,_,rfl,⟨l,rfl,rfl,.inr ⟨h1,h2,hB⟩⟩⟩
     · obtain ⟨q,c1,hq⟩:=FB (m:=m) x l ⟨h1,by omega⟩ (h x (zAD hx));rcases hq with rfl|⟨q1,q2,q3⟩
       · repeat' first|refine Ra ⟨?_⟩|refine R0 c1 ⟨?_⟩|refine Rd (fun h=>⟨?_⟩) fun h=>⟨?_⟩|refine Rb ⟨?_⟩|fail
         refine cv.here (aa ?_)
         conv=>whnf
         refine ⟨rfl,rfl,_,rfl,⟨-1,rfl,rfl,.inl rfl⟩⟩
       · repeat' first|refine Ra ⟨?_⟩|refine R0 c1 ⟨?_⟩|refine Rd (fun h=>⟨?_⟩) fun h=>⟨?_⟩|refine Rb ⟨?_⟩|fail
         refine .here ⟨mq - 1,by omega,?_⟩;refine la [0,1,5] ?_
         conv=>whnf
         refine ⟨rfl,rfl,i+1,q,(by omega),rfl,rfl,rfl,by omega,q1,by omega,?_⟩;intro e he;rw [dv hx] at he;rcases zAu.1 he with he|he
         · exact hB e he
         · rw [List.mem_singleton.1 he]; exact q3
theorem Dg (es:List Mes) (hl:es.length≤1048576):Con (E m) 115 0 [.sl (es.map Mes.c)] [] (.own 0) [(0,.own 70 (es.map Mes.c))]:=by
 have e1:(es.map Mes.c).length=es.length:=zAA ..;refine G0 Tryz.func115 ?_;repeat' first|refine Ra ⟨?_⟩|(refine ⟨es.length,by simp only [zAA],by simp only [zAA],(by unfold eN; omega),zAC rfl,?_⟩ <;> conv=>whnf)|refine Rd (fun h=>⟨?_⟩) fun h=>⟨?_⟩|refine Rb ⟨?_⟩|fail
 refine Cd.loop2 (fun mq tm S nx=>∃ (i:Nat) (xs:List (List D)),mq=(es.length - i)∧tm=[(0,.sl (es.map Mes.c)),(3,.own 0),(4,.k .i64 i)]∧S=[(0,.own 70 xs)]∧nx=1∧(i≤es.length)∧(xs=(es.take i).map Mes.c++List.replicate (es.length - i) [.k .i64 0,.k .i64 0,.s [],.b false,.s [],.b false,.s [],.k .i64 0,.k .i64 0])) ?_ ?_
 · refine la [0,3,4] ?_
   conv=>whnf
   refine ⟨rfl,rfl,_,0,_,rfl,rfl,rfl,rfl,zAG _,rfl⟩
 · rintro mq tm S nx ⟨i,xs,hn,rfl,rfl,rfl,hi,hxs⟩;have hxl:xs.length=es.length:=by rw [hxs]; simp; omega
   by_cases hlt:i < es.length
   · have hg:xs[i]?=some [.k .i64 0,.k .i64 0,.s [],.b false,.s [],.b false,.s [],.k .i64 0,.k .i64 0]:=by rw [hxs]; exact kX hlt
     have g1:es[i]?=some es[i]:=zAB hlt;have g2:=jS (f:=Mes.c) (z:=([.k .i64 0,.k .i64 0,.s [],.b false,.s [],.b false,.s [],.k .i64 0,.k .i64 0]:List D)) hlt;rw [← hxs] at g2;generalize es[i]=x at g1 g2;have c1:=Fz (m:=m) x;repeat' first|refine Ra ⟨?_⟩|refine R0 c1 ⟨?_⟩|(refine ⟨_,hg,zAC rfl,?_⟩ <;> conv=>whnf)|refine Rd (fun h=>⟨?_⟩) fun h=>⟨?_⟩|refine Rb ⟨?_⟩|fail
     refine .here ⟨mq - 1,by omega,?_⟩;refine la [0,3,4] ?_
     conv=>whnf
     refine ⟨rfl,rfl,i+1,_,(by omega),rfl,rfl,rfl,by omega,g2⟩
   · have hx:xs=es.map Mes.c:=by
       rw [hxs,zAc (by omega)]
       have:es.length - i=0:=by omega
       simp [this]
     subst hx;repeat' first|refine Rx ⟨?_⟩|refine Rd (fun h=>⟨?_⟩) fun h=>⟨?_⟩|fail
     exact Rf
theorem Dh (t:List Mes) (hl:t.length≤1048576):Con (E m) 100 0 [.sl (t.map Mes.c),.sl (t.map Mes.c)] [] (.b true) []:=by
 have e1:(t.map Mes.c).length=t.length:=zAA ..;refine G0 Tryz.func100 ?_;repeat' first|refine Rx ⟨?_⟩|refine Rd (fun h=>⟨?_⟩) fun h=>⟨?_⟩|fail
 refine Cd.loop2 (fun mq tm S nx=>∃ (i:Nat),mq=(t.length - i)∧tm=[(0,.sl (t.map Mes.c)),(1,.sl (t.map Mes.c)),(5,.k .i64 i)]∧S=[]∧nx=0∧(i≤t.length)) ?_ ?_
 · refine la [0,1,5] ?_
   conv=>whnf
   refine ⟨rfl,rfl,_,0,rfl,rfl,rfl,rfl,by omega⟩
 · rintro mq tm S nx ⟨i,hn,rfl,rfl,rfl,hi⟩;rcases av t i hi with ⟨rfl,hd⟩|⟨x,r,hx,hd,hr,hlt⟩
   · repeat' first|refine Rx ⟨?_⟩|refine Rd (fun h=>⟨?_⟩) fun h=>⟨?_⟩|fail
     exact Rf
   · have c1:=FA (m:=m) x;repeat' first|refine Ra ⟨?_⟩|refine R0 c1 ⟨?_⟩|refine Rd (fun h=>⟨?_⟩) fun h=>⟨?_⟩|refine Rb ⟨?_⟩|fail
     refine .here ⟨mq - 1,by omega,?_⟩;refine la [0,1,5] ?_
     conv=>whnf
     refine ⟨rfl,rfl,i+1,(by omega),rfl,rfl,rfl,by omega⟩
theorem uI (t:List Lse) (k:Int) (hk:0≤k∧k≤10000000) (ht:t.length≤1100000):Con (E m) 102 1 [.own 0,.k .i64 k] [(0,.own 132 (t.map Lse.c))] (.k .i64 (k+4 * t.length)) [(0,.own 132 ((mkL fLs 4 k t.length).map Lse.c))]:=by
 refine G0 Tryz.func102 ?_;repeat' first|refine Rx ⟨?_⟩|refine Rd (fun h=>⟨?_⟩) fun h=>⟨?_⟩|fail
 refine Cd.loop2 (fun mq tm S nx=>∃ (i:Nat) (q:Int) (xs:List (List D)),mq=(t.length - i)∧tm=[(0,.own 0),(1,.k .i64 q),(5,.k .i64 i)]∧S=[(0,.own 132 xs)]∧nx=1∧(i≤t.length)∧(q=k+4 * i)∧(xs=(mkL fLs 4 k i).map Lse.c++(t.drop i).map Lse.c)) ?_ ?_
 · refine la [0,1,5] ?_
   conv=>whnf
   refine ⟨rfl,rfl,_,0,k,_,rfl,rfl,rfl,rfl,zAG _,by omega,rfl⟩
 · rintro mq tm S nx ⟨i,q,xs,hn,rfl,rfl,rfl,hi,hq,hx⟩;rcases av t i hi with ⟨rfl,hd⟩|⟨x,r,hx',hd,hr,hlt⟩
   · rw [hd,List.map_nil,List.append_nil] at hx;have hxl:xs.length=t.length:=by rw [hx,zAA,dF]
     rw [← hx,← hq];repeat' first|refine Ra ⟨?_⟩|(refine bf (by omega) ?_ <;> conv=>whnf)|refine Rd (fun h=>⟨?_⟩) fun h=>⟨?_⟩|refine Rb ⟨?_⟩|fail
     exact Rf
   · rw [hd,List.map_cons] at hx;have hAl:i=((mkL fLs 4 k i).map Lse.c).length:=by rw [zAA,dF]
     have hxl:xs.length=t.length:=by
      have:=congrArg List.length hd
      simp at this;rw [hx,zAT,← hAl,List.length_cons,zAA]; omega
     have hg:xs[i]?=some (Lse.c x):=by rw [hx]; exact km hAl
     have c1:=bm (m:=m) (q+1) (by omega);repeat' first|refine Ra ⟨?_⟩|(refine bt (by omega) ?_ <;> conv=>whnf)|refine R0 c1 ⟨?_⟩|(refine ⟨i,rfl,by (try simp only [zAS]); omega,?_⟩ <;> conv=>whnf)|(refine ⟨_,hg,zAC rfl,?_⟩ <;> conv=>whnf)|(refine ⟨_,no (by (try simp only [zAS]); omega),zAC rfl,?_⟩ <;> conv=>whnf)|refine Rd (fun h=>⟨?_⟩) fun h=>⟨?_⟩|refine Rb ⟨?_⟩|fail
     refine .here ⟨mq - 1,by omega,?_⟩;refine la [0,1,5] ?_
     conv=>whnf
     refine ⟨rfl,rfl,i+1,q+1+1+1+1,_,(by omega),rfl,rfl,rfl,by omega,by omega,?_⟩;rw [zAo,zAo,zAo,hx,kn hAl,mkL,hr,← hq,zAH,zAl];rfl
theorem uJ (n:Nat) (k:Int) (hk:0≤k∧k≤10000000) (ht:n≤1100000):Con (E m) 105 0 [.sl ((mkL fLs 4 k n).map Lse.c),.k .i64 k] [] (.k .i64 (k+4 * n)) []:=by
 have hml:((mkL fLs 4 k n).map Lse.c).length=n:=by rw [zAA,dF]
 refine G0 Tryz.func105 ?_;repeat' first|refine Rx ⟨?_⟩|refine Rd (fun h=>⟨?_⟩) fun h=>⟨?_⟩|fail
 refine Cd.loop2 (fun mq tm S nx=>∃ (i:Nat) (q:Int),mq=(n - i)∧tm=[(0,.sl ((mkL fLs 4 k n).map Lse.c)),(1,.k .i64 q),(5,.k .i64 i)]∧S=[]∧nx=0∧(i≤n)∧(q=k+4 * i)) ?_ ?_
 · refine la [0,1,5] ?_
   conv=>whnf
   refine ⟨rfl,rfl,_,0,k,rfl,rfl,rfl,rfl,zAG _,by omega⟩
 · rintro mq tm S nx ⟨i,q,hn,rfl,rfl,rfl,hi,hq⟩;by_cases hlt:i < n
   · have hg:((mkL fLs 4 k n).map Lse.c)[i]?=some [.k .i64 (q),.s (gu (q+1)),.k .i64 (q+1+1),.k .i64 (q+1+1+1)]:=by rw [zAO,lV hlt,hq]; rfl
     have c1:=bm (m:=m) (q+1) (by omega);repeat' first|refine Ra ⟨?_⟩|(refine bt (by omega) ?_ <;> conv=>whnf)|refine R0 c1 ⟨?_⟩|(refine ⟨i,_,rfl,hg,rfl,?_⟩ <;> conv=>whnf)|refine Rd (fun h=>⟨?_⟩) fun h=>⟨?_⟩|refine Rb ⟨?_⟩|fail
     refine .here ⟨mq - 1,by omega,?_⟩;refine la [0,1,5] ?_
     conv=>whnf
     refine ⟨rfl,rfl,i+1,q+1+1+1+1,(by omega),rfl,rfl,rfl,by omega,by omega⟩
   · have hi2:i=n:=by omega
     subst hi2;rw [← hq];repeat' first|refine Ra ⟨?_⟩|(refine bf (by omega) ?_ <;> conv=>whnf)|refine Rd (fun h=>⟨?_⟩) fun h=>⟨?_⟩|refine Rb ⟨?_⟩|fail
     exact Rf
theorem vB (t:List Hld) (k:Int) (hk:0≤k∧k≤10000000) (ht:t.length≤1100000):Con (E m) 170 1 [.own 0,.k .i64 k] [(0,.own 68 (t.map Hld.c))] (.k .i64 (k+7 * t.length)) [(0,.own 68 ((mkL fHd 7 k t.length).map Hld.c))]:=by
 refine G0 Tryz.func170 ?_;repeat' first|refine Rx ⟨?_⟩|refine Rd (fun h=>⟨?_⟩) fun h=>⟨?_⟩|fail
 refine Cd.loop2 (fun mq tm S nx=>∃ (i:Nat) (q:Int) (xs:List (List D)),mq=(t.length - i)∧tm=[(0,.own 0),(1,.k .i64 q),(5,.k .i64 i)]∧S=[(0,.own 68 xs)]∧nx=1∧(i≤t.length)∧(q=k+7 * i)∧(xs=(mkL fHd 7 k i).map Hld.c++(t.drop i).map Hld.c)) ?_ ?_
 · refine la [0,1,5] ?_
   conv=>whnf
   refine ⟨rfl,rfl,_,0,k,_,rfl,rfl,rfl,rfl,zAG _,by omega,rfl⟩
 · rintro mq tm S nx ⟨i,q,xs,hn,rfl,rfl,rfl,hi,hq,hx⟩;rcases av t i hi with ⟨rfl,hd⟩|⟨x,r,hx',hd,hr,hlt⟩
   · rw [hd,List.map_nil,List.append_nil] at hx;have hxl:xs.length=t.length:=by rw [hx,zAA,dF]
     rw [← hx,← hq];repeat' first|refine Ra ⟨?_⟩|(refine bf (by omega) ?_ <;> conv=>whnf)|refine Rd (fun h=>⟨?_⟩) fun h=>⟨?_⟩|refine Rb ⟨?_⟩|fail
     exact Rf
   · rw [hd,List.map_cons] at hx;have hAl:i=((mkL fHd 7 k i).map Hld.c).length:=by rw [zAA,dF]
     have hxl:xs.length=t.length:=by
      have:=congrArg List.length hd
      simp at this;rw [hx,zAT,← hAl,List.length_cons,zAA]; omega
     have hg:xs[i]?=some (Hld.c x):=by rw [hx]; exact km hAl
     have c0:=bm (m:=m) (q) (by omega);have c2:=bm (m:=m) (q+1+1) (by omega);have c4:=bm (m:=m) (q+1+1+1+1) (by omega);repeat' first|refine Ra ⟨?_⟩|(refine bt (by omega) ?_ <;> conv=>whnf)|refine R0 c0 ⟨?_⟩|refine R0 c2 ⟨?_⟩|refine R0 c4 ⟨?_⟩|(refine ⟨i,rfl,by (try simp only [zAS]); omega,?_⟩ <;> conv=>whnf)|(refine ⟨_,hg,zAC rfl,?_⟩ <;> conv=>whnf)|(refine ⟨_,no (by (try simp only [zAS]); omega),zAC rfl,?_⟩ <;> conv=>whnf)|(refine wr (by omega) (by omega) ?_ <;> conv=>whnf)|refine Rd (fun h=>⟨?_⟩) fun h=>⟨?_⟩|refine Rb ⟨?_⟩|fail
     refine .here ⟨mq - 1,by omega,?_⟩;refine la [0,1,5] ?_
     conv=>whnf
     refine ⟨rfl,rfl,i+1,q+1+1+1+1+1+1+1,_,(by omega),rfl,rfl,rfl,by omega,by omega,?_⟩;rw [zAo,zAo,zAo,zAo,zAo,zAo,hx,kn hAl,mkL,hr,← hq,zAH,zAl];rfl
theorem vC (n:Nat) (k:Int) (hk:0≤k∧k≤10000000) (ht:n≤1100000):Con (E m) 171 0 [.sl ((mkL fHd 7 k n).map Hld.c),.k .i64 k] [] (.k .i64 (k+7 * n)) []:=by
 have hml:((mkL fHd 7 k n).map Hld.c).length=n:=by rw [zAA,dF]
 refine G0 Tryz.func171 ?_;repeat' first|refine Rx ⟨?_⟩|refine Rd (fun h=>⟨?_⟩) fun h=>⟨?_⟩|fail
 refine Cd.loop2 (fun mq tm S nx=>∃ (i:Nat) (q:Int),mq=(n - i)∧tm=[(0,.sl ((mkL fHd 7 k n).map Hld.c)),(1,.k .i64 q),(5,.k .i64 i)]∧S=[]∧nx=0∧(i≤n)∧(q=k+7 * i)) ?_ ?_
 · refine la [0,1,5] ?_
   conv=>whnf
   refine ⟨rfl,rfl,_,0,k,rfl,rfl,rfl,rfl,zAG _,by omega⟩
 · rintro mq tm S nx ⟨i,q,hn,rfl,rfl,rfl,hi,hq⟩;by_cases hlt:i < n
   · have hg:((mkL fHd 7 k n).map Hld.c)[i]?=some [.s (gu (q)),.b (decide ((q+1) % 3=0)),.s (gu (q+1+1)),.b (decide ((q+1+1+1) % 3=0)),.s (gu (q+1+1+1+1)),.k .i64 (q+1+1+1+1+1),.k .i64 (q+1+1+1+1+1+1)]:=by rw [zAO,lV hlt,hq]; rfl
     have c0:=bm (m:=m) (q) (by omega);have c2:=bm (m:=m) (q+1+1) (by omega);have c4:=bm (m:=m) (q+1+1+1+1) (by omega);repeat' first|refine Ra ⟨?_⟩|(refine bt (by omega) ?_ <;> conv=>whnf)|refine R0 c0 ⟨?_⟩|refine R0 c2 ⟨?_⟩|refine R0 c4 ⟨?_⟩|(refine ⟨i,_,rfl,hg,rfl,?_⟩ <;> conv=>whnf)|(refine wr (by omega) (by omega) ?_ <;> conv=>whnf)|refine Rd (fun h=>⟨?_⟩) fun h=>⟨?_⟩|refine Rb ⟨?_⟩|fail
     refine .here ⟨mq - 1,by omega,?_⟩;refine la [0,1,5] ?_
     conv=>whnf
     refine ⟨rfl,rfl,i+1,q+1+1+1+1+1+1+1,(by omega),rfl,rfl,rfl,by omega,by omega⟩
   · have hi2:i=n:=by omega
     subst hi2;rw [← hq];repeat' first|refine Ra ⟨?_⟩|(refine bf (by omega) ?_ <;> conv=>whnf)|refine Rd (fun h=>⟨?_⟩) fun h=>⟨?_⟩|refine Rb ⟨?_⟩|fail
     exact Rf
theorem yT (t:List Mes) (k:Int) (hk:0≤k∧k≤10000000) (ht:t.length≤1100000):Con (E m) 104 1 [.own 0,.k .i64 k] [(0,.own 70 (t.map Mes.c))] (.k .i64 (k+9 * t.length)) [(0,.own 70 ((mkL fMs 9 k t.length).map Mes.c))]:=by
 refine G0 Tryz.func104 ?_;repeat' first|refine Rx ⟨?_⟩|refine Rd (fun h=>⟨?_⟩) fun h=>⟨?_⟩|fail
 refine Cd.loop2 (fun mq tm S nx=>∃ (i:Nat) (q:Int) (xs:List (List D)),mq=(t.length - i)∧tm=[(0,.own 0),(1,.k .i64 q),(5,.k .i64 i)]∧S=[(0,.own 70 xs)]∧nx=1∧(i≤t.length)∧(q=k+9 * i)∧(xs=(mkL fMs 9 k i).map Mes.c++(t.drop i).map Mes.c)) ?_ ?_
 · refine la [0,1,5] ?_
   conv=>whnf
   refine ⟨rfl,rfl,_,0,k,_,rfl,rfl,rfl,rfl,zAG _,by omega,rfl⟩
 · rintro mq tm S nx ⟨i,q,xs,hn,rfl,rfl,rfl,hi,hq,hx⟩;rcases av t i hi with ⟨rfl,hd⟩|⟨x,r,hx',hd,hr,hlt⟩
   · rw [hd,List.map_nil,List.append_nil] at hx;have hxl:xs.length=t.length:=by rw [hx,zAA,dF]
     rw [← hx,← hq];repeat' first|refine Ra ⟨?_⟩|(refine bf (by omega) ?_ <;> conv=>whnf)|refine Rd (fun h=>⟨?_⟩) fun h=>⟨?_⟩|refine Rb ⟨?_⟩|fail
     exact Rf
   · rw [hd,List.map_cons] at hx;have hAl:i=((mkL fMs 9 k i).map Mes.c).length:=by rw [zAA,dF]
     have hxl:xs.length=t.length:=by
      have:=congrArg List.length hd
      simp at this;rw [hx,zAT,← hAl,List.length_cons,zAA]; omega
     have hg:xs[i]?=some (Mes.c x):=by rw [hx]; exact km hAl
     have c2:=bm (m:=m) (q+1+1) (by omega);have c4:=bm (m:=m) (q+1+1+1+1) (by omega);have c6:=bm (m:=m) (q+1+1+1+1+1+1) (by omega);repeat' first|refine Ra ⟨?_⟩|(refine bt (by omega) ?_ <;> conv=>whnf)|refine R0 c2 ⟨?_⟩|refine R0 c4 ⟨?_⟩|refine R0 c6 ⟨?_⟩|(refine ⟨i,rfl,by (try simp only [zAS]); omega,?_⟩ <;> conv=>whnf)|(refine ⟨_,hg,zAC rfl,?_⟩ <;> conv=>whnf)|(refine ⟨_,no (by (try simp only [zAS]); omega),zAC rfl,?_⟩ <;> conv=>whnf)|(refine wr (by omega) (by omega) ?_ <;> conv=>whnf)|refine Rd (fun h=>⟨?_⟩) fun h=>⟨?_⟩|refine Rb ⟨?_⟩|fail
     refine .here ⟨mq - 1,by omega,?_⟩;refine la [0,1,5] ?_
     conv=>whnf
     refine ⟨rfl,rfl,i+1,q+1+1+1+1+1+1+1+1+1,_,(by omega),rfl,rfl,rfl,by omega,by omega,?_⟩;rw [zAo,zAo,zAo,zAo,zAo,zAo,zAo,zAo,hx,kn hAl,mkL,hr,← hq,zAH,zAl];rfl
theorem yU (n:Nat) (k:Int) (hk:0≤k∧k≤10000000) (ht:n≤1100000):Con (E m) 107 0 [.sl ((mkL fMs 9 k n).map Mes.c),.k .i64 k] [] (.k .i64 (k+9 * n)) []:=by
 have hml:((mkL fMs 9 k n).map Mes.c).length=n:=by rw [zAA,dF]
 refine G0 Tryz.func107 ?_;repeat' first|refine Rx ⟨?_⟩|refine Rd (fun h=>⟨?_⟩) fun h=>⟨?_⟩|fail
 refine Cd.loop2 (fun mq tm S nx=>∃ (i:Nat) (q:Int),mq=(n - i)∧tm=[(0,.sl ((mkL fMs 9 k n).map Mes.c)),(1,.k .i64 q),(5,.k .i64 i)]∧S=[]∧nx=0∧(i≤n)∧(q=k+9 * i)) ?_ ?_
 · refine la [0,1,5] ?_
   conv=>whnf
   refine ⟨rfl,rfl,_,0,k,rfl,rfl,rfl,rfl,zAG _,by omega⟩
 · rintro mq tm S nx ⟨i,q,hn,rfl,rfl,rfl,hi,hq⟩;by_cases hlt:i < n
   · have hg:((mkL fMs 9 k n).map Mes.c)[i]?=some [.k .i64 (q),.k .i64 (q+1),.s (gu (q+1+1)),.b (decide ((q+1+1+1) % 3=0)),.s (gu (q+1+1+1+1)),.b (decide ((q+1+1+1+1+1) % 3=0)),.s (gu (q+1+1+1+1+1+1)),.k .i64 (q+1+1+1+1+1+1+1),.k .i64 (q+1+1+1+1+1+1+1+1)]:=by rw [zAO,lV hlt,hq]; rfl
     have c2:=bm (m:=m) (q+1+1) (by omega);have c4:=bm (m:=m) (q+1+1+1+1) (by omega);have c6:=bm (m:=m) (q+1+1+1+1+1+1) (by omega);repeat' first|refine Ra ⟨?_⟩|(refine bt (by omega) ?_ <;> conv=>whnf)|refine R0 c2 ⟨?_⟩|refine R0 c4 ⟨?_⟩|refine R0 c6 ⟨?_⟩|(refine ⟨i,_,rfl,hg,rfl,?_⟩ <;> conv=>whnf)|(refine wr (by omega) (by omega) ?_ <;> conv=>whnf)|refine Rd (fun h=>⟨?_⟩) fun h=>⟨?_⟩|refine Rb ⟨?_⟩|fail
     refine .here ⟨mq - 1,by omega,?_⟩;refine la [0,1,5] ?_
     conv=>whnf
     refine ⟨rfl,rfl,i+1,q+1+1+1+1+1+1+1+1+1,(by omega),rfl,rfl,rfl,by omega,by omega⟩
   · have hi2:i=n:=by omega
     subst hi2;rw [← hq];repeat' first|refine Ra ⟨?_⟩|(refine bf (by omega) ?_ <;> conv=>whnf)|refine Rd (fun h=>⟨?_⟩) fun h=>⟨?_⟩|refine Rb ⟨?_⟩|fail
     exact Rf
end Go.Proofs.YtagejnomlkfndaaGreatDoor
