/- Texts of this claim, set close: lemmas and contracts. -/
import Derived.Test.YtagejnomlkfndaaGreatDoorYY36
import Derived.Test.YtagejnomlkfndaaGreatDoorYY33
import Derived.Test.YtagejnomlkfndaaGreatDoorYY27
set_option linter.unusedSimpArgs false
set_option linter.unusedVariables false
set_option maxHeartbeats 1000000
set_option maxRecDepth 10000
namespace Go.Proofs.YtagejnomlkfndaaGreatDoor
open Go Go.RowKit Go.Ab Go.Par
variable {m:Int}
def tot {α:Type}:List (List α)→Nat
 | []=>0
 | x :: r=>x.length+tot r
theorem yX {α:Type}:∀ a b:List (List α),tot (a++b)=tot a+tot b
 | [],b=>by simp [tot]
 | x :: r,b=>by rw [zAh,tot,tot,yX r b]; omega
theorem lz {α:Type} {ls:List (List α)} {i:Nat} {x:List α} (h:ls[i]?=some x):tot (ls.take (i+1))=tot (ls.take i)+x.length:=by
 rw [dv h,yX];rfl
theorem yY {α:Type} (ls:List (List α)) (i:Nat):tot (ls.take i)≤tot ls:=by
 have:=yX (ls.take i) (ls.drop i)
 rw [zBC] at this;omega
def gZ {α β:Type} (f:Int→β) (s:Int):Int→List (List α)→List (List β)
 | _,[]=>[]
 | k,x :: r=>mkL f s k x.length :: gZ f s (k+s * x.length) r
theorem m8 {α β:Type} (f:Int→β) (s:Int):∀ (k:Int) (ls:List (List α)),(gZ f s k ls).length=ls.length
 | _,[]=>rfl
 | k,x :: r=>by rw [gZ,List.length_cons,List.length_cons,m8 f s _ r]
theorem A8 {α β:Type} (f:Int→β) (s:Int):∀ (k:Int) (a b:List (List α)),gZ f s k (a++b)=gZ f s k a++gZ f s (k+s * tot a) b
 | k,[],b=>by simp [gZ,tot]
 | k,x :: r,b=>by
   rw [zAh,gZ,gZ,A8 f s _ r b,zAh,tot];have e:k+s * x.length+s * tot r=k+s * ((x.length+tot r:Nat):Int):=by
    rw [Int.natCast_add,Int.mul_add,Int.add_assoc]
   rw [e]
theorem xf {α β:Type} {f:Int→β} {s k:Int} {ls:List (List α)} {i:Nat} {x:List α} (h:ls[i]?=some x):gZ f s k (ls.take (i+1))=gZ f s k (ls.take i)++[mkL f s (k+s * tot (ls.take i)) x.length]:=by
 rw [dv h,A8];rfl
theorem uN {α β:Type} {f:Int→β} {s:Int}:∀ {k:Int} {ls:List (List α)} {i:Nat} {x:List α},ls[i]?=some x→(gZ f s k ls)[i]?=some (mkL f s (k+s * tot (ls.take i)) x.length)
 | k,y :: r,0,x,h=>by
   obtain rfl:y=x:=by simpa using h
   simp [gZ,tot]
 | k,y :: r,i+1,x,h=>by
   have h':r[i]?=some x:=by simpa using h
   rw [gZ,List.getElem?_cons_succ,uN h',List.take_succ_cons,tot];have e:k+s * y.length+s * tot (r.take i)=k+s * ((y.length+tot (r.take i):Nat):Int):=by
    rw [Int.natCast_add,Int.mul_add,Int.add_assoc]
   rw [e]
theorem lws (n a i:Nat) {k0:Nat} {tm:Tm} {S:ac} {nx e e2:Nat} {ws:WsT} {xs:List (List D)} {J:Tm→ac→Nat→Prop} (ts ns:List Nat) (h1:lk S n=some (.deep e e2 ((anZ ws).set i (.nm a)))) (h2:lk S a=some (.own e2 xs)) (hi:i < ws.length) (h3:dd [n,a]=true)
   (h:dd ns=true∧lF 0 k0 ns=true∧J (kg ns tm ts) (iQ ns ((n,Blk.deep e e2 (anZ (ws.set i xs))) :: del n (del a S)) ns 0) ns.length):g9 k0 tm S nx J:=by
 refine ⟨[.shut n],ts,ns,?_⟩;have hm:mv (.shut n) tm S nx=some (tm,(n,Blk.deep e e2 (anZ (ws.set i xs))) :: del n (del a S),nx):=by
  unfold mv;simp only [h1,oy h2 ws i hi,h3,u7]
 unfold mvs;rw [hm];exact h
def wE (e:Ent):Prop:=e.path.length≤9223372036854775807∧e.data.length≤9223372036854775807
def wM1 (e:Mrk):Prop:=e.path.length≤9223372036854775807∧e.data.length≤9223372036854775807
def bE1 (e:Ent):Prop:=e.path.length≤1048576∧e.data.length≤1048576
def bM1 (e:Mrk):Prop:=e.path.length≤1048576∧e.data.length≤1048576
theorem Dn (es:List Ent) (n:Int) (hn:0≤n∧n≤1048576) (hl:es.length≤9223372036854775807) (h:∀ e∈es,wE e):∃ r:Int,Con (E m) 40 0 [.sl (es.map Ent.c),.k .i64 n] [] (.k .i64 r) []∧(r=-1∨(0≤r∧r+es.length≤n∧∀ e∈es,bE1 e)):=by
 have e1:(es.map Ent.c).length=es.length:=zAA ..
 suffices H:∃ d S',(∃ r:Int,d=.k .i64 r∧S'=[]∧(r=-1∨(0≤r∧r+es.length≤n∧∀ e∈es,bE1 e)))∧Con (E m) 40 0 [.sl (es.map Ent.c),.k .i64 n] [] d S' from by
  obtain ⟨d,S',⟨r,rfl,rfl,h⟩,c⟩:=H;exact ⟨r,c,h⟩
 by_cases h0:n - es.length < 0
 · refine bU iT mix Tryz.func40 rfl rfl rfl (zAC rfl) ?_;repeat' first|refine Rx ⟨?_⟩|refine Rd (fun h=>⟨?_⟩) fun h=>⟨?_⟩|fail
   refine cv.here (aa ?_)
   conv=>whnf
   refine ⟨rfl,rfl,_,rfl,⟨-1,rfl,rfl,.inl rfl⟩⟩
 · refine bU iT mix Tryz.func40 rfl rfl rfl (zAC rfl) ?_;repeat' first|refine Rx ⟨?_⟩|refine Rd (fun h=>⟨?_⟩) fun h=>⟨?_⟩|fail
   refine Cd.loop2 (fun mq tm S nx=>∃ (i:Nat) (l:Int),mq=(es.length - i)∧tm=[(0,.sl (es.map Ent.c)),(1,.k .i64 l),(5,.k .i64 i)]∧S=[]∧nx=0∧(i≤es.length)∧(0≤l)∧(l+es.length≤n)∧(∀ e∈es.take i,bE1 e)) ?_ ?_
   · refine la [0,1,5] ?_
     conv=>whnf
     refine ⟨rfl,rfl,_,0,_,rfl,rfl,rfl,rfl,zAG _,(by omega),(by omega),by simp⟩
   · rintro mq tm S nx ⟨i,l,hn,rfl,rfl,rfl,hi,h1,h2,hB⟩;rcases av es i hi with ⟨rfl,hd⟩|⟨x,r,hx,hd,hr,hlt⟩
     · rw [zAP] at hB;repeat' first|refine Rx ⟨?_⟩|refine Rd (fun h=>⟨?_⟩) fun h=>⟨?_⟩|fail
       refine cv.here (aa ?_)
       conv=>whnf
       refine ⟨rfl,rfl,_,rfl,⟨l,rfl,rfl,.inr ⟨h1,h2,hB⟩⟩⟩
     · have hw:=h x (zAD hx);have c1:=wF (m:=m) x l ⟨h1,by omega⟩ hw.1 hw.2;have hq:=tG l x.path.length x.data.length;generalize iU l x.path.length x.data.length=q at c1 hq;by_cases hq0:q < 0
       · repeat' first|refine Ra ⟨?_⟩|refine R0 c1 ⟨?_⟩|refine Rd (fun h=>⟨?_⟩) fun h=>⟨?_⟩|refine Rb ⟨?_⟩|fail
         refine cv.here (aa ?_)
         conv=>whnf
         refine ⟨rfl,rfl,_,rfl,⟨-1,rfl,rfl,.inl rfl⟩⟩
       · repeat' first|refine Ra ⟨?_⟩|refine R0 c1 ⟨?_⟩|refine Rd (fun h=>⟨?_⟩) fun h=>⟨?_⟩|refine Rb ⟨?_⟩|fail
         refine .here ⟨mq - 1,by omega,?_⟩;refine la [0,1,5] ?_
         conv=>whnf
         refine ⟨rfl,rfl,i+1,q,(by omega),rfl,rfl,rfl,by omega,(by omega),by omega,?_⟩;intro e he;rw [dv hx] at he;rcases zAu.1 he with he|he
         · exact hB e he
         · rw [List.mem_singleton.1 he]; exact ⟨by omega,by omega⟩
theorem rV (es:List Mrk) (n:Int) (hn:0≤n∧n≤1048576) (hl:es.length≤9223372036854775807) (h:∀ e∈es,wM1 e):∃ r:Int,Con (E m) 42 0 [.sl (es.map Mrk.c),.k .i64 n] [] (.k .i64 r) []∧(r=-1∨(0≤r∧r+es.length≤n∧∀ e∈es,bM1 e)):=by
 have e1:(es.map Mrk.c).length=es.length:=zAA ..
 suffices H:∃ d S',(∃ r:Int,d=.k .i64 r∧S'=[]∧(r=-1∨(0≤r∧r+es.length≤n∧∀ e∈es,bM1 e)))∧Con (E m) 42 0 [.sl (es.map Mrk.c),.k .i64 n] [] d S' from by
  obtain ⟨d,S',⟨r,rfl,rfl,h⟩,c⟩:=H;exact ⟨r,c,h⟩
 by_cases h0:n - es.length < 0
 · refine bU iT mix Tryz.func42 rfl rfl rfl (zAC rfl) ?_;repeat' first|refine Rx ⟨?_⟩|refine Rd (fun h=>⟨?_⟩) fun h=>⟨?_⟩|fail
   refine cv.here (aa ?_)
   conv=>whnf
   refine ⟨rfl,rfl,_,rfl,⟨-1,rfl,rfl,.inl rfl⟩⟩
 · refine bU iT mix Tryz.func42 rfl rfl rfl (zAC rfl) ?_;repeat' first|refine Rx ⟨?_⟩|refine Rd (fun h=>⟨?_⟩) fun h=>⟨?_⟩|fail
   refine Cd.loop2 (fun mq tm S nx=>∃ (i:Nat) (l:Int),mq=(es.length - i)∧tm=[(0,.sl (es.map Mrk.c)),(1,.k .i64 l),(5,.k .i64 i)]∧S=[]∧nx=0∧(i≤es.length)∧(0≤l)∧(l+es.length≤n)∧(∀ e∈es.take i,bM1 e)) ?_ ?_
   · refine la [0,1,5] ?_
     conv=>whnf
     refine ⟨rfl,rfl,_,0,_,rfl,rfl,rfl,rfl,zAG _,(by omega),(by omega),by simp⟩
   · rintro mq tm S nx ⟨i,l,hn,rfl,rfl,rfl,hi,h1,h2,hB⟩;rcases av es i hi with ⟨rfl,hd⟩|⟨x,r,hx,hd,hr,hlt⟩
     · rw [zAP] at hB;repeat' first|refine Rx ⟨?_⟩|refine Rd (fun h=>⟨?_⟩) fun h=>⟨?_⟩|fail
       refine cv.here (aa ?_)
       conv=>whnf
       refine ⟨rfl,rfl,_,rfl,⟨l,rfl,rfl,.inr ⟨h1,h2,hB⟩⟩⟩
     · have hw:=h x (zAD hx);have c1:=Cp (m:=m) x l ⟨h1,by omega⟩ hw.1 hw.2;have hq:=tG l x.path.length x.data.length;generalize iU l x.path.length x.data.length=q at c1 hq;by_cases hq0:q < 0
       · repeat' first|refine Ra ⟨?_⟩|refine R0 c1 ⟨?_⟩|refine Rd (fun h=>⟨?_⟩) fun h=>⟨?_⟩|refine Rb ⟨?_⟩|fail
         refine cv.here (aa ?_)
         conv=>whnf
         refine ⟨rfl,rfl,_,rfl,⟨-1,rfl,rfl,.inl rfl⟩⟩
       · repeat' first|refine Ra ⟨?_⟩|refine R0 c1 ⟨?_⟩|refine Rd (fun h=>⟨?_⟩) fun h=>⟨?_⟩|refine Rb ⟨?_⟩|fail
         refine .here ⟨mq - 1,by omega,?_⟩;refine la [0,1,5] ?_
         conv=>whnf
         refine ⟨rfl,rfl,i+1,q,(by omega),rfl,rfl,rfl,by omega,(by omega),by omega,?_⟩;intro e he;rw [dv hx] at he;rcases zAu.1 he with he|he
         · exact hB e he
         · rw [List.mem_singleton.1 he]; exact ⟨by omega,by omega⟩
theorem yZ (ls:List (List Mrk)) (n:Int) (hn:0≤n∧n≤1048576) (hl:ls.length≤9223372036854775807) (h:∀ l∈ls,l.length≤9223372036854775807∧∀ e∈l,wM1 e):∃ r:Int,Con (E m) 41 0 [.sl (ls.map cm),.k .i64 n] [] (.k .i64 r) []∧(r=-1∨(0≤r∧r+ls.length+tot ls≤n∧∀ l∈ls,l.length≤1048576∧∀ e∈l,bM1 e)):=by
 have e1:(ls.map cm).length=ls.length:=zAA ..
 suffices H:∃ d S',(∃ r:Int,d=.k .i64 r∧S'=[]∧(r=-1∨(0≤r∧r+ls.length+tot ls≤n∧∀ l∈ls,l.length≤1048576∧∀ e∈l,bM1 e)))∧Con (E m) 41 0 [.sl (ls.map cm),.k .i64 n] [] d S' from by
  obtain ⟨d,S',⟨r,rfl,rfl,h⟩,c⟩:=H;exact ⟨r,c,h⟩
 by_cases h0:n - ls.length < 0
 · refine bU iT mix Tryz.func41 rfl rfl rfl (zAC rfl) ?_;repeat' first|refine Rx ⟨?_⟩|refine Rd (fun h=>⟨?_⟩) fun h=>⟨?_⟩|fail
   refine cv.here (aa ?_)
   conv=>whnf
   refine ⟨rfl,rfl,_,rfl,⟨-1,rfl,rfl,.inl rfl⟩⟩
 · refine bU iT mix Tryz.func41 rfl rfl rfl (zAC rfl) ?_;repeat' first|refine Rx ⟨?_⟩|refine Rd (fun h=>⟨?_⟩) fun h=>⟨?_⟩|fail
   refine Cd.loop2 (fun mq tm S nx=>∃ (i:Nat) (l:Int),mq=(ls.length - i)∧tm=[(0,.sl (ls.map cm)),(1,.k .i64 l),(5,.k .i64 i)]∧S=[]∧nx=0∧(i≤ls.length)∧(0≤l)∧(l+ls.length+tot (ls.take i)≤n)∧(∀ l∈ls.take i,l.length≤1048576∧∀ e∈l,bM1 e)) ?_ ?_
   · refine la [0,1,5] ?_
     conv=>whnf
     refine ⟨rfl,rfl,_,0,_,rfl,rfl,rfl,rfl,zAG _,(by omega),(by rw [List.take_zero,tot]; omega),by simp⟩
   · rintro mq tm S nx ⟨i,l,hn,rfl,rfl,rfl,hi,h1,h2,hB⟩;rcases av ls i hi with ⟨rfl,hd⟩|⟨x,r,hx,hd,hr,hlt⟩
     · rw [zAP] at hB h2;repeat' first|refine Rx ⟨?_⟩|refine Rd (fun h=>⟨?_⟩) fun h=>⟨?_⟩|fail
       refine cv.here (aa ?_)
       conv=>whnf
       refine ⟨rfl,rfl,_,rfl,⟨l,rfl,rfl,.inr ⟨h1,h2,hB⟩⟩⟩
     · have hw:=h x (zAD hx);have hg:(ls.map cm)[i]?=some [.sl (x.map Mrk.c)]:=by rw [zAO,hx]; rfl
       have ht:=lz hx;obtain ⟨q,c1,hq⟩:=rV (m:=m) x l ⟨h1,by omega⟩ hw.1 hw.2;rcases hq with rfl|⟨q1,q2,q3⟩
       · repeat' first|refine Ra ⟨?_⟩|refine R0 c1 ⟨?_⟩|(refine ⟨i,_,rfl,hg,rfl,?_⟩ <;> conv=>whnf)|refine Rd (fun h=>⟨?_⟩) fun h=>⟨?_⟩|refine Rb ⟨?_⟩|fail
         refine cv.here (aa ?_)
         conv=>whnf
         refine ⟨rfl,rfl,_,rfl,⟨-1,rfl,rfl,.inl rfl⟩⟩
       · repeat' first|refine Ra ⟨?_⟩|refine R0 c1 ⟨?_⟩|(refine ⟨i,_,rfl,hg,rfl,?_⟩ <;> conv=>whnf)|refine Rd (fun h=>⟨?_⟩) fun h=>⟨?_⟩|refine Rb ⟨?_⟩|fail
         refine .here ⟨mq - 1,by omega,?_⟩;refine la [0,1,5] ?_
         conv=>whnf
         refine ⟨rfl,rfl,i+1,q,(by omega),rfl,rfl,rfl,by omega,q1,by omega,?_⟩;intro e he;rw [dv hx] at he;rcases zAu.1 he with he|he
         · exact hB e he
         · rw [List.mem_singleton.1 he]; exact ⟨by omega,q3⟩
theorem y0 (ls:List (List Mrk)) (hl:ls.length≤1048576) (hb:∀ l∈ls,l.length≤1048576):Con (E m) 55 0 [.sl (ls.map cm),.sl (ls.map cm)] [] (.b true) []:=by
 have e1:(ls.map cm).length=ls.length:=zAA ..;refine G0 Tryz.func55 ?_;repeat' first|refine Rx ⟨?_⟩|refine Rd (fun h=>⟨?_⟩) fun h=>⟨?_⟩|fail
 refine Cd.loop2 (fun mq tm S nx=>∃ (i:Nat),mq=(ls.length - i)∧tm=[(0,.sl (ls.map cm)),(1,.sl (ls.map cm)),(5,.k .i64 i)]∧S=[]∧nx=0∧(i≤ls.length)) ?_ ?_
 · refine la [0,1,5] ?_
   conv=>whnf
   refine ⟨rfl,rfl,_,0,rfl,rfl,rfl,rfl,zAG _⟩
 · rintro mq tm S nx ⟨i,hn,rfl,rfl,rfl,hi⟩;rcases av ls i hi with ⟨rfl,hd⟩|⟨x,r,hx,hd,hr,hlt⟩
   · repeat' first|refine Rx ⟨?_⟩|refine Rd (fun h=>⟨?_⟩) fun h=>⟨?_⟩|fail
     exact Rf
   · have c1:=rz (m:=m) x (hb x (zAD hx));have hg:(ls.map cm)[i]?=some [.sl (x.map Mrk.c)]:=by rw [zAO,hx]; rfl
     repeat' first|refine Ra ⟨?_⟩|refine R0 c1 ⟨?_⟩|(refine ⟨i,_,rfl,hg,rfl,?_⟩ <;> conv=>whnf)|refine Rd (fun h=>⟨?_⟩) fun h=>⟨?_⟩|refine Rb ⟨?_⟩|fail
     refine .here ⟨mq - 1,by omega,?_⟩;refine la [0,1,5] ?_
     conv=>whnf
     refine ⟨rfl,rfl,i+1,(by omega),rfl,rfl,rfl,by omega⟩
theorem uO (ls:List (List Mrk)) (k:Int) (hk:0≤k∧k+3 * tot ls≤10000000) (hl:ls.length≤1048576) (hb:∀ l∈ls,l.length≤1048576):Con (E m) 59 1 [.own 0,.k .i64 k] [(0,.deep 32 166 (anZ (ls.map fun l=>l.map Mrk.c)))] (.k .i64 (k+3 * tot ls)) [(0,.deep 32 166 (anZ ((gZ fM 3 k ls).map fun l=>l.map Mrk.c)))]:=by
 refine cDE ?_;refine bK zU GE Tryz.func59 rfl rfl rfl (zAC rfl) ?_;repeat' first|refine Rx ⟨?_⟩|refine Rd (fun h=>⟨?_⟩) fun h=>⟨?_⟩|fail
 refine Cd.loop2 (fun mq tm S nx=>∃ (i:Nat) (q:Int) (ws:WsT),mq=(ls.length - i)∧tm=[(0,.own 0),(1,.k .i64 q),(5,.k .i64 i)]∧S=[(0,.deep 32 166 (anZ ws))]∧nx=1∧(i≤ls.length)∧(q=k+3 * tot (ls.take i))∧(ws=(gZ fM 3 k (ls.take i)).map (fun l=>l.map Mrk.c)++(ls.drop i).map fun l=>l.map Mrk.c)) ?_ ?_
 · refine ⟨[],[0,1,5],[0],?_⟩
   conv=>whnf
   refine ⟨rfl,rfl,_,0,k,ls.map fun l=>l.map Mrk.c,rfl,rfl,congrArg (fun z=>[(0,Blk.deep _ _ z)]) (co _ _),rfl,zAG _,(by rw [List.take_zero,tot]; omega),rfl⟩
 · rintro mq tm S nx ⟨i,q,ws,hn,rfl,rfl,rfl,hi,hq,hw⟩;have hAl:i=((gZ fM 3 k (ls.take i)).map fun l=>l.map Mrk.c).length:=by rw [zAA,m8,zAd]; omega
   have hwl:ws.length=ls.length:=by rw [hw,zAT,← hAl,zAA,zAy]; omega
   have hwz:(anZ ws).length=ls.length:=by rw [lQ,hwl]
   rcases av ls i hi with ⟨rfl,hd⟩|⟨x,r,hx,hd,hr,hlt⟩
   · rw [zAP] at hw hq;rw [hd,List.map_nil,List.append_nil] at hw;rw [← hw,← hq];repeat' first|refine Ra ⟨?_⟩|(refine bf (by omega) ?_ <;> conv=>whnf)|refine Rd (fun h=>⟨?_⟩) fun h=>⟨?_⟩|refine Rb ⟨?_⟩|fail
     refine ak.here ⟨[],[0],?_⟩
     conv=>whnf
     exact ⟨rfl,rfl,rfl,congrArg (fun z=>[(0,Blk.deep _ _ z)]) (co _ _)⟩
   · rw [hd,List.map_cons] at hw;have hg:ws[i]?=some (x.map Mrk.c):=by rw [hw]; exact km hAl
     have hxl:=hb x (zAD hx);have ht:=lz hx;have htl:=yY ls (i+1);have c1:=cD (nT (m:=m) x q (by omega) (by omega));repeat' first|refine Ra ⟨?_⟩|refine Rk [1] 0 c1 ⟨?_⟩|(refine bt (by omega) ?_ <;> conv=>whnf)|(refine ⟨i,rfl,(by rw [lQ]; omega),?_⟩ <;> conv=>whnf)|(refine ⟨_,GD hg,?_⟩ <;> conv=>whnf)|refine Rd (fun h=>⟨?_⟩) fun h=>⟨?_⟩|refine Rb ⟨?_⟩|fail
     refine .here ⟨mq - 1,by omega,?_⟩;refine lws 0 1 i [0,1,5] [0] rfl rfl (by omega) rfl ?_
     conv=>whnf
     refine ⟨rfl,rfl,i+1,q+3 * x.length,ws.set i ((mkL fM 3 q x.length).map Mrk.c),(by omega),rfl,congrArg (fun z=>[(0,Blk.deep _ _ z)]) (co _ _),rfl,by omega,(by omega),?_⟩;rw [hw,kn hAl,xf hx,hr,← hq,zAH,zAl];rfl
theorem uP {α:Type} (ls:List (List α)) (k:Int) (hk:0≤k∧k+3 * tot ls≤10000000) (hl:ls.length≤1048576) (hb:∀ l∈ls,l.length≤1048576):Con (E m) 63 0 [.sl ((gZ fM 3 k ls).map cm),.k .i64 k] [] (.k .i64 (k+3 * tot ls)) []:=by
 have hml:((gZ fM 3 k ls).map cm).length=ls.length:=by rw [zAA,m8]
 refine G0 Tryz.func63 ?_;repeat' first|refine Rx ⟨?_⟩|refine Rd (fun h=>⟨?_⟩) fun h=>⟨?_⟩|fail
 refine Cd.loop2 (fun mq tm S nx=>∃ (i:Nat) (q:Int),mq=(ls.length - i)∧tm=[(0,.sl ((gZ fM 3 k ls).map cm)),(1,.k .i64 q),(5,.k .i64 i)]∧S=[]∧nx=0∧(i≤ls.length)∧(q=k+3 * tot (ls.take i))) ?_ ?_
 · refine la [0,1,5] ?_
   conv=>whnf
   refine ⟨rfl,rfl,_,0,k,rfl,rfl,rfl,rfl,zAG _,(by rw [List.take_zero,tot]; omega)⟩
 · rintro mq tm S nx ⟨i,q,hn,rfl,rfl,rfl,hi,hq⟩;rcases av ls i hi with ⟨rfl,hd⟩|⟨x,r,hx,hd,hr,hlt⟩
   · rw [zAP] at hq;rw [← hq];repeat' first|refine Ra ⟨?_⟩|(refine bf (by omega) ?_ <;> conv=>whnf)|refine Rd (fun h=>⟨?_⟩) fun h=>⟨?_⟩|refine Rb ⟨?_⟩|fail
     exact Rf
   · have hg:((gZ fM 3 k ls).map cm)[i]?=some [.sl ((mkL fM 3 q x.length).map Mrk.c)]:=by rw [zAO,uN hx,hq]; rfl
     have hxl:=hb x (zAD hx);have ht:=lz hx;have htl:=yY ls (i+1);have c1:=nU (m:=m) x.length q (by omega) (by omega);repeat' first|refine Ra ⟨?_⟩|refine R0 c1 ⟨?_⟩|(refine bt (by omega) ?_ <;> conv=>whnf)|(refine ⟨i,_,rfl,hg,rfl,?_⟩ <;> conv=>whnf)|refine Rd (fun h=>⟨?_⟩) fun h=>⟨?_⟩|refine Rb ⟨?_⟩|fail
     refine .here ⟨mq - 1,by omega,?_⟩;refine la [0,1,5] ?_
     conv=>whnf
     refine ⟨rfl,rfl,i+1,q+3 * x.length,(by omega),rfl,rfl,rfl,by omega,by omega⟩
theorem y4 (ls:List (List Hld)) (n:Int) (hn:0≤n∧n≤1048576) (hl:ls.length≤9223372036854775807) (h:∀ l∈ls,l.length≤9223372036854775807∧∀ e∈l,wH e):∃ r:Int,Con (E m) 109 0 [.sl (ls.map cy),.k .i64 n] [] (.k .i64 r) []∧(r=-1∨(0≤r∧r+ls.length+tot ls≤n∧∀ l∈ls,l.length≤1048576∧∀ e∈l,bH e)):=by
 have e1:(ls.map cy).length=ls.length:=zAA ..
 suffices H:∃ d S',(∃ r:Int,d=.k .i64 r∧S'=[]∧(r=-1∨(0≤r∧r+ls.length+tot ls≤n∧∀ l∈ls,l.length≤1048576∧∀ e∈l,bH e)))∧Con (E m) 109 0 [.sl (ls.map cy),.k .i64 n] [] d S' from by
  obtain ⟨d,S',⟨r,rfl,rfl,h⟩,c⟩:=H;exact ⟨r,c,h⟩
 by_cases h0:n - ls.length < 0
 · refine bU iT mix Tryz.func109 rfl rfl rfl (zAC rfl) ?_;repeat' first|refine Rx ⟨?_⟩|refine Rd (fun h=>⟨?_⟩) fun h=>⟨?_⟩|fail
   refine cv.here (aa ?_)
   conv=>whnf
   refine ⟨rfl,rfl,_,rfl,⟨-1,rfl,rfl,.inl rfl⟩⟩
 · refine bU iT mix Tryz.func109 rfl rfl rfl (zAC rfl) ?_;repeat' first|refine Rx ⟨?_⟩|refine Rd (fun h=>⟨?_⟩) fun h=>⟨?_⟩|fail
   refine Cd.loop2 (fun mq tm S nx=>∃ (i:Nat) (l:Int),mq=(ls.length - i)∧tm=[(0,.sl (ls.map cy)),(1,.k .i64 l),(5,.k .i64 i)]∧S=[]∧nx=0∧(i≤ls.length)∧(0≤l)∧(l+ls.length+tot (ls.take i)≤n)∧(∀ l∈ls.take i,l.length≤1048576∧∀ e∈l,bH e)) ?_ ?_
   · refine la [0,1,5] ?_
     conv=>whnf
     refine ⟨rfl,rfl,_,0,_,rfl,rfl,rfl,rfl,zAG _,(by omega),(by rw [List.take_zero,tot]; omega),by simp⟩
   · rintro mq tm S nx ⟨i,l,hn,rfl,rfl,rfl,hi,h1,h2,hB⟩;rcases av ls i hi with ⟨rfl,hd⟩|⟨x,r,hx,hd,hr,hlt⟩
     · rw [zAP] at hB h2;repeat' first|refine Rx ⟨?_⟩|refine Rd (fun h=>⟨?_⟩) fun h=>⟨?_⟩|fail
       refine cv.here (aa ?_)
       conv=>whnf
       refine ⟨rfl,rfl,_,rfl,⟨l,rfl,rfl,.inr ⟨h1,h2,hB⟩⟩⟩
     · have hw:=h x (zAD hx);have hg:(ls.map cy)[i]?=some [.sl (x.map Hld.c)]:=by rw [zAO,hx]; rfl
       have ht:=lz hx;obtain ⟨q,c1,hq⟩:=A2 (m:=m) x l ⟨h1,by omega⟩ hw.1 hw.2;rcases hq with rfl|⟨q1,q2,q3⟩
       · repeat' first|refine Ra ⟨?_⟩|refine R0 c1 ⟨?_⟩|(refine ⟨i,_,rfl,hg,rfl,?_⟩ <;> conv=>whnf)|refine Rd (fun h=>⟨?_⟩) fun h=>⟨?_⟩|refine Rb ⟨?_⟩|fail
         refine cv.here (aa ?_)
         conv=>whnf
         refine ⟨rfl,rfl,_,rfl,⟨-1,rfl,rfl,.inl rfl⟩⟩
       · repeat' first|refine Ra ⟨?_⟩|refine R0 c1 ⟨?_⟩|(refine ⟨i,_,rfl,hg,rfl,?_⟩ <;> conv=>whnf)|refine Rd (fun h=>⟨?_⟩) fun h=>⟨?_⟩|refine Rb ⟨?_⟩|fail
         refine .here ⟨mq - 1,by omega,?_⟩;refine la [0,1,5] ?_
         conv=>whnf
         refine ⟨rfl,rfl,i+1,q,(by omega),rfl,rfl,rfl,by omega,q1,by omega,?_⟩;intro e he;rw [dv hx] at he;rcases zAu.1 he with he|he
         · exact hB e he
         · rw [List.mem_singleton.1 he]; exact ⟨by omega,q3⟩
theorem y5 (ls:List (List Hld)) (hl:ls.length≤1048576) (hb:∀ l∈ls,l.length≤1048576):Con (E m) 113 0 [.sl (ls.map cy)] [] (.own 0) [(0,.deep 121 68 (anZ (ls.map fun l=>l.map Hld.c)))]:=by
 have e1:(ls.map cy).length=ls.length:=zAA ..;refine cDE ?_;refine bK zU GE Tryz.func113 rfl rfl rfl (zAC rfl) ?_;repeat' first|refine Ra ⟨?_⟩|(refine ⟨rfl,?_⟩ <;> conv=>whnf)|(refine ⟨(ls.map cy).length,rfl,(by unfold eN; omega),zAC rfl,?_⟩ <;> conv=>whnf)|refine Rd (fun h=>⟨?_⟩) fun h=>⟨?_⟩|refine Rb ⟨?_⟩|fail
 refine Cd.loop2 (fun mq tm S nx=>∃ (i:Nat) (ws:WsT),mq=(ls.length - i)∧tm=[(0,.sl (ls.map cy)),(3,.own 0),(4,.k .i64 i)]∧S=[(0,.deep 121 68 (anZ ws))]∧nx=1∧(i≤ls.length)∧(ws=(ls.take i).map (fun l=>l.map Hld.c)++List.replicate (ls.length - i) [])) ?_ ?_
 · refine ⟨[],[0,3,4],[0],?_⟩
   conv=>whnf
   refine ⟨rfl,rfl,_,0,List.replicate ls.length [],rfl,rfl,?_,rfl,zAG _,rfl⟩;have e:List.replicate ls.length (aE.an [])=anZ (List.replicate ls.length []):=by simp [anZ]
   rw [e1,e];exact congrArg (fun z=>[(0,Blk.deep _ _ z)]) (co _ _)
 · rintro mq tm S nx ⟨i,ws,hn,rfl,rfl,rfl,hi,hw⟩;have hwl:ws.length=ls.length:=by rw [hw]; simp; omega
   rcases av ls i hi with ⟨rfl,hd⟩|⟨x,r,hx,hd,hr,hlt⟩
   · have hws:ws=ls.map fun l=>l.map Hld.c:=by rw [hw]; simp
     rw [← hws];repeat' first|refine Rx ⟨?_⟩|refine Rd (fun h=>⟨?_⟩) fun h=>⟨?_⟩|fail
     refine ak.here ⟨[],[0],?_⟩
     conv=>whnf
     exact ⟨rfl,rfl,rfl,congrArg (fun z=>[(0,Blk.deep _ _ z)]) (co _ _)⟩
   · have c1:=cD (A3 (m:=m) x (hb x (zAD hx)));repeat' first|refine Ra ⟨?_⟩|refine Rk [] 1 c1 ⟨?_⟩|(refine ⟨i,rfl,(by rw [lQ]; omega),?_⟩ <;> conv=>whnf)|(refine ⟨(by rw [lQ]; omega),?_⟩ <;> conv=>whnf)|refine Rd (fun h=>⟨?_⟩) fun h=>⟨?_⟩|refine Rb ⟨?_⟩|fail
     refine .here ⟨mq - 1,by omega,?_⟩;refine lwc 0 1 i [0,3,4] [2] rfl rfl (by omega) rfl ?_
     conv=>whnf
     refine ⟨rfl,rfl,i+1,ws.set i (x.map Hld.c),(by omega),rfl,congrArg (fun z=>[(0,Blk.deep _ _ z)]) (co _ _),rfl,by omega,(by rw [hw,xd hx])⟩
theorem y6 (ls:List (List Hld)) (hl:ls.length≤1048576) (hb:∀ l∈ls,l.length≤1048576):Con (E m) 99 0 [.sl (ls.map cy),.sl (ls.map cy)] [] (.b true) []:=by
 have e1:(ls.map cy).length=ls.length:=zAA ..;refine G0 Tryz.func99 ?_;repeat' first|refine Rx ⟨?_⟩|refine Rd (fun h=>⟨?_⟩) fun h=>⟨?_⟩|fail
 refine Cd.loop2 (fun mq tm S nx=>∃ (i:Nat),mq=(ls.length - i)∧tm=[(0,.sl (ls.map cy)),(1,.sl (ls.map cy)),(5,.k .i64 i)]∧S=[]∧nx=0∧(i≤ls.length)) ?_ ?_
 · refine la [0,1,5] ?_
   conv=>whnf
   refine ⟨rfl,rfl,_,0,rfl,rfl,rfl,rfl,zAG _⟩
 · rintro mq tm S nx ⟨i,hn,rfl,rfl,rfl,hi⟩;rcases av ls i hi with ⟨rfl,hd⟩|⟨x,r,hx,hd,hr,hlt⟩
   · repeat' first|refine Rx ⟨?_⟩|refine Rd (fun h=>⟨?_⟩) fun h=>⟨?_⟩|fail
     exact Rf
   · have c1:=A4 (m:=m) x (hb x (zAD hx));have hg:(ls.map cy)[i]?=some [.sl (x.map Hld.c)]:=by rw [zAO,hx]; rfl
     repeat' first|refine Ra ⟨?_⟩|refine R0 c1 ⟨?_⟩|(refine ⟨i,_,rfl,hg,rfl,?_⟩ <;> conv=>whnf)|refine Rd (fun h=>⟨?_⟩) fun h=>⟨?_⟩|refine Rb ⟨?_⟩|fail
     refine .here ⟨mq - 1,by omega,?_⟩;refine la [0,1,5] ?_
     conv=>whnf
     refine ⟨rfl,rfl,i+1,(by omega),rfl,rfl,rfl,by omega⟩
theorem uQ (ls:List (List Hld)) (k:Int) (hk:0≤k∧k+7 * tot ls≤10000000) (hl:ls.length≤1048576) (hb:∀ l∈ls,l.length≤1048576):Con (E m) 103 1 [.own 0,.k .i64 k] [(0,.deep 121 68 (anZ (ls.map fun l=>l.map Hld.c)))] (.k .i64 (k+7 * tot ls)) [(0,.deep 121 68 (anZ ((gZ fHd 7 k ls).map fun l=>l.map Hld.c)))]:=by
 refine cDE ?_;refine bK zU GE Tryz.func103 rfl rfl rfl (zAC rfl) ?_;repeat' first|refine Rx ⟨?_⟩|refine Rd (fun h=>⟨?_⟩) fun h=>⟨?_⟩|fail
 refine Cd.loop2 (fun mq tm S nx=>∃ (i:Nat) (q:Int) (ws:WsT),mq=(ls.length - i)∧tm=[(0,.own 0),(1,.k .i64 q),(5,.k .i64 i)]∧S=[(0,.deep 121 68 (anZ ws))]∧nx=1∧(i≤ls.length)∧(q=k+7 * tot (ls.take i))∧(ws=(gZ fHd 7 k (ls.take i)).map (fun l=>l.map Hld.c)++(ls.drop i).map fun l=>l.map Hld.c)) ?_ ?_
 · refine ⟨[],[0,1,5],[0],?_⟩
   conv=>whnf
   refine ⟨rfl,rfl,_,0,k,ls.map fun l=>l.map Hld.c,rfl,rfl,congrArg (fun z=>[(0,Blk.deep _ _ z)]) (co _ _),rfl,zAG _,(by rw [List.take_zero,tot]; omega),rfl⟩
 · rintro mq tm S nx ⟨i,q,ws,hn,rfl,rfl,rfl,hi,hq,hw⟩;have hAl:i=((gZ fHd 7 k (ls.take i)).map fun l=>l.map Hld.c).length:=by rw [zAA,m8,zAd]; omega
   have hwl:ws.length=ls.length:=by rw [hw,zAT,← hAl,zAA,zAy]; omega
   have hwz:(anZ ws).length=ls.length:=by rw [lQ,hwl]
   rcases av ls i hi with ⟨rfl,hd⟩|⟨x,r,hx,hd,hr,hlt⟩
   · rw [zAP] at hw hq;rw [hd,List.map_nil,List.append_nil] at hw;rw [← hw,← hq];repeat' first|refine Ra ⟨?_⟩|(refine bf (by omega) ?_ <;> conv=>whnf)|refine Rd (fun h=>⟨?_⟩) fun h=>⟨?_⟩|refine Rb ⟨?_⟩|fail
     refine ak.here ⟨[],[0],?_⟩
     conv=>whnf
     exact ⟨rfl,rfl,rfl,congrArg (fun z=>[(0,Blk.deep _ _ z)]) (co _ _)⟩
   · rw [hd,List.map_cons] at hw;have hg:ws[i]?=some (x.map Hld.c):=by rw [hw]; exact km hAl
     have hxl:=hb x (zAD hx);have ht:=lz hx;have htl:=yY ls (i+1);have c1:=cD (vB (m:=m) x q (by omega) (by omega));repeat' first|refine Ra ⟨?_⟩|refine Rk [1] 0 c1 ⟨?_⟩|(refine bt (by omega) ?_ <;> conv=>whnf)|(refine ⟨i,rfl,(by rw [lQ]; omega),?_⟩ <;> conv=>whnf)|(refine ⟨_,GD hg,?_⟩ <;> conv=>whnf)|refine Rd (fun h=>⟨?_⟩) fun h=>⟨?_⟩|refine Rb ⟨?_⟩|fail
     refine .here ⟨mq - 1,by omega,?_⟩;refine lws 0 1 i [0,1,5] [0] rfl rfl (by omega) rfl ?_
     conv=>whnf
     refine ⟨rfl,rfl,i+1,q+7 * x.length,ws.set i ((mkL fHd 7 q x.length).map Hld.c),(by omega),rfl,congrArg (fun z=>[(0,Blk.deep _ _ z)]) (co _ _),rfl,by omega,(by omega),?_⟩;rw [hw,kn hAl,xf hx,hr,← hq,zAH,zAl];rfl
theorem uR {α:Type} (ls:List (List α)) (k:Int) (hk:0≤k∧k+7 * tot ls≤10000000) (hl:ls.length≤1048576) (hb:∀ l∈ls,l.length≤1048576):Con (E m) 106 0 [.sl ((gZ fHd 7 k ls).map cy),.k .i64 k] [] (.k .i64 (k+7 * tot ls)) []:=by
 have hml:((gZ fHd 7 k ls).map cy).length=ls.length:=by rw [zAA,m8]
 refine G0 Tryz.func106 ?_;repeat' first|refine Rx ⟨?_⟩|refine Rd (fun h=>⟨?_⟩) fun h=>⟨?_⟩|fail
 refine Cd.loop2 (fun mq tm S nx=>∃ (i:Nat) (q:Int),mq=(ls.length - i)∧tm=[(0,.sl ((gZ fHd 7 k ls).map cy)),(1,.k .i64 q),(5,.k .i64 i)]∧S=[]∧nx=0∧(i≤ls.length)∧(q=k+7 * tot (ls.take i))) ?_ ?_
 · refine la [0,1,5] ?_
   conv=>whnf
   refine ⟨rfl,rfl,_,0,k,rfl,rfl,rfl,rfl,zAG _,(by rw [List.take_zero,tot]; omega)⟩
 · rintro mq tm S nx ⟨i,q,hn,rfl,rfl,rfl,hi,hq⟩;rcases av ls i hi with ⟨rfl,hd⟩|⟨x,r,hx,hd,hr,hlt⟩
   · rw [zAP] at hq;rw [← hq];repeat' first|refine Ra ⟨?_⟩|(refine bf (by omega) ?_ <;> conv=>whnf)|refine Rd (fun h=>⟨?_⟩) fun h=>⟨?_⟩|refine Rb ⟨?_⟩|fail
     exact Rf
   · have hg:((gZ fHd 7 k ls).map cy)[i]?=some [.sl ((mkL fHd 7 q x.length).map Hld.c)]:=by rw [zAO,uN hx,hq]; rfl
     have hxl:=hb x (zAD hx);have ht:=lz hx;have htl:=yY ls (i+1);have c1:=vC (m:=m) x.length q (by omega) (by omega);repeat' first|refine Ra ⟨?_⟩|refine R0 c1 ⟨?_⟩|(refine bt (by omega) ?_ <;> conv=>whnf)|(refine ⟨i,_,rfl,hg,rfl,?_⟩ <;> conv=>whnf)|refine Rd (fun h=>⟨?_⟩) fun h=>⟨?_⟩|refine Rb ⟨?_⟩|fail
     refine .here ⟨mq - 1,by omega,?_⟩;refine la [0,1,5] ?_
     conv=>whnf
     refine ⟨rfl,rfl,i+1,q+7 * x.length,(by omega),rfl,rfl,rfl,by omega,by omega⟩
theorem Do (es:List Int) (n:Int) (hn:0≤n∧n≤1048576) (hl:es.length≤9223372036854775807):∃ r:Int,Con (E m) 110 0 [.sl (ck es),.k .i64 n] [] (.k .i64 r) []∧(r=-1∨(0≤r∧r+es.length≤n)):=by
 have e1:(ck es).length=es.length:=zAA ..;by_cases h0:n - es.length < 0
 · refine ⟨-1,?_,.inl rfl⟩;refine G0 Tryz.func110 ?_;repeat' first|refine Rx ⟨?_⟩|refine Rd (fun h=>⟨?_⟩) fun h=>⟨?_⟩|fail
   exact Rf
 · refine ⟨n - es.length,?_,.inr ⟨by omega,by omega⟩⟩;rw [← e1];refine G0 Tryz.func110 ?_;repeat' first|refine Rx ⟨?_⟩|refine Rd (fun h=>⟨?_⟩) fun h=>⟨?_⟩|fail
   exact Rf
theorem Dp (es:List Int) (hl:es.length≤1048576):Con (E m) 114 0 [.sl (ck es)] [] (.own 0) [(0,.own 3 (ck es))]:=by
 have e1:(ck es).length=es.length:=zAA ..;refine G0 Tryz.func114 ?_;repeat' first|refine Ra ⟨?_⟩|(refine ⟨es.length,by simp only [zAA],by simp only [zAA],(by unfold eN; omega),zAC rfl,?_⟩ <;> conv=>whnf)|refine Rd (fun h=>⟨?_⟩) fun h=>⟨?_⟩|refine Rb ⟨?_⟩|fail
 refine Cd.loop2 (fun mq tm S nx=>∃ (i:Nat) (xs:List (List D)),mq=(es.length - i)∧tm=[(0,.sl (ck es)),(3,.own 0),(4,.k .i64 i)]∧S=[(0,.own 3 xs)]∧nx=1∧(i≤es.length)∧(xs=ck (es.take i)++List.replicate (es.length - i) [.k .i64 0])) ?_ ?_
 · refine la [0,3,4] ?_
   conv=>whnf
   refine ⟨rfl,rfl,_,0,_,rfl,rfl,rfl,rfl,zAG _,rfl⟩
 · rintro mq tm S nx ⟨i,xs,hn,rfl,rfl,rfl,hi,hxs⟩;have hxl:xs.length=es.length:=by rw [hxs]; simp; omega
   by_cases hlt:i < es.length
   · have hg:xs[i]?=some [.k .i64 0]:=by rw [hxs]; exact kX hlt
     have g1:es[i]?=some es[i]:=zAB hlt;have g2:=jS (f:=fun n=>[D.k .i64 n]) (z:=([.k .i64 0]:List D)) hlt;rw [← hxs] at g2;generalize es[i]=x at g1 g2;have g3:(ck es)[i]?=some [.k .i64 x]:=by rw [zAO,g1]; rfl
     repeat' first|refine Ra ⟨?_⟩|(refine ⟨_,hg,zAC rfl,?_⟩ <;> conv=>whnf)|(refine ⟨i,_,rfl,g3,rfl,?_⟩ <;> conv=>whnf)|refine Rd (fun h=>⟨?_⟩) fun h=>⟨?_⟩|refine Rb ⟨?_⟩|fail
     refine .here ⟨mq - 1,by omega,?_⟩;refine la [0,3,4] ?_
     conv=>whnf
     refine ⟨rfl,rfl,i+1,_,(by omega),rfl,rfl,rfl,by omega,g2⟩
   · have hx:xs=ck es:=by
       rw [hxs,zAc (by omega)]
       have:es.length - i=0:=by omega
       simp [this]
     subst hx;repeat' first|refine Rx ⟨?_⟩|refine Rd (fun h=>⟨?_⟩) fun h=>⟨?_⟩|fail
     exact Rf
end Go.Proofs.YtagejnomlkfndaaGreatDoor
