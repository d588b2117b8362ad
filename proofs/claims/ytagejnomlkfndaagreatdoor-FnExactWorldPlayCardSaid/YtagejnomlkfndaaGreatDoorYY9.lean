/- Texts of this claim, set close: lemmas and contracts. -/
import Derived.Test.YtagejnomlkfndaaGreatDoorYY8
import Derived.Test.YtagejnomlkfndaaGreatDoorYY6
import Derived.Test.YtagejnomlkfndaaGreatDoorYY3
set_option linter.unusedSimpArgs false
set_option linter.unusedVariables false
set_option maxHeartbeats 1000000
set_option maxRecDepth 10000
namespace Go.Proofs.YtagejnomlkfndaaGreatDoor
open Go Go.RowKit Go.Ab Go.Par
variable {m:Int}
abbrev cI (n:Int):List D:=[.k .i64 n]
theorem bm (k:Int) (hk:k≤100000000):Con (E m) 61 0 [.k .i64 k] [] (.s (gu k)) []:=by
 unfold gu;by_cases h0:k≤0
 · rw [if_pos h0];refine G0 Tryz.func61 ?_;repeat' first|refine Rx ⟨?_⟩|refine Rd (fun h=>⟨?_⟩) fun h=>⟨?_⟩|fail
   exact Rf
 · rw [if_neg h0];refine G0 Tryz.func61 ?_;repeat' first|refine Rx ⟨?_⟩|refine Rd (fun h=>⟨?_⟩) fun h=>⟨?_⟩|fail
   refine Cd.loop2 (fun mq tm S nx=>∃ (q:Nat) (n:Nat) (out:Bs),mq=(q)∧tm=[(0,.k .i64 n),(3,.s out)]∧S=[]∧nx=0∧(n≤q)∧(n+out.length≤100000000)∧(yb k.toNat []=yb n out)) ?_ ?_
   · obtain ⟨n,rfl⟩:∃ n:Nat,k=n:=⟨k.toNat,by omega⟩;refine la [0,3] ?_
     conv=>whnf
     refine ⟨rfl,rfl,_,n,n,[],rfl,rfl,rfl,rfl,zAL _,(by simp; omega),by simp⟩
   · rintro mq tm S nx ⟨q,n,out,hn,rfl,rfl,rfl,hq,hnb,ha⟩;rw [ha];by_cases hz:n=0
     · subst hz;rw [EY];repeat' first|refine Rx ⟨?_⟩|refine Rd (fun h=>⟨?_⟩) fun h=>⟨?_⟩|fail
       exact Rf
     · rw [GN (by omega)];have hu:((UInt8.ofNat (48+n % 10)).toNat:Int)=48+((n % 10:Nat):Int):=by
        have:(UInt8.ofNat (48+n % 10)).toNat=(48+n % 10) % 256:=by simp
        omega
       have e1:(n:Int) % 10=((n % 10:Nat):Int):=by omega
       have e2:(n:Int) / 10=((n / 10:Nat):Int):=by omega
       have hby:[[D.k .u8 (48+((n % 10:Nat):Int))]]=bh [UInt8.ofNat (48+n % 10)]:=by simp only [bh,List.map_cons,List.map_nil,hu]
       repeat' first|refine Ra ⟨?_⟩|((refine wr (by omega) (by omega) ?_; rw [e1]) <;> conv=>whnf)|((refine wq (by omega) (by omega) ?_; rw [e2]) <;> conv=>whnf)|(refine wb (by omega) ?_ <;> conv=>whnf)|(refine ⟨_,hby,by simp [eN],?_⟩ <;> conv=>whnf)|refine Rd (fun h=>⟨?_⟩) fun h=>⟨?_⟩|refine Rb ⟨?_⟩|fail
       refine .here ⟨mq - 1,by omega,?_⟩;refine la [0,3] ?_
       conv=>whnf
       refine ⟨rfl,rfl,q - 1,n / 10,_,(by omega),rfl,rfl,rfl,by omega,(by simp; omega),rfl⟩
theorem yc (t:List Ent) (k:Int) (hk:0≤k∧k≤10000000) (ht:t.length≤1100000):Con (E m) 58 1 [.own 0,.k .i64 k] [(0,.own 66 (t.map Ent.c))] (.k .i64 (k+3 * t.length)) [(0,.own 66 ((mkL fE 3 k t.length).map Ent.c))]:=by
 refine G0 Tryz.func58 ?_;repeat' first|refine Rx ⟨?_⟩|refine Rd (fun h=>⟨?_⟩) fun h=>⟨?_⟩|fail
 refine Cd.loop2 (fun mq tm S nx=>∃ (i:Nat) (q:Int) (xs:List (List D)),mq=(t.length - i)∧tm=[(0,.own 0),(1,.k .i64 q),(5,.k .i64 i)]∧S=[(0,.own 66 xs)]∧nx=1∧(i≤t.length)∧(q=k+3 * i)∧(xs=(mkL fE 3 k i).map Ent.c++(t.drop i).map Ent.c)) ?_ ?_
 · refine la [0,1,5] ?_
   conv=>whnf
   refine ⟨rfl,rfl,_,0,k,_,rfl,rfl,rfl,rfl,zAG _,by omega,rfl⟩
 · rintro mq tm S nx ⟨i,q,xs,hn,rfl,rfl,rfl,hi,hq,hx⟩;rcases av t i hi with ⟨rfl,hd⟩|⟨x,r,hx',hd,hr,hlt⟩
   · rw [hd,List.map_nil,List.append_nil] at hx;have hxl:xs.length=t.length:=by rw [hx,zAA,dF]
     rw [← hx,← hq];repeat' first|refine Ra ⟨?_⟩|(refine bf (by omega) ?_ <;> conv=>whnf)|refine Rd (fun h=>⟨?_⟩) fun h=>⟨?_⟩|refine Rb ⟨?_⟩|fail
     exact Rf
   · rw [hd,List.map_cons] at hx;have hAl:i=((mkL fE 3 k i).map Ent.c).length:=by rw [zAA,dF]
     have hxl:xs.length=t.length:=by
      have:=congrArg List.length hd
      simp at this;rw [hx,zAT,← hAl,List.length_cons,zAA]; omega
     have hg:xs[i]?=some (Ent.c x):=by rw [hx]; exact km hAl
     have c0:=bm (m:=m) (q) (by omega);have c2:=bm (m:=m) (q+1+1) (by omega);repeat' first|refine Ra ⟨?_⟩|(refine bt (by omega) ?_ <;> conv=>whnf)|refine R0 c0 ⟨?_⟩|refine R0 c2 ⟨?_⟩|(refine ⟨i,rfl,by (try simp only [zAS]); omega,?_⟩ <;> conv=>whnf)|(refine ⟨_,hg,zAC rfl,?_⟩ <;> conv=>whnf)|(refine ⟨_,no (by (try simp only [zAS]); omega),zAC rfl,?_⟩ <;> conv=>whnf)|(refine wr (by omega) (by omega) ?_ <;> conv=>whnf)|refine Rd (fun h=>⟨?_⟩) fun h=>⟨?_⟩|refine Rb ⟨?_⟩|fail
     refine .here ⟨mq - 1,by omega,?_⟩;refine la [0,1,5] ?_
     conv=>whnf
     refine ⟨rfl,rfl,i+1,q+1+1+1,_,(by omega),rfl,rfl,rfl,by omega,by omega,?_⟩;rw [zAo,zAo,hx,kn hAl,mkL,hr,← hq,zAH,zAl];rfl
theorem yd (n:Nat) (k:Int) (hk:0≤k∧k≤10000000) (ht:n≤1100000):Con (E m) 62 0 [.sl ((mkL fE 3 k n).map Ent.c),.k .i64 k] [] (.k .i64 (k+3 * n)) []:=by
 have hml:((mkL fE 3 k n).map Ent.c).length=n:=by rw [zAA,dF]
 refine G0 Tryz.func62 ?_;repeat' first|refine Rx ⟨?_⟩|refine Rd (fun h=>⟨?_⟩) fun h=>⟨?_⟩|fail
 refine Cd.loop2 (fun mq tm S nx=>∃ (i:Nat) (q:Int),mq=(n - i)∧tm=[(0,.sl ((mkL fE 3 k n).map Ent.c)),(1,.k .i64 q),(5,.k .i64 i)]∧S=[]∧nx=0∧(i≤n)∧(q=k+3 * i)) ?_ ?_
 · refine la [0,1,5] ?_
   conv=>whnf
   refine ⟨rfl,rfl,_,0,k,rfl,rfl,rfl,rfl,zAG _,by omega⟩
 · rintro mq tm S nx ⟨i,q,hn,rfl,rfl,rfl,hi,hq⟩;by_cases hlt:i < n
   · have hg:((mkL fE 3 k n).map Ent.c)[i]?=some [.s (gu (q)),.b (decide ((q+1) % 3=0)),.s (gu (q+1+1))]:=by rw [zAO,lV hlt,hq]; rfl
     have c0:=bm (m:=m) (q) (by omega);have c2:=bm (m:=m) (q+1+1) (by omega);repeat' first|refine Ra ⟨?_⟩|(refine bt (by omega) ?_ <;> conv=>whnf)|refine R0 c0 ⟨?_⟩|refine R0 c2 ⟨?_⟩|(refine ⟨i,_,rfl,hg,rfl,?_⟩ <;> conv=>whnf)|(refine wr (by omega) (by omega) ?_ <;> conv=>whnf)|refine Rd (fun h=>⟨?_⟩) fun h=>⟨?_⟩|refine Rb ⟨?_⟩|fail
     refine .here ⟨mq - 1,by omega,?_⟩;refine la [0,1,5] ?_
     conv=>whnf
     refine ⟨rfl,rfl,i+1,q+1+1+1,(by omega),rfl,rfl,rfl,by omega,by omega⟩
   · have hi2:i=n:=by omega
     subst hi2;rw [← hq];repeat' first|refine Ra ⟨?_⟩|(refine bf (by omega) ?_ <;> conv=>whnf)|refine Rd (fun h=>⟨?_⟩) fun h=>⟨?_⟩|refine Rb ⟨?_⟩|fail
     exact Rf
theorem nT (t:List Mrk) (k:Int) (hk:0≤k∧k≤10000000) (ht:t.length≤1100000):Con (E m) 60 1 [.own 0,.k .i64 k] [(0,.own 166 (t.map Mrk.c))] (.k .i64 (k+3 * t.length)) [(0,.own 166 ((mkL fM 3 k t.length).map Mrk.c))]:=by
 refine G0 Tryz.func60 ?_;repeat' first|refine Rx ⟨?_⟩|refine Rd (fun h=>⟨?_⟩) fun h=>⟨?_⟩|fail
 refine Cd.loop2 (fun mq tm S nx=>∃ (i:Nat) (q:Int) (xs:List (List D)),mq=(t.length - i)∧tm=[(0,.own 0),(1,.k .i64 q),(5,.k .i64 i)]∧S=[(0,.own 166 xs)]∧nx=1∧(i≤t.length)∧(q=k+3 * i)∧(xs=(mkL fM 3 k i).map Mrk.c++(t.drop i).map Mrk.c)) ?_ ?_
 · refine la [0,1,5] ?_
   conv=>whnf
   refine ⟨rfl,rfl,_,0,k,_,rfl,rfl,rfl,rfl,zAG _,by omega,rfl⟩
 · rintro mq tm S nx ⟨i,q,xs,hn,rfl,rfl,rfl,hi,hq,hx⟩;rcases av t i hi with ⟨rfl,hd⟩|⟨x,r,hx',hd,hr,hlt⟩
   · rw [hd,List.map_nil,List.append_nil] at hx;have hxl:xs.length=t.length:=by rw [hx,zAA,dF]
     rw [← hx,← hq];repeat' first|refine Ra ⟨?_⟩|(refine bf (by omega) ?_ <;> conv=>whnf)|refine Rd (fun h=>⟨?_⟩) fun h=>⟨?_⟩|refine Rb ⟨?_⟩|fail
     exact Rf
   · rw [hd,List.map_cons] at hx;have hAl:i=((mkL fM 3 k i).map Mrk.c).length:=by rw [zAA,dF]
     have hxl:xs.length=t.length:=by
      have:=congrArg List.length hd
      simp at this;rw [hx,zAT,← hAl,List.length_cons,zAA]; omega
     have hg:xs[i]?=some (Mrk.c x):=by rw [hx]; exact km hAl
     have c0:=bm (m:=m) (q) (by omega);have c2:=bm (m:=m) (q+1+1) (by omega);repeat' first|refine Ra ⟨?_⟩|(refine bt (by omega) ?_ <;> conv=>whnf)|refine R0 c0 ⟨?_⟩|refine R0 c2 ⟨?_⟩|(refine ⟨i,rfl,by (try simp only [zAS]); omega,?_⟩ <;> conv=>whnf)|(refine ⟨_,hg,zAC rfl,?_⟩ <;> conv=>whnf)|(refine ⟨_,no (by (try simp only [zAS]); omega),zAC rfl,?_⟩ <;> conv=>whnf)|refine Rd (fun h=>⟨?_⟩) fun h=>⟨?_⟩|refine Rb ⟨?_⟩|fail
     refine .here ⟨mq - 1,by omega,?_⟩;refine la [0,1,5] ?_
     conv=>whnf
     refine ⟨rfl,rfl,i+1,q+1+1+1,_,(by omega),rfl,rfl,rfl,by omega,by omega,?_⟩;rw [zAo,zAo,hx,kn hAl,mkL,hr,← hq,zAH,zAl];rfl
theorem nU (n:Nat) (k:Int) (hk:0≤k∧k≤10000000) (ht:n≤1100000):Con (E m) 64 0 [.sl ((mkL fM 3 k n).map Mrk.c),.k .i64 k] [] (.k .i64 (k+3 * n)) []:=by
 have hml:((mkL fM 3 k n).map Mrk.c).length=n:=by rw [zAA,dF]
 refine G0 Tryz.func64 ?_;repeat' first|refine Rx ⟨?_⟩|refine Rd (fun h=>⟨?_⟩) fun h=>⟨?_⟩|fail
 refine Cd.loop2 (fun mq tm S nx=>∃ (i:Nat) (q:Int),mq=(n - i)∧tm=[(0,.sl ((mkL fM 3 k n).map Mrk.c)),(1,.k .i64 q),(5,.k .i64 i)]∧S=[]∧nx=0∧(i≤n)∧(q=k+3 * i)) ?_ ?_
 · refine la [0,1,5] ?_
   conv=>whnf
   refine ⟨rfl,rfl,_,0,k,rfl,rfl,rfl,rfl,zAG _,by omega⟩
 · rintro mq tm S nx ⟨i,q,hn,rfl,rfl,rfl,hi,hq⟩;by_cases hlt:i < n
   · have hg:((mkL fM 3 k n).map Mrk.c)[i]?=some [.s (gu (q)),.k .i64 (q+1),.s (gu (q+1+1))]:=by rw [zAO,lV hlt,hq]; rfl
     have c0:=bm (m:=m) (q) (by omega);have c2:=bm (m:=m) (q+1+1) (by omega);repeat' first|refine Ra ⟨?_⟩|(refine bt (by omega) ?_ <;> conv=>whnf)|refine R0 c0 ⟨?_⟩|refine R0 c2 ⟨?_⟩|(refine ⟨i,_,rfl,hg,rfl,?_⟩ <;> conv=>whnf)|refine Rd (fun h=>⟨?_⟩) fun h=>⟨?_⟩|refine Rb ⟨?_⟩|fail
     refine .here ⟨mq - 1,by omega,?_⟩;refine la [0,1,5] ?_
     conv=>whnf
     refine ⟨rfl,rfl,i+1,q+1+1+1,(by omega),rfl,rfl,rfl,by omega,by omega⟩
   · have hi2:i=n:=by omega
     subst hi2;rw [← hq];repeat' first|refine Ra ⟨?_⟩|(refine bf (by omega) ?_ <;> conv=>whnf)|refine Rd (fun h=>⟨?_⟩) fun h=>⟨?_⟩|refine Rb ⟨?_⟩|fail
     exact Rf
theorem markOpS_con (t:List Opn) (k:Int) (hk:0≤k∧k≤10000000) (ht:t.length≤1100000):Con (E m) 17 1 [.own 0,.k .i64 k] [(0,.own 53 (t.map Opn.c))] (.k .i64 (k+4 * t.length)) [(0,.own 53 ((mkL fO 4 k t.length).map Opn.c))]:=by
 refine G0 Tryz.func17 ?_;repeat' first|refine Rx ⟨?_⟩|refine Rd (fun h=>⟨?_⟩) fun h=>⟨?_⟩|fail
 refine Cd.loop2 (fun mq tm S nx=>∃ (i:Nat) (q:Int) (xs:List (List D)),mq=(t.length - i)∧tm=[(0,.own 0),(1,.k .i64 q),(5,.k .i64 i)]∧S=[(0,.own 53 xs)]∧nx=1∧(i≤t.length)∧(q=k+4 * i)∧(xs=(mkL fO 4 k i).map Opn.c++(t.drop i).map Opn.c)) ?_ ?_
 · refine la [0,1,5] ?_
   conv=>whnf
   refine ⟨rfl,rfl,_,0,k,_,rfl,rfl,rfl,rfl,zAG _,by omega,rfl⟩
 · rintro mq tm S nx ⟨i,q,xs,hn,rfl,rfl,rfl,hi,hq,hx⟩;rcases av t i hi with ⟨rfl,hd⟩|⟨x,r,hx',hd,hr,hlt⟩
   · rw [hd,List.map_nil,List.append_nil] at hx;have hxl:xs.length=t.length:=by rw [hx,zAA,dF]
     rw [← hx,← hq];repeat' first|refine Ra ⟨?_⟩|(refine bf (by omega) ?_ <;> conv=>whnf)|refine Rd (fun h=>⟨?_⟩) fun h=>⟨?_⟩|refine Rb ⟨?_⟩|fail
     exact Rf
   · rw [hd,List.map_cons] at hx;have hAl:i=((mkL fO 4 k i).map Opn.c).length:=by rw [zAA,dF]
     have hxl:xs.length=t.length:=by
      have:=congrArg List.length hd
      simp at this;rw [hx,zAT,← hAl,List.length_cons,zAA]; omega
     have hg:xs[i]?=some (Opn.c x):=by rw [hx]; exact km hAl
     have c1:=bm (m:=m) (q+1) (by omega);have c2:=bm (m:=m) (q+1+1) (by omega);have c3:=bm (m:=m) (q+1+1+1) (by omega);repeat' first|refine Ra ⟨?_⟩|(refine bt (by omega) ?_ <;> conv=>whnf)|refine R0 c1 ⟨?_⟩|refine R0 c2 ⟨?_⟩|refine R0 c3 ⟨?_⟩|(refine ⟨i,rfl,by (try simp only [zAS]); omega,?_⟩ <;> conv=>whnf)|(refine ⟨_,hg,zAC rfl,?_⟩ <;> conv=>whnf)|(refine ⟨_,no (by (try simp only [zAS]); omega),zAC rfl,?_⟩ <;> conv=>whnf)|refine Rd (fun h=>⟨?_⟩) fun h=>⟨?_⟩|refine Rb ⟨?_⟩|fail
     refine .here ⟨mq - 1,by omega,?_⟩;refine la [0,1,5] ?_
     conv=>whnf
     refine ⟨rfl,rfl,i+1,q+1+1+1+1,_,(by omega),rfl,rfl,rfl,by omega,by omega,?_⟩;rw [zAo,zAo,zAo,hx,kn hAl,mkL,hr,← hq,zAH,zAl];rfl
theorem ye (t:List Int) (k:Int) (hk:0≤k∧k≤10000000) (ht:t.length≤1100000):Con (E m) 18 1 [.own 0,.k .i64 k] [(0,.own 3 (t.map cI))] (.k .i64 (k+1 * t.length)) [(0,.own 3 ((mkL fI 1 k t.length).map cI))]:=by
 refine G0 Tryz.func18 ?_;repeat' first|refine Rx ⟨?_⟩|refine Rd (fun h=>⟨?_⟩) fun h=>⟨?_⟩|fail
 refine Cd.loop2 (fun mq tm S nx=>∃ (i:Nat) (q:Int) (xs:List (List D)),mq=(t.length - i)∧tm=[(0,.own 0),(1,.k .i64 q),(5,.k .i64 i)]∧S=[(0,.own 3 xs)]∧nx=1∧(i≤t.length)∧(q=k+1 * i)∧(xs=(mkL fI 1 k i).map cI++(t.drop i).map cI)) ?_ ?_
 · refine la [0,1,5] ?_
   conv=>whnf
   refine ⟨rfl,rfl,_,0,k,_,rfl,rfl,rfl,rfl,zAG _,by omega,rfl⟩
 · rintro mq tm S nx ⟨i,q,xs,hn,rfl,rfl,rfl,hi,hq,hx⟩;rcases av t i hi with ⟨rfl,hd⟩|⟨x,r,hx',hd,hr,hlt⟩
   · rw [hd,List.map_nil,List.append_nil] at hx;have hxl:xs.length=t.length:=by rw [hx,zAA,dF]
     rw [← hx,← hq];repeat' first|refine Ra ⟨?_⟩|(refine bf (by omega) ?_ <;> conv=>whnf)|refine Rd (fun h=>⟨?_⟩) fun h=>⟨?_⟩|refine Rb ⟨?_⟩|fail
     exact Rf
   · rw [hd,List.map_cons] at hx;have hAl:i=((mkL fI 1 k i).map cI).length:=by rw [zAA,dF]
     have hxl:xs.length=t.length:=by
      have:=congrArg List.length hd
      simp at this;rw [hx,zAT,← hAl,List.length_cons,zAA]; omega
     have hg:xs[i]?=some (cI x):=by rw [hx]; exact km hAl
     repeat' first|refine Ra ⟨?_⟩|(refine bt (by omega) ?_ <;> conv=>whnf)|(refine ⟨i,rfl,by (try simp only [zAS]); omega,?_⟩ <;> conv=>whnf)|(refine ⟨_,hg,zAC rfl,?_⟩ <;> conv=>whnf)|(refine ⟨_,no (by (try simp only [zAS]); omega),zAC rfl,?_⟩ <;> conv=>whnf)|refine Rd (fun h=>⟨?_⟩) fun h=>⟨?_⟩|refine Rb ⟨?_⟩|fail
     refine .here ⟨mq - 1,by omega,?_⟩;refine la [0,1,5] ?_
     conv=>whnf
     refine ⟨rfl,rfl,i+1,q+1,_,(by omega),rfl,rfl,rfl,by omega,by omega,?_⟩;rw [hx,kn hAl,mkL,hr,← hq,zAH,zAl];rfl
theorem yf (n:Nat) (k:Int) (hk:0≤k∧k≤10000000) (ht:n≤1100000):Con (E m) 20 0 [.sl ((mkL fI 1 k n).map cI),.k .i64 k] [] (.k .i64 (k+1 * n)) []:=by
 have hml:((mkL fI 1 k n).map cI).length=n:=by rw [zAA,dF]
 refine G0 Tryz.func20 ?_;repeat' first|refine Rx ⟨?_⟩|refine Rd (fun h=>⟨?_⟩) fun h=>⟨?_⟩|fail
 refine Cd.loop2 (fun mq tm S nx=>∃ (i:Nat) (q:Int),mq=(n - i)∧tm=[(0,.sl ((mkL fI 1 k n).map cI)),(1,.k .i64 q),(5,.k .i64 i)]∧S=[]∧nx=0∧(i≤n)∧(q=k+1 * i)) ?_ ?_
 · refine la [0,1,5] ?_
   conv=>whnf
   refine ⟨rfl,rfl,_,0,k,rfl,rfl,rfl,rfl,zAG _,by omega⟩
 · rintro mq tm S nx ⟨i,q,hn,rfl,rfl,rfl,hi,hq⟩;by_cases hlt:i < n
   · have hg:((mkL fI 1 k n).map cI)[i]?=some [.k .i64 (q)]:=by rw [zAO,lV hlt,hq]; rfl
     repeat' first|refine Ra ⟨?_⟩|(refine bt (by omega) ?_ <;> conv=>whnf)|(refine ⟨i,_,rfl,hg,rfl,?_⟩ <;> conv=>whnf)|refine Rd (fun h=>⟨?_⟩) fun h=>⟨?_⟩|refine Rb ⟨?_⟩|fail
     refine .here ⟨mq - 1,by omega,?_⟩;refine la [0,1,5] ?_
     conv=>whnf
     refine ⟨rfl,rfl,i+1,q+1,(by omega),rfl,rfl,rfl,by omega,by omega⟩
   · have hi2:i=n:=by omega
     subst hi2;rw [← hq];repeat' first|refine Ra ⟨?_⟩|(refine bf (by omega) ?_ <;> conv=>whnf)|refine Rd (fun h=>⟨?_⟩) fun h=>⟨?_⟩|refine Rb ⟨?_⟩|fail
     exact Rf
variable {m:Int}
theorem EZ (o:Opn) (h1:o.path.length≤1073741824) (h2:o.tgt.length≤1073741824) (h3:o.data.length≤1073741824):Con (E m) 244 0 [.agg o.c] [] (.b (iu o)) []:=by
 have c1:=cu (m:=m) o.path h1;have c2:=cu (m:=m) o.tgt h2;have c3:=qN (m:=m) o.data h3;refine G0 Tryz.func244 ?_;repeat' first|refine Rw ⟨?_⟩|(refine aH.mk (fun h=>?_) (fun h=>?_) <;> (try simp only [decide_eq_true_eq,decide_eq_false_iff_not,zAJ,zAN,zAR,zAQ,zAM,zAF,zAA] at h) <;> conv=>whnf)|(refine Rc [] 0 rfl rfl (c1) ?_; conv=>whnf)|(refine Rc [] 0 rfl rfl (c2) ?_; conv=>whnf)|(refine Rc [] 0 rfl rfl (c3) ?_; conv=>whnf)|refine Rs ⟨?_⟩|fail
 all_goals
  refine Rg ⟨?_⟩
  first|rfl|(simp_all [iu]; done)|(simp [iu] <;> (repeat' split) <;> omega)|(simp only [iu]; repeat' split) <;> first|omega|(simp_all; done)|(simp_all; omega)|(rw [zAK]; simp [*,iu] <;> omega)
theorem E0 (o:Opn) (h1:o.path.length≤1073741824) (h2:o.tgt.length≤1073741824) (h3:o.data.length≤1073741824):Con (E m) 186 0 [.agg o.c] [] (.b (iu o)) []:=by
 have c1:=cY (m:=m) o.path h1;have c2:=cY (m:=m) o.tgt h2;have c3:=qM (m:=m) o.data h3;refine G0 Tryz.func186 ?_;repeat' first|refine Rw ⟨?_⟩|(refine aH.mk (fun h=>?_) (fun h=>?_) <;> (try simp only [decide_eq_true_eq,decide_eq_false_iff_not,zAJ,zAN,zAR,zAQ,zAM,zAF,zAA] at h) <;> conv=>whnf)|(refine Rc [] 0 rfl rfl (c1) ?_; conv=>whnf)|(refine Rc [] 0 rfl rfl (c2) ?_; conv=>whnf)|(refine Rc [] 0 rfl rfl (c3) ?_; conv=>whnf)|refine Rs ⟨?_⟩|fail
 all_goals
  refine Rg ⟨?_⟩
  first|rfl|(simp_all [sy]; done)|(simp [sy] <;> (repeat' split) <;> omega)|(simp only [sy]; repeat' split) <;> first|omega|(simp_all; done)|(simp_all; omega)|(rw [zAK]; simp [*,sy] <;> omega)
variable {m:Int}
theorem Am (o:Opn):Con (E m) 50 0 [.agg o.c] [] (.agg o.c) []:=by
 refine G0 Tryz.func50 ?_;repeat' first|refine Rx ⟨?_⟩|refine Rd (fun h=>⟨?_⟩) fun h=>⟨?_⟩|fail
 refine Rg ⟨?_⟩
 first|rfl|(simp_all [Opn.c]; done)|(simp [Opn.c] <;> (repeat' split) <;> omega)|(simp only [Opn.c]; repeat' split) <;> first|omega|(simp_all; done)|(simp_all; omega)|(rw [zAK]; simp [*,Opn.c] <;> omega)
theorem An (o:Opn) (n:Int) (hn:0≤n∧n≤1048576) (hp:o.path.length≤9223372036854775807) (ht:o.tgt.length≤9223372036854775807) (hd:o.data.length≤9223372036854775807) :
   Con (E m) 43 0 [.agg o.c,.k .i64 n] [] (.k .i64 (mL n o.path.length o.tgt.length o.data.length)) []:=by
 refine G0 Tryz.func43 ?_;repeat' first|refine Rx ⟨?_⟩|refine Rd (fun h=>⟨?_⟩) fun h=>⟨?_⟩|fail
 all_goals
  refine Rg ⟨?_⟩
  first|rfl|(simp_all [mL]; done)|(simp [mL] <;> (repeat' split) <;> omega)|(simp only [mL]; repeat' split) <;> first|omega|(simp_all; done)|(simp_all; omega)|(rw [zAK]; simp [*,mL] <;> omega)
theorem GO (a b:Opn):Con (E m) 57 0 [.agg a.c,.agg b.c] [] (.b (eqO a b)) []:=by
 refine G0 Tryz.func57 ?_;repeat' first|refine Rx ⟨?_⟩|refine Rd (fun h=>⟨?_⟩) fun h=>⟨?_⟩|fail
 all_goals
  refine Rg ⟨?_⟩
  first|rfl|(simp_all [eqO]; done)|(simp [eqO] <;> (repeat' split) <;> omega)|(simp only [eqO]; repeat' split) <;> first|omega|(simp_all; done)|(simp_all; omega)|(rw [zAK]; simp [*,eqO] <;> omega)
variable {m:Int}
def jh (s p:Bs):Bool:=decide (p.length≤s.length) && decide (s.take p.length=p)
theorem pO (s p:Bs) (hs:s.length≤1073741824) (hp:p.length≤1073741824):Con (E m) 298 0 [.s s,.s p] [] (.b (jh s p)) []:=by
 refine G0 Tryz.func298 ?_;repeat' first|refine Rx ⟨?_⟩|refine Rd (fun h=>⟨?_⟩) fun h=>⟨?_⟩|fail
 all_goals
  refine Rg ⟨?_⟩
  first|rfl|(simp_all [jh]; done)|(simp [jh] <;> (repeat' split) <;> omega)|(simp only [jh]; repeat' split) <;> first|omega|(simp_all; done)|(simp_all; omega)|(rw [zAK]; simp [*,jh] <;> omega)
theorem vh (s p:Bs) (hs:s.length≤1073741824) (hp:p.length≤1073741824):Con (E m) 283 0 [.s s,.s p] [] (.b (jh s p)) []:=by
 refine G0 Tryz.func283 ?_;repeat' first|refine Ra ⟨?_⟩|refine R0 (pO s p hs hp) ⟨?_⟩|refine Rd (fun h=>⟨?_⟩) fun h=>⟨?_⟩|refine Rb ⟨?_⟩|fail
 all_goals
  refine Rg ⟨?_⟩
  first|rfl|(simp_all [jh]; done)|(simp [jh] <;> (repeat' split) <;> omega)|(simp only [jh]; repeat' split) <;> first|omega|(simp_all; done)|(simp_all; omega)|(rw [zAK]; simp [*,jh] <;> omega)
def Ja:Option Mrk→D
 | some e=>.tup [.agg e.c,.b true]
 | none=>.tup [.agg [.s [],.k .i64 0,.s []],.b false]
theorem mR (l:List Mrk) (p:Bs) (hl:l.length≤1073741824):Con (E m) 198 0 [.sl (l.map Mrk.c),.s p] [] (Ja (am l p)) []:=by
 refine G0 Tryz.func198 ?_;repeat' first|refine Rx ⟨?_⟩|refine Rd (fun h=>⟨?_⟩) fun h=>⟨?_⟩|fail
 refine Cd.loop2 (fun mq tm S nx=>∃ (i:Nat),mq=(l.length - i)∧tm=[(1,.s p),(4,.bp 0 0),(8,.sl (l.map Mrk.c)),(9,.k .i64 (l.map Mrk.c).length),(10,.k .i64 i)]∧S=[(0,.box 166 [.s [],.k .i64 0,.s []])]∧nx=1∧(i≤l.length)∧(am l p=am (l.drop i) p)) ?_ ?_
 · refine la [1,4,8,9,10] ?_
   conv=>whnf
   refine ⟨rfl,rfl,_,0,rfl,rfl,rfl,rfl,zAG _,rfl⟩
 · rintro mq tm S nx ⟨i,hn,rfl,rfl,rfl,hi,ha⟩;rcases av l i hi with ⟨rfl,hd⟩|⟨x,r,hx,hd,hr,hlt⟩
   · rw [hd] at ha;rw [ha];repeat' first|refine Rx ⟨?_⟩|refine Rd (fun h=>⟨?_⟩) fun h=>⟨?_⟩|fail
     exact Rf
   · rw [hd] at ha;repeat' first|refine Rx ⟨?_⟩|refine Rd (fun h=>⟨?_⟩) fun h=>⟨?_⟩|fail
     · have he:am l p=some x:=by rw [ha]; simp [am, *]
       rw [he];exact Rf
     · refine .here ⟨mq - 1,by omega,?_⟩;refine la [1,4,8,9,10] ?_
       conv=>whnf
       refine ⟨rfl,rfl,i+1,(by omega),rfl,rfl,rfl,by omega,(by rw [ha,hr]; simp [am, *])⟩
theorem E1 (s d:Bs) (hd:d≠[47]):bc s d=jh s (d++[47]):=by
 unfold bc jh;rw [zAK];simp only [hd,decide_false,zAt,zAE,decide_eq_true_eq,zAT,List.length_cons,List.length_nil];constructor
 · rintro ⟨⟨h1,h2⟩,h3⟩;exact ⟨by omega,by rw [dv h3,h2]⟩
 · rintro ⟨h1,h2⟩;have hlt:d.length < s.length:=by omega
   have h3:s[d.length]?=some s[d.length]:=zAB hlt;rw [zBK,dv h3] at h2;have h4:=List.append_inj h2 (by simp; omega);exact ⟨⟨hlt,h4.1⟩,by rw [h3]; simpa using h4.2⟩
theorem jT (s d:Bs) (hs:s.length≤1073741823) (hd:d.length≤1073741823):Con (E m) 250 0 [.s s,.s d] [] (.b (bW s d)) []:=by
 have c1:=cu (m:=m) s (by omega);have c2:=cu (m:=m) d (by omega);have c3:=vh (m:=m) s (d++[47]) (by omega) (by simp; omega);by_cases hr:d=[47]
 · subst hr;refine G0 Tryz.func250 ?_;repeat' first|refine Ra ⟨?_⟩|refine R0 c1 ⟨?_⟩|refine Rd (fun h=>⟨?_⟩) fun h=>⟨?_⟩|refine Rb ⟨?_⟩|fail
   all_goals
    refine Rg ⟨?_⟩
    first|rfl|(simp_all [bW,bc]; done)|(simp [bW,bc] <;> (repeat' split) <;> omega)|(simp only [bW,bc]; repeat' split) <;> first|omega|(simp_all; done)|(simp_all; omega)|(rw [zAK]; simp [*,bW,bc] <;> omega)
 · rw [← E1 s d hr] at c3;refine G0 Tryz.func250 ?_;repeat' first|refine Ra ⟨?_⟩|refine R0 c1 ⟨?_⟩|refine R0 c2 ⟨?_⟩|refine R0 c3 ⟨?_⟩|refine Rd (fun h=>⟨?_⟩) fun h=>⟨?_⟩|refine Rb ⟨?_⟩|fail
   all_goals
    refine Rg ⟨?_⟩
    first|rfl|(simp_all [bW]; done)|(simp [bW] <;> (repeat' split) <;> omega)|(simp only [bW]; repeat' split) <;> first|omega|(simp_all; done)|(simp_all; omega)|(rw [zAK]; simp [*,bW] <;> omega)
theorem tV (x:Mrk):Con (E m) 243 0 [.agg x.c] [] (.b (dS x)) []:=by
 refine G0 Tryz.func243 ?_;repeat' first|refine Rx ⟨?_⟩|refine Rd (fun h=>⟨?_⟩) fun h=>⟨?_⟩|fail
 all_goals
  refine Rg ⟨?_⟩
  first|rfl|(simp_all [dS]; done)|(simp [dS] <;> (repeat' split) <;> omega)|(simp only [dS]; repeat' split) <;> first|omega|(simp_all; done)|(simp_all; omega)|(rw [zAK]; simp [*,dS] <;> omega)
theorem Ao (x:Mrk) (h1:x.path.length≤1073741823) (h2:x.data.length≤1073741823):Con (E m) 281 0 [.agg x.c] [] (.b (cX x)) []:=by
 have c1:=cu (m:=m) x.path (by omega);have c2:=qN (m:=m) x.data (by omega);refine G0 Tryz.func281 ?_;repeat' first|refine Ra ⟨?_⟩|refine R0 c1 ⟨?_⟩|refine R0 c2 ⟨?_⟩|refine Rd (fun h=>⟨?_⟩) fun h=>⟨?_⟩|refine Rb ⟨?_⟩|fail
 all_goals
  refine Rg ⟨?_⟩
  first|rfl|(simp_all [cX]; done)|(simp [cX] <;> (repeat' split) <;> omega)|(simp only [cX]; repeat' split) <;> first|omega|(simp_all; done)|(simp_all; omega)|(rw [zAK]; simp [*,cX] <;> omega)
theorem E2 (l:List Mrk) (p:Bs) (hl:l.length≤1073741824) (hp:p.length≤1073741823) (hb:∀ x∈l,x.path.length≤1073741823):Con (E m) 282 0 [.sl (l.map Mrk.c),.s p] [] (.b (lb l p)) []:=by
 refine G0 Tryz.func282 ?_;repeat' first|refine Rx ⟨?_⟩|refine Rd (fun h=>⟨?_⟩) fun h=>⟨?_⟩|fail
 refine Cd.loop2 (fun mq tm S nx=>∃ (i:Nat),mq=(l.length - i)∧tm=[(1,.s p),(7,.sl (l.map Mrk.c)),(8,.k .i64 (l.map Mrk.c).length),(9,.k .i64 i)]∧S=[]∧nx=0∧(i≤l.length)∧(lb l p=lb (l.drop i) p)) ?_ ?_
 · refine la [1,7,8,9] ?_
   conv=>whnf
   refine ⟨rfl,rfl,_,0,rfl,rfl,rfl,rfl,zAG _,rfl⟩
 · rintro mq tm S nx ⟨i,hn,rfl,rfl,rfl,hi,ha⟩;rcases av l i hi with ⟨rfl,hd⟩|⟨x,r,hx,hd,hr,hlt⟩
   · rw [hd] at ha;rw [ha];repeat' first|refine Rx ⟨?_⟩|refine Rd (fun h=>⟨?_⟩) fun h=>⟨?_⟩|fail
     exact Rf
   · rw [hd] at ha;have hbx:=hb x (zAD hx);have c1:=jT (m:=m) p x.path hp hbx;repeat' first|refine Ra ⟨?_⟩|refine R0 c1 ⟨?_⟩|refine Rd (fun h=>⟨?_⟩) fun h=>⟨?_⟩|refine Rb ⟨?_⟩|fail
     all_goals first
      | (refine jQ.here ⟨mq - 1,by omega,?_⟩
         refine la [1,7,8,9] ?_
         conv=>whnf
         refine ⟨rfl,rfl,i+1,(by omega),rfl,rfl,rfl,by omega,(by rw [ha,hr]; simp [lb, *])⟩)
      | (refine ak.here (fa ?_)
         conv=>whnf
         (try rw [ha])
         first|exact ⟨rfl,rfl,rfl,rfl⟩|refine ⟨rfl,rfl,congrArg some (congrArg D.s ?_),rfl⟩|refine ⟨rfl,rfl,congrArg some (congrArg D.b ?_),rfl⟩|refine ⟨rfl,rfl,congrArg some (congrArg (D.k _) ?_),rfl⟩|refine ⟨rfl,rfl,congrArg some ?_,rfl⟩
         all_goals first|rfl|(simp_all [lb]; done)|(simp [lb] <;> (repeat' split) <;> omega))
set_option maxHeartbeats 1000000 in
theorem yg (l:List Mrk) (hb:∀ e∈l,e.path.length≤1073741823∧e.data.length≤1073741823):Con (E m) 241 0 [.sl (l.map Mrk.c)] [] (.b (aR l)) []:=by
 refine G0 Tryz.func241 ?_;repeat' first|refine Rx ⟨?_⟩|refine Rd (fun h=>⟨?_⟩) fun h=>⟨?_⟩|fail
 · have hf:aR l=false:=by
     have:¬ l.length≤32:=by omega
     simp [aR,this]
   rw [hf];exact Rf
 refine Cd.loop2 (fun mq tm S nx=>∃ (i:Nat),mq=(l.length - i)∧tm=[(0,.sl (l.map Mrk.c)),(11,.sl (l.map Mrk.c)),(12,.k .i64 (l.map Mrk.c).length),(13,.k .i64 i)]∧S=[]∧nx=0∧(i≤l.length)∧(∀ k,k < i→oE l k=true)) ?_ ?_
 · refine la [0,11,12,13] ?_
   conv=>whnf
   refine ⟨rfl,rfl,_,0,rfl,rfl,rfl,rfl,zAG _,fun k h=>absurd h (Nat.not_lt_zero _)⟩
 · rintro mq tm S nx ⟨i,hn,rfl,rfl,rfl,hi,ha⟩;by_cases hlt:i < l.length
   · have hq:=hb l[i] (zAX hlt);have h1:=Ao (m:=m) l[i] hq.1 hq.2;have h2:=sA (m:=m) l[i].path (by omega);have h3:=mR (m:=m) l (al l[i].path) (by omega);have h4:=E2 (m:=m) l l[i].path (by omega) hq.1 (fun x hx=>(hb x hx).1);have hin:inM l l[i].path=(decide (al l[i].path=[47]) || lT (am l (al l[i].path))):=rfl;cases hm:am l (al l[i].path);all_goals
      rw [hm] at h3 hin;repeat' first|refine Ra ⟨?_⟩|refine R0 h1 ⟨?_⟩|refine R0 h2 ⟨?_⟩|refine R0 h3 ⟨?_⟩|refine R0 h4 ⟨?_⟩|refine R0 (tV _) ⟨?_⟩|(refine ⟨i - 1,_,by omega,fk (by omega),rfl,?_⟩ <;> conv=>whnf)|refine Rd (fun h=>⟨?_⟩) fun h=>⟨?_⟩|refine Rb ⟨?_⟩|fail
      all_goals first
       | (have hf:oE l i=false:=by
            clear h1 h2 h3 h4 hb ha hn;rw [Ae hlt,hin];try have hi0:0 < i:=by omega
            try have hi0:i=0:=by omega
            simp_all [lt,lT]
          have hg:=tM hlt hf;rw [hg];refine ak.here (fa ?_)
          conv=>whnf
          exact ⟨rfl,rfl,rfl,rfl⟩)
       | (have hf:oE l i=true:=by
            clear h1 h2 h3 h4 hb ha hn;rw [Ae hlt,hin];try have hi0:0 < i:=by omega
            try have hi0:i=0:=by omega
            simp_all [lt,lT]
          refine .here ⟨mq - 1,by omega,?_⟩;refine la [0,11,12,13] ?_
          conv=>whnf
          refine ⟨rfl,rfl,i+1,(by omega),rfl,rfl,rfl,by omega,Cc ha hf⟩)
   · repeat' first|refine Rx ⟨?_⟩|refine Rd (fun h=>⟨?_⟩) fun h=>⟨?_⟩|fail
     have hf:aR l=true:=nS (by omega) fun k hk=>ha k (by omega);rw [hf];exact Rf
end Go.Proofs.YtagejnomlkfndaaGreatDoor
