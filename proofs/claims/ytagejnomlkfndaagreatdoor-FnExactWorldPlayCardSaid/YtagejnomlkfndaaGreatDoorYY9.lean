/- Texts of this claim, set close: lemmas and contracts. -/
import Derived.Test.YtagejnomlkfndaaGreatDoorYY8
import Derived.Test.YtagejnomlkfndaaGreatDoorYY6
import Derived.Test.YtagejnomlkfndaaGreatDoorYY3
set_option linter.unusedSimpArgs false
set_option linter.unusedVariables false
set_option maxHeartbeats 1000000
set_option maxRecDepth 10000
namespace Go.Proofs.YtagejnomlkfndaaGreatDoor
open Go Go.RowKit Go.Ab Go.Par
variable {m:Int}
abbrev cI (n:Int):List D:=[.k .i64 n]
theorem bq (k:Int) (hk:k≤100000000):Con (E m) 61 0 [.k .i64 k] [] (.s (gJ k)) []:=by
 unfold gJ;by_cases h0:k≤0
 · rw [if_pos h0];refine G0 Tryz.func61 ?_;repeat' first|refine Rx ⟨?_⟩|refine Rd (fun h=>⟨?_⟩) fun h=>⟨?_⟩|fail
   exact Rf
 · rw [if_neg h0];refine G0 Tryz.func61 ?_;repeat' first|refine Rx ⟨?_⟩|refine Rd (fun h=>⟨?_⟩) fun h=>⟨?_⟩|fail
   refine Cd.loop2 (fun mq tm S nx=>∃ (q:Nat) (n:Nat) (out:Bs),mq=(q)∧tm=[(0,.k .i64 n),(3,.s out)]∧S=[]∧nx=0∧(n≤q)∧(n+out.length≤100000000)∧(vx k.toNat []=vx n out)) ?_ ?_
   · obtain ⟨n,rfl⟩:∃ n:Nat,k=n:=⟨k.toNat,by omega⟩;refine la [0,3] ?_
     conv=>whnf
     refine ⟨rfl,rfl,_,n,n,[],rfl,rfl,rfl,rfl,zAJ _,(by simp; omega),by simp⟩
   · rintro mq tm S nx ⟨q,n,out,hn,rfl,rfl,rfl,hq,hnb,ha⟩;rw [ha];by_cases hz:n=0
     · subst hz;rw [B7];repeat' first|refine Rx ⟨?_⟩|refine Rd (fun h=>⟨?_⟩) fun h=>⟨?_⟩|fail
       exact Rf
     · rw [DO (by omega)];have hu:((UInt8.ofNat (48+n % 10)).toNat:Int)=48+((n % 10:Nat):Int):=by
        have:(UInt8.ofNat (48+n % 10)).toNat=(48+n % 10) % 256:=by simp
        omega
       have e1:(n:Int) % 10=((n % 10:Nat):Int):=by omega
       have e2:(n:Int) / 10=((n / 10:Nat):Int):=by omega
       have hby:[[D.k .u8 (48+((n % 10:Nat):Int))]]=cA [UInt8.ofNat (48+n % 10)]:=by simp only [cA,List.map_cons,List.map_nil,hu]
       repeat' first|refine Ra ⟨?_⟩|((refine wr (by omega) (by omega) ?_; rw [e1]) <;> conv=>whnf)|((refine wq (by omega) (by omega) ?_; rw [e2]) <;> conv=>whnf)|(refine wb (by omega) ?_ <;> conv=>whnf)|(refine ⟨_,hby,by simp [dI],?_⟩ <;> conv=>whnf)|refine Rd (fun h=>⟨?_⟩) fun h=>⟨?_⟩|refine Rb ⟨?_⟩|fail
       refine .here ⟨mq - 1,by omega,?_⟩;refine la [0,3] ?_
       conv=>whnf
       refine ⟨rfl,rfl,q - 1,n / 10,_,(by omega),rfl,rfl,rfl,by omega,(by simp; omega),rfl⟩
theorem vy (t:List Ent) (k:Int) (hk:0≤k∧k≤10000000) (ht:t.length≤1100000):Con (E m) 58 1 [.own 0,.k .i64 k] [(0,.own 66 (t.map Ent.c))] (.k .i64 (k+3 * t.length)) [(0,.own 66 ((mkL fE 3 k t.length).map Ent.c))]:=by
 refine G0 Tryz.func58 ?_;repeat' first|refine Rx ⟨?_⟩|refine Rd (fun h=>⟨?_⟩) fun h=>⟨?_⟩|fail
 refine Cd.loop2 (fun mq tm S nx=>∃ (i:Nat) (q:Int) (xs:List (List D)),mq=(t.length - i)∧tm=[(0,.own 0),(1,.k .i64 q),(5,.k .i64 i)]∧S=[(0,.own 66 xs)]∧nx=1∧(i≤t.length)∧(q=k+3 * i)∧(xs=(mkL fE 3 k i).map Ent.c++(t.drop i).map Ent.c)) ?_ ?_
 · refine la [0,1,5] ?_
   conv=>whnf
   refine ⟨rfl,rfl,_,0,k,_,rfl,rfl,rfl,rfl,zAG _,by omega,rfl⟩
 · rintro mq tm S nx ⟨i,q,xs,hn,rfl,rfl,rfl,hi,hq,hx⟩;rcases al t i hi with ⟨rfl,hd⟩|⟨x,r,hx',hd,hr,hlt⟩
   · rw [hd,List.map_nil,List.append_nil] at hx;have hxl:xs.length=t.length:=by rw [hx,zAA,cW]
     rw [← hx,← hq];repeat' first|refine Ra ⟨?_⟩|(refine bf (by omega) ?_ <;> conv=>whnf)|refine Rd (fun h=>⟨?_⟩) fun h=>⟨?_⟩|refine Rb ⟨?_⟩|fail
     exact Rf
   · rw [hd,List.map_cons] at hx;have hAl:i=((mkL fE 3 k i).map Ent.c).length:=by rw [zAA,cW]
     have hxl:xs.length=t.length:=by
      have:=congrArg List.length hd
      simp at this;rw [hx,zAV,← hAl,List.length_cons,zAA]; omega
     have hg:xs[i]?=some (Ent.c x):=by rw [hx]; exact gw hAl
     have c0:=bq (m:=m) (q) (by omega);have c2:=bq (m:=m) (q+1+1) (by omega);repeat' first|refine Ra ⟨?_⟩|(refine bt (by omega) ?_ <;> conv=>whnf)|refine R0 c0 ⟨?_⟩|refine R0 c2 ⟨?_⟩|(refine ⟨i,rfl,by (try simp only [zAW]); omega,?_⟩ <;> conv=>whnf)|(refine ⟨_,hg,zAC rfl,?_⟩ <;> conv=>whnf)|(refine ⟨_,i7 (by (try simp only [zAW]); omega),zAC rfl,?_⟩ <;> conv=>whnf)|(refine wr (by omega) (by omega) ?_ <;> conv=>whnf)|refine Rd (fun h=>⟨?_⟩) fun h=>⟨?_⟩|refine Rb ⟨?_⟩|fail
     refine .here ⟨mq - 1,by omega,?_⟩;refine la [0,1,5] ?_
     conv=>whnf
     refine ⟨rfl,rfl,i+1,q+1+1+1,_,(by omega),rfl,rfl,rfl,by omega,by omega,?_⟩;rw [zAb,zAb,hx,gx hAl,mkL,hr,← hq,zAM,zAg];rfl
theorem heldEntS_con (n:Nat) (k:Int) (hk:0≤k∧k≤10000000) (ht:n≤1100000):Con (E m) 62 0 [.sl ((mkL fE 3 k n).map Ent.c),.k .i64 k] [] (.k .i64 (k+3 * n)) []:=by
 have hml:((mkL fE 3 k n).map Ent.c).length=n:=by rw [zAA,cW]
 refine G0 Tryz.func62 ?_;repeat' first|refine Rx ⟨?_⟩|refine Rd (fun h=>⟨?_⟩) fun h=>⟨?_⟩|fail
 refine Cd.loop2 (fun mq tm S nx=>∃ (i:Nat) (q:Int),mq=(n - i)∧tm=[(0,.sl ((mkL fE 3 k n).map Ent.c)),(1,.k .i64 q),(5,.k .i64 i)]∧S=[]∧nx=0∧(i≤n)∧(q=k+3 * i)) ?_ ?_
 · refine la [0,1,5] ?_
   conv=>whnf
   refine ⟨rfl,rfl,_,0,k,rfl,rfl,rfl,rfl,zAG _,by omega⟩
 · rintro mq tm S nx ⟨i,q,hn,rfl,rfl,rfl,hi,hq⟩;by_cases hlt:i < n
   · have hg:((mkL fE 3 k n).map Ent.c)[i]?=some [.s (gJ (q)),.b (decide ((q+1) % 3=0)),.s (gJ (q+1+1))]:=by rw [zAR,AY hlt,hq]; rfl
     have c0:=bq (m:=m) (q) (by omega);have c2:=bq (m:=m) (q+1+1) (by omega);repeat' first|refine Ra ⟨?_⟩|(refine bt (by omega) ?_ <;> conv=>whnf)|refine R0 c0 ⟨?_⟩|refine R0 c2 ⟨?_⟩|(refine ⟨i,_,rfl,hg,rfl,?_⟩ <;> conv=>whnf)|(refine wr (by omega) (by omega) ?_ <;> conv=>whnf)|refine Rd (fun h=>⟨?_⟩) fun h=>⟨?_⟩|refine Rb ⟨?_⟩|fail
     refine .here ⟨mq - 1,by omega,?_⟩;refine la [0,1,5] ?_
     conv=>whnf
     refine ⟨rfl,rfl,i+1,q+1+1+1,(by omega),rfl,rfl,rfl,by omega,by omega⟩
   · have hi2:i=n:=by omega
     subst hi2;rw [← hq];repeat' first|refine Ra ⟨?_⟩|(refine bf (by omega) ?_ <;> conv=>whnf)|refine Rd (fun h=>⟨?_⟩) fun h=>⟨?_⟩|refine Rb ⟨?_⟩|fail
     exact Rf
theorem l9 (t:List Mrk) (k:Int) (hk:0≤k∧k≤10000000) (ht:t.length≤1100000):Con (E m) 60 1 [.own 0,.k .i64 k] [(0,.own 166 (t.map Mrk.c))] (.k .i64 (k+3 * t.length)) [(0,.own 166 ((mkL fM 3 k t.length).map Mrk.c))]:=by
 refine G0 Tryz.func60 ?_;repeat' first|refine Rx ⟨?_⟩|refine Rd (fun h=>⟨?_⟩) fun h=>⟨?_⟩|fail
 refine Cd.loop2 (fun mq tm S nx=>∃ (i:Nat) (q:Int) (xs:List (List D)),mq=(t.length - i)∧tm=[(0,.own 0),(1,.k .i64 q),(5,.k .i64 i)]∧S=[(0,.own 166 xs)]∧nx=1∧(i≤t.length)∧(q=k+3 * i)∧(xs=(mkL fM 3 k i).map Mrk.c++(t.drop i).map Mrk.c)) ?_ ?_
 · refine la [0,1,5] ?_
   conv=>whnf
   refine ⟨rfl,rfl,_,0,k,_,rfl,rfl,rfl,rfl,zAG _,by omega,rfl⟩
 · rintro mq tm S nx ⟨i,q,xs,hn,rfl,rfl,rfl,hi,hq,hx⟩;rcases al t i hi with ⟨rfl,hd⟩|⟨x,r,hx',hd,hr,hlt⟩
   · rw [hd,List.map_nil,List.append_nil] at hx;have hxl:xs.length=t.length:=by rw [hx,zAA,cW]
     rw [← hx,← hq];repeat' first|refine Ra ⟨?_⟩|(refine bf (by omega) ?_ <;> conv=>whnf)|refine Rd (fun h=>⟨?_⟩) fun h=>⟨?_⟩|refine Rb ⟨?_⟩|fail
     exact Rf
   · rw [hd,List.map_cons] at hx;have hAl:i=((mkL fM 3 k i).map Mrk.c).length:=by rw [zAA,cW]
     have hxl:xs.length=t.length:=by
      have:=congrArg List.length hd
      simp at this;rw [hx,zAV,← hAl,List.length_cons,zAA]; omega
     have hg:xs[i]?=some (Mrk.c x):=by rw [hx]; exact gw hAl
     have c0:=bq (m:=m) (q) (by omega);have c2:=bq (m:=m) (q+1+1) (by omega);repeat' first|refine Ra ⟨?_⟩|(refine bt (by omega) ?_ <;> conv=>whnf)|refine R0 c0 ⟨?_⟩|refine R0 c2 ⟨?_⟩|(refine ⟨i,rfl,by (try simp only [zAW]); omega,?_⟩ <;> conv=>whnf)|(refine ⟨_,hg,zAC rfl,?_⟩ <;> conv=>whnf)|(refine ⟨_,i7 (by (try simp only [zAW]); omega),zAC rfl,?_⟩ <;> conv=>whnf)|refine Rd (fun h=>⟨?_⟩) fun h=>⟨?_⟩|refine Rb ⟨?_⟩|fail
     refine .here ⟨mq - 1,by omega,?_⟩;refine la [0,1,5] ?_
     conv=>whnf
     refine ⟨rfl,rfl,i+1,q+1+1+1,_,(by omega),rfl,rfl,rfl,by omega,by omega,?_⟩;rw [zAb,zAb,hx,gx hAl,mkL,hr,← hq,zAM,zAg];rfl
theorem heldMarkS_con (n:Nat) (k:Int) (hk:0≤k∧k≤10000000) (ht:n≤1100000):Con (E m) 64 0 [.sl ((mkL fM 3 k n).map Mrk.c),.k .i64 k] [] (.k .i64 (k+3 * n)) []:=by
 have hml:((mkL fM 3 k n).map Mrk.c).length=n:=by rw [zAA,cW]
 refine G0 Tryz.func64 ?_;repeat' first|refine Rx ⟨?_⟩|refine Rd (fun h=>⟨?_⟩) fun h=>⟨?_⟩|fail
 refine Cd.loop2 (fun mq tm S nx=>∃ (i:Nat) (q:Int),mq=(n - i)∧tm=[(0,.sl ((mkL fM 3 k n).map Mrk.c)),(1,.k .i64 q),(5,.k .i64 i)]∧S=[]∧nx=0∧(i≤n)∧(q=k+3 * i)) ?_ ?_
 · refine la [0,1,5] ?_
   conv=>whnf
   refine ⟨rfl,rfl,_,0,k,rfl,rfl,rfl,rfl,zAG _,by omega⟩
 · rintro mq tm S nx ⟨i,q,hn,rfl,rfl,rfl,hi,hq⟩;by_cases hlt:i < n
   · have hg:((mkL fM 3 k n).map Mrk.c)[i]?=some [.s (gJ (q)),.k .i64 (q+1),.s (gJ (q+1+1))]:=by rw [zAR,AY hlt,hq]; rfl
     have c0:=bq (m:=m) (q) (by omega);have c2:=bq (m:=m) (q+1+1) (by omega);repeat' first|refine Ra ⟨?_⟩|(refine bt (by omega) ?_ <;> conv=>whnf)|refine R0 c0 ⟨?_⟩|refine R0 c2 ⟨?_⟩|(refine ⟨i,_,rfl,hg,rfl,?_⟩ <;> conv=>whnf)|refine Rd (fun h=>⟨?_⟩) fun h=>⟨?_⟩|refine Rb ⟨?_⟩|fail
     refine .here ⟨mq - 1,by omega,?_⟩;refine la [0,1,5] ?_
     conv=>whnf
     refine ⟨rfl,rfl,i+1,q+1+1+1,(by omega),rfl,rfl,rfl,by omega,by omega⟩
   · have hi2:i=n:=by omega
     subst hi2;rw [← hq];repeat' first|refine Ra ⟨?_⟩|(refine bf (by omega) ?_ <;> conv=>whnf)|refine Rd (fun h=>⟨?_⟩) fun h=>⟨?_⟩|refine Rb ⟨?_⟩|fail
     exact Rf
theorem xI (t:List Opn) (k:Int) (hk:0≤k∧k≤10000000) (ht:t.length≤1100000):Con (E m) 17 1 [.own 0,.k .i64 k] [(0,.own 53 (t.map Opn.c))] (.k .i64 (k+4 * t.length)) [(0,.own 53 ((mkL fO 4 k t.length).map Opn.c))]:=by
 refine G0 Tryz.func17 ?_;repeat' first|refine Rx ⟨?_⟩|refine Rd (fun h=>⟨?_⟩) fun h=>⟨?_⟩|fail
 refine Cd.loop2 (fun mq tm S nx=>∃ (i:Nat) (q:Int) (xs:List (List D)),mq=(t.length - i)∧tm=[(0,.own 0),(1,.k .i64 q),(5,.k .i64 i)]∧S=[(0,.own 53 xs)]∧nx=1∧(i≤t.length)∧(q=k+4 * i)∧(xs=(mkL fO 4 k i).map Opn.c++(t.drop i).map Opn.c)) ?_ ?_
 · refine la [0,1,5] ?_
   conv=>whnf
   refine ⟨rfl,rfl,_,0,k,_,rfl,rfl,rfl,rfl,zAG _,by omega,rfl⟩
 · rintro mq tm S nx ⟨i,q,xs,hn,rfl,rfl,rfl,hi,hq,hx⟩;rcases al t i hi with ⟨rfl,hd⟩|⟨x,r,hx',hd,hr,hlt⟩
   · rw [hd,List.map_nil,List.append_nil] at hx;have hxl:xs.length=t.length:=by rw [hx,zAA,cW]
     rw [← hx,← hq];repeat' first|refine Ra ⟨?_⟩|(refine bf (by omega) ?_ <;> conv=>whnf)|refine Rd (fun h=>⟨?_⟩) fun h=>⟨?_⟩|refine Rb ⟨?_⟩|fail
     exact Rf
   · rw [hd,List.map_cons] at hx;have hAl:i=((mkL fO 4 k i).map Opn.c).length:=by rw [zAA,cW]
     have hxl:xs.length=t.length:=by
      have:=congrArg List.length hd
      simp at this;rw [hx,zAV,← hAl,List.length_cons,zAA]; omega
     have hg:xs[i]?=some (Opn.c x):=by rw [hx]; exact gw hAl
     have c1:=bq (m:=m) (q+1) (by omega);have c2:=bq (m:=m) (q+1+1) (by omega);have c3:=bq (m:=m) (q+1+1+1) (by omega);repeat' first|refine Ra ⟨?_⟩|(refine bt (by omega) ?_ <;> conv=>whnf)|refine R0 c1 ⟨?_⟩|refine R0 c2 ⟨?_⟩|refine R0 c3 ⟨?_⟩|(refine ⟨i,rfl,by (try simp only [zAW]); omega,?_⟩ <;> conv=>whnf)|(refine ⟨_,hg,zAC rfl,?_⟩ <;> conv=>whnf)|(refine ⟨_,i7 (by (try simp only [zAW]); omega),zAC rfl,?_⟩ <;> conv=>whnf)|refine Rd (fun h=>⟨?_⟩) fun h=>⟨?_⟩|refine Rb ⟨?_⟩|fail
     refine .here ⟨mq - 1,by omega,?_⟩;refine la [0,1,5] ?_
     conv=>whnf
     refine ⟨rfl,rfl,i+1,q+1+1+1+1,_,(by omega),rfl,rfl,rfl,by omega,by omega,?_⟩;rw [zAb,zAb,zAb,hx,gx hAl,mkL,hr,← hq,zAM,zAg];rfl
theorem j9 (t:List Int) (k:Int) (hk:0≤k∧k≤10000000) (ht:t.length≤1100000):Con (E m) 18 1 [.own 0,.k .i64 k] [(0,.own 3 (t.map cI))] (.k .i64 (k+1 * t.length)) [(0,.own 3 ((mkL fI 1 k t.length).map cI))]:=by
 refine G0 Tryz.func18 ?_;repeat' first|refine Rx ⟨?_⟩|refine Rd (fun h=>⟨?_⟩) fun h=>⟨?_⟩|fail
 refine Cd.loop2 (fun mq tm S nx=>∃ (i:Nat) (q:Int) (xs:List (List D)),mq=(t.length - i)∧tm=[(0,.own 0),(1,.k .i64 q),(5,.k .i64 i)]∧S=[(0,.own 3 xs)]∧nx=1∧(i≤t.length)∧(q=k+1 * i)∧(xs=(mkL fI 1 k i).map cI++(t.drop i).map cI)) ?_ ?_
 · refine la [0,1,5] ?_
   conv=>whnf
   refine ⟨rfl,rfl,_,0,k,_,rfl,rfl,rfl,rfl,zAG _,by omega,rfl⟩
 · rintro mq tm S nx ⟨i,q,xs,hn,rfl,rfl,rfl,hi,hq,hx⟩;rcases al t i hi with ⟨rfl,hd⟩|⟨x,r,hx',hd,hr,hlt⟩
   · rw [hd,List.map_nil,List.append_nil] at hx;have hxl:xs.length=t.length:=by rw [hx,zAA,cW]
     rw [← hx,← hq];repeat' first|refine Ra ⟨?_⟩|(refine bf (by omega) ?_ <;> conv=>whnf)|refine Rd (fun h=>⟨?_⟩) fun h=>⟨?_⟩|refine Rb ⟨?_⟩|fail
     exact Rf
   · rw [hd,List.map_cons] at hx;have hAl:i=((mkL fI 1 k i).map cI).length:=by rw [zAA,cW]
     have hxl:xs.length=t.length:=by
      have:=congrArg List.length hd
      simp at this;rw [hx,zAV,← hAl,List.length_cons,zAA]; omega
     have hg:xs[i]?=some (cI x):=by rw [hx]; exact gw hAl
     repeat' first|refine Ra ⟨?_⟩|(refine bt (by omega) ?_ <;> conv=>whnf)|(refine ⟨i,rfl,by (try simp only [zAW]); omega,?_⟩ <;> conv=>whnf)|(refine ⟨_,hg,zAC rfl,?_⟩ <;> conv=>whnf)|(refine ⟨_,i7 (by (try simp only [zAW]); omega),zAC rfl,?_⟩ <;> conv=>whnf)|refine Rd (fun h=>⟨?_⟩) fun h=>⟨?_⟩|refine Rb ⟨?_⟩|fail
     refine .here ⟨mq - 1,by omega,?_⟩;refine la [0,1,5] ?_
     conv=>whnf
     refine ⟨rfl,rfl,i+1,q+1,_,(by omega),rfl,rfl,rfl,by omega,by omega,?_⟩;rw [hx,gx hAl,mkL,hr,← hq,zAM,zAg];rfl
theorem ke (n:Nat) (k:Int) (hk:0≤k∧k≤10000000) (ht:n≤1100000):Con (E m) 20 0 [.sl ((mkL fI 1 k n).map cI),.k .i64 k] [] (.k .i64 (k+1 * n)) []:=by
 have hml:((mkL fI 1 k n).map cI).length=n:=by rw [zAA,cW]
 refine G0 Tryz.func20 ?_;repeat' first|refine Rx ⟨?_⟩|refine Rd (fun h=>⟨?_⟩) fun h=>⟨?_⟩|fail
 refine Cd.loop2 (fun mq tm S nx=>∃ (i:Nat) (q:Int),mq=(n - i)∧tm=[(0,.sl ((mkL fI 1 k n).map cI)),(1,.k .i64 q),(5,.k .i64 i)]∧S=[]∧nx=0∧(i≤n)∧(q=k+1 * i)) ?_ ?_
 · refine la [0,1,5] ?_
   conv=>whnf
   refine ⟨rfl,rfl,_,0,k,rfl,rfl,rfl,rfl,zAG _,by omega⟩
 · rintro mq tm S nx ⟨i,q,hn,rfl,rfl,rfl,hi,hq⟩;by_cases hlt:i < n
   · have hg:((mkL fI 1 k n).map cI)[i]?=some [.k .i64 (q)]:=by rw [zAR,AY hlt,hq]; rfl
     repeat' first|refine Ra ⟨?_⟩|(refine bt (by omega) ?_ <;> conv=>whnf)|(refine ⟨i,_,rfl,hg,rfl,?_⟩ <;> conv=>whnf)|refine Rd (fun h=>⟨?_⟩) fun h=>⟨?_⟩|refine Rb ⟨?_⟩|fail
     refine .here ⟨mq - 1,by omega,?_⟩;refine la [0,1,5] ?_
     conv=>whnf
     refine ⟨rfl,rfl,i+1,q+1,(by omega),rfl,rfl,rfl,by omega,by omega⟩
   · have hi2:i=n:=by omega
     subst hi2;rw [← hq];repeat' first|refine Ra ⟨?_⟩|(refine bf (by omega) ?_ <;> conv=>whnf)|refine Rd (fun h=>⟨?_⟩) fun h=>⟨?_⟩|refine Rb ⟨?_⟩|fail
     exact Rf
variable {m:Int}
theorem B8 (o:Opn) (h1:o.path.length≤1073741824) (h2:o.to.length≤1073741824) (h3:o.data.length≤1073741824):Con (E m) 244 0 [.agg o.c] [] (.b (f7 o)) []:=by
 have c1:=cb (m:=m) o.path h1;have c2:=cb (m:=m) o.to h2;have c3:=oR (m:=m) o.data h3;refine G0 Tryz.func244 ?_;repeat' first|refine Rw ⟨?_⟩|(refine aB.mk (fun h=>?_) (fun h=>?_) <;> (try simp only [decide_eq_true_eq,decide_eq_false_iff_not,zAI,zAN,zAQ,zAO,zAL,zAF,zAA] at h) <;> conv=>whnf)|(refine Rc [] 0 rfl rfl (c1) ?_; conv=>whnf)|(refine Rc [] 0 rfl rfl (c2) ?_; conv=>whnf)|(refine Rc [] 0 rfl rfl (c3) ?_; conv=>whnf)|refine Rs ⟨?_⟩|fail
 all_goals
  refine Rg ⟨?_⟩
  first|rfl|(simp_all [f7]; done)|(simp [f7] <;> (repeat' split) <;> omega)|(simp only [f7]; repeat' split) <;> first|omega|(simp_all; done)|(simp_all; omega)|(rw [zAK]; simp [*,f7] <;> omega)
theorem B9 (o:Opn) (h1:o.path.length≤1073741824) (h2:o.to.length≤1073741824) (h3:o.data.length≤1073741824):Con (E m) 186 0 [.agg o.c] [] (.b (f7 o)) []:=by
 have c1:=cj (m:=m) o.path h1;have c2:=cj (m:=m) o.to h2;have c3:=oQ (m:=m) o.data h3;refine G0 Tryz.func186 ?_;repeat' first|refine Rw ⟨?_⟩|(refine aB.mk (fun h=>?_) (fun h=>?_) <;> (try simp only [decide_eq_true_eq,decide_eq_false_iff_not,zAI,zAN,zAQ,zAO,zAL,zAF,zAA] at h) <;> conv=>whnf)|(refine Rc [] 0 rfl rfl (c1) ?_; conv=>whnf)|(refine Rc [] 0 rfl rfl (c2) ?_; conv=>whnf)|(refine Rc [] 0 rfl rfl (c3) ?_; conv=>whnf)|refine Rs ⟨?_⟩|fail
 all_goals
  refine Rg ⟨?_⟩
  first|rfl|(simp_all [qx]; done)|(simp [qx] <;> (repeat' split) <;> omega)|(simp only [qx]; repeat' split) <;> first|omega|(simp_all; done)|(simp_all; omega)|(rw [zAK]; simp [*,qx] <;> omega)
variable {m:Int}
theorem rL (o:Opn):Con (E m) 50 0 [.agg o.c] [] (.agg o.c) []:=by
 refine G0 Tryz.func50 ?_;repeat' first|refine Rx ⟨?_⟩|refine Rd (fun h=>⟨?_⟩) fun h=>⟨?_⟩|fail
 refine Rg ⟨?_⟩
 first|rfl|(simp_all [Opn.c]; done)|(simp [Opn.c] <;> (repeat' split) <;> omega)|(simp only [Opn.c]; repeat' split) <;> first|omega|(simp_all; done)|(simp_all; omega)|(rw [zAK]; simp [*,Opn.c] <;> omega)
theorem xJ (o:Opn) (n:Int) (hn:0≤n∧n≤1048576) (hp:o.path.length≤9223372036854775807) (ht:o.to.length≤9223372036854775807) (hd:o.data.length≤9223372036854775807) :
   Con (E m) 43 0 [.agg o.c,.k .i64 n] [] (.k .i64 (jD n o.path.length o.to.length o.data.length)) []:=by
 refine G0 Tryz.func43 ?_;repeat' first|refine Rx ⟨?_⟩|refine Rd (fun h=>⟨?_⟩) fun h=>⟨?_⟩|fail
 all_goals
  refine Rg ⟨?_⟩
  first|rfl|(simp_all [jD]; done)|(simp [jD] <;> (repeat' split) <;> omega)|(simp only [jD]; repeat' split) <;> first|omega|(simp_all; done)|(simp_all; omega)|(rw [zAK]; simp [*,jD] <;> omega)
theorem rM (a b:Opn):Con (E m) 57 0 [.agg a.c,.agg b.c] [] (.b (eqO a b)) []:=by
 refine G0 Tryz.func57 ?_;repeat' first|refine Rx ⟨?_⟩|refine Rd (fun h=>⟨?_⟩) fun h=>⟨?_⟩|fail
 all_goals
  refine Rg ⟨?_⟩
  first|rfl|(simp_all [eqO]; done)|(simp [eqO] <;> (repeat' split) <;> omega)|(simp only [eqO]; repeat' split) <;> first|omega|(simp_all; done)|(simp_all; omega)|(rw [zAK]; simp [*,eqO] <;> omega)
variable {m:Int}
def gT (s p:Bs):Bool:=decide (p.length≤s.length) && decide (s.take p.length=p)
theorem nP (s p:Bs) (hs:s.length≤1073741824) (hp:p.length≤1073741824):Con (E m) 298 0 [.s s,.s p] [] (.b (gT s p)) []:=by
 refine G0 Tryz.func298 ?_;repeat' first|refine Rx ⟨?_⟩|refine Rd (fun h=>⟨?_⟩) fun h=>⟨?_⟩|fail
 all_goals
  refine Rg ⟨?_⟩
  first|rfl|(simp_all [gT]; done)|(simp [gT] <;> (repeat' split) <;> omega)|(simp only [gT]; repeat' split) <;> first|omega|(simp_all; done)|(simp_all; omega)|(rw [zAK]; simp [*,gT] <;> omega)
theorem sS (s p:Bs) (hs:s.length≤1073741824) (hp:p.length≤1073741824):Con (E m) 283 0 [.s s,.s p] [] (.b (gT s p)) []:=by
 refine G0 Tryz.func283 ?_;repeat' first|refine Ra ⟨?_⟩|refine R0 (nP s p hs hp) ⟨?_⟩|refine Rd (fun h=>⟨?_⟩) fun h=>⟨?_⟩|refine Rb ⟨?_⟩|fail
 all_goals
  refine Rg ⟨?_⟩
  first|rfl|(simp_all [gT]; done)|(simp [gT] <;> (repeat' split) <;> omega)|(simp only [gT]; repeat' split) <;> first|omega|(simp_all; done)|(simp_all; omega)|(rw [zAK]; simp [*,gT] <;> omega)
def F7:Option Mrk→D
 | some e=>.tup [.agg e.c,.b true]
 | none=>.tup [.agg [.s [],.k .i64 0,.s []],.b false]
theorem kZ (l:List Mrk) (p:Bs) (hl:l.length≤1073741824):Con (E m) 198 0 [.sl (l.map Mrk.c),.s p] [] (F7 (aA l p)) []:=by
 refine G0 Tryz.func198 ?_;repeat' first|refine Rx ⟨?_⟩|refine Rd (fun h=>⟨?_⟩) fun h=>⟨?_⟩|fail
 refine Cd.loop2 (fun mq tm S nx=>∃ (i:Nat),mq=(l.length - i)∧tm=[(1,.s p),(4,.bp 0 0),(8,.sl (l.map Mrk.c)),(9,.k .i64 (l.map Mrk.c).length),(10,.k .i64 i)]∧S=[(0,.box 166 [.s [],.k .i64 0,.s []])]∧nx=1∧(i≤l.length)∧(aA l p=aA (l.drop i) p)) ?_ ?_
 · refine la [1,4,8,9,10] ?_
   conv=>whnf
   refine ⟨rfl,rfl,_,0,rfl,rfl,rfl,rfl,zAG _,rfl⟩
 · rintro mq tm S nx ⟨i,hn,rfl,rfl,rfl,hi,ha⟩;rcases al l i hi with ⟨rfl,hd⟩|⟨x,r,hx,hd,hr,hlt⟩
   · rw [hd] at ha;rw [ha];repeat' first|refine Rx ⟨?_⟩|refine Rd (fun h=>⟨?_⟩) fun h=>⟨?_⟩|fail
     exact Rf
   · rw [hd] at ha;repeat' first|refine Rx ⟨?_⟩|refine Rd (fun h=>⟨?_⟩) fun h=>⟨?_⟩|fail
     · have he:aA l p=some x:=by rw [ha]; simp [aA, *]
       rw [he];exact Rf
     · refine .here ⟨mq - 1,by omega,?_⟩;refine la [1,4,8,9,10] ?_
       conv=>whnf
       refine ⟨rfl,rfl,i+1,(by omega),rfl,rfl,rfl,by omega,(by rw [ha,hr]; simp [aA, *])⟩
theorem Ca (s d:Bs) (hd:d≠[47]):under s d=gT s (d++[47]):=by
 unfold under gT;rw [zAK];simp only [hd,decide_false,zAu,zAE,decide_eq_true_eq,zAV,List.length_cons,List.length_nil];constructor
 · rintro ⟨⟨h1,h2⟩,h3⟩;exact ⟨by omega,by rw [co h3,h2]⟩
 · rintro ⟨h1,h2⟩;have hlt:d.length < s.length:=by omega
   have h3:s[d.length]?=some s[d.length]:=zAB hlt;rw [zBG,co h3] at h2;have h4:=List.append_inj h2 (by simp; omega);exact ⟨⟨hlt,h4.1⟩,by rw [h3]; simpa using h4.2⟩
theorem iJ (s d:Bs) (hs:s.length≤1073741823) (hd:d.length≤1073741823):Con (E m) 250 0 [.s s,.s d] [] (.b (bB s d)) []:=by
 have c1:=cb (m:=m) s (by omega);have c2:=cb (m:=m) d (by omega);have c3:=sS (m:=m) s (d++[47]) (by omega) (by simp; omega);by_cases hr:d=[47]
 · subst hr;refine G0 Tryz.func250 ?_;repeat' first|refine Ra ⟨?_⟩|refine R0 c1 ⟨?_⟩|refine Rd (fun h=>⟨?_⟩) fun h=>⟨?_⟩|refine Rb ⟨?_⟩|fail
   all_goals
    refine Rg ⟨?_⟩
    first|rfl|(simp_all [bB,under]; done)|(simp [bB,under] <;> (repeat' split) <;> omega)|(simp only [bB,under]; repeat' split) <;> first|omega|(simp_all; done)|(simp_all; omega)|(rw [zAK]; simp [*,bB,under] <;> omega)
 · rw [← Ca s d hr] at c3;refine G0 Tryz.func250 ?_;repeat' first|refine Ra ⟨?_⟩|refine R0 c1 ⟨?_⟩|refine R0 c2 ⟨?_⟩|refine R0 c3 ⟨?_⟩|refine Rd (fun h=>⟨?_⟩) fun h=>⟨?_⟩|refine Rb ⟨?_⟩|fail
   all_goals
    refine Rg ⟨?_⟩
    first|rfl|(simp_all [bB]; done)|(simp [bB] <;> (repeat' split) <;> omega)|(simp only [bB]; repeat' split) <;> first|omega|(simp_all; done)|(simp_all; omega)|(rw [zAK]; simp [*,bB] <;> omega)
theorem rN (x:Mrk):Con (E m) 243 0 [.agg x.c] [] (.b (dS x)) []:=by
 refine G0 Tryz.func243 ?_;repeat' first|refine Rx ⟨?_⟩|refine Rd (fun h=>⟨?_⟩) fun h=>⟨?_⟩|fail
 all_goals
  refine Rg ⟨?_⟩
  first|rfl|(simp_all [dS]; done)|(simp [dS] <;> (repeat' split) <;> omega)|(simp only [dS]; repeat' split) <;> first|omega|(simp_all; done)|(simp_all; omega)|(rw [zAK]; simp [*,dS] <;> omega)
theorem xK (x:Mrk) (h1:x.path.length≤1073741823) (h2:x.data.length≤1073741823):Con (E m) 281 0 [.agg x.c] [] (.b (cn x)) []:=by
 have c1:=cb (m:=m) x.path (by omega);have c2:=oR (m:=m) x.data (by omega);refine G0 Tryz.func281 ?_;repeat' first|refine Ra ⟨?_⟩|refine R0 c1 ⟨?_⟩|refine R0 c2 ⟨?_⟩|refine Rd (fun h=>⟨?_⟩) fun h=>⟨?_⟩|refine Rb ⟨?_⟩|fail
 all_goals
  refine Rg ⟨?_⟩
  first|rfl|(simp_all [cn]; done)|(simp [cn] <;> (repeat' split) <;> omega)|(simp only [cn]; repeat' split) <;> first|omega|(simp_all; done)|(simp_all; omega)|(rw [zAK]; simp [*,cn] <;> omega)
theorem Cb (l:List Mrk) (p:Bs) (hl:l.length≤1073741824) (hp:p.length≤1073741823) (hb:∀ x∈l,x.path.length≤1073741823):Con (E m) 282 0 [.sl (l.map Mrk.c),.s p] [] (.b (jF l p)) []:=by
 refine G0 Tryz.func282 ?_;repeat' first|refine Rx ⟨?_⟩|refine Rd (fun h=>⟨?_⟩) fun h=>⟨?_⟩|fail
 refine Cd.loop2 (fun mq tm S nx=>∃ (i:Nat),mq=(l.length - i)∧tm=[(1,.s p),(7,.sl (l.map Mrk.c)),(8,.k .i64 (l.map Mrk.c).length),(9,.k .i64 i)]∧S=[]∧nx=0∧(i≤l.length)∧(jF l p=jF (l.drop i) p)) ?_ ?_
 · refine la [1,7,8,9] ?_
   conv=>whnf
   refine ⟨rfl,rfl,_,0,rfl,rfl,rfl,rfl,zAG _,rfl⟩
 · rintro mq tm S nx ⟨i,hn,rfl,rfl,rfl,hi,ha⟩;rcases al l i hi with ⟨rfl,hd⟩|⟨x,r,hx,hd,hr,hlt⟩
   · rw [hd] at ha;rw [ha];repeat' first|refine Rx ⟨?_⟩|refine Rd (fun h=>⟨?_⟩) fun h=>⟨?_⟩|fail
     exact Rf
   · rw [hd] at ha;have hbx:=hb x (zAD hx);have c1:=iJ (m:=m) p x.path hp hbx;repeat' first|refine Ra ⟨?_⟩|refine R0 c1 ⟨?_⟩|refine Rd (fun h=>⟨?_⟩) fun h=>⟨?_⟩|refine Rb ⟨?_⟩|fail
     all_goals first
      | (refine iG.here ⟨mq - 1,by omega,?_⟩
         refine la [1,7,8,9] ?_
         conv=>whnf
         refine ⟨rfl,rfl,i+1,(by omega),rfl,rfl,rfl,by omega,(by rw [ha,hr]; simp [jF, *])⟩)
      | (refine af.here (fa ?_)
         conv=>whnf
         (try rw [ha])
         first|exact ⟨rfl,rfl,rfl,rfl⟩|refine ⟨rfl,rfl,congrArg some (congrArg D.s ?_),rfl⟩|refine ⟨rfl,rfl,congrArg some (congrArg D.b ?_),rfl⟩|refine ⟨rfl,rfl,congrArg some (congrArg (D.k _) ?_),rfl⟩|refine ⟨rfl,rfl,congrArg some ?_,rfl⟩
         all_goals first|rfl|(simp_all [jF]; done)|(simp [jF] <;> (repeat' split) <;> omega))
set_option maxHeartbeats 1000000 in
theorem vz (l:List Mrk) (hb:∀ e∈l,e.path.length≤1073741823∧e.data.length≤1073741823):Con (E m) 241 0 [.sl (l.map Mrk.c)] [] (.b (aX l)) []:=by
 refine G0 Tryz.func241 ?_;repeat' first|refine Rx ⟨?_⟩|refine Rd (fun h=>⟨?_⟩) fun h=>⟨?_⟩|fail
 · have hf:aX l=false:=by
     have:¬ l.length≤32:=by omega
     simp [aX,this]
   rw [hf];exact Rf
 refine Cd.loop2 (fun mq tm S nx=>∃ (i:Nat),mq=(l.length - i)∧tm=[(0,.sl (l.map Mrk.c)),(11,.sl (l.map Mrk.c)),(12,.k .i64 (l.map Mrk.c).length),(13,.k .i64 i)]∧S=[]∧nx=0∧(i≤l.length)∧(∀ k,k < i→mM l k=true)) ?_ ?_
 · refine la [0,11,12,13] ?_
   conv=>whnf
   refine ⟨rfl,rfl,_,0,rfl,rfl,rfl,rfl,zAG _,fun k h=>absurd h (Nat.not_lt_zero _)⟩
 · rintro mq tm S nx ⟨i,hn,rfl,rfl,rfl,hi,ha⟩;by_cases hlt:i < l.length
   · have hq:=hb l[i] (zAc hlt);have h1:=xK (m:=m) l[i] hq.1 hq.2;have h2:=qy (m:=m) l[i].path (by omega);have h3:=kZ (m:=m) l (ag l[i].path) (by omega);have h4:=Cb (m:=m) l l[i].path (by omega) hq.1 (fun x hx=>(hb x hx).1);have hin:inM l l[i].path=(decide (ag l[i].path=[47]) || j7 (aA l (ag l[i].path))):=rfl;cases hm:aA l (ag l[i].path);all_goals
      rw [hm] at h3 hin;repeat' first|refine Ra ⟨?_⟩|refine R0 h1 ⟨?_⟩|refine R0 h2 ⟨?_⟩|refine R0 h3 ⟨?_⟩|refine R0 h4 ⟨?_⟩|refine R0 (rN _) ⟨?_⟩|(refine ⟨i - 1,_,by omega,iZ (by omega),rfl,?_⟩ <;> conv=>whnf)|refine Rd (fun h=>⟨?_⟩) fun h=>⟨?_⟩|refine Rb ⟨?_⟩|fail
      all_goals first
       | (have hf:mM l i=false:=by
            clear h1 h2 h3 h4 hb ha hn;rw [xA hlt,hin];try have hi0:0 < i:=by omega
            try have hi0:i=0:=by omega
            simp_all [lt,j7]
          have hg:=rF hlt hf;rw [hg];refine af.here (fa ?_)
          conv=>whnf
          exact ⟨rfl,rfl,rfl,rfl⟩)
       | (have hf:mM l i=true:=by
            clear h1 h2 h3 h4 hb ha hn;rw [xA hlt,hin];try have hi0:0 < i:=by omega
            try have hi0:i=0:=by omega
            simp_all [lt,j7]
          refine .here ⟨mq - 1,by omega,?_⟩;refine la [0,11,12,13] ?_
          conv=>whnf
          refine ⟨rfl,rfl,i+1,(by omega),rfl,rfl,rfl,by omega,zh ha hf⟩)
   · repeat' first|refine Rx ⟨?_⟩|refine Rd (fun h=>⟨?_⟩) fun h=>⟨?_⟩|fail
     have hf:aX l=true:=l8 (by omega) fun k hk=>ha k (by omega);rw [hf];exact Rf
end Go.Proofs.YtagejnomlkfndaaGreatDoor
