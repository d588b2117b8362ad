/- Texts of this claim, set close: lemmas and contracts. -/
import Derived.Test.YtlicaibhgcenhaaGreatDoorYY6
import Derived.Test.YtlicaibhgcenhaaGreatDoorYY4
import Derived.Test.YtlicaibhgcenhaaGreatDoorYY8
import Derived.Test.YtlicaibhgcenhaaGreatDoorYY10
import Derived.Test.YtlicaibhgcenhaaGreatDoorYY11
set_option linter.unusedSimpArgs false
set_option linter.unusedVariables false
set_option maxHeartbeats 1000000
set_option maxRecDepth 10000
namespace Go.Proofs.YtlicaibhgcenhaaGreatDoor
open Go Go.RowKit Go.Ab Go.Par
variable {m:Int}
noncomputable abbrev rd (l:Bs) (p:Int):Blk:=.box 131 [.sl (aA l),.k .i64 p]
theorem G6 {a b:Int} (ha:0≤a∧a < 4611686018427387904) (hb:0≤b∧b < 4611686018427387904) {K:Int→Prop} (h:∀ r,0≤r→r < 4611686018427387904→K r):∃ r,Op.intBits .xor .i64 a b=Sem.pure (.int .i64 r)∧K r:=by
 have e1:(BitVec.ofInt 64 a).toNat=a.toNat:=by
  have h64:((2 ^ 64:Nat):Int)=18446744073709551616:=rfl;rw [BitVec.toNat_ofInt,h64]; omega
 have e2:(BitVec.ofInt 64 b).toNat=b.toNat:=by
  have h64:((2 ^ 64:Nat):Int)=18446744073709551616:=rfl;rw [BitVec.toNat_ofInt,h64]; omega
 have hx:(BitVec.ofInt 64 a ^^^ BitVec.ofInt 64 b).toNat < 2 ^ 62:=by
  rw [BitVec.toNat_xor,e1,e2];exact Nat.xor_lt_two_pow (by omega) (by omega)
 refine ⟨IntKind.i64.wrap ((BitVec.ofInt 64 a ^^^ BitVec.ofInt 64 b).toNat:Int),rfl,?_⟩;rw [Go.IntWalk.i64_in _ (by omega)];exact h _ (by omega) (by omega)
theorem E6 (l:Bs) (p n:Int) (hp:0≤p∧p≤1048576) (hn:-1099511627776≤n∧n≤1099511627776) (hl:l.length≤2000) :
   ∃ d S',(∃ r:Int,0≤r∧(r < n∨r=0)∧d=.k .i64 r∧S'=[(0,rd l (p+1))])∧Con (E m) 33 1 [.bp 0 0,.k .i64 n] [(0,rd l p)] d S':=by
 obtain ⟨q,rfl⟩:∃ q:Nat,p=q:=⟨p.toNat,by omega⟩;have hlen:(aA l).length=l.length:=by simp [aA]
 by_cases hn1:n < 1
 · refine gK ym mix Tryz.func33 rfl rfl rfl (zAF rfl) ?_;repeat' first|refine Rx ⟨?_⟩|refine Rd (fun h=>⟨?_⟩) fun h=>⟨?_⟩|fail
   refine iT.here (aa ?_)
   conv=>whnf
   refine ⟨rfl,rfl,_,rfl,0,by omega,.inr rfl,rfl,rfl⟩
 · by_cases hl0:l.length=0
   · refine gK ym mix Tryz.func33 rfl rfl rfl (zAF rfl) ?_;repeat' first|refine Ra ⟨?_⟩|(refine bt (by rw [hlen]; omega) ?_ <;> conv=>whnf)|refine Rd (fun h=>⟨?_⟩) fun h=>⟨?_⟩|refine Rb ⟨?_⟩|fail
     refine iT.here (aa ?_)
     conv=>whnf
     refine ⟨rfl,rfl,_,rfl,0,by omega,.inr rfl,rfl,rfl⟩
   · have hpos:0 < n:=by omega
     by_cases hq:q < l.length
     · have hb:=l[q].toNat_lt;have h1:=Int.emod_nonneg (l[q].toNat:Int) (by omega:n≠0);have h2:=zBj (l[q].toNat:Int) hpos;refine gK ym mix Tryz.func33 rfl rfl rfl (zAF rfl) ?_;repeat' first|refine Ra ⟨?_⟩|(refine bf (by rw [hlen]; omega) ?_ <;> conv=>whnf)|(refine bt (by rw [hlen]; omega) ?_ <;> conv=>whnf)|(refine ⟨q,_,by omega,eY hq,rfl,?_⟩ <;> conv=>whnf)|(refine wr (by omega) (by omega) ?_ <;> conv=>whnf)|refine Rd (fun h=>⟨?_⟩) fun h=>⟨?_⟩|refine Rb ⟨?_⟩|fail
       refine iT.here (aa ?_)
       conv=>whnf
       refine ⟨rfl,rfl,_,rfl,_,h1,.inl h2,rfl,rfl⟩
     · have hL:(0:Int) < (aA l).length:=by rw [hlen]; omega
       have a1:=Int.emod_nonneg ((q:Int)+1 - 1) (by omega:((aA l).length:Int)≠0);have a2:=zBj ((q:Int)+1 - 1) hL;have a3:=Int.emod_nonneg (((q:Int)+1 - 1) * 7+3) (by omega:((aA l).length:Int)≠0);have a4:=zBj (((q:Int)+1 - 1) * 7+3) hL;have a5:=Int.ediv_nonneg (by omega:0≤(q:Int)+1 - 1) (by omega:0≤((aA l).length:Int));have a6:=Int.ediv_le_self ((aA l).length:Int) (by omega:0≤(q:Int)+1 - 1);generalize hx:(((q:Int)+1 - 1) % ((aA l).length:Int))=x at *;generalize hy:((((q:Int)+1 - 1) * 7+3) % ((aA l).length:Int))=y at *;generalize hz:(((q:Int)+1 - 1) / ((aA l).length:Int))=z at *;obtain ⟨x,rfl⟩:∃ k:Nat,x=k:=⟨x.toNat,by omega⟩;obtain ⟨y,rfl⟩:∃ k:Nat,y=k:=⟨y.toNat,by omega⟩;have hxl:x < l.length:=by omega
       have hyl:y < l.length:=by omega
       have b1:=l[x].toNat_lt;have b2:=l[y].toNat_lt;have hr:∀ v:Int,0≤v→0≤v % n∧v % n < n:=fun v _=>⟨Int.emod_nonneg v (by omega),zBj v hpos⟩;refine gK ym mix Tryz.func33 rfl rfl rfl (zAF rfl) ?_;repeat' first|refine Ra ⟨?_⟩|(refine bf (by rw [hlen]; omega) ?_ <;> conv=>whnf)|((refine wr (by omega) hL ?_; rw [hx]) <;> conv=>whnf)|((refine wr (by omega) hL ?_; rw [hy]) <;> conv=>whnf)|((refine wq (by omega) hL ?_; rw [hz]) <;> conv=>whnf)|(refine ⟨x,_,rfl,eY hxl,rfl,?_⟩ <;> conv=>whnf)|(refine ⟨y,_,rfl,eY hyl,rfl,?_⟩ <;> conv=>whnf)|(refine wq (by omega) (by omega) ?_ <;> conv=>whnf)|((refine G6 (by omega) (by omega) fun v hv1 hv2=>?_) <;> conv=>whnf)|(refine wr (by omega) hpos ?_ <;> conv=>whnf)|refine Rd (fun h=>⟨?_⟩) fun h=>⟨?_⟩|refine Rb ⟨?_⟩|fail
       refine iT.here (aa ?_)
       conv=>whnf
       refine ⟨rfl,rfl,_,rfl,_,(hr _ (by omega)).1,.inl (hr _ (by omega)).2,rfl,rfl⟩
noncomputable def eL (m:Int) (l:Bs) (p n:Int):Int:=
 open Classical in if h : ∃ r : Int, 0 ≤ r ∧ (r < n ∨ r = 0) ∧ Con (E m) 33 1 [.bp 0 0, .k .i64 n] [(0, rd l p)] (.k .i64 r) [(0, rd l (p + 1))] then h.choose else 0
theorem jd (l:Bs) (p n:Int):0≤eL m l p n∧(eL m l p n < n∨eL m l p n=0):=by
 unfold eL;split
 · rename_i h; exact ⟨h.choose_spec.1,h.choose_spec.2.1⟩
 · exact ⟨by omega,.inr rfl⟩
theorem o4 (l:Bs) (p n:Int) (hp:0≤p∧p≤1048576) (hn:-1099511627776≤n∧n≤1099511627776) (hl:l.length≤2000):Con (E m) 33 1 [.bp 0 0,.k .i64 n] [(0,rd l p)] (.k .i64 (eL m l p n)) [(0,rd l (p+1))]:=by
 obtain ⟨d,S',⟨r,h1,h2,rfl,rfl⟩,hc⟩:=E6 (m:=m) l p n hp hn hl;unfold eL;rw [dif_pos ⟨r,h1,h2,hc⟩];exact (Exists.choose_spec (⟨r,h1,h2,hc⟩:∃ r:Int,0≤r∧(r < n∨r=0)∧Con (E m) 33 1 [.bp 0 0,.k .i64 n] [(0,rd l p)] (.k .i64 r) [(0,rd l (p+1))])).2.2
noncomputable def ofV (m:Int) (l:Bs) (p:Int) (ls:List Bs):Bs:=ls.getD (eL m l p ls.length).toNat []
theorem iF (l:Bs) (p:Int) {ls:List Bs} (h:ls≠[]):ofV m l p ls∈ls:=by
 have h1:=jd (m:=m) l p ls.length;have h2:=List.length_pos_iff.2 h;unfold ofV;have h3:(eL m l p ls.length).toNat < ls.length:=by omega
 rw [zAl,zAB h3];exact zAb h3
theorem kU (l:Bs) (p:Int) (ls:List Bs) (hp:0≤p∧p≤1048576) (hl:l.length≤2000) (h:ls≠[]) (hls:ls.length≤1000):Con (E m) 80 1 [.bp 0 0,.sl (ls.map fun s=>[.s s])] [(0,rd l p)] (.s (ofV m l p ls)) [(0,rd l (p+1))]:=by
 have h1:=jd (m:=m) l p ls.length;have h2:=List.length_pos_iff.2 h;have h3:(eL m l p ls.length).toNat < ls.length:=by omega
 have hx:ofV m l p ls=ls[(eL m l p ls.length).toNat]:=by unfold ofV; rw [zAl,zAB h3]; rfl
 have c1:=o4 (m:=m) l p ls.length hp (by omega) hl;have hm:((ls.map fun s=>[D.s s]).length:Int)=ls.length:=by rw [zAA]
 rw [← hm] at c1;rw [hx];refine G0 Tryz.func80 ?_;repeat' first|refine Ra ⟨?_⟩|refine Rk [0] 0 c1 ⟨?_⟩|(refine ⟨(eL m l p ls.length).toNat,_,by rw [hm]; omega,eY h3,rfl,?_⟩ <;> conv=>whnf)|refine Rd (fun h=>⟨?_⟩) fun h=>⟨?_⟩|refine Rb ⟨?_⟩|fail
 exact Rf
noncomputable def Bb (m:Int) (l:Bs) (p:Int) (ls:List Int):Int:=ls.getD (eL m l p ls.length).toNat 0
theorem y9 (l:Bs) (p:Int) {ls:List Int} (h:ls≠[]):Bb m l p ls∈ls:=by
 have h1:=jd (m:=m) l p ls.length;have h2:=List.length_pos_iff.2 h;unfold Bb;have h3:(eL m l p ls.length).toNat < ls.length:=by omega
 rw [zAl,zAB h3];exact zAb h3
theorem Ci (l:Bs) (p:Int) (ls:List Int) (hp:0≤p∧p≤1048576) (hl:l.length≤2000) (h:ls≠[]) (hls:ls.length≤1000):Con (E m) 31 1 [.bp 0 0,.sl (ls.map fun n=>[.k .i64 n])] [(0,rd l p)] (.k .i64 (Bb m l p ls)) [(0,rd l (p+1))]:=by
 have h1:=jd (m:=m) l p ls.length;have h2:=List.length_pos_iff.2 h;have h3:(eL m l p ls.length).toNat < ls.length:=by omega
 have hx:Bb m l p ls=ls[(eL m l p ls.length).toNat]:=by unfold Bb; rw [zAl,zAB h3]; rfl
 have c1:=o4 (m:=m) l p ls.length hp (by omega) hl;have hm:((ls.map fun n=>[D.k .i64 n]).length:Int)=ls.length:=by rw [zAA]
 rw [← hm] at c1;rw [hx];refine G0 Tryz.func31 ?_;repeat' first|refine Ra ⟨?_⟩|refine Rk [0] 0 c1 ⟨?_⟩|(refine ⟨(eL m l p ls.length).toNat,_,by rw [hm]; omega,eY h3,rfl,?_⟩ <;> conv=>whnf)|refine Rd (fun h=>⟨?_⟩) fun h=>⟨?_⟩|refine Rb ⟨?_⟩|fail
 exact Rf
theorem E7 (l:Bs) (hl:l.length≤1048576):Con (E m) 30 0 [.sl (aA l)] [] (.bp 0 0) [(0,rd (l.take 2000) 0)]:=by
 have hlen:(aA l).length=l.length:=by simp [aA]
 by_cases h:l.length≤2000
 · rw [zAf h];refine G0 Tryz.func30 ?_;repeat' first|refine Ra ⟨?_⟩|(refine bf (by rw [hlen]; omega) ?_ <;> conv=>whnf)|refine Rd (fun h=>⟨?_⟩) fun h=>⟨?_⟩|refine Rb ⟨?_⟩|fail
   exact Rf
 · have hx:aA (l.take 2000)=((aA l).take 2000).drop 0:=by simp [aA,zBU]
   rw [rd,hx];refine G0 Tryz.func30 ?_;repeat' first|refine Ra ⟨?_⟩|(refine bt (by rw [hlen]; omega) ?_ <;> conv=>whnf)|(refine ⟨2000,rfl,zAG _,by rw [hlen]; omega,?_⟩ <;> conv=>whnf)|refine Rd (fun h=>⟨?_⟩) fun h=>⟨?_⟩|refine Rb ⟨?_⟩|fail
   exact Rf
variable {m:Int}
theorem F8 (l:Bs) (p n:Int):eL m l p n=(((eL m l p n).toNat:Nat):Int):=(Int.toNat_of_nonneg (jd l p n).1).symm
def gW:List Bs:=[[47,97],[47,98],[47,97,47,98],[47,97,47,99],[47,98,47,97],[47,97,98],[47,97,47,98,47,99],[47,97,47,98,47,97],[47,98,47,98],[47,99]]
theorem Bc (l:Bs) (p:Int) (hp:0≤p∧p≤1048576) (hl:l.length≤2000):Con (E m) 78 1 [.bp 0 0] [(0,rd l p)] (.s (ofV m l p gW)) [(0,rd l (p+1))]:=by
 have c1:=kU (m:=m) l p gW hp hl (by decide) (by decide);refine G0 Tryz.func78 ?_;repeat' first|refine Ra ⟨?_⟩|refine Rk [0] 0 c1 ⟨?_⟩|refine Rd (fun h=>⟨?_⟩) fun h=>⟨?_⟩|refine Rb ⟨?_⟩|fail
 exact Rf
variable {m:Int}
variable {m:Int}
theorem mH (t:List Mrk) (e:Mrk) (ht:t.length≤1073741824):Con (E m) 273 0 [.sl (t.map Mrk.c),.agg e.c] [] (.own 0) [(0,.own 197 ((cX t e).map Mrk.c))]:=by
 refine G0 Tryz.func273 ?_;repeat' first|refine Rx ⟨?_⟩|refine Rd (fun h=>⟨?_⟩) fun h=>⟨?_⟩|fail
 refine Cd.loop2 (fun mq tm S nx=>∃ (k:Nat) (xs:List (List D)),mq=(t.length - k)∧tm=[(0,.sl (t.map Mrk.c)),(3,.bp 0 0),(5,.own 1),(6,.k .i64 k)]∧S=[(0,.box 197 e.c),(1,.own 197 xs)]∧nx=2∧(k≤t.length)∧(xs=(t.take k).map Mrk.c)∧(cX t e=t.take k++cX (t.drop k) e)) ?_ ?_
 · refine la [0,3,5,6] ?_
   conv=>whnf
   refine ⟨rfl,rfl,_,0,[],rfl,rfl,rfl,rfl,zAG _,rfl,rfl⟩
 · rintro mq tm S nx ⟨k,xs,hn,rfl,rfl,rfl,hk,hx,ha⟩;have hxl:xs.length=k:=by rw [hx]; simp; omega
   rcases au t k hk with ⟨rfl,hd⟩|⟨x,r,hx',hd,hr,hlt⟩
   · have hf:(cX t e).map Mrk.c=(xs++[e.c])++(((t.map Mrk.c).take (t.map Mrk.c).length).drop t.length):=by
       rw [ha,hx,hd,zAN]; simp [cX,zBW]
     rw [hf];repeat' first|refine Rx ⟨?_⟩|refine Rd (fun h=>⟨?_⟩) fun h=>⟨?_⟩|fail
     exact Rf
   · rw [hd] at ha;cases hl:lt x.path e.path with
     | true=>
       have hn:cX t e=t.take (k+1)++cX r e:=by rw [ha,cX,if_pos hl,dP hx']; simp
       rw [← hr] at hn;repeat' first|refine Rx ⟨?_⟩|refine Rd (fun h=>⟨?_⟩) fun h=>⟨?_⟩|fail
       refine .here ⟨mq - 1,by omega,?_⟩;refine la [0,3,5,6] ?_
       conv=>whnf
       refine ⟨rfl,rfl,k+1,_,(by omega),rfl,rfl,rfl,by omega,(by rw [hx]; exact ft hx'),hn⟩
     | false=>
       by_cases hp:x.path=e.path
       · have hf:(cX t e).map Mrk.c=(xs++[e.c])++(((t.map Mrk.c).take (t.map Mrk.c).length).drop (k+1)):=by
           rw [ha,hx,cX,hl,if_neg (by simp),if_pos hp,zAN,← zBf,hr]; simp
         rw [hf];repeat' first|refine Ra ⟨?_⟩|(refine ⟨k+1,rfl,?_⟩ <;> conv=>whnf)|refine Rd (fun h=>⟨?_⟩) fun h=>⟨?_⟩|refine Rb ⟨?_⟩|fail
         exact Rf
       · have hf:(cX t e).map Mrk.c=(xs++[e.c])++(((t.map Mrk.c).take (t.map Mrk.c).length).drop k):=by
           rw [ha,hx,cX,hl,if_neg (by simp),if_neg hp,zAN,← zBf,hd]; simp
         rw [hf];repeat' first|refine Rx ⟨?_⟩|refine Rd (fun h=>⟨?_⟩) fun h=>⟨?_⟩|fail
         exact Rf
theorem E8:∀ (n:Nat) (l:List Mrk) (p:Bs),p.length≤n→ac p=true→l.length+n≤1000000→Con (E m) 272 0 [.sl (l.map Mrk.c),.s p] [] (.sl ((j0 n l p).map Mrk.c)) []:=by
 intro n
 induction n with
 | zero=>intro l p hp hok _; have:=(aC hok).1; omega
 | succ n ih=>
   intro l p hp hok hln;have c1:=mA (m:=m) p (by omega);by_cases hr:ae p=[47]
   · have hx:j0 (n+1) l p=l:=by simp [j0,hr]
     rw [hx];rw [hr] at c1;refine G0 Tryz.func272 ?_;repeat' first|refine Ra ⟨?_⟩|refine R0 c1 ⟨?_⟩|refine Rd (fun h=>⟨?_⟩) fun h=>⟨?_⟩|refine Rb ⟨?_⟩|fail
     exact Rf
   · have hup:=(g9 hok).resolve_left hr;have hlt:=ei hok hr;have c2:=jo (m:=m) l (ae p) (by omega);by_cases hk:bZ l (ae p)=0
     · have hx:j0 (n+1) l p=j0 n (cX l ⟨ae p,2,[]⟩) (ae p):=by simp [j0,hr,hk]
       rw [hx];rw [hk] at c2;have c3:=mH (m:=m) l ⟨ae p,2,[]⟩ (by omega);have hl3:=(iX l ⟨ae p,2,[]⟩).2;have c4:=ih (cX l ⟨ae p,2,[]⟩) (ae p) (by omega) hup.1 (by omega);refine G0 Tryz.func272 ?_;repeat' first|refine Ra ⟨?_⟩|refine R0 c1 ⟨?_⟩|refine R0 c2 ⟨?_⟩|refine Rk [] 1 c3 ⟨?_⟩|refine R0 c4 ⟨?_⟩|refine Rd (fun h=>⟨?_⟩) fun h=>⟨?_⟩|refine Rb ⟨?_⟩|fail
       exact Rf
     · have hx:j0 (n+1) l p=j0 n l (ae p):=by simp [j0,hr,hk]
       rw [hx];have c4:=ih l (ae p) (by omega) hup.1 (by omega);refine G0 Tryz.func272 ?_;repeat' first|refine Ra ⟨?_⟩|refine R0 c1 ⟨?_⟩|refine R0 c2 ⟨?_⟩|refine R0 c4 ⟨?_⟩|refine Rd (fun h=>⟨?_⟩) fun h=>⟨?_⟩|refine Rb ⟨?_⟩|fail
       exact Rf
variable {m:Int}
theorem E9 {t:List Ent} {p:Bs}:fv t (ae p)=true↔aY t p=0:=by
 rw [eR,fv,zAe,decide_eq_true_eq];refine or_congr Iff.rfl ?_;cases ah t (ae p) with
 | none=>simp [ef]
 | some e=>simp [ef]
theorem tl (l:List Mrk) (p:Bs) (hl:l.length≤1073741824) (hp:p.length≤1073741823) (hb:∀ x∈l,x.path.length≤1073741823):Con (E m) 254 0 [.sl (l.map Mrk.c),.s p] [] (.b (bI l p)) []:=by
 have e1:(l.map Mrk.c).length=l.length:=zAA ..;refine G0 Tryz.func254 ?_;repeat' first|refine Rx ⟨?_⟩|refine Rd (fun h=>⟨?_⟩) fun h=>⟨?_⟩|fail
 refine Cd.loop2 (fun mq tm S nx=>∃ (i:Nat),mq=(l.length - i)∧tm=[(0,.sl (l.map Mrk.c)),(1,.s p),(5,.k .i64 i)]∧S=[]∧nx=0∧(i≤l.length)∧(bI l p=bI (l.drop i) p)) ?_ ?_
 · refine la [0,1,5] ?_
   conv=>whnf
   refine ⟨rfl,rfl,_,0,rfl,rfl,rfl,rfl,by omega,rfl⟩
 · rintro mq tm S nx ⟨i,hn,rfl,rfl,rfl,hi,ha⟩;rcases au l i hi with ⟨rfl,hd⟩|⟨x,r,hx,hd,hr,hlt⟩
   · rw [hd] at ha;rw [ha];repeat' first|refine Rx ⟨?_⟩|refine Rd (fun h=>⟨?_⟩) fun h=>⟨?_⟩|fail
     exact Rf
   · rw [hd] at ha;have c1:=iD (m:=m) p x.path (by omega) (by have:=hb x (zAD hx); omega);by_cases h2:x.kind=2
     · have hs:bI l p=bI (l.drop (i+1)) p:=by rw [ha,hr]; simp [bI,h2]
       by_cases h3:x.path=p
       all_goals
        repeat' first|refine Rx ⟨?_⟩|refine Rd (fun h=>⟨?_⟩) fun h=>⟨?_⟩|fail
        refine .here ⟨mq - 1,by omega,?_⟩;refine la [0,1,5] ?_
        conv=>whnf
        refine ⟨rfl,rfl,i+1,(by omega),rfl,rfl,rfl,by omega,hs⟩
     · by_cases h3:x.path=p
       · have hs:bI l p=true:=by rw [ha]; simp [bI,h2,h3,inP]
         rw [hs];repeat' first|refine Rx ⟨?_⟩|refine Rd (fun h=>⟨?_⟩) fun h=>⟨?_⟩|fail
         exact Rf
       · have h5:¬ p=x.path:=fun h=>h3 h.symm;cases h4:under p x.path with
         | true=>
           rw [h4] at c1;have hs:bI l p=true:=by rw [ha]; simp [bI,h2,h4,inP]
           rw [hs];repeat' first|refine Ra ⟨?_⟩|refine R0 c1 ⟨?_⟩|refine Rd (fun h=>⟨?_⟩) fun h=>⟨?_⟩|refine Rb ⟨?_⟩|fail
           exact Rf
         | false=>
           rw [h4] at c1;have hs:bI l p=bI (l.drop (i+1)) p:=by rw [ha,hr]; simp [bI,h2,h4,h5,inP]
           repeat' first|refine Ra ⟨?_⟩|refine R0 c1 ⟨?_⟩|refine Rd (fun h=>⟨?_⟩) fun h=>⟨?_⟩|refine Rb ⟨?_⟩|fail
           refine .here ⟨mq - 1,by omega,?_⟩;refine la [0,1,5] ?_
           conv=>whnf
           refine ⟨rfl,rfl,i+1,(by omega),rfl,rfl,rfl,by omega,hs⟩
theorem putAll_len:∀ (es t:List Ent),(cb t es).length≤t.length+es.length
 | [],t=>by simp [cb]
 | e :: es,t=>by
   have h:=putAll_len es (dF t e)
   have:=(gd t e).2
   simp only [cb,List.foldl_cons,List.length_cons] at h ⊢;omega
theorem F9 (l:List Mrk) (t:List Ent) (hl:ax l=true) (ht:af t=true):Con (E m) 193 0 [.sl (l.map Mrk.c),.sl (t.map Ent.c)] [] (.sl ((onL l t).map Ent.c)) []:=by
 have hll:=cJ hl;have htl:=az ht;have hlb:=e8 hl;have hmk:∀ x∈l,ci x=true:=fun x hx=>((cB.1 hl).2.2 x hx).1;have e1:(l.map Mrk.c).length=l.length:=zAA ..;have e2:(t.map Ent.c).length=t.length:=zAA ..;have hon:onL l t=cb (t.filter fun e=>!bI l e.path) (l.filterMap be):=rfl;have hFl:=zAV (fun e:Ent=>!bI l e.path) t;refine G0 Tryz.func193 ?_;repeat' first|refine Rx ⟨?_⟩|refine Rd (fun h=>⟨?_⟩) fun h=>⟨?_⟩|fail
 refine Cd.loop2 (fun mq tm S nx=>∃ (i:Nat) (A:List Ent),mq=(t.length - i)∧tm=[(0,.sl (l.map Mrk.c)),(1,.sl (t.map Ent.c)),(5,.own 0),(6,.k .i64 i)]∧S=[(0,.own 150 (A.map Ent.c))]∧nx=1∧(i≤t.length)∧(A=(t.take i).filter fun e=>!bI l e.path)∧(A.length≤i)) ?_ ?_
 · refine la [0,1,5,6] ?_
   conv=>whnf
   refine ⟨rfl,rfl,_,0,[],rfl,rfl,rfl,rfl,by omega,(by simp),by simp⟩
 · rintro mq tm S nx ⟨i,A,hn,rfl,rfl,rfl,hi,hA,hAl⟩;have e3:(A.map Ent.c).length=A.length:=zAA ..;rcases au t i hi with ⟨rfl,hd⟩|⟨x,r,hx',hd,hr,hlt⟩
   · rw [zAN] at hA;rw [← hA] at hon hFl;repeat' first|refine Rx ⟨?_⟩|refine Rd (fun h=>⟨?_⟩) fun h=>⟨?_⟩|fail
     refine Cd.loop2 (fun mq tm S nx=>∃ (j:Nat) (B:List Ent),mq=(l.length - j)∧tm=[(0,.sl (l.map Mrk.c)),(5,.sl (B.map Ent.c)),(7,.k .i64 j)]∧S=[]∧nx=0∧(j≤l.length)∧(B=cb A ((l.take j).filterMap be))∧(B.length≤16+j)) ?_ ?_
     · refine li [5] [0,5,7] ?_
       conv=>whnf
       refine ⟨rfl,rfl,_,0,A,rfl,rfl,rfl,rfl,by omega,(by simp [cb]),by omega⟩
     · rintro mq tm S nx ⟨j,B,hn,rfl,rfl,rfl,hj,hB,hBl⟩;rcases au l j hj with ⟨rfl,hd⟩|⟨y,s,hy',hd,hr,hlt⟩
       · rw [zAN] at hB;rw [hon,← hB];repeat' first|refine Rx ⟨?_⟩|refine Rd (fun h=>⟨?_⟩) fun h=>⟨?_⟩|fail
         exact Rf
       · have g1:=kf (f:=be) hy';obtain ⟨hk,_,_,hd0⟩:=de (hmk y (zAD hy'));rcases hk with hk|hk|hk|hk
         · have g2:be y=some ⟨y.path,false,y.data⟩:=by rw [be,if_neg (by omega)]; simp [cN,hk]
           rw [g2] at g1;have c1:=hZ (m:=m) B ⟨y.path,false,y.data⟩ (by omega);have hp:=(gd B ⟨y.path,false,y.data⟩).2;repeat' first|refine Ra ⟨?_⟩|refine Rk [] 1 c1 ⟨?_⟩|refine Rd (fun h=>⟨?_⟩) fun h=>⟨?_⟩|refine Rb ⟨?_⟩|fail
           refine .here ⟨mq - 1,by omega,?_⟩;refine li [5] [0,5,7] ?_
           conv=>whnf
           refine ⟨rfl,rfl,j+1,dF B ⟨y.path,false,y.data⟩,(by omega),rfl,rfl,rfl,by omega,(by rw [hB,g1]; simp [cb]),by omega⟩
         · have g2:be y=some ⟨y.path,true,[]⟩:=by rw [be,if_neg (by omega),hd0 (by omega)]; simp [cN,hk]
           rw [g2] at g1;have c1:=hZ (m:=m) B ⟨y.path,true,[]⟩ (by omega);have hp:=(gd B ⟨y.path,true,[]⟩).2;repeat' first|refine Ra ⟨?_⟩|refine Rk [] 1 c1 ⟨?_⟩|refine Rd (fun h=>⟨?_⟩) fun h=>⟨?_⟩|refine Rb ⟨?_⟩|fail
           refine .here ⟨mq - 1,by omega,?_⟩;refine li [5] [0,5,7] ?_
           conv=>whnf
           refine ⟨rfl,rfl,j+1,dF B ⟨y.path,true,[]⟩,(by omega),rfl,rfl,rfl,by omega,(by rw [hB,g1]; simp [cb]),by omega⟩
         · have g2:be y=none:=by rw [be,if_pos hk]
           rw [g2,List.append_nil] at g1;repeat' first|refine Rx ⟨?_⟩|refine Rd (fun h=>⟨?_⟩) fun h=>⟨?_⟩|fail
           refine .here ⟨mq - 1,by omega,?_⟩;refine la [0,5,7] ?_
           conv=>whnf
           refine ⟨rfl,rfl,j+1,B,(by omega),rfl,rfl,rfl,by omega,(by rw [hB,g1]),by omega⟩
         · have g2:be y=some ⟨y.path,true,[]⟩:=by rw [be,if_neg (by omega),hd0 (by omega)]; simp [cN,hk]
           rw [g2] at g1;have c1:=hZ (m:=m) B ⟨y.path,true,[]⟩ (by omega);have hp:=(gd B ⟨y.path,true,[]⟩).2;repeat' first|refine Ra ⟨?_⟩|refine Rk [] 1 c1 ⟨?_⟩|refine Rd (fun h=>⟨?_⟩) fun h=>⟨?_⟩|refine Rb ⟨?_⟩|fail
           refine .here ⟨mq - 1,by omega,?_⟩;refine li [5] [0,5,7] ?_
           conv=>whnf
           refine ⟨rfl,rfl,j+1,dF B ⟨y.path,true,[]⟩,(by omega),rfl,rfl,rfl,by omega,(by rw [hB,g1]; simp [cb]),by omega⟩
   · have g1:=filter_step (f:=fun e:Ent=>!bI l e.path) hx';have hxp:=(fy ht (zAD hx')).2.1;have hxl:=(aC hxp).2;have c4:=tl (m:=m) l x.path (by omega) (by omega) (fun y hy=>by have:=(hlb y hy).1; omega);cases hh:bI l x.path with
     | true=>
       rw [hh] at c4;simp only [hh,zAS,cond_false,List.append_nil] at g1;repeat' first|refine Ra ⟨?_⟩|refine R0 c4 ⟨?_⟩|refine Rd (fun h=>⟨?_⟩) fun h=>⟨?_⟩|refine Rb ⟨?_⟩|fail
       refine .here ⟨mq - 1,by omega,?_⟩;refine la [0,1,5,6] ?_
       conv=>whnf
       refine ⟨rfl,rfl,i+1,A,(by omega),rfl,rfl,rfl,by omega,(by rw [hA,g1]),by omega⟩
     | false=>
       rw [hh] at c4;simp only [hh,zAR,cond_true] at g1;repeat' first|refine Ra ⟨?_⟩|refine R0 c4 ⟨?_⟩|refine Rd (fun h=>⟨?_⟩) fun h=>⟨?_⟩|refine Rb ⟨?_⟩|fail
       refine .here ⟨mq - 1,by omega,?_⟩;refine la [0,1,5,6] ?_
       conv=>whnf
       refine ⟨rfl,rfl,i+1,A++[x],(by omega),rfl,?_,rfl,by omega,(by rw [hA,g1]),(by simp; omega)⟩;rw [zAK];rfl
def onD:Option (List Ent)→D
 | some t=>.tup [.sl (t.map Ent.c),.b true]
 | none=>.tup [.sl [],.b false]
theorem o5 (l:List Mrk) (t:List Ent) (hl:l.length≤1073741824) (hb:∀ e∈l,e.path.length≤1073741823∧e.data.length≤1073741823) (ht:∀ e∈t,e.path.length≤1073741824∧e.data.length≤1073741824) :
   Con (E m) 129 0 [.sl (l.map Mrk.c),.sl (t.map Ent.c)] [] (onD (aP l t)) []:=by
 have c1:=kQ (m:=m) l hl hb;have c2:=jm (m:=m) t ht;cases h1:ax l with
 | false=>
   rw [h1] at c1;have hx:aP l t=none:=by simp [aP,h1]
   rw [hx];refine G0 Tryz.func129 ?_;repeat' first|refine Ra ⟨?_⟩|refine R0 c1 ⟨?_⟩|refine Rd (fun h=>⟨?_⟩) fun h=>⟨?_⟩|refine Rb ⟨?_⟩|fail
   exact Rz
 | true=>
   rw [h1] at c1;cases h2:af t with
   | false=>
     rw [h2] at c2;have hx:aP l t=none:=by simp [aP,h2]
     rw [hx];refine G0 Tryz.func129 ?_;repeat' first|refine Ra ⟨?_⟩|refine R0 c1 ⟨?_⟩|refine R0 c2 ⟨?_⟩|refine Rd (fun h=>⟨?_⟩) fun h=>⟨?_⟩|refine Rb ⟨?_⟩|fail
     exact Rz
   | true=>
     rw [h2] at c2;have c3:=F9 (m:=m) l t h1 h2;have hx:aP l t=if (onL l t).length≤16 then some (onL l t) else none:=by simp [aP,h1,h2]
     have hol:(onL l t).length≤48:=by have:=Cf h1 h2; omega
     rw [hx];generalize onL l t=R at c3 hol ⊢;have e1:(R.map Ent.c).length=R.length:=zAA ..;by_cases hn:R.length≤16
     · rw [if_pos hn];refine G0 Tryz.func129 ?_;repeat' first|refine Ra ⟨?_⟩|refine R0 c1 ⟨?_⟩|refine R0 c2 ⟨?_⟩|refine R0 c3 ⟨?_⟩|refine Rd (fun h=>⟨?_⟩) fun h=>⟨?_⟩|refine Rb ⟨?_⟩|fail
       exact Rz
     · rw [if_neg hn];refine G0 Tryz.func129 ?_;repeat' first|refine Ra ⟨?_⟩|refine R0 c1 ⟨?_⟩|refine R0 c2 ⟨?_⟩|refine R0 c3 ⟨?_⟩|refine Rd (fun h=>⟨?_⟩) fun h=>⟨?_⟩|refine Rb ⟨?_⟩|fail
       exact Rz
theorem qV (a b:List Ent) (ha:af a=true) (hb:af b=true):Con (E m) 166 0 [.sl (a.map Ent.c),.sl (b.map Ent.c)] [] (.sl (strs (aS a b))) []:=by
 have hal:=az ha;have hbl:=az hb;have e1:(a.map Ent.c).length=a.length:=zAA ..;have e2:(b.map Ent.c).length=b.length:=zAA ..;have hx:aS a b=(aq (cb a b)).filter fun p=>decide (am a p≠am b p):=by rw [aS,ha,hb]; rfl
 refine G0 Tryz.func166 ?_;repeat' first|refine Rx ⟨?_⟩|refine Rd (fun h=>⟨?_⟩) fun h=>⟨?_⟩|fail
 refine Cd.loop2 (fun mq tm S nx=>∃ (i:Nat) (X:List Ent),mq=(b.length - i)∧tm=[(0,.sl (a.map Ent.c)),(1,.sl (b.map Ent.c)),(5,.sl (X.map Ent.c)),(6,.k .i64 i)]∧S=[]∧nx=0∧(i≤b.length)∧(X=cb a (b.take i))∧(X.length≤16+i)) ?_ ?_
 · refine li [5] [0,1,5,6] ?_
   conv=>whnf
   refine ⟨rfl,rfl,_,0,a,rfl,rfl,rfl,rfl,by omega,by simp [cb],by omega⟩
 · rintro mq tm S nx ⟨i,X,hn,rfl,rfl,rfl,hi,hX,hXl⟩;by_cases hlt:i < b.length
   · have g1:b[i]?=some b[i]:=zAB hlt;generalize b[i]=x at g1;have c1:=hZ (m:=m) X x (by omega);have hl:=(gd X x).2;repeat' first|refine Ra ⟨?_⟩|refine Rk [] 1 c1 ⟨?_⟩|refine Rd (fun h=>⟨?_⟩) fun h=>⟨?_⟩|refine Rb ⟨?_⟩|fail
     refine .here ⟨mq - 1,by omega,?_⟩;refine li [5] [0,1,5,6] ?_
     conv=>whnf
     refine ⟨rfl,rfl,i+1,dF X x,(by omega),rfl,rfl,rfl,by omega,(by rw [hX,qK g1]),by omega⟩
   · rw [zAf (by omega)] at hX;rw [← hX] at hx;have e3:(X.map Ent.c).length=X.length:=zAA ..;repeat' first|refine Rx ⟨?_⟩|refine Rd (fun h=>⟨?_⟩) fun h=>⟨?_⟩|fail
     refine Cd.loop2 (fun mq tm S nx=>∃ (k:Nat) (A:List Bs),mq=(X.length - k)∧tm=[(0,.sl (a.map Ent.c)),(1,.sl (b.map Ent.c)),(5,.sl (X.map Ent.c)),(7,.own 0),(8,.k .i64 k)]∧S=[(0,.own 9 (strs A))]∧nx=1∧(k≤X.length)∧(A=(aq (X.take k)).filter (fun p=>decide (am a p≠am b p)))∧(A.length≤k)) ?_ ?_
     · refine la [0,1,5,7,8] ?_
       conv=>whnf
       refine ⟨rfl,rfl,_,0,[],rfl,rfl,rfl,rfl,by omega,by simp,by simp⟩
     · rintro mq tm S nx ⟨k,A,hn,rfl,rfl,rfl,hk,hA,hAl⟩;have e4:(strs A).length=A.length:=zAA ..;by_cases hlt2:k < X.length
       · have g3:X[k]?=some X[k]:=zAB hlt2;generalize X[k]=x at g3;have c2:=dH (m:=m) a x.path (by omega);have c3:=dH (m:=m) b x.path (by omega);rw [xh] at c2 c3;have g4:=qJ g3;by_cases hq:am a x.path=am b x.path
         · have g5:A=(aq (X.take (k+1))).filter (fun p=>decide (am a p≠am b p)):=by rw [hA,g4,zAg]; simp [hq]
           rw [← hq] at c3;generalize am a x.path=O at c2 c3;have f1:=Gw (rfl:O=O);repeat' first|refine Ra ⟨?_⟩|refine R0 c2 ⟨?_⟩|refine R0 c3 ⟨?_⟩|refine Rd (fun h=>⟨?_⟩) fun h=>⟨?_⟩|refine Rb ⟨?_⟩|fail
           refine .here ⟨mq - 1,by omega,?_⟩;refine la [0,1,5,7,8] ?_
           conv=>whnf
           refine ⟨rfl,rfl,k+1,A,(by omega),rfl,rfl,rfl,by omega,g5,by omega⟩
         · have g5:A++[x.path]=(aq (X.take (k+1))).filter (fun p=>decide (am a p≠am b p)):=by rw [hA,g4,zAg]; simp [hq]
           have f1:=Gx hq;generalize am a x.path=O at c2 f1;generalize am b x.path=O2 at c3 f1;rcases f1 with f1|⟨f1,f2⟩
           · unfold fs at f1;repeat' first|refine Ra ⟨?_⟩|refine R0 c2 ⟨?_⟩|refine R0 c3 ⟨?_⟩|refine Rd (fun h=>⟨?_⟩) fun h=>⟨?_⟩|refine Rb ⟨?_⟩|fail
             refine .here ⟨mq - 1,by omega,?_⟩;refine la [0,1,5,7,8] ?_
             conv=>whnf
             refine ⟨rfl,rfl,k+1,A++[x.path],(by omega),rfl,?_,rfl,by omega,g5,(by simp; omega)⟩;rw [← e7];rfl
           · unfold fs at f1;repeat' first|refine Ra ⟨?_⟩|refine R0 c2 ⟨?_⟩|refine R0 c3 ⟨?_⟩|refine Rd (fun h=>⟨?_⟩) fun h=>⟨?_⟩|refine Rb ⟨?_⟩|fail
             refine .here ⟨mq - 1,by omega,?_⟩;refine la [0,1,5,7,8] ?_
             conv=>whnf
             refine ⟨rfl,rfl,k+1,A++[x.path],(by omega),rfl,?_,rfl,by omega,g5,(by simp; omega)⟩;rw [← e7];rfl
       · rw [zAf (by omega)] at hA;rw [hx,← hA];repeat' first|refine Rx ⟨?_⟩|refine Rd (fun h=>⟨?_⟩) fun h=>⟨?_⟩|fail
         exact Rz
variable {m:Int}
theorem tn (t u:List Mrk) (ht:t.length≤1048576) (hu:u.length≤1048576):Con (E m) 223 0 [.sl (t.map Mrk.c),.sl (u.map Mrk.c)] [] (.b (decide (t=u))) []:=by
 have e1:(t.map Mrk.c).length=t.length:=zAA ..;have e2:(u.map Mrk.c).length=u.length:=zAA ..;by_cases hl:t.length=u.length
 · refine G0 Tryz.func223 ?_;repeat' first|refine Rx ⟨?_⟩|refine Rd (fun h=>⟨?_⟩) fun h=>⟨?_⟩|fail
   refine Cd.loop2 (fun mq tm S nx=>∃ (i:Nat),mq=(t.length - i)∧tm=[(0,.sl (t.map Mrk.c)),(1,.sl (u.map Mrk.c)),(5,.k .i64 i)]∧S=[]∧nx=0∧(i≤t.length)∧(t.take i=u.take i)) ?_ ?_
   · refine la [0,1,5] ?_
     conv=>whnf
     refine ⟨rfl,rfl,_,0,rfl,rfl,rfl,rfl,by omega,rfl⟩
   · rintro mq tm S nx ⟨i,hn,rfl,rfl,rfl,hi,ha⟩;by_cases hlt:i < t.length
     · have g1:t[i]?=some t[i]:=zAB hlt;have g2:u[i]?=some (u[i]'(by omega)):=zAB (by omega);generalize t[i]=x at g1;generalize u[i]'(by omega)=y at g2;by_cases hxy:x=y
       · subst hxy;have e3:=Gy x;repeat' first|refine Rx ⟨?_⟩|refine Rd (fun h=>⟨?_⟩) fun h=>⟨?_⟩|fail
         refine .here ⟨mq - 1,by omega,?_⟩;refine la [0,1,5] ?_
         conv=>whnf
         refine ⟨rfl,rfl,i+1,(by omega),rfl,rfl,rfl,by omega,vL g1 g2 ha⟩
       · have e3:=Gz hxy;have e4:decide (t=u)=false:=decide_eq_false (GA g1 g2 hxy);rw [e4];repeat' first|refine Rx ⟨?_⟩|refine Rd (fun h=>⟨?_⟩) fun h=>⟨?_⟩|fail
         exact Rf
     · have e4:decide (t=u)=true:=decide_eq_true (yX hl (by omega) ha);rw [e4];repeat' first|refine Rx ⟨?_⟩|refine Rd (fun h=>⟨?_⟩) fun h=>⟨?_⟩|fail
       exact Rf
 · have e4:decide (t=u)=false:=decide_eq_false (fun h=>hl (by rw [h]));rw [e4];refine G0 Tryz.func223 ?_;repeat' first|refine Rx ⟨?_⟩|refine Rd (fun h=>⟨?_⟩) fun h=>⟨?_⟩|fail
   exact Rf
theorem Be {a b:List Ent} {W:List Bs} {i:Nat} {p:Bs} (h:W[i]?=some p):(W.take (i+1)).foldl (iv a b) []=iv a b ((W.take i).foldl (iv a b) []) p:=by
 rw [zAX,h,List.foldl_append];rfl
theorem vU (a b:List Ent) (ha:af a=true) (hb:af b=true):Con (E m) 224 0 [.sl (a.map Ent.c),.sl (b.map Ent.c)] [] (.sl ((dB a b).map Mrk.c)) []:=by
 have c1:=qV (m:=m) a b ha hb;have hbl:=az hb;have hWl:=fJ a b;have hW:=fun p (hp:p∈aS a b)=>iK ha hb hp;have hne:=fun p (hp:p∈aS a b)=>(fI ha hb).1 hp;have hD:dB a b=(aS a b).foldl (iv a b) []:=rfl;rw [hD];generalize aS a b=W at c1 hWl hW hne;have e1:(strs W).length=W.length:=zAA ..;refine G0 Tryz.func224 ?_;repeat' first|refine Ra ⟨?_⟩|refine R0 c1 ⟨?_⟩|refine Rd (fun h=>⟨?_⟩) fun h=>⟨?_⟩|refine Rb ⟨?_⟩|fail
 refine Cd.loop2 (fun mq tm S nx=>∃ (i:Nat) (R:List Mrk),mq=(W.length - i)∧tm=[(1,.sl (b.map Ent.c)),(5,.sl (R.map Mrk.c)),(6,.sl (strs W)),(7,.k .i64 i)]∧S=[]∧nx=0∧(i≤W.length)∧(R=(W.take i).foldl (iv a b) [])∧(R.length≤13 * i)) ?_ ?_
 · refine li [5] [1,5,6,7] ?_
   conv=>whnf
   refine ⟨rfl,rfl,_,0,[],rfl,rfl,rfl,rfl,by omega,(by simp),by simp⟩
 · rintro mq tm S nx ⟨i,R,hn,rfl,rfl,rfl,hi,hR,hRl⟩;rcases au W i hi with ⟨rfl,hd⟩|⟨p,r,hp',hd,hr,hlt⟩
   · rw [zAN] at hR;rw [← hR];repeat' first|refine Rx ⟨?_⟩|refine Rd (fun h=>⟨?_⟩) fun h=>⟨?_⟩|fail
     exact Rf
   · have g1:=Be (a:=a) (b:=b) hp';rw [← hR] at g1;have hpk:=hW p (zAD hp');have hpn:=hne p (zAD hp');have hpl:=(aC hpk).2;have hpr:p≠[47]:=aW hpk;have c2:=dH (m:=m) b p (by omega);rw [cu hpr] at c2;have c3:=mA (m:=m) p (by omega);have c4:=yI (m:=m) b (ae p) (by omega);have cP:=fun (x:Mrk)=>mH (m:=m) R x (by omega);have cU:=fun (x:Mrk)=>E8 (m:=m) 12 (cX R x) p hpl hpk (by have:=(iX R x).2; omega);have hL:=fun (x:Mrk)=>zAo (sG 12 (cX R x) p) (Nat.add_le_add_right (iX R x).2 12);cases he:ah b p with
     | some e=>
       rw [he] at c2;cases hd:e.dir with
       | true=>
         have hq:=Cc hb he hd;have kx:cn a b p=some ⟨p,2,[]⟩:=by rw [cn,if_neg hpn,he]; simp [hd]
         simp only [iv,kx] at g1;subst hq;have c5:=cP ⟨p,2,[]⟩;have c6:=cU ⟨p,2,[]⟩;have hl:=hL ⟨p,2,[]⟩;repeat' first|refine Ra ⟨?_⟩|refine R0 c2 ⟨?_⟩|refine Rk [] 1 c5 ⟨?_⟩|refine R0 c6 ⟨?_⟩|refine Rd (fun h=>⟨?_⟩) fun h=>⟨?_⟩|refine Rb ⟨?_⟩|fail
         refine .here ⟨mq - 1,by omega,?_⟩;refine li [5] [1,5,6,7] ?_
         conv=>whnf
         refine ⟨rfl,rfl,i+1,j0 12 (cX R ⟨p,2,[]⟩) p,(by omega),rfl,rfl,rfl,by omega,g1.symm,by omega⟩
       | false=>
         have kx:cn a b p=some ⟨p,1,e.data⟩:=by rw [cn,if_neg hpn,he]; simp [hd]
         simp only [iv,kx] at g1;have c5:=cP ⟨p,1,e.data⟩;have c6:=cU ⟨p,1,e.data⟩;have hl:=hL ⟨p,1,e.data⟩;repeat' first|refine Ra ⟨?_⟩|refine R0 c2 ⟨?_⟩|refine Rk [] 1 c5 ⟨?_⟩|refine R0 c6 ⟨?_⟩|refine Rd (fun h=>⟨?_⟩) fun h=>⟨?_⟩|refine Rb ⟨?_⟩|fail
         refine .here ⟨mq - 1,by omega,?_⟩;refine li [5] [1,5,6,7] ?_
         conv=>whnf
         refine ⟨rfl,rfl,i+1,j0 12 (cX R ⟨p,1,e.data⟩) p,(by omega),rfl,rfl,rfl,by omega,g1.symm,by omega⟩
     | none=>
       rw [he] at c2;cases hu:fv b (ae p) with
       | true=>
         have hz:=E9.1 hu;have kx:cn a b p=some ⟨p,3,[]⟩:=by rw [cn,if_neg hpn,he]; simp [hz]
         simp only [iv,kx] at g1;rw [hu] at c4;have c5:=cP ⟨p,3,[]⟩;have c6:=cU ⟨p,3,[]⟩;have hl:=hL ⟨p,3,[]⟩;repeat' first|refine Ra ⟨?_⟩|refine R0 c2 ⟨?_⟩|refine R0 c3 ⟨?_⟩|refine R0 c4 ⟨?_⟩|refine Rk [] 1 c5 ⟨?_⟩|refine R0 c6 ⟨?_⟩|refine Rd (fun h=>⟨?_⟩) fun h=>⟨?_⟩|refine Rb ⟨?_⟩|fail
         refine .here ⟨mq - 1,by omega,?_⟩;refine li [5] [1,5,6,7] ?_
         conv=>whnf
         refine ⟨rfl,rfl,i+1,j0 12 (cX R ⟨p,3,[]⟩) p,(by omega),rfl,rfl,rfl,by omega,g1.symm,by omega⟩
       | false=>
         have hz:¬ aY b p=0:=fun h=>by rw [E9.2 h] at hu; cases hu
         have kx:cn a b p=none:=by rw [cn,if_neg hpn,he]; simp [hz]
         simp only [iv,kx] at g1;rw [hu] at c4;repeat' first|refine Ra ⟨?_⟩|refine R0 c2 ⟨?_⟩|refine R0 c3 ⟨?_⟩|refine R0 c4 ⟨?_⟩|refine Rd (fun h=>⟨?_⟩) fun h=>⟨?_⟩|refine Rb ⟨?_⟩|fail
         refine .here ⟨mq - 1,by omega,?_⟩;refine la [1,5,6,7] ?_
         conv=>whnf
         refine ⟨rfl,rfl,i+1,R,(by omega),rfl,rfl,rfl,by omega,g1.symm,by omega⟩
theorem kV (o:Ovr) (hb:gq o):Con (E m) 128 0 [.agg o.c] [] (onD (dr o)) []:=by
 have hbl:=hb.bl;have hll:=hb.ll;have e1:(o.layers.map c8).length=o.layers.length:=zAA ..;have c1:=jm (m:=m) o.base hb.b4;cases h1:af o.base with
 | false=>
   rw [h1] at c1;have hx:dr o=none:=by simp [dr,h1]
   rw [hx];refine G0 Tryz.func128 ?_;repeat' first|refine Ra ⟨?_⟩|refine R0 c1 ⟨?_⟩|refine Rd (fun h=>⟨?_⟩) fun h=>⟨?_⟩|refine Rb ⟨?_⟩|fail
   exact Rz
 | true=>
   rw [h1] at c1;by_cases h2:o.layers.length≤4
   · have hx:dr o=cQ o.base o.layers:=by rw [dr,if_pos ⟨h1,h2⟩]
     refine G0 Tryz.func128 ?_;repeat' first|refine Ra ⟨?_⟩|refine R0 c1 ⟨?_⟩|refine Rd (fun h=>⟨?_⟩) fun h=>⟨?_⟩|refine Rb ⟨?_⟩|fail
     refine Cd.loop2 (fun mq tm S nx=>∃ (i:Nat) (now:List Ent),mq=(o.layers.length - i)∧tm=[(1,.bp 0 0),(4,.sl (now.map Ent.c)),(5,.k .i64 i)]∧S=[(0,.box 49 o.c)]∧nx=1∧(i≤o.layers.length)∧(cQ o.base o.layers=cQ now (o.layers.drop i))∧(af now=true)) ?_ ?_
     · refine li [4] [1,4,5] ?_
       conv=>whnf
       refine ⟨rfl,rfl,_,0,o.base,rfl,rfl,rfl,rfl,by omega,rfl,h1⟩
     · rintro mq tm S nx ⟨i,now,hn,rfl,rfl,rfl,hi,hS,hok⟩;have hnl:=az hok;have e2:(now.map Ent.c).length=now.length:=zAA ..;rcases au o.layers i hi with ⟨rfl,hd⟩|⟨l,r,hl',hd,hr,hlt⟩
       · rw [hd] at hS;rw [hx,hS];simp only [cQ];repeat' first|refine Rx ⟨?_⟩|refine Rd (fun h=>⟨?_⟩) fun h=>⟨?_⟩|fail
         exact Rz
       · rw [hd,nF] at hS;have hbb:=hb.lay l (zAD hl');have c3:=o5 (m:=m) l now (by omega) hbb.1 (bE0 hok);cases hv:aP l now with
         | none=>
           rw [hv] at c3 hS;simp only at hS;rw [hx,hS];repeat' first|refine Ra ⟨?_⟩|refine R0 c3 ⟨?_⟩|refine Rd (fun h=>⟨?_⟩) fun h=>⟨?_⟩|refine Rb ⟨?_⟩|fail
           exact Rz
         | some v=>
           rw [hv] at c3 hS;simp only at hS;have k1:=co hv;repeat' first|refine Ra ⟨?_⟩|refine R0 c3 ⟨?_⟩|refine Rd (fun h=>⟨?_⟩) fun h=>⟨?_⟩|refine Rb ⟨?_⟩|fail
           refine .here ⟨mq - 1,by omega,?_⟩;refine li [4] [1,4,5] ?_
           conv=>whnf
           refine ⟨rfl,rfl,i+1,v,(by omega),rfl,rfl,rfl,by omega,(by rw [hS,hr]),k1.2.2.1⟩
   · have hx:dr o=none:=by simp [dr,h2]
     rw [hx];refine G0 Tryz.func128 ?_;repeat' first|refine Ra ⟨?_⟩|refine R0 c1 ⟨?_⟩|refine Rd (fun h=>⟨?_⟩) fun h=>⟨?_⟩|refine Rb ⟨?_⟩|fail
     exact Rz
theorem fg (o:Ovr) (hb:gq o):Con (E m) 66 0 [.agg o.c] [] (onD (gp o)) []:=by
 have c1:=kV (m:=m) o hb;have hul:=hb.ul;unfold gp;cases h:dr o with
 | none=>
   rw [h] at c1;refine G0 Tryz.func66 ?_;repeat' first|refine Ra ⟨?_⟩|refine R0 c1 ⟨?_⟩|refine Rd (fun h=>⟨?_⟩) fun h=>⟨?_⟩|refine Rb ⟨?_⟩|fail
   exact Rz
 | some t=>
   rw [h] at c1;have c2:=o5 (m:=m) o.upper t (by omega) hb.upper (bE0 (ie h).2.2.2);simp only;cases hv:aP o.upper t;all_goals
    rw [hv] at c2;refine G0 Tryz.func66 ?_;repeat' first|refine Ra ⟨?_⟩|refine R0 c1 ⟨?_⟩|refine R0 c2 ⟨?_⟩|refine Rd (fun h=>⟨?_⟩) fun h=>⟨?_⟩|refine Rb ⟨?_⟩|fail
    exact Rz
theorem ig (o:Ovr) (hb:gq o):Con (E m) 161 0 [.agg o.c] [] (.b (fk o)) []:=by
 have c1:=kV (m:=m) o hb;have c2:=fg (m:=m) o hb;have hul:=hb.ul;unfold gp at c2;unfold fk aQ;cases h:dr o with
 | none=>
   rw [h] at c1 c2;refine G0 Tryz.func161 ?_;repeat' first|refine Ra ⟨?_⟩|refine R0 c1 ⟨?_⟩|refine R0 c2 ⟨?_⟩|refine Rd (fun h=>⟨?_⟩) fun h=>⟨?_⟩|refine Rb ⟨?_⟩|fail
   exact Rf
 | some t=>
   rw [h] at c1 c2;simp only at c2 ⊢;have k0:=(ie h).2.2.2;cases hv:aP o.upper t with
   | none=>
     rw [hv] at c2;refine G0 Tryz.func161 ?_;repeat' first|refine Ra ⟨?_⟩|refine R0 c1 ⟨?_⟩|refine R0 c2 ⟨?_⟩|refine Rd (fun h=>⟨?_⟩) fun h=>⟨?_⟩|refine Rb ⟨?_⟩|fail
     exact Rf
   | some v=>
     rw [hv] at c2;have k1:=(co hv).2.2.1;have c3:=vU (m:=m) t v k0 k1;have kd:=cJ (rI k0 k1);have c4:=tn (m:=m) o.upper (dB t v) hul (by omega);simp only;by_cases hu:o.upper=dB t v
     · rw [if_pos hu];rw [decide_eq_true hu] at c4;refine G0 Tryz.func161 ?_;repeat' first|refine Ra ⟨?_⟩|refine R0 c1 ⟨?_⟩|refine R0 c2 ⟨?_⟩|refine R0 c3 ⟨?_⟩|refine R0 c4 ⟨?_⟩|refine Rd (fun h=>⟨?_⟩) fun h=>⟨?_⟩|refine Rb ⟨?_⟩|fail
       exact Rf
     · rw [if_neg hu];rw [decide_eq_false hu] at c4;refine G0 Tryz.func161 ?_;repeat' first|refine Ra ⟨?_⟩|refine R0 c1 ⟨?_⟩|refine R0 c2 ⟨?_⟩|refine R0 c3 ⟨?_⟩|refine R0 c4 ⟨?_⟩|refine Rd (fun h=>⟨?_⟩) fun h=>⟨?_⟩|refine Rb ⟨?_⟩|fail
       exact Rf
theorem iL (o:Ovr) (hb:gq o):Con (E m) 62 0 [.agg o.c] [] (.agg o.c) []:=by
 have hbl:=hb.bl;have hll:=hb.ll;have hul:=hb.ul;have e1:(o.layers.map c8).length=o.layers.length:=zAA ..;have e5:(o.base.map Ent.c).length=o.base.length:=zAA ..;have e6:(o.upper.map Mrk.c).length=o.upper.length:=zAA ..;refine G0 Tryz.func62 ?_;repeat' first|refine Rx ⟨?_⟩|refine Rd (fun h=>⟨?_⟩) fun h=>⟨?_⟩|fail
 refine Cd.loop2 (fun mq tm S nx=>∃ (i:Nat) (A:List (List Mrk)),mq=(o.layers.length - i)∧tm=[(1,.bp 0 0),(2,.bp 1 0),(3,.bp 2 0),(4,.k .i64 i)]∧S=[(0,.box 49 o.c),(1,.box 49 [.nil,.nil,.nil]),(2,.box 49 [.own 3,.own 4,.own 5]),(3,.own 150 (o.base.map Ent.c)),(4,.own 47 (A.map c8)),(5,.own 197 (o.upper.map Mrk.c))]∧nx=6∧(i≤o.layers.length)∧(A=o.layers.take i)∧(A.length≤i)) ?_ ?_
 · refine ⟨[.thawB 6 1 47],[1,2,3,4],[0,1,6,3,7,5],?_⟩
   conv=>whnf
   refine ⟨rfl,rfl,_,0,[],rfl,rfl,rfl,rfl,by omega,by simp,by simp⟩
 · rintro mq tm S nx ⟨i,A,hn,rfl,rfl,rfl,hi,hA,hAl⟩;have e2:(A.map c8).length=A.length:=zAA ..;rcases au o.layers i hi with ⟨rfl,hd⟩|⟨l,r,hl',hd,hr,hlt⟩
   · rw [zAN] at hA;subst hA;repeat' first|refine Rx ⟨?_⟩|refine Rd (fun h=>⟨?_⟩) fun h=>⟨?_⟩|fail
     exact Rz
   · have g1:o.layers.take (i+1)=o.layers.take i++[l]:=by rw [zAX,hl']; rfl
     have hbb:=(hb.lay l (zAD hl')).2;have e3:(l.map Mrk.c).length=l.length:=zAA ..;have g2:(o.layers.map c8)[i]?=some [.sl (l.map Mrk.c)]:=by rw [zAQ,hl']; rfl
     repeat' first|refine Rx ⟨?_⟩|refine Rd (fun h=>⟨?_⟩) fun h=>⟨?_⟩|fail
     refine .here ⟨mq - 1,by omega,?_⟩;refine la [1,2,3,4] ?_
     conv=>whnf
     refine ⟨rfl,rfl,i+1,A++[l],(by omega),rfl,?_,rfl,by omega,(by rw [hA,g1]),(by simp; omega)⟩;rw [zAK];rfl
variable {m:Int}
theorem Dq (o:Ovr) (t x:List Ent) (hb:gq o) (ht:dr o=some t) (hx:af x=true):Con (E m) 291 0 [.agg o.c,.sl (x.map Ent.c)] [] (.agg (⟨o.base,o.layers,dB t x⟩:Ovr).c) []:=by
 have c1:=kV (m:=m) o hb;rw [ht] at c1;have c2:=vU (m:=m) t x (ie ht).2.2.2 hx;refine G0 Tryz.func291 ?_;repeat' first|refine Ra ⟨?_⟩|refine R0 c1 ⟨?_⟩|refine R0 c2 ⟨?_⟩|refine Rd (fun h=>⟨?_⟩) fun h=>⟨?_⟩|refine Rb ⟨?_⟩|fail
 exact Rz
theorem qW (o:Ovr) (p:Opn) (hb:gq o) (hp:nD 1073741823 p):Con (E m) 250 0 [.agg o.c,.agg p.c] [] (.tup [.agg (eG o p).1.c,.k .i64 (eG o p).2]) []:=by
 have c1:=ig (m:=m) o hb;have c2:=fg (m:=m) o hb;have c3:=iL (m:=m) o hb;unfold eG;unfold fk at c1;cases h:aQ o with
 | none=>
   rw [h] at c1;refine G0 Tryz.func250 ?_;repeat' first|refine Ra ⟨?_⟩|refine R0 c1 ⟨?_⟩|refine Rd (fun h=>⟨?_⟩) fun h=>⟨?_⟩|refine Rb ⟨?_⟩|fail
   exact Rz
 | some x=>
   obtain ⟨t,v⟩:=x;rw [h] at c1;obtain ⟨_,_,k3,k4⟩:=bu h;obtain ⟨g1,g2,_⟩:=bJ.1 h;have hv:gp o=some v:=by unfold gp; rw [g1]; exact g2
   rw [hv] at c2;have hvl:=az k4;have c4:=ia (m:=m) v p (by omega) (fun e he=>by have:=eE (dm k4 e he); omega) hp.1 hp.2.1 hp.2.2;have c5:=Dq (m:=m) o t (ao v p).1 hb g1 (gM k4 p);simp only;by_cases h0:(ao v p).2=0
   · rw [if_pos h0];rw [h0] at c4 ⊢;generalize (ao v p).1=y at c4 c5 ⊢;refine G0 Tryz.func250 ?_;repeat' first|refine Ra ⟨?_⟩|refine R0 c1 ⟨?_⟩|refine R0 c2 ⟨?_⟩|refine R0 c3 ⟨?_⟩|refine Rk [] 1 c4 ⟨?_⟩|refine R0 c5 ⟨?_⟩|refine Rd (fun h=>⟨?_⟩) fun h=>⟨?_⟩|refine Rb ⟨?_⟩|fail
     exact Rz
   · rw [if_neg h0];generalize ao v p=Y at c4 h0 ⊢;refine G0 Tryz.func250 ?_;repeat' first|refine Ra ⟨?_⟩|refine R0 c1 ⟨?_⟩|refine R0 c2 ⟨?_⟩|refine R0 c3 ⟨?_⟩|refine Rk [] 1 c4 ⟨?_⟩|refine Rd (fun h=>⟨?_⟩) fun h=>⟨?_⟩|refine Rb ⟨?_⟩|fail
     exact Rz
variable {m:Int}
theorem o6 (n:Int):Con (E m) 162 0 [.k .i64 n] [] (.b (dA n)) []:=by
 by_cases h1:0≤n
 · by_cases h2:n≤2
   · refine G0 Tryz.func162 ?_;repeat' first|refine Rx ⟨?_⟩|refine Rd (fun h=>⟨?_⟩) fun h=>⟨?_⟩|fail
     refine Rg ⟨?_⟩
     first|rfl|(simp_all [dA]; done)|(simp [dA] <;> (repeat' split) <;> omega)|(simp only [dA]; repeat' split) <;> first|omega|(simp_all; done)|(simp_all; omega)|(rw [zAI]; simp [*,dA] <;> omega)
   · refine G0 Tryz.func162 ?_;repeat' first|refine Rx ⟨?_⟩|refine Rd (fun h=>⟨?_⟩) fun h=>⟨?_⟩|fail
     refine Rg ⟨?_⟩
     first|rfl|(simp_all [dA]; done)|(simp [dA] <;> (repeat' split) <;> omega)|(simp only [dA]; repeat' split) <;> first|omega|(simp_all; done)|(simp_all; omega)|(rw [zAI]; simp [*,dA] <;> omega)
 · refine G0 Tryz.func162 ?_;repeat' first|refine Rx ⟨?_⟩|refine Rd (fun h=>⟨?_⟩) fun h=>⟨?_⟩|fail
   refine Rg ⟨?_⟩
   first|rfl|(simp_all [dA]; done)|(simp [dA] <;> (repeat' split) <;> omega)|(simp only [dA]; repeat' split) <;> first|omega|(simp_all; done)|(simp_all; omega)|(rw [zAI]; simp [*,dA] <;> omega)
theorem uw (o:Ovr) (hb:gq o):Con (E m) 87 0 [.agg o.c] [] (vwD (aQ o)) []:=by
 have c1:=ig (m:=m) o hb;have c2:=fg (m:=m) o hb;cases h:aQ o with
 | none=>
   have:fk o=false:=by rw [fk,h]; rfl
   rw [this] at c1;refine G0 Tryz.func87 ?_;repeat' first|refine Ra ⟨?_⟩|refine R0 c1 ⟨?_⟩|refine Rd (fun h=>⟨?_⟩) fun h=>⟨?_⟩|refine Rb ⟨?_⟩|fail
   exact Rz
 | some x=>
   have h1:fk o=true:=by rw [fk,h]; rfl
   rw [h1] at c1;have h2:gp o=some x.2:=by
    obtain ⟨t,v⟩:=x;obtain ⟨g1,g2,g3⟩:=bJ.1 h;rw [gp,g1];exact g2
   rw [h2] at c2;refine G0 Tryz.func87 ?_;repeat' first|refine Ra ⟨?_⟩|refine R0 c1 ⟨?_⟩|refine R0 c2 ⟨?_⟩|refine Rd (fun h=>⟨?_⟩) fun h=>⟨?_⟩|refine Rb ⟨?_⟩|fail
   exact Rz
theorem Bf (w:Wld) (hb:du w):Con (E m) 88 0 [.agg w.c] [] (.b (ip w)) []:=by
 have hhl:=hb.hl;have hfl:=hb.fl;have hnl:=hb.nl;have e1:(w.holds.map gy).length=w.holds.length:=zAA ..;have e2:(i7 w.floors).length=w.floors.length:=zAA ..;have e3:(w.net.map Mes.c).length=w.net.length:=zAA ..;by_cases hn:Ba w∧w.net.length≤12
 · obtain ⟨⟨h1,h2,h3,h4,h5,h6⟩,h7⟩:=hn;have hx:ip w=w.floors.all fun f=>decide (0≤f) && decide (f≤w.count):=by simp [ip,h1,h2,h3,h4,h5,h6,h7]
   rw [hx];refine G0 Tryz.func88 ?_;repeat' first|refine Rx ⟨?_⟩|refine Rd (fun h=>⟨?_⟩) fun h=>⟨?_⟩|fail
   refine Cd.loop2 (fun mq tm S nx=>∃ (i:Nat),mq=(w.floors.length - i)∧tm=[(1,.bp 0 0),(3,.k .i64 i)]∧S=[(0,.box 54 w.c)]∧nx=1∧(i≤w.floors.length)∧((w.floors.all fun f=>decide (0≤f) && decide (f≤w.count))=((w.floors.drop i).all fun f=>decide (0≤f) && decide (f≤w.count)))) ?_ ?_
   · refine la [1,3] ?_
     conv=>whnf
     refine ⟨rfl,rfl,_,0,rfl,rfl,rfl,rfl,zAG _,rfl⟩
   · rintro mq tm S nx ⟨i,hn,rfl,rfl,rfl,hi,ha⟩;rcases au w.floors i hi with ⟨rfl,hd⟩|⟨f,r,hx',hd,hr,hlt⟩
     · rw [hd] at ha;rw [ha];repeat' first|refine Rx ⟨?_⟩|refine Rd (fun h=>⟨?_⟩) fun h=>⟨?_⟩|fail
       exact Rf
     · rw [hd,List.all_cons] at ha;by_cases g1:0≤f
       · by_cases g2:f≤w.count
         · rw [decide_eq_true g1,decide_eq_true g2] at ha;repeat' first|refine Rx ⟨?_⟩|refine Rd (fun h=>⟨?_⟩) fun h=>⟨?_⟩|fail
           refine .here ⟨mq - 1,by omega,?_⟩;refine la [1,3] ?_
           conv=>whnf
           refine ⟨rfl,rfl,i+1,(by omega),rfl,rfl,rfl,by omega,(by rw [ha,hr]; simp)⟩
         · rw [decide_eq_false g2] at ha;simp only [zBb,zAh] at ha;rw [ha];repeat' first|refine Rx ⟨?_⟩|refine Rd (fun h=>⟨?_⟩) fun h=>⟨?_⟩|fail
           exact Rf
       · rw [decide_eq_false g1] at ha;simp only [zAh] at ha;rw [ha];repeat' first|refine Rx ⟨?_⟩|refine Rd (fun h=>⟨?_⟩) fun h=>⟨?_⟩|fail
         exact Rf
 · have hx:ip w=false:=by
     rw [← zAa];intro h;simp only [ip,zAC,decide_eq_true_eq] at h;obtain ⟨⟨⟨⟨⟨⟨⟨a1,a2⟩,a3⟩,a4⟩,a5⟩,a6⟩,a7⟩,a8⟩:=h;exact hn ⟨⟨a1,a2,a3,a4,a5,a6⟩,a7⟩
   rw [hx];unfold Ba at hn;refine G0 Tryz.func88 ?_;repeat' first|refine Rx ⟨?_⟩|refine Rd (fun h=>⟨?_⟩) fun h=>⟨?_⟩|fail
   all_goals first|exact Rf|(exfalso; omega)
def lsD:Option Lse→D
 | some l=>.tup [.agg l.c,.b true]
 | none=>.tup [.agg [.k .i64 0,.s [],.k .i64 0,.k .i64 0],.b false]
theorem Bg (w:Wld) (who:Int) (p:Bs) (hll:w.leases.length≤1048576):Con (E m) 227 0 [.agg w.c,.k .i64 who,.s p] [] (lsD (dw w.leases who p)) []:=by
 have e1:(w.leases.map Lse.c).length=w.leases.length:=zAA ..;refine G0 Tryz.func227 ?_;repeat' first|refine Rx ⟨?_⟩|refine Rd (fun h=>⟨?_⟩) fun h=>⟨?_⟩|fail
 refine Cd.loop2 (fun mq tm S nx=>∃ (i:Nat),mq=(w.leases.length - i)∧tm=[(1,.k .i64 who),(2,.s p),(3,.bp 0 0),(6,.bp 1 0),(8,.k .i64 i)]∧S=[(0,.box 54 w.c),(1,.box 93 [.k .i64 0,.s [],.k .i64 0,.k .i64 0])]∧nx=2∧(i≤w.leases.length)∧(dw w.leases who p=dw (w.leases.drop i) who p)) ?_ ?_
 · refine la [1,2,3,6,8] ?_
   conv=>whnf
   refine ⟨rfl,rfl,_,0,rfl,rfl,rfl,rfl,zAG _,rfl⟩
 · rintro mq tm S nx ⟨i,hn,rfl,rfl,rfl,hi,ha⟩;rcases au w.leases i hi with ⟨rfl,hd⟩|⟨x,r,hx',hd,hr,hlt⟩
   · rw [hd] at ha;rw [ha];repeat' first|refine Rx ⟨?_⟩|refine Rd (fun h=>⟨?_⟩) fun h=>⟨?_⟩|fail
     exact Rf
   · have hc:dw (x :: r) who p=(if aI who p x=true then some x else dw r who p):=by
       rw [dw,List.find?_cons];cases aI who p x <;> rfl
     rw [hd,hc] at ha;by_cases g1:x.who=who
     · by_cases g2:x.path=p
       · have q:aI who p x=true:=by simp [aI,g1,g2]
         rw [if_pos q] at ha;rw [ha];repeat' first|refine Rx ⟨?_⟩|refine Rd (fun h=>⟨?_⟩) fun h=>⟨?_⟩|fail
         exact Rf
       · have q:aI who p x=false:=by simp [aI,g2]
         rw [if_neg (by rw [q]; simp)] at ha;repeat' first|refine Rx ⟨?_⟩|refine Rd (fun h=>⟨?_⟩) fun h=>⟨?_⟩|fail
         refine .here ⟨mq - 1,by omega,?_⟩;refine la [1,2,3,6,8] ?_
         conv=>whnf
         refine ⟨rfl,rfl,i+1,(by omega),rfl,rfl,rfl,by omega,(by rw [ha,hr])⟩
     · have q:aI who p x=false:=by simp [aI,g1]
       rw [if_neg (by rw [q]; simp)] at ha;repeat' first|refine Rx ⟨?_⟩|refine Rd (fun h=>⟨?_⟩) fun h=>⟨?_⟩|fail
       refine .here ⟨mq - 1,by omega,?_⟩;refine la [1,2,3,6,8] ?_
       conv=>whnf
       refine ⟨rfl,rfl,i+1,(by omega),rfl,rfl,rfl,by omega,(by rw [ha,hr])⟩
theorem za (w:Wld) (hb:du w) (hc:0≤w.clock∧w.clock≤10000):Con (E m) 89 0 [.agg w.c] [] (.b (uu w.count w.clock w.leases)) []:=by
 have hll:=hb.ll;have e1:(w.leases.map Lse.c).length=w.leases.length:=zAA ..;unfold uu;refine G0 Tryz.func89 ?_;repeat' first|refine Rx ⟨?_⟩|refine Rd (fun h=>⟨?_⟩) fun h=>⟨?_⟩|fail
 refine Cd.loop2 (fun mq tm S nx=>∃ (i:Nat),mq=(w.leases.length - i)∧tm=[(1,.bp 0 0),(3,.k .i64 i)]∧S=[(0,.box 54 w.c)]∧nx=1∧(i≤w.leases.length)∧((List.range w.leases.length).all (l6 w.count w.clock w.leases)=((List.range w.leases.length).drop i).all (l6 w.count w.clock w.leases))) ?_ ?_
 · refine la [1,3] ?_
   conv=>whnf
   refine ⟨rfl,rfl,_,0,rfl,rfl,rfl,rfl,zAG _,rfl⟩
 · rintro mq tm S nx ⟨i,hn,rfl,rfl,rfl,hi,ha⟩;by_cases hlt:i < w.leases.length
   · have hx':w.leases[i]?=some w.leases[i]:=zAB hlt;generalize w.leases[i]=x at hx';rw [gP hlt,List.all_cons] at ha;have hbx:=hb.ls x (zAD hx');have c1:=o6 (m:=m) x.who;have c2:=cc (m:=m) x.path (by unfold Do at hbx; omega);have hat:l6 w.count w.clock w.leases i=(dA x.who && ac x.path && decide (1≤x.num) && decide (x.num≤w.count) && decide (x.til≤w.clock+5) && (w.leases.take i).all fun k=>!aI x.who x.path k):=by rw [l6,hx']
     by_cases hg:dA x.who=true∧ac x.path=true∧1≤x.num∧x.num≤w.count∧x.til≤w.clock+5
     · obtain ⟨b1,b2,b3,b4,b5⟩:=hg;rw [b1] at c1;rw [b2] at c2;have hat:l6 w.count w.clock w.leases i=(w.leases.take i).all fun k=>!aI x.who x.path k:=by rw [hat,b1,b2,decide_eq_true b3,decide_eq_true b4,decide_eq_true b5]; simp
       repeat' first|refine Ra ⟨?_⟩|refine R0 c1 ⟨?_⟩|refine R0 c2 ⟨?_⟩|refine Rd (fun h=>⟨?_⟩) fun h=>⟨?_⟩|refine Rb ⟨?_⟩|fail
       obtain ⟨mo,hmo⟩:∃ mo,mo=mq:=⟨_,rfl⟩;subst hmo;have hno:=hn;refine Cd.loop2 (fun mq tm S nx=>∃ (k:Nat),mq=(i - k)∧tm=[(1,.bp 0 0),(3,.k .i64 i),(4,.bp 1 0),(5,.k .i64 k)]∧S=[(0,.box 54 w.c),(1,.box 93 x.c)]∧nx=2∧(k≤i)∧((w.leases.take k).all (fun y=>!aI x.who x.path y)=true)) ?_ ?_
       · refine la [1,3,4,5] ?_
         conv=>whnf
         refine ⟨rfl,rfl,_,0,rfl,rfl,rfl,rfl,zAG _,rfl⟩
       · rintro mq tm S nx ⟨k,hn,rfl,rfl,rfl,hk,hp⟩;by_cases hki:k < i
         · have hy:w.leases[k]?=some (w.leases[k]'(by omega)):=zAB (by omega);generalize w.leases[k]'(by omega)=y at hy;by_cases q1:y.who=x.who
           · by_cases q2:y.path=x.path
             · have hf:((w.leases.take i).all fun k=>!aI x.who x.path k)=false:=cr (i:=k) (x:=y) (by rw [zAk,if_pos hki]; exact hy) (by simp [aI,q1,q2]);rw [hat,hf,zAh] at ha;rw [ha];repeat' first|refine Rx ⟨?_⟩|refine Rd (fun h=>⟨?_⟩) fun h=>⟨?_⟩|fail
               exact Rf
             · repeat' first|refine Rx ⟨?_⟩|refine Rd (fun h=>⟨?_⟩) fun h=>⟨?_⟩|fail
               refine .here ⟨mq - 1,by omega,?_⟩;refine la [1,3,4,5] ?_
               conv=>whnf
               refine ⟨rfl,rfl,k+1,(by omega),rfl,rfl,rfl,by omega,bA hp hy (by simp [aI,q2])⟩
           · repeat' first|refine Rx ⟨?_⟩|refine Rd (fun h=>⟨?_⟩) fun h=>⟨?_⟩|fail
             refine .here ⟨mq - 1,by omega,?_⟩;refine la [1,3,4,5] ?_
             conv=>whnf
             refine ⟨rfl,rfl,k+1,(by omega),rfl,rfl,rfl,by omega,bA hp hy (by simp [aI,q1])⟩
         · have:k=i:=by omega
           subst this;rw [hat,hp,zBA] at ha;repeat' first|refine Rx ⟨?_⟩|refine Rd (fun h=>⟨?_⟩) fun h=>⟨?_⟩|fail
           refine .here ⟨mo - 1,by omega,?_⟩;refine la [1,3] ?_
           conv=>whnf
           refine ⟨rfl,rfl,k+1,(by omega),rfl,rfl,rfl,by omega,ha⟩
     · have hf:l6 w.count w.clock w.leases i=false:=by
         rw [hat,← zAa];intro h;simp only [zAC,decide_eq_true_eq] at h;exact hg ⟨h.1.1.1.1.1,h.1.1.1.1.2,h.1.1.1.2,h.1.1.2,h.1.2⟩
       rw [hf,zAh] at ha;rw [ha];repeat' first|refine Ra ⟨?_⟩|refine R0 c1 ⟨?_⟩|refine R0 c2 ⟨?_⟩|refine Rd (fun h=>⟨?_⟩) fun h=>⟨?_⟩|refine Rb ⟨?_⟩|fail
       all_goals first|exact Rf|(exfalso; simp_all <;> omega)
   · have:i=w.leases.length:=by omega
     subst this;rw [dV] at ha;rw [ha];repeat' first|refine Rx ⟨?_⟩|refine Rd (fun h=>⟨?_⟩) fun h=>⟨?_⟩|fail
     exact Rf
theorem Cj (v:List Ent) (w:Wld) (hb:du w) (hv:v.length≤1073741824) (who:Int) (h:Hld):Con (E m) 164 0 [.agg w.c,.sl (v.map Ent.c),.k .i64 who,.agg h.c] [] (.b (soV v w.clock w.leases who h)) []:=by
 have c1:=dH (m:=m) v h.path hv;have c2:=Bg (m:=m) w who h.path hb.ll;by_cases hc:w.clock < h.til
 · rw [A7 hc];obtain ⟨g,has,g1,g2,g3⟩:∃ (g:Ent) (has:Bool),nv (am v h.path)=.tup [.agg g.c,.b has]∧(am v h.path).isSome=has∧(am v h.path).getD eZ=g:=by
    cases hg:am v h.path with
    | none=>exact ⟨eZ,false,rfl,rfl,rfl⟩
    | some g=>exact ⟨g,true,rfl,rfl,rfl⟩
   rw [g1] at c1;have hsn:gw v h=(decide (has=h.has) && decide (g=h.ent)):=by rw [gw,g2,g3]
   obtain ⟨l,ok,k1,k2⟩:∃ (l:Lse) (ok:Bool),lsD (dw w.leases who h.path)=.tup [.agg l.c,.b ok]∧l5 w.clock w.leases who h=(ok && (decide (w.clock < l.til) && decide (h.num≤l.num) && decide (h.til≤l.til))):=by
    unfold l5;cases hg:dw w.leases who h.path with
    | none=>exact ⟨⟨0,[],0,0⟩,false,rfl,rfl⟩
    | some l=>exact ⟨l,true,rfl,by simp⟩
   rw [k1] at c2;rw [hsn,k2];have e3:ee g h.ent=decide (g=h.ent):=by
    by_cases q:g=h.ent
    · rw [decide_eq_true q,q]; exact EX _
    · rw [decide_eq_false q]; exact EY q
   have e4:(has == h.has)=decide (has=h.has):=by
    by_cases q:has=h.has
    · rw [decide_eq_true q,q]; simp
    · rw [decide_eq_false q]; simpa using q
   by_cases q1:has=h.has
   · rw [decide_eq_true q1] at e4 ⊢;by_cases q2:g=h.ent
     · rw [decide_eq_true q2] at e3 ⊢;cases ok with
       | true=>
         refine G0 Tryz.func164 ?_;repeat' first|refine Ra ⟨?_⟩|refine R0 c1 ⟨?_⟩|refine R0 c2 ⟨?_⟩|refine Rd (fun h=>⟨?_⟩) fun h=>⟨?_⟩|refine Rb ⟨?_⟩|fail
         all_goals exact Rf
       | false=>
         refine G0 Tryz.func164 ?_;repeat' first|refine Ra ⟨?_⟩|refine R0 c1 ⟨?_⟩|refine R0 c2 ⟨?_⟩|refine Rd (fun h=>⟨?_⟩) fun h=>⟨?_⟩|refine Rb ⟨?_⟩|fail
         all_goals exact Rf
     · rw [decide_eq_false q2] at e3 ⊢;refine G0 Tryz.func164 ?_;repeat' first|refine Ra ⟨?_⟩|refine R0 c1 ⟨?_⟩|refine R0 c2 ⟨?_⟩|refine Rd (fun h=>⟨?_⟩) fun h=>⟨?_⟩|refine Rb ⟨?_⟩|fail
       all_goals exact Rf
   · rw [decide_eq_false q1] at e4 ⊢;refine G0 Tryz.func164 ?_;repeat' first|refine Ra ⟨?_⟩|refine R0 c1 ⟨?_⟩|refine R0 c2 ⟨?_⟩|refine Rd (fun h=>⟨?_⟩) fun h=>⟨?_⟩|refine Rb ⟨?_⟩|fail
     all_goals exact Rf
 · rw [xu hc];refine G0 Tryz.func164 ?_;repeat' first|refine Rx ⟨?_⟩|refine Rd (fun h=>⟨?_⟩) fun h=>⟨?_⟩|fail
   exact Rf
end Go.Proofs.YtlicaibhgcenhaaGreatDoor
