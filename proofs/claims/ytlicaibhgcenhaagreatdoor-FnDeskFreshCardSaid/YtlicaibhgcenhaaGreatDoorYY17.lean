/- Texts of this claim, set close: lemmas and contracts. -/
import Derived.Test.YtlicaibhgcenhaaGreatDoorYY16
import Derived.Lib.FieldsP
import Derived.Lib.SpaceUEq
import Derived.Shelf.Strings.Builder1
import Derived.Shelf.Strings.Builder2
import Derived.Shelf.Strings.OnBuilder
import Derived.Shelf.Small.Bits
import Derived.Shelf.Small.Wraps
import Derived.Shelf.Strings.BuilderF
import Derived.Shelf.Strings.BuilderK
import Derived.Shelf.Utf8.RuneCount
import Derived.Shelf.Strconv.Itoa0
import Derived.Shelf.Strconv.Itoa1
import Derived.Shelf.LaysM
import Derived.Shelf.Strconv.Itoa2
import Derived.Shelf.Strconv.Itoa3
import Derived.Shelf.Strings.Search1
import Derived.Shelf.Strings.Search2
import Derived.Shelf.Strings.Search3
import Derived.Shelf.Strings.Count
import Derived.Shelf.Strings.Shaped
import Derived.Shelf.Strings.Prefix
import Derived.Shelf.Strings.Split
import Derived.Shelf.Strings.SplitShaped
import Derived.Shelf.Unicode.Decode
import Derived.Shelf.Strings.RuneCount
import Derived.Shelf.Strings.Explode
import Derived.Shelf.Unicode.DecodeSlow
import Derived.Shelf.Unicode.DecodeAny
import Derived.Shelf.Strings.FieldsFuncAny
import Derived.Shelf.Strings.FieldsFuncGrows
import Derived.Test.YtlicaibhgcenhaaGreatDoorYY5
import Derived.Test.YtlicaibhgcenhaaGreatDoorYY7
import Derived.Test.YtlicaibhgcenhaaGreatDoorYY12
import Derived.Test.YtlicaibhgcenhaaGreatDoorYY9
set_option linter.unusedSimpArgs false
set_option linter.unusedVariables false
set_option maxHeartbeats 1000000
set_option maxRecDepth 10000
namespace Go.Proofs.YtlicaibhgcenhaaGreatDoor
open Go Go.RowKit Go.Ab Go.Par
variable {m:Int}
def Gl (o:Option Int):D:=.tup [.k .i64 (o.getD 0),.b o.isSome]
theorem zx (s:Bs):(qb s).length≤s.length:=by
 unfold qb;split
 · simp
 · exact zAM _
theorem eV {neg:Bool} {d:Bs} (h:d=[]∨17 < d.length∨(d.head?=some 48∧(neg=true∨1 < d.length))∨d.all dR=false):Co neg d=none:=if_pos h
theorem tH {neg:Bool} {d:Bs} (h1:d≠[]) (h2:d.length≤17) (h3:¬ (d.head?=some 48∧(neg=true∨1 < d.length))) (h4:d.all dR=true):Co neg d=some (if neg then 0 - qa d else qa d):=by
 unfold Co;rw [if_neg];rintro (h|h|h|h)
 · exact h1 h
 · omega
 · exact h3 h
 · rw [h4] at h; cases h
theorem Bv (s:Bs) (hs:s.length≤1073741823):Con (E m) 207 0 [.s s,.s [45]] [] (.tup [.s (qb s),.b (pf s)]) []:=by
 have c1:=jn (m:=m) s [45] (by omega) (by decide);have hx:ge s [45]=pf s:=by
  unfold ge pf
  match s with
  | []=>rfl
  | c :: r=>simp
 rw [hx] at c1;have c2:Con (E m) 261 0 [.s s,.s [45]] [] (.tup [.s (qb s),.b (pf s)]) []:=by
  unfold qb;cases hn:pf s with
  | false=>
    rw [hn] at c1;simp only [zAE,if_false];refine G0 Tryz.func261 ?_;repeat' first|refine Ra ⟨?_⟩|refine R0 c1 ⟨?_⟩|refine Rd (fun h=>⟨?_⟩) fun h=>⟨?_⟩|refine Rb ⟨?_⟩|fail
    exact Rf
  | true=>
    rw [hn] at c1;simp only [if_true];have hl:1≤s.length:=by
     match s,hn with
     | c :: r,_=>simp
    have e:s.drop 1=(s.take s.length).drop 1:=by rw [zAN]
    rw [e];refine G0 Tryz.func261 ?_;repeat' first|refine Ra ⟨?_⟩|refine R0 c1 ⟨?_⟩|(refine ⟨1,rfl,hl,zAM _,?_⟩ <;> conv=>whnf)|refine Rd (fun h=>⟨?_⟩) fun h=>⟨?_⟩|refine Rb ⟨?_⟩|fail
    exact Rf
 refine G0 Tryz.func207 ?_;repeat' first|refine Ra ⟨?_⟩|refine R0 c2 ⟨?_⟩|refine Rd (fun h=>⟨?_⟩) fun h=>⟨?_⟩|refine Rb ⟨?_⟩|fail
 exact Rf
theorem tI (s:Bs) (hs:s.length≤1073741823):Con (E m) 141 0 [.s s] [] (Gl (cA s)) []:=by
 have c1:=Bv (m:=m) s hs;have hdl:=zx s;unfold cA;generalize qb s=d at c1 hdl;generalize pf s=neg at c1
 match d with
 | []=>
   rw [eV (.inl rfl)];refine G0 Tryz.func141 ?_;repeat' first|refine Ra ⟨?_⟩|refine R0 c1 ⟨?_⟩|refine Rd (fun h=>⟨?_⟩) fun h=>⟨?_⟩|refine Rb ⟨?_⟩|fail
   exact Rf
 | c :: r=>
   by_cases h17:17 < (c :: r).length
   · rw [eV (.inr (.inl h17))];refine G0 Tryz.func141 ?_;repeat' first|refine Ra ⟨?_⟩|refine R0 c1 ⟨?_⟩|(refine bf (by simp) ?_ <;> conv=>whnf)|(refine bt (by omega) ?_ <;> conv=>whnf)|refine Rd (fun h=>⟨?_⟩) fun h=>⟨?_⟩|refine Rb ⟨?_⟩|fail
     exact Rf
   · by_cases h0:c=48∧(neg=true∨1 < (c :: r).length)
     · rw [eV (.inr (.inr (.inl ⟨by simp [h0.1],h0.2⟩)))];obtain ⟨rfl,h1⟩:=h0;cases neg with
       | true=>
         refine G0 Tryz.func141 ?_;repeat' first|refine Ra ⟨?_⟩|refine R0 c1 ⟨?_⟩|(refine bf (by simp) ?_ <;> conv=>whnf)|(refine bf (by omega) ?_ <;> conv=>whnf)|refine Rd (fun h=>⟨?_⟩) fun h=>⟨?_⟩|refine Rb ⟨?_⟩|fail
         exact Rf
       | false=>
         have h1:1 < ((48 :: r:Bs).length):=h1.resolve_left (by simp);refine G0 Tryz.func141 ?_;repeat' first|refine Ra ⟨?_⟩|refine R0 c1 ⟨?_⟩|(refine bf (by simp) ?_ <;> conv=>whnf)|(refine bf (by omega) ?_ <;> conv=>whnf)|(refine bt (by omega) ?_ <;> conv=>whnf)|refine Rd (fun h=>⟨?_⟩) fun h=>⟨?_⟩|refine Rb ⟨?_⟩|fail
         exact Rf
     · have hne:¬ (c :: r)=[]:=by simp
       have hz:(¬ (c.toNat:Int)=48)∨((c.toNat:Int)=48∧neg=false∧¬ ((c :: r).length:Int) > 1):=by
        by_cases hc:c=48
        · refine .inr ⟨by rw [hc]; rfl,?_⟩;by_cases hn:neg=true
          · exact absurd ⟨hc,.inl hn⟩ h0
          · exact ⟨by simpa using hn,fun h=>h0 ⟨hc,.inr (by omega)⟩⟩
        · exact .inl fun h=>hc (UInt8.toNat_inj.1 (by show c.toNat=48; omega))
       have h3:¬ ((c :: r).head?=some 48∧(neg=true∨1 < (c :: r).length)):=by simpa using h0
       have hc0:(c :: r)[0]?=some c:=rfl;generalize c :: r=d at *;have hdn:d≠[]:=hne;rcases hz with hz|⟨hz,hn0,hz2⟩
       all_goals
        refine G0 Tryz.func141 ?_;repeat' first|refine Ra ⟨?_⟩|refine R0 c1 ⟨?_⟩|(refine bf hne ?_ <;> conv=>whnf)|(refine bf hz ?_ <;> conv=>whnf)|(refine bt hz ?_ <;> conv=>whnf)|(refine bF hn0 ?_ <;> conv=>whnf)|(refine bf hz2 ?_ <;> conv=>whnf)|(refine ⟨0,c,rfl,hc0,?_⟩ <;> conv=>whnf)|refine Rd (fun h=>⟨?_⟩) fun h=>⟨?_⟩|refine Rb ⟨?_⟩|fail
        refine Cd.loop2 (fun mq tm S nx=>∃ (i:Nat),mq=(d.length - i)∧tm=[(4,.s d),(5,.b neg),(6,.k .i64 (qa (d.take i))),(7,.k .i64 i)]∧S=[]∧nx=0∧(i≤d.length)∧((d.take i).all dR=true)) ?_ ?_
        · refine la [4,5,6,7] ?_
          conv=>whnf
          refine ⟨rfl,rfl,_,0,rfl,rfl,rfl,rfl,zAG _,rfl⟩
        · rintro mq tm S nx ⟨i,hn,rfl,rfl,rfl,hi,ha⟩;have hb:=zl (l:=d.take i) (by rw [zAW]; omega) ha;rcases au d i hi with ⟨rfl,hd⟩|⟨x,q,hx,hd,hr,hlt⟩
          · rw [zAN] at ha hb ⊢;rw [tH hdn (by omega) h3 ha];rcases Bool.eq_false_or_eq_true neg with hq|hq
            all_goals
             rw [hq];repeat' first|refine Rx ⟨?_⟩|refine Rd (fun h=>⟨?_⟩) fun h=>⟨?_⟩|fail
             exact Rf
          · by_cases hg:dR x=true
            · have hg2:=ko.1 hg;have hs:=dP hx;repeat' first|refine Ra ⟨?_⟩|(refine wb (by omega) ?_ <;> conv=>whnf)|refine Rd (fun h=>⟨?_⟩) fun h=>⟨?_⟩|refine Rb ⟨?_⟩|fail
              refine .here ⟨mq - 1,by omega,?_⟩;refine la [4,5,6,7] ?_
              conv=>whnf
              refine ⟨rfl,rfl,i+1,(by omega),?_,rfl,rfl,by omega,(by rw [hs,List.all_append,ha]; simp [hg])⟩;rw [hs,qc];rfl
            · have hf:d.all dR=false:=cr hx (by simpa using hg);have hg2:x.toNat < 48∨57 < x.toNat:=by
               have:=mt ko.2 hg
               omega
              rw [eV (.inr (.inr (.inr hf)))];rcases hg2 with hg2|hg2
              all_goals
               repeat' first|refine Rx ⟨?_⟩|refine Rd (fun h=>⟨?_⟩) fun h=>⟨?_⟩|fail
               exact Rf
theorem Fm (s:Bs) (hs:s.length≤1073741823):Con (E m) 69 0 [.s s] [] (Gl (cA s)) []:=by
 have hdl:=zx s;unfold cA;refine G0 Tryz.func69 ?_;refine Cd.seqS ?_;repeat' first|refine Rx ⟨?_⟩|refine Rd (fun h=>⟨?_⟩) fun h=>⟨?_⟩|fail
 all_goals (try refine Stop.here ?_)
 refine Cd.cut (fun tm S nx=>tm=[(0,.s s),(4,.b (pf s))]∧S=[]∧nx=0) ?_ ?_
 · match s with
   | []=>
     repeat' first|refine Rx ⟨?_⟩|refine Rd (fun h=>⟨?_⟩) fun h=>⟨?_⟩|fail
     refine ss.here (la [0,4] ?_)
     conv=>whnf
     refine ⟨rfl,rfl,rfl,rfl,rfl⟩
   | c :: r=>
     have hc:(c :: r)[0]?=some c:=rfl;have hl:((c :: r).length:Int) > 0:=by simp only [List.length_cons]; omega
     have hn:pf (c :: r)=decide ((c.toNat:Int)=45):=by
      rw [zAI];simp only [pf,List.head?_cons,zAZ,decide_eq_true_eq];exact ⟨fun h=>by rw [h]; rfl,fun h=>UInt8.toNat_inj.1 (by show c.toNat=45; omega)⟩
     rw [hn];repeat' first|refine Ra ⟨?_⟩|(refine bt hl ?_ <;> conv=>whnf)|(refine ⟨0,c,rfl,hc,?_⟩ <;> conv=>whnf)|refine Rd (fun h=>⟨?_⟩) fun h=>⟨?_⟩|refine Rb ⟨?_⟩|fail
     refine ss.here (la [0,4] ?_)
     conv=>whnf
     refine ⟨rfl,rfl,rfl,rfl,rfl⟩
 rintro tm S nx ⟨rfl,rfl,rfl⟩;refine Cd.cut (fun tm S nx=>tm=[(0,.s (qb s)),(4,.b (pf s))]∧S=[]∧nx=0) ?_ ?_
 · cases hn:pf s with
   | true=>
     have hl:1≤s.length:=by
      match s,hn with
      | c :: r,_=>simp
     have e:qb s=(s.take s.length).drop 1:=by simp [qb,hn]
     rw [e];repeat' first|refine Ra ⟨?_⟩|(refine ⟨1,rfl,hl,zAM _,?_⟩ <;> conv=>whnf)|refine Rd (fun h=>⟨?_⟩) fun h=>⟨?_⟩|refine Rb ⟨?_⟩|fail
     refine ss.here (la [0,4] ?_)
     conv=>whnf
     refine ⟨rfl,rfl,rfl,rfl,rfl⟩
   | false=>
     have e:qb s=s:=by simp [qb,hn]
     rw [e];repeat' first|refine Rx ⟨?_⟩|refine Rd (fun h=>⟨?_⟩) fun h=>⟨?_⟩|fail
     refine ss.here (la [0,4] ?_)
     conv=>whnf
     refine ⟨rfl,rfl,rfl,rfl,rfl⟩
 rintro tm S nx ⟨rfl,rfl,rfl⟩;generalize qb s=d at hdl ⊢;generalize pf s=neg
 match d with
 | []=>
   rw [eV (.inl rfl)];repeat' first|refine Rx ⟨?_⟩|refine Rd (fun h=>⟨?_⟩) fun h=>⟨?_⟩|fail
   exact Rf
 | c :: r=>
   have hne:¬ ((c :: r).length:Int)=0:=by simp; omega
   have hc0:(c :: r)[0]?=some c:=rfl;by_cases h17:17 < (c :: r).length
   · rw [eV (.inr (.inl h17))];repeat' first|refine Ra ⟨?_⟩|(refine bf hne ?_ <;> conv=>whnf)|(refine bt (by omega) ?_ <;> conv=>whnf)|refine Rd (fun h=>⟨?_⟩) fun h=>⟨?_⟩|refine Rb ⟨?_⟩|fail
     exact Rf
   · by_cases h0:c=48∧(neg=true∨1 < (c :: r).length)
     · rw [eV (.inr (.inr (.inl ⟨by simp [h0.1],h0.2⟩)))];obtain ⟨rfl,h1⟩:=h0;by_cases h2:1 < (48 :: r:Bs).length
       · repeat' first|refine Ra ⟨?_⟩|(refine bf hne ?_ <;> conv=>whnf)|(refine bf (by omega) ?_ <;> conv=>whnf)|(refine bt (by omega) ?_ <;> conv=>whnf)|(refine ⟨0,48,rfl,rfl,?_⟩ <;> conv=>whnf)|refine Rd (fun h=>⟨?_⟩) fun h=>⟨?_⟩|refine Rb ⟨?_⟩|fail
         exact Rf
       · have h1:neg=true:=h1.resolve_right h2;subst h1;repeat' first|refine Ra ⟨?_⟩|(refine bf hne ?_ <;> conv=>whnf)|(refine bf (by omega) ?_ <;> conv=>whnf)|(refine ⟨0,48,rfl,rfl,?_⟩ <;> conv=>whnf)|refine Rd (fun h=>⟨?_⟩) fun h=>⟨?_⟩|refine Rb ⟨?_⟩|fail
         exact Rf
     · have hz:(¬ (c.toNat:Int)=48)∨((c.toNat:Int)=48∧neg=false∧¬ ((c :: r).length:Int) > 1):=by
         by_cases hc:c=48
         · refine .inr ⟨by rw [hc]; rfl,?_⟩;by_cases hn:neg=true
           · exact absurd ⟨hc,.inl hn⟩ h0
           · exact ⟨by simpa using hn,fun h=>h0 ⟨hc,.inr (by omega)⟩⟩
         · exact .inl fun h=>hc (UInt8.toNat_inj.1 (by show c.toNat=48; omega))
       have h3:¬ ((c :: r).head?=some 48∧(neg=true∨1 < (c :: r).length)):=by simpa using h0
       have hdn:c :: r≠[]:=by simp
       generalize c :: r=d at *;rcases hz with hz|⟨hz,hn0,hz2⟩
       all_goals
        repeat' first|refine Ra ⟨?_⟩|(refine bf hne ?_ <;> conv=>whnf)|(refine bf hz ?_ <;> conv=>whnf)|(refine bt hz ?_ <;> conv=>whnf)|(refine bF hn0 ?_ <;> conv=>whnf)|(refine bf hz2 ?_ <;> conv=>whnf)|(refine ⟨0,c,rfl,hc0,?_⟩ <;> conv=>whnf)|refine Rd (fun h=>⟨?_⟩) fun h=>⟨?_⟩|refine Rb ⟨?_⟩|fail
        refine Cd.loop2 (fun mq tm S nx=>∃ (i:Nat),mq=(d.length - i)∧tm=[(0,.s d),(4,.b neg),(5,.k .i64 (qa (d.take i))),(6,.k .i64 i)]∧S=[]∧nx=0∧(i≤d.length)∧((d.take i).all dR=true)) ?_ ?_
        · refine la [0,4,5,6] ?_
          conv=>whnf
          refine ⟨rfl,rfl,_,0,rfl,rfl,rfl,rfl,zAG _,rfl⟩
        · rintro mq tm S nx ⟨i,hn,rfl,rfl,rfl,hi,ha⟩;have hb:=zl (l:=d.take i) (by rw [zAW]; omega) ha;rcases au d i hi with ⟨rfl,hd⟩|⟨x,q,hx,hd,hr,hlt⟩
          · rw [zAN] at ha hb ⊢;rw [tH hdn (by omega) h3 ha];rcases Bool.eq_false_or_eq_true neg with hq|hq
            all_goals
             rw [hq];repeat' first|refine Rx ⟨?_⟩|refine Rd (fun h=>⟨?_⟩) fun h=>⟨?_⟩|fail
             exact Rf
          · by_cases hg:dR x=true
            · have hg2:=ko.1 hg;have hs:=dP hx;repeat' first|refine Ra ⟨?_⟩|(refine wb (by omega) ?_ <;> conv=>whnf)|refine Rd (fun h=>⟨?_⟩) fun h=>⟨?_⟩|refine Rb ⟨?_⟩|fail
              refine .here ⟨mq - 1,by omega,?_⟩;refine la [0,4,5,6] ?_
              conv=>whnf
              refine ⟨rfl,rfl,i+1,(by omega),?_,rfl,rfl,by omega,(by rw [hs,List.all_append,ha]; simp [hg])⟩;rw [hs,qc];rfl
            · have hf:d.all dR=false:=cr hx (by simpa using hg);have hg2:x.toNat < 48∨57 < x.toNat:=by
               have:=mt ko.2 hg
               omega
              rw [eV (.inr (.inr (.inr hf)))];rcases hg2 with hg2|hg2
              all_goals
               repeat' first|refine Rx ⟨?_⟩|refine Rd (fun h=>⟨?_⟩) fun h=>⟨?_⟩|fail
               exact Rf
theorem tJ (n:Nat) (hn:n < 100):Con (E m) 79 0 [.k .i64 n] [] (.s (gR n)) []:=by
 have hu:∀ k:Nat,k < 10→((UInt8.ofNat (48+k)).toNat:Int)=48+(k:Int):=fun k hk=>by
  have:(UInt8.ofNat (48+k)).toNat=(48+k) % 256:=by simp
  omega
 have hby:∀ k:Nat,k < 10→[[D.k .u8 (48+(k:Int))]]=aA [UInt8.ofNat (48+k)]:=fun k hk=>by simp only [aA,List.map_cons,List.map_nil,hu k hk]
 refine G0 Tryz.func79 ?_;repeat' first|refine Rx ⟨?_⟩|refine Rd (fun h=>⟨?_⟩) fun h=>⟨?_⟩|fail
 refine Cd.loop2 (fun mq tm S nx=>∃ (k:Nat) (out:Bs),mq=(k)∧tm=[(0,.k .i64 k),(3,.s out)]∧S=[]∧nx=0∧((k=n∧out=[])∨(10≤n∧k=n / 10∧out=[UInt8.ofNat (48+n % 10)]))) ?_ ?_
 · refine la [0,3] ?_
   conv=>whnf
   refine ⟨rfl,rfl,_,n,[],rfl,rfl,rfl,rfl,.inl ⟨rfl,rfl⟩⟩
 · rintro mq tm S nx ⟨k,out,hn,rfl,rfl,rfl,hk⟩;by_cases h9:k≤9
   · have hx:gR n=[UInt8.ofNat (48+k)]++out:=by
       unfold gR;rcases hk with ⟨rfl,rfl⟩|⟨h1,rfl,rfl⟩
       · rw [if_pos (by omega)]; rfl
       · rw [if_neg (by omega)]; rfl
     have hol:out.length≤1:=by
      rcases hk with ⟨_,rfl⟩|⟨_,_,rfl⟩ <;> simp
     rw [hx];repeat' first|refine Ra ⟨?_⟩|(refine wb (by omega) ?_ <;> conv=>whnf)|(refine ⟨_,hby k (by omega),by simp [fm],?_⟩ <;> conv=>whnf)|refine Rd (fun h=>⟨?_⟩) fun h=>⟨?_⟩|refine Rb ⟨?_⟩|fail
     exact Rf
   · obtain ⟨rfl,rfl⟩:k=n∧out=[]:=by
       rcases hk with h|⟨h1,rfl,_⟩
       · exact h
       · omega
     have e1:(k:Int) % 10=((k % 10:Nat):Int):=by omega
     have e2:(k:Int) / 10=((k / 10:Nat):Int):=by omega
     repeat' first|refine Ra ⟨?_⟩|((refine wr (by omega) (by omega) ?_; rw [e1]) <;> conv=>whnf)|((refine wq (by omega) (by omega) ?_; rw [e2]) <;> conv=>whnf)|(refine wb (by omega) ?_ <;> conv=>whnf)|(refine ⟨_,hby (k % 10) (by omega),by simp [fm],?_⟩ <;> conv=>whnf)|refine Rd (fun h=>⟨?_⟩) fun h=>⟨?_⟩|refine Rb ⟨?_⟩|fail
     refine .here ⟨k / 10,by omega,?_⟩;refine la [0,3] ?_
     conv=>whnf
     refine ⟨rfl,rfl,k / 10,_,rfl,rfl,rfl,rfl,.inr ⟨by omega,rfl,rfl⟩⟩
theorem zy (s:Bs) (hs:s.length≤1073741823):Con (E m) 23 0 [.s s] [] (.own 0) [(0,.own 9 ((bH s).map fun l=>[.s l]))]:=by
 have c1:=sH (m:=m) s 32 (by omega);have hcl:=kH 32 s;have e1:((cut 32 s).map fun l=>[D.s l]).length=(cut 32 s).length:=zAA ..;unfold bH;generalize cut 32 s=L at c1 hcl e1;refine G0 Tryz.func23 ?_;repeat' first|refine Ra ⟨?_⟩|refine Rk [] 1 c1 ⟨?_⟩|refine Rd (fun h=>⟨?_⟩) fun h=>⟨?_⟩|refine Rb ⟨?_⟩|fail
 refine Cd.loop2 (fun mq tm S nx=>∃ (i:Nat) (xs:List Bs),mq=(L.length - i)∧tm=[(3,.own 0),(4,.own 1),(5,.k .i64 i)]∧S=[(0,.own 9 (L.map fun l=>[.s l])),(1,.own 9 (xs.map fun l=>[.s l]))]∧nx=2∧(i≤L.length)∧(xs=(L.take i).filter fun l=>!decide (l=[]))) ?_ ?_
 · refine la [3,4,5] ?_
   conv=>whnf
   refine ⟨rfl,rfl,_,0,[],rfl,rfl,rfl,rfl,zAG _,rfl⟩
 · rintro mq tm S nx ⟨i,xs,hn,rfl,rfl,rfl,hi,hx⟩;have hxl:xs.length≤i:=by rw [hx]; refine zAo (zAV _ _) ?_; rw [zAW]; omega
   have e2:(xs.map fun l=>[D.s l]).length=xs.length:=zAA ..;rcases au L i hi with ⟨rfl,hd⟩|⟨x,r,hx',hd,hr,hlt⟩
   · rw [zAN] at hx;rw [← hx];repeat' first|refine Rx ⟨?_⟩|refine Rd (fun h=>⟨?_⟩) fun h=>⟨?_⟩|fail
     exact Rf
   · have hst:=dP hx';by_cases hn:x=[]
     · repeat' first|refine Rx ⟨?_⟩|refine Rd (fun h=>⟨?_⟩) fun h=>⟨?_⟩|fail
       refine .here ⟨mq - 1,by omega,?_⟩;refine la [3,4,5] ?_
       conv=>whnf
       refine ⟨rfl,rfl,i+1,xs,(by omega),rfl,rfl,rfl,by omega,(by rw [hst,zAg,← hx]; simp [hn])⟩
     · repeat' first|refine Rx ⟨?_⟩|refine Rd (fun h=>⟨?_⟩) fun h=>⟨?_⟩|fail
       refine .here ⟨mq - 1,by omega,?_⟩;refine la [3,4,5] ?_
       conv=>whnf
       refine ⟨rfl,rfl,i+1,xs++[x],(by omega),rfl,?_,rfl,by omega,(by rw [hst,zAg,← hx]; simp [hn])⟩;rw [zAK];rfl
end Go.Proofs.YtlicaibhgcenhaaGreatDoor
namespace Go.Par
open Go.Ab
def fgo (cur:Bs):Bs→List Bs
 | []=>if cur=[] then [] else [cur]
 | b :: r=>if b=32 then (if cur=[] then fgo [] r else cur :: fgo [] r) else fgo (cur++[b]) r
theorem xG:∀ (r cur:Bs),∃ h t,cut 32 r=h :: t∧fgo cur r=((cur++h) :: t).filter fun l=>!decide (l=[])
 | [],cur=>by
   refine ⟨[],[],rfl,?_⟩;by_cases h:cur=[]
   · simp [fgo,h]
   · simp [fgo,h]
 | b :: r,cur=>by
   by_cases hb:b=32
   · subst hb;obtain ⟨h,t,h1,h2⟩:=xG r [];refine ⟨[],h :: t,by rw [cut,if_pos rfl,h1],?_⟩;rw [fgo,if_pos rfl,h2,List.append_nil,zBD];by_cases hc:cur=[]
     · simp [hc]
     · simp [hc]
   · obtain ⟨h,t,h1,h2⟩:=xG r (cur++[b]);refine ⟨b :: h,t,by rw [cut,if_neg hb,h1],?_⟩;rw [fgo,if_neg hb,h2]
     simp
theorem DE (s:Bs):fgo [] s=bH s:=by
 obtain ⟨h,t,h1,h2⟩:=xG s [];rw [h2,bH,h1,zBD]
theorem zz:∀ (k:Nat) (cur l:Bs),k≤l.length→(∀ j,j < k→l[j]?≠some 32)→fgo cur l=fgo (cur++l.take k) (l.drop k)
 | 0,cur,l,_,_=>by simp
 | k+1,cur,[],h,_=>by simp at h
 | k+1,cur,b :: r,h,hz=>by
   have h0:=hz 0 (by omega);have hb:b≠32:=fun e=>h0 (by simp [e]);rw [fgo,if_neg hb,zz k (cur++[b]) r (by simp at h; omega) fun j hj=>by have:=hz (j+1) (by omega); simpa using this]
   simp
theorem xH {l:Bs} {i:Nat} {c:UInt8} (h:l[i]?=some c):l.getD i 0=c:=by simp [List.getD,h]
theorem Hq (l:Bs) (pos:Nat) (h:pos < l.length):(l[pos]?=some 32→Utf8.decode ⟨l.toArray⟩ pos=(32,1)) ∧
   (l[pos]?≠some 32→(Utf8.decode ⟨l.toArray⟩ pos).1≠32∧1≤(Utf8.decode ⟨l.toArray⟩ pos).2∧pos+(Utf8.decode ⟨l.toArray⟩ pos).2≤l.length∧∀ j,pos≤j→j < pos+(Utf8.decode ⟨l.toArray⟩ pos).2→l[j]?≠some 32):=by
 rw [Lib.decode_N];simp only;have hb:l[pos]?=some l[pos]:=zAB h;constructor
 · intro h32;rw [xH h32];exact Lib.decodeN_ascii _ _ _ _ _ (by decide)
 · intro hne;have hne':l[pos]≠32:=fun e=>hne (by rw [hb,e]);have hn0:(l.getD pos 0).toNat≠32:=by
    rw [xH hb];exact fun e=>hne' (UInt8.toNat_inj.1 e)
   have h1:=Lib.decodeN_cases (l.length - pos) (l.getD pos 0).toNat (l.getD (pos+1) 0).toNat (l.getD (pos+2) 0).toNat (l.getD (pos+3) 0).toNat;have h2:=Lib.decodeN_conts (l.length - pos) (l.getD pos 0).toNat (l.getD (pos+1) 0).toNat (l.getD (pos+2) 0).toNat (l.getD (pos+3) 0).toNat;have h3:=Lib.decodeN_ge1 (l.length - pos) (l.getD pos 0).toNat (l.getD (pos+1) 0).toNat (l.getD (pos+2) 0).toNat (l.getD (pos+3) 0).toNat;have h4:=Lib.decodeN_le_n' (l.length - pos) (l.getD pos 0).toNat (l.getD (pos+1) 0).toNat (l.getD (pos+2) 0).toNat (l.getD (pos+3) 0).toNat (by omega);generalize hD:Lib.decodeN (l.length - pos) (l.getD pos 0).toNat (l.getD (pos+1) 0).toNat (l.getD (pos+2) 0).toNat (l.getD (pos+3) 0).toNat=D at h1 h2 h3 h4;refine ⟨?_,h3,by omega,fun j hj1 hj2=>?_⟩
   · rcases h1 with ⟨_,e⟩|⟨_,_,_,g,e⟩|⟨_,_,_,_,g,e⟩|⟨g,_⟩|e
     · rw [e]; exact hn0
     · rw [e]; simp only; omega
     · rw [e]; simp only; omega
     · omega
     · rw [e]; simp
   · obtain ⟨c1,c2,c3,c4⟩:=h2;have hx:∀ k,(l.getD k 0).toNat / 64=2→l[k]?≠some 32:=fun k hk e=>by
      rw [xH e] at hk;simp at hk
     obtain rfl|rfl|rfl|rfl:j=pos∨j=pos+1∨j=pos+2∨j=pos+3:=by omega
     · exact hne
     · exact hx _ (c1 (by omega)).1
     · exact hx _ (c2 (by omega)).1
     · exact hx _ (c3 (by omega)).1
def opn (l:Bs) (st:Option Nat) (pos:Nat):Bs:=match st with
 | some a=>(l.take pos).drop a
 | none=>[]
abbrev zA (r:Nat):Bool:=decide (r=32)
theorem Gm {l:Bs} {i:Nat} {c:UInt8} (h:l[i]?=some c):l.drop i=c :: l.drop (i+1):=by
 obtain ⟨hi,rfl⟩:=List.getElem?_eq_some_iff.1 h;exact List.drop_eq_getElem_cons hi
theorem tK (l:Bs) (a pos k:Nat) (ha:a≤pos) (hp:pos+k≤l.length):(l.take pos).drop a++(l.drop pos).take k=(l.take (pos+k)).drop a:=by
 rw [List.take_add];rw [List.drop_append_of_le_length (by rw [zAW]; omega)]
theorem md (l:Bs):∀ (f pos:Nat) (st:Option Nat) (acc:List (Nat × Nat)),l.length≤pos+f→pos≤l.length→(∀ a,st=some a→a < pos) →
   (Lib.closeSpans ⟨l.toArray⟩ (Lib.spansFromP zA ⟨l.toArray⟩ f pos st acc)).map (fun x=>(l.take x.2).drop x.1)=acc.map (fun x=>(l.take x.2).drop x.1)++fgo (opn l st pos) (l.drop pos)
 | f,pos,st,acc,hf,hp,hs=>by
   have hsz:(⟨l.toArray⟩:ByteArray).size=l.length:=by simp [ByteArray.size]
   by_cases hlt:pos < l.length
   · obtain ⟨g,rfl⟩:∃ g,f=g+1:=⟨f - 1,by omega⟩;obtain ⟨d1,d2⟩:=Hq l pos hlt;have hb:l[pos]?=some l[pos]:=zAB hlt;unfold Lib.spansFromP;rw [hsz,if_pos hlt];by_cases h32:l[pos]?=some 32
     · have hd:=Gm h32;rw [d1 h32];simp only [zA,decide_true,if_true];cases st with
       | some a=>
         simp only;have ha:=hs a rfl;rw [md l g (pos+1) none _ (by omega) (by omega) (fun a h=>by cases h)];have hne:(l.take pos).drop a≠[]:=by
          intro e
          have:=congrArg List.length e
          simp at this;omega
         rw [hd,fgo,if_pos rfl,if_neg (show ¬ opn l (some a) pos=[] from hne)]
         simp only [opn,zAK,List.map_cons,List.map_nil,zAi,List.singleton_append]
       | none=>
         simp only;rw [md l g (pos+1) none _ (by omega) (by omega) (fun a h=>by cases h)];rw [hd,fgo,if_pos rfl,if_pos (show opn l none pos=[] from rfl)]
         rfl
     · obtain ⟨e1,e2,e3,e4⟩:=d2 h32;generalize Utf8.decode ⟨l.toArray⟩ pos=D at e1 e2 e3 e4;simp only [zA,e1,decide_false,zAE,if_false];have hsk:=fun cur=>zz D.2 cur (l.drop pos) (by rw [zBB]; omega) fun j hj=>by
        rw [zAj];exact e4 _ (by omega) (by omega)
       cases st with
       | some a=>
         simp only;have ha:=hs a rfl;rw [md l g (pos+D.2) (some a) _ (by omega) (by omega) (fun b h=>by cases h; omega),hsk];simp only [opn,zBZ];rw [tK l a pos D.2 (by omega) e3]
       | none=>
         simp only;rw [md l g (pos+D.2) (some pos) _ (by omega) (by omega) (fun b h=>by cases h; omega),hsk];simp only [opn,zBZ]
         have:=tK l pos pos D.2 (by omega) e3
         rw [← this,zBW (by rw [zAW]; omega)]
   · obtain rfl:pos=l.length:=by omega
     rw [Lib.spansFromP_end _ _ _ _ _ _ (by rw [hsz]; omega)];unfold Lib.closeSpans;cases st with
     | some a=>
       have ha:=hs a rfl;have hne:(l.take l.length).drop a≠[]:=by
        intro e
        have:=congrArg List.length e
        simp at this;omega
       simp only [hsz,zAK,List.map_cons,List.map_nil,List.drop_length,fgo];rw [if_neg (show ¬ opn l (some a) l.length=[] from hne)]
       rfl
     | none=>simp [fgo,opn]
termination_by f=>f
theorem xI (l:Bs) (a b:Nat):((⟨l.toArray⟩:ByteArray).extract a b)=⟨((l.take b).drop a).toArray⟩:=by
 have:((⟨l.toArray⟩:ByteArray).extract a b).data.toList=(l.take b).drop a:=by
  rw [ByteArray.data_extract];simp [Array.toList_extract,zBg,List.drop_take]
 rw [← this]
theorem DF (l:Bs):Lib.goFieldsP zA ⟨l.toArray⟩=(bH l).map fun w=>⟨w.toArray⟩:=by
 have hsz:(⟨l.toArray⟩:ByteArray).size=l.length:=by simp [ByteArray.size]
 have h:=md l l.length 0 none [] (by omega) (by omega) (fun a h=>by cases h);unfold Lib.goFieldsP Lib.spansOfP;rw [hsz];rw [← DE];simp only [List.map_nil,zBD,opn,List.drop_zero] at h;rw [← h,zBi];refine List.map_congr_left fun x _=>?_;exact xI l x.1 x.2
end Go.Par
namespace Go.Proofs
open Go.Shelf
def Tryz.laysM246_ren:Go.Shelf.Ren:=⟨fun|246=>267|283=>302|284=>303|285=>304|286=>305|129=>320|317=>326|318=>327|319=>328|320=>329|337=>338|338=>339|n=>n,fun|2=>2|3=>3|9=>9|4=>4|171=>292|0=>0|53=>293|37=>24|5=>5|173=>296|212=>319|51=>288|20=>20|213=>320|46=>263|232=>340|233=>341|n=>n,fun|17=>4|18=>5|19=>6|n=>n⟩
def Tryz.laysM243_ren:Go.Shelf.Ren:=⟨fun|243=>220|246=>267|283=>302|284=>303|285=>304|286=>305|129=>320|317=>326|318=>327|319=>328|320=>329|337=>338|338=>339|n=>n,fun|3=>3|9=>9|2=>2|4=>4|171=>292|0=>0|53=>293|37=>24|5=>5|173=>296|212=>319|51=>288|20=>20|213=>320|46=>263|232=>340|233=>341|n=>n,fun|17=>4|18=>5|19=>6|n=>n⟩
def Tryz.laysM171_ren:Go.Shelf.Ren:=⟨fun|171=>154|243=>220|246=>267|283=>302|284=>303|285=>304|286=>305|129=>320|317=>326|318=>327|319=>328|320=>329|337=>338|338=>339|n=>n,fun|3=>3|9=>9|2=>2|4=>4|171=>292|0=>0|53=>293|37=>24|5=>5|173=>296|212=>319|51=>288|20=>20|213=>320|46=>263|232=>340|233=>341|n=>n,fun|17=>4|18=>5|19=>6|n=>n⟩
def Tryz.lays171_ren:Go.Shelf.Ren:=⟨fun|171=>154|243=>220|246=>267|283=>302|284=>303|285=>304|286=>305|129=>320|317=>326|318=>327|319=>328|320=>329|337=>338|338=>339|n=>n,fun|3=>3|9=>9|2=>2|4=>4|171=>292|0=>0|53=>293|37=>24|5=>5|173=>296|212=>319|51=>288|20=>20|213=>320|46=>263|232=>340|233=>341|n=>n,fun|17=>4|18=>5|19=>6|n=>n⟩
theorem Tryz.lays171:Go.Proofs.Lays.n171 Tryz.prog Tryz.lays171_ren:={
 mixed:=by kernel_rfl
 f129:=Tryz.func320.trans (congrArg some (by kernel_rfl))
 f171:=Tryz.func154.trans (congrArg some (by kernel_rfl))
 f243:=Tryz.func220.trans (congrArg some (by kernel_rfl))
 f246:=Tryz.func267.trans (congrArg some (by kernel_rfl))
 f283:=Tryz.func302.trans (congrArg some (by kernel_rfl))
 f284:=Tryz.func303.trans (congrArg some (by kernel_rfl))
 f285:=Tryz.func304.trans (congrArg some (by kernel_rfl))
 f286:=Tryz.func305.trans (congrArg some (by kernel_rfl))
 f317:=Tryz.func326.trans (congrArg some (by kernel_rfl))
 f318:=Tryz.func327.trans (congrArg some (by kernel_rfl))
 f319:=Tryz.func328.trans (congrArg some (by kernel_rfl))
 f320:=Tryz.func329.trans (congrArg some (by kernel_rfl))
 f337:=Tryz.func338.trans (congrArg some (by kernel_rfl))
 f338:=Tryz.func339.trans (congrArg some (by kernel_rfl))
 t0:=Tryz.underlying0
 a0:=Tryz.isAgg0
 z0:=Tryz.sizeOf0
 v0:=Tryz.zeroValue0
 t2:=Tryz.underlying2
 a2:=Tryz.isAgg2
 z2:=Tryz.sizeOf2
 v2:=Tryz.zeroValue2
 t3:=Tryz.underlying3
 a3:=Tryz.isAgg3
 z3:=Tryz.sizeOf3
 v3:=Tryz.zeroValue3
 t4:=Tryz.underlying4
 a4:=Tryz.isAgg4
 z4:=Tryz.sizeOf4
 v4:=Tryz.zeroValue4
 t5:=Tryz.underlying5
 a5:=Tryz.isAgg5
 z5:=Tryz.sizeOf5
 v5:=Tryz.zeroValue5
 t9:=Tryz.underlying9
 a9:=Tryz.isAgg9
 z9:=Tryz.sizeOf9
 v9:=Tryz.zeroValue9
 t20:=Tryz.underlying20
 a20:=Tryz.isAgg20
 z20:=Tryz.sizeOf20
 v20:=Tryz.zeroValue20
 t37:=Tryz.underlying24
 a37:=Tryz.isAgg24
 z37:=Tryz.sizeOf24
 v37:=Tryz.zeroValue24
 t46:=Tryz.underlying263
 a46:=Tryz.isAgg263
 z46:=Tryz.sizeOf263
 v46:=Tryz.zeroValue263
 t51:=Tryz.underlying288
 a51:=Tryz.isAgg288
 z51:=Tryz.sizeOf288
 v51:=Tryz.zeroValue288
 t53:=Tryz.underlying293
 a53:=Tryz.isAgg293
 z53:=Tryz.sizeOf293
 v53:=Tryz.zeroValue293
 t171:=Tryz.underlying292
 a171:=Tryz.isAgg292
 z171:=Tryz.sizeOf292
 v171:=Tryz.zeroValue292
 t173:=Tryz.underlying296
 a173:=Tryz.isAgg296
 z173:=Tryz.sizeOf296
 v173:=Tryz.zeroValue296
 t212:=Tryz.underlying319
 a212:=Tryz.isAgg319
 z212:=Tryz.sizeOf319
 v212:=Tryz.zeroValue319
 t213:=Tryz.underlying320
 a213:=Tryz.isAgg320
 z213:=Tryz.sizeOf320
 t232:=Tryz.underlying340
 a232:=Tryz.isAgg340
 z232:=Tryz.sizeOf340
 v232:=Tryz.zeroValue340
 t233:=Tryz.underlying341
 a233:=Tryz.isAgg341
 z233:=Tryz.sizeOf341
 v233:=Tryz.zeroValue341
 g17:=by kernel_rfl
 g18:=by kernel_rfl
 g19:=by kernel_rfl }
open Go.RowKit Go.Sort Go.Lib in
theorem Tryz.strconv_Itoa_small (i:Nat) (hi:i < 100) (w:World) :
 Calls Tryz.prog 154 #[.int .i64 i] w fun e w'=>e=.returned (.string ⟨(Lib.decDigits i).toArray⟩)∧w'=w:=Any.strconv_Itoa_small Tryz.lays171 i hi w
def Tryz.lays229_ren:Go.Shelf.Ren:=⟨fun|229=>27|n=>n,fun|9=>9|40=>70|31=>63|152=>121|3=>3|0=>0|4=>4|21=>21|154=>123|n=>n,fun|n=>n⟩
theorem Tryz.lays229:Go.Proofs.Lays.n229 Tryz.prog Tryz.lays229_ren:={
 mixed:=by kernel_rfl
 f229:=Tryz.func27.trans (congrArg some (by kernel_rfl))
 t0:=Tryz.underlying0
 a0:=Tryz.isAgg0
 z0:=Tryz.sizeOf0
 v0:=Tryz.zeroValue0
 t3:=Tryz.underlying3
 a3:=Tryz.isAgg3
 z3:=Tryz.sizeOf3
 v3:=Tryz.zeroValue3
 t4:=Tryz.underlying4
 a4:=Tryz.isAgg4
 z4:=Tryz.sizeOf4
 v4:=Tryz.zeroValue4
 t9:=Tryz.underlying9
 a9:=Tryz.isAgg9
 z9:=Tryz.sizeOf9
 v9:=Tryz.zeroValue9
 t21:=Tryz.underlying21
 a21:=Tryz.isAgg21
 z21:=Tryz.sizeOf21
 v21:=Tryz.zeroValue21
 t31:=Tryz.underlying63
 a31:=Tryz.isAgg63
 z31:=Tryz.sizeOf63
 v31:=Tryz.zeroValue63
 t40:=Tryz.underlying70
 a40:=Tryz.isAgg70
 z40:=Tryz.sizeOf70
 v40:=Tryz.zeroValue70
 t152:=Tryz.underlying121
 a152:=Tryz.isAgg121
 z152:=Tryz.sizeOf121
 v152:=Tryz.zeroValue121
 t154:=Tryz.underlying123
 a154:=Tryz.isAgg123
 z154:=Tryz.sizeOf123
 v154:=Tryz.zeroValue123 }
open Go.RowKit Go.Lib in
theorem Tryz.strings_FieldsFunc_runes (g:Nat) (lb:Array Value) (eg:∀ args w,(callFunc g args).run Tryz.prog w=.ok (.enter g args) w) (p:Nat→Bool) (s:ByteArray) (w:World) (hs:s.size≤4294967296) (hp:PredAtRunes Tryz.prog g lb p w) :
 Calls Tryz.prog 27 #[.string s,.func (.func g) #[] lb] w fun e w'=>∃ A,e=.returned (.slice (some ⟨A,0,none⟩) (Lib.goFieldsP p s).length (Lib.goFieldsP p s).length)∧w.heap.size≤A ∧
  w'.ownsRow w.heap.size 9 1 (.slice (some ⟨A,0,none⟩) (Lib.goFieldsP p s).length (Lib.goFieldsP p s).length) (Lib.goFieldsP p s).length ((Lib.goFieldsP p s).map Value.string)∧Below w.heap.size w w':=Any.strings_FieldsFunc_runes Tryz.lays229 g lb eg p s w hs hp (by kernel_rfl) (by kernel_rfl)
end Go.Proofs
namespace Go.Proofs.YtlicaibhgcenhaaGreatDoor
open Go Go.RowKit Go.Ab Go.Par
variable {m:Int}
theorem zB (x:Nat) (hx:x≤1114111) (W:World):Calls Tryz.prog 28 #[.int .i32 (x:Int)] W fun e w'=>e=.returned (.bool (zA x))∧∃ q,w'=W.drewN q:=by
 go_enter Tryz.func28,Tryz.ntmps28
 go_wp2
 go_ret
 refine ⟨congrArg Ending.returned (show Value.bool (((x:Nat):Int) == 32)=.bool (zA x) from congrArg Value.bool ?_),0,rfl⟩
 rw [zAI];simp [zA];omega
theorem Bw (s:Bs) (hs:s.length≤1073741823):Con (E m) 27 0 [.s s,.fn 28 []] [] (.sl ((bH s).map fun l=>[.s l])) []:=by
 refine FX ⟨_,Tryz.func27,rfl,rfl⟩ fun w vs Av hAv hM=>?_
 match vs,hM.len,hM with
 | [u0,u1],_,hM=>
   obtain rfl:=(hM.arg 0 _ u0 rfl rfl).s_inv;obtain rfl:=(hM.arg 1 _ u1 rfl rfl).fn_inv;refine (Tryz.strings_FieldsFunc_runes 28 #[] (enters_of Tryz.func28 (by kernel_rfl) rfl) zA ⟨s.toArray⟩ w (by simp [ByteArray.size]; omega) (fun W x hx _=>zB x hx W)).mono fun e w' ⟨A,he,hA,hown,hb⟩=>⟨Fr.of_below hb,_,he,.gr (.atom (.im ?_))⟩;rw [DF] at hown ⊢;rw [zBi] at hown;refine FY ?_ hown fun x hx h=>?_
   · rw [zAA]
   · simp only [aR,zAZ] at hx
     have:=hAv x h
     omega
theorem Ha (n:Nat) (hn:n < 100):Lib.decDigits n=gR n:=by
 have:∀ k:Fin 100,Lib.decDigits k.val=gR k.val:=by decide +kernel
 exact this ⟨n,hn⟩
theorem zC (n:Nat) (hn:n < 100):Con (E m) 154 0 [.k .i64 n] [] (.s (gR n)) []:=by
 refine CV ⟨_,Tryz.func154,rfl,rfl⟩ fun w vs Av hM=>?_
 match vs,hM.len,hM with
 | [u0],_,hM=>
   obtain rfl:=(hM.arg 0 _ u0 rfl rfl).k_inv;refine (Tryz.strconv_Itoa_small n hn w).mono fun e w' ⟨he,hw⟩=>⟨hw,_,he,?_⟩;rw [Ha n hn];exact .gr (.atom (.im (.s _)))
variable {m:Int}
def evD (e:Evn) (b:Bool):D:=.tup [.agg e.c,.b b]
def ev0:Evn:=⟨0,0,[],op0,0⟩
theorem zD {k:Bs} (h:1≤aO k):k=[109,97,107,101]∨k=[112,117,116]∨k=[114,109]∨k=[114,109,100,105,114]∨k=[109,111,118,101]:=by
 have h5:=(pH k).2;have hw:=yx h;rcases Hu h h5 with e|e|e|e|e
 all_goals
  rw [e] at hw;rw [← hw];simp [lQ,opWords]
theorem fZ {k:Bs} (h:1≤fF k):(k=[103,105,118,101]∧fF k=5)∨(k=[108,111,115,101]∧fF k=6)∨(k=[99,111,112,121]∧fF k=7):=by
 unfold fF at h ⊢;repeat' split at h
 · rename_i e; subst e; left; exact ⟨rfl,by decide⟩
 · rename_i e; subst e; right; left; exact ⟨rfl,by decide⟩
 · rename_i e; subst e; right; right; exact ⟨rfl,by decide⟩
 · omega
theorem Fn {k:Bs} (h:¬ 1≤aO k):¬ k=[109,97,107,101]∧¬ k=[112,117,116]∧¬ k=[114,109]∧¬ k=[114,109,100,105,114]∧¬ k=[109,111,118,101]:=by
 refine ⟨?_,?_,?_,?_,?_⟩ <;> (rintro rfl; exact h (by decide))
theorem Cw {k:Bs} (h:¬ 1≤fF k):¬ k=[103,105,118,101]∧¬ k=[108,111,115,101]∧¬ k=[99,111,112,121]:=by
 refine ⟨?_,?_,?_⟩ <;> (rintro rfl; exact h (by decide))
theorem zE (k:Bs) (r:List Bs) (hl:r.length≤1048576) (hb:∀ a∈k :: r,a.length≤1048576):∃ e:Evn,(∀ e',nN k r=some e'→e=e')∧Con (Eo m) 73 0 [.sl ((k :: r).map fun l=>[.s l])] [] (evD e (nN k r).isSome) []:=by
 have hk:=hb k (by simp);have c0:=sY (m:=m) (k :: r) (by simp; omega) fun a ha=>by have:=hb a ha; omega
 unfold nN evD;by_cases h1:1≤aO k
 · simp only [if_pos h1];refine ⟨⟨2,0,[],(aV (k :: r)).getD op0,0⟩,fun e' he=>?_,?_⟩
   · cases ho:aV (k :: r) with
     | none=>rw [ho] at he; cases he
     | some p=>rw [ho] at he; cases he; rfl
   · have ho:opD (aV (k :: r))=.tup [.agg ((aV (k :: r)).getD op0).c,.b (aV (k :: r)).isSome]:=by cases aV (k :: r) <;> rfl
     rw [ho] at c0;rw [Option.isSome_map];generalize (aV (k :: r)).isSome=b at c0 ⊢;generalize (aV (k :: r)).getD op0=p at c0 ⊢;rcases zD h1 with rfl|rfl|rfl|rfl|rfl
     all_goals
      refine G1 Tryz.func73 ?_;repeat' first|refine Ra ⟨?_⟩|refine R0 c0 ⟨?_⟩|refine Rd (fun h=>⟨?_⟩) fun h=>⟨?_⟩|refine Rb ⟨?_⟩|fail
      exact Rf
 · rw [if_neg h1];obtain ⟨n1,n2,n3,n4,n5⟩:=Fn h1;by_cases ka:k=[97,115,107]
   · simp only [if_pos ka];subst ka
     match r,hl,hb with
     | [],_,_=>
       refine ⟨ev0,nofun,?_⟩;refine G1 Tryz.func73 ?_;repeat' first|refine Rx ⟨?_⟩|refine Rd (fun h=>⟨?_⟩) fun h=>⟨?_⟩|fail
       exact Rf
     | [a],_,_=>
       refine ⟨ev0,nofun,?_⟩;refine G1 Tryz.func73 ?_;repeat' first|refine Rx ⟨?_⟩|refine Rd (fun h=>⟨?_⟩) fun h=>⟨?_⟩|fail
       exact Rf
     | [a,b],_,hb=>
       have c1:=ir (tI (m:=m) a (by have:=hb a (by simp); omega));refine ⟨⟨1,(cA a).getD 0,b,op0,0⟩,fun e' he=>?_,?_⟩
       · cases ho:cA a with
         | none=>simp [ho] at he
         | some p=>simpa [ho] using he
       · simp only [Option.isSome_map];unfold Gl at c1;generalize (cA a).isSome=q at c1 ⊢;generalize (cA a).getD 0=p at c1 ⊢;refine G1 Tryz.func73 ?_;repeat' first|refine Ra ⟨?_⟩|refine R0 c1 ⟨?_⟩|(refine ⟨1,_,rfl,rfl,rfl,?_⟩ <;> conv=>whnf)|(refine ⟨2,_,rfl,rfl,rfl,?_⟩ <;> conv=>whnf)|refine Rd (fun h=>⟨?_⟩) fun h=>⟨?_⟩|refine Rb ⟨?_⟩|fail
         exact Rf
     | a :: b :: c :: q,_,_=>
       refine ⟨ev0,nofun,?_⟩;refine G1 Tryz.func73 ?_;repeat' first|refine Rx ⟨?_⟩|refine Rd (fun h=>⟨?_⟩) fun h=>⟨?_⟩|fail
       exact Rf
   · rw [if_neg ka];by_cases kt:k=[116,114,121]
     · simp only [if_pos kt];subst kt;cases r with
       | nil=>
         refine ⟨evT 3,(fun e' he=>by cases he; rfl),?_⟩;refine G1 Tryz.func73 ?_;repeat' first|refine Rx ⟨?_⟩|refine Rd (fun h=>⟨?_⟩) fun h=>⟨?_⟩|fail
         exact Rf
       | cons a r=>
         refine ⟨evT 3,nofun,?_⟩;refine G1 Tryz.func73 ?_;repeat' first|refine Rx ⟨?_⟩|refine Rd (fun h=>⟨?_⟩) fun h=>⟨?_⟩|fail
         refine Rg ⟨?_⟩
         (simp [evT,Evn.c] <;> omega)
     · rw [if_neg kt];by_cases kk:k=[116,105,99,107]
       · simp only [if_pos kk];subst kk;cases r with
         | nil=>
           refine ⟨evT 4,(fun e' he=>by cases he; rfl),?_⟩;refine G1 Tryz.func73 ?_;repeat' first|refine Rx ⟨?_⟩|refine Rd (fun h=>⟨?_⟩) fun h=>⟨?_⟩|fail
           exact Rf
         | cons a r=>
           refine ⟨evT 4,nofun,?_⟩;refine G1 Tryz.func73 ?_;repeat' first|refine Rx ⟨?_⟩|refine Rd (fun h=>⟨?_⟩) fun h=>⟨?_⟩|fail
           refine Rg ⟨?_⟩
           (simp [evT,Evn.c] <;> omega)
       · rw [if_neg kk];by_cases kg:1≤fF k
         · simp only [if_pos kg]
           match r,hl,hb with
           | [],_,_=>
             refine ⟨ev0,nofun,?_⟩;rcases fZ kg with ⟨rfl,_⟩|⟨rfl,_⟩|⟨rfl,_⟩
             all_goals
              refine G1 Tryz.func73 ?_;repeat' first|refine Rx ⟨?_⟩|refine Rd (fun h=>⟨?_⟩) fun h=>⟨?_⟩|fail
              exact Rf
           | [a],_,hb=>
             have c1:=ir (tI (m:=m) a (by have:=hb a (by simp); omega));refine ⟨⟨fF k,0,[],op0,(cA a).getD 0⟩,fun e' he=>?_,?_⟩
             · cases ho:cA a with
               | none=>simp [ho] at he
               | some p=>simpa [ho] using he
             · simp only [Option.isSome_map];unfold Gl at c1;generalize (cA a).isSome=q at c1 ⊢;generalize (cA a).getD 0=p at c1 ⊢;rcases fZ kg with ⟨rfl,e⟩|⟨rfl,e⟩|⟨rfl,e⟩
               all_goals
                rw [e];refine G1 Tryz.func73 ?_;repeat' first|refine Ra ⟨?_⟩|refine R0 c1 ⟨?_⟩|(refine ⟨1,_,rfl,rfl,rfl,?_⟩ <;> conv=>whnf)|refine Rd (fun h=>⟨?_⟩) fun h=>⟨?_⟩|refine Rb ⟨?_⟩|fail
                exact Rf
           | a :: b :: q,_,_=>
             refine ⟨ev0,nofun,?_⟩;rcases fZ kg with ⟨rfl,_⟩|⟨rfl,_⟩|⟨rfl,_⟩
             all_goals
              refine G1 Tryz.func73 ?_;repeat' first|refine Rx ⟨?_⟩|refine Rd (fun h=>⟨?_⟩) fun h=>⟨?_⟩|fail
              exact Rf
         · simp only [if_neg kg];obtain ⟨g1,g2,g3⟩:=Cw kg;refine ⟨ev0,nofun,?_⟩;refine G1 Tryz.func73 ?_;repeat' first|refine Rx ⟨?_⟩|refine Rd (fun h=>⟨?_⟩) fun h=>⟨?_⟩|fail
           exact Rf
theorem uE (w:Wld) (n:Int) (p:Bs) (hb:du w) (he:∀ h,bK w n p=some h→h.ent.path.length≤12∧h.ent.data.length≤6):Con (E m) 150 0 [.agg w.c,.k .i64 n,.s p] [] (.sl ([pg w n p].map fun l=>[.s l])) []:=by
 have c1:=tk (m:=m) w n p hb;unfold pg;cases hr:bK w n p with
 | none=>
   rw [hr] at c1;refine G0 Tryz.func150 ?_;repeat' first|refine Ra ⟨?_⟩|refine R0 c1 ⟨?_⟩|refine Rd (fun h=>⟨?_⟩) fun h=>⟨?_⟩|refine Rb ⟨?_⟩|fail
   exact Rzi
 | some h=>
   rw [hr] at c1;obtain ⟨h1,h2⟩:=he h hr;have c2:=kM (m:=m) h.ent (by omega) (by omega);obtain ⟨hp,hh,hent,hn,ht⟩:=h;simp only at h1 h2 c2 ⊢;cases hh
   · refine G0 Tryz.func150 ?_;repeat' first|refine Ra ⟨?_⟩|refine R0 c1 ⟨?_⟩|refine R0 c2 ⟨?_⟩|refine Rd (fun h=>⟨?_⟩) fun h=>⟨?_⟩|refine Rb ⟨?_⟩|fail
     exact Rzi
   · refine G0 Tryz.func150 ?_;repeat' first|refine Ra ⟨?_⟩|refine R0 c1 ⟨?_⟩|refine R0 c2 ⟨?_⟩|refine Rd (fun h=>⟨?_⟩) fun h=>⟨?_⟩|refine Rb ⟨?_⟩|fail
     exact Rzi
theorem uF (v:List Ent) (p:Bs) (hv:af v=true) (hp:p.length≤1073741823):Con (E m) 152 0 [.sl (v.map Ent.c),.s p] [] (.sl ((tD v p).map fun l=>[.s l])) []:=by
 have hl:=az hv;unfold tD;by_cases hc:(bj v p).2=0
 · have c1:=uC (m:=m) v p (G9 hv) (by omega) hp hc;rw [if_pos hc];have hk:(bj v p).1.length≤16:=by
    unfold bj;repeat' split
    all_goals simp
    have:=oC v p
    omega
   generalize (bj v p).1=L at c1 hk ⊢;have e1:(L.map fun l=>[D.s l]).length=L.length:=zAA ..;have e2:(L++[[101,110,100]]).map (fun l=>[D.s l])=L.map (fun l=>[D.s l])++[[.s [101,110,100]]]:=by rw [zAK]; rfl
   rw [e2];refine G0 Tryz.func152 ?_;repeat' first|refine Ra ⟨?_⟩|refine Rk [] 1 c1 ⟨?_⟩|refine Rd (fun h=>⟨?_⟩) fun h=>⟨?_⟩|refine Rb ⟨?_⟩|fail
   exact Rzi
 · have c1:=rm (m:=m) v p (G9 hv) hp hc;rw [if_neg hc];have hcd:fP (bj v p).2:=by
    unfold bj;repeat' split
    all_goals simp [fP]
   have c2:=v6 (m:=m) (bj v p).2 hcd;generalize (bj v p).2=c at c1 c2 hc ⊢;refine G0 Tryz.func152 ?_;repeat' first|refine Ra ⟨?_⟩|refine R0 c1 ⟨?_⟩|refine R0 c2 ⟨?_⟩|refine Rd (fun h=>⟨?_⟩) fun h=>⟨?_⟩|refine Rb ⟨?_⟩|fail
   exact Rzi
end Go.Proofs.YtlicaibhgcenhaaGreatDoor
namespace Go.Par
open Go.Ab
theorem fR {b:Nat}:∀ {l:List Bs},(∀ x∈l,x.length≤b)→(aN l).length≤l.length * (b+1)
 | [],_=>by simp [aN]
 | x :: r,h=>by
   have ih:=fR (l:=r) fun y hy=>h y (by simp [hy]);have hx:=h x (by simp);have e:aN (x :: r)=(x++[10])++aN r:=rfl;rw [e,zAL,zAL,List.length_cons,List.length_cons,List.length_nil,Nat.succ_mul];omega
theorem gS (a b:List Bs):aN (a++b)=aN a++aN b:=by simp [aN]
theorem ph {e:Ent} (h1:e.path.length≤12) (h2:e.data.length≤6):(b8 e).length≤21:=by
 have:=qx e
 omega
theorem zF {e:Mrk} (h1:e.path.length≤12) (h2:e.data.length≤6):(bX e).length≤21:=by
 have:=wZ e
 omega
theorem tL {w:Wld} (hok:aL w=true) {n:Int} {p:Bs} {h:Hld} (hr:bK w n p=some h):h.ent.path.length≤12∧h.ent.data.length≤6:=by
 obtain ⟨t,v,ho,hw,_⟩:=bi hok;have hv:=(bu ho).2.2.2;unfold bK at hr;split at hr
 · rename_i hc;simp only [zAC,dA,decide_eq_true_eq] at hc;have hm:=List.mem_of_find?_eq_some hr;have hp:=List.find?_some hr;simp only [zAC,decide_eq_true_eq] at hp;have hg:=holdsOf_mem (hs:=w.holds) (who:=n) (by rw [hw.hl]; omega);rcases hw.so n.toNat _ hg h hm with k|⟨_,k,_⟩
   · omega
   · rw [← k];cases he:am v h.path with
     | none=>simp [eZ]
     | some e=>
       unfold am at he;split at he
       · cases he; simp [qz]
       · exact eE (dm hv e (List.mem_of_find?_eq_some he))
 · cases hr
theorem zG (s:Bs):(pathName s).length≤s.length:=by
 unfold pathName;split
 · simp
 · simp
theorem pi {v:List Ent} (hv:af v=true) (p:Bs):(bj v p).1.length≤16∧∀ x∈(bj v p).1,x.length≤12:=by
 unfold bj;repeat' split
 all_goals first
  | (simp; done)
  | skip
 have hl:=az hv
 have:=oC v p
 refine ⟨by simp only; omega,fun x hx=>?_⟩;simp only [jY,List.mem_map,List.mem_filter] at hx;obtain ⟨e,⟨he,_⟩,rfl⟩:=hx
 have:=(eE (dm hv e he)).1
 have:=zG e.path
 omega
theorem DG {v:List Ent} (hv:af v=true) (p:Bs):(aN (tD v p)).length≤1000:=by
 unfold tD;split
 · rw [gS,zAL];have h1:=pi hv p;have h2:=fR h1.2;have h3:(aN [[101,110,100]]).length=4:=rfl;have h4:=zAc 13 h1.1;omega
 · have:=jf (bj v p).2
   omega
theorem Fo {w:Wld} (hok:aL w=true) {k:Bs} {r:List Bs} {l:List Bs} (h:d8 w k r=some l):(aN l).length≤1000:=by
 obtain ⟨t,v,ho,hw,hs⟩:=bi hok;obtain ⟨_,h2,_⟩:=bJ.1 ho;have hv:=(bu ho).2.2.2;have hend:(aN [[101,110,100]]).length=4:=rfl;unfold d8 at h;rw [hs] at h;split at h
 · split at h
   · rename_i a p;cases hn:cA a with
     | none=>rw [hn] at h; cases h
     | some n=>
       rw [hn] at h;cases h
       have:(pg w n p).length≤21:=by
        unfold pg;cases hr:bK w n p with
        | none=>simp
        | some g=>
          simp only;split
          · have:=tL hok hr
            exact ph this.1 this.2
          · simp
       have h1:=fR (l:=[pg w n p]) (b:=21) (by simpa using this);simp at h1;simp only;omega
   · cases h
 · split at h
   · split at h
     · cases h;rw [gS,zAL];have hl:=az hv;have h1:=fR (l:=v.map b8) (b:=21) fun x hx=>by
        obtain ⟨e,he,rfl⟩:=List.mem_map.1 hx
        have:=eE (dm hv e he)
        exact ph this.1 this.2
       rw [zAA] at h1;have h4:=zAc 22 hl;omega
     · cases h
   · split at h
     · split at h
       · cases h;exact DG hv _
       · cases h
     · split at h
       · split at h
         · cases h;rw [gS,zAL];have hlo:=(co h2).1;have hl:=(cB.1 hlo).1;have h1:=fR (l:=w.over.upper.map bX) (b:=21) fun x hx=>by
            obtain ⟨e,he,rfl⟩:=List.mem_map.1 hx;have h1:=((cB.1 hlo).2.2 e he).1;obtain ⟨_,h2,h3,_⟩:=de h1;exact zF (aC h2).2 (sE h3)
           rw [zAA] at h1;have h4:=zAc 22 hl;omega
         · cases h
       · split at h
         · split at h
           · cases h;have d:∀ n,(gR n).length≤2:=fun n=>by unfold gR; split <;> simp
             have d1:=d w.net.length;have d2:=d w.leases.length;have h1:=fR (l:=[gR w.net.length++[32]++gR w.leases.length]) (b:=5) (by simp; omega);simp only [zAw] at h1;omega
           · cases h
         · cases h
theorem tM {w:Wld} (hok:aL w=true) (ws:List Bs):(aN (bB w ws).2).length≤1000:=by
 unfold bB;split
 · have:=jf (wDo w ‹_›).2
   simp only;omega
 · split
   · rename_i l hl
     match ws,hl with
     | [],hl=>cases hl
     | k :: r,hl=>exact Fo hok hl
   · split
     · have h1:(cS w (bL ws 0)).2.length≤4:=by
         rcases xF w (bL ws 0) with h|h|h <;> (rw [h]; decide)
       have h2:=fR (l:=[(cS w (bL ws 0)).2]) (b:=4) (by simpa using h1);simp only [zAw] at h2 ⊢;omega
     · show (aN [[119,104,97,116]]).length≤1000
       decide
theorem nR:∀ (ls:List Bs) (i:Nat) {w:Wld} (out:Bs),aL w=true→out.length≤21000→(bm i w out ls).length≤21005
 | [],i,w,out,_,h=>by unfold bm; omega
 | l :: r,i,w,out,hok,h=>by
   unfold bm;split
   · exact nR r (i+1) out hok h
   · split
     · rw [zAL]
       have:([102,117,108,108,10]:Bs).length=5:=rfl
       omega
     · rename_i hc;refine nR r (i+1) _ (rK hok _) ?_
       have:=tM hok (bH l)
       rw [zAL];omega
theorem ij (s:Bs):(aT s).length≤21005:=by
 unfold aT;split
 · decide
 · exact nR _ 0 [] (jx (by decide +kernel)) (by simp)
end Go.Par
namespace Go.Proofs.YtlicaibhgcenhaaGreatDoor
open Go Go.RowKit Go.Ab Go.Par
variable {m:Int}
theorem qe {a b:List Mrk} {x:Mrk} (ha:ax a=true) (hb:ax b=true) (h:x∈gm a b):ac x.path=true∧x.path.length≤12∧x.data.length≤6:=by
 unfold gm at h;rcases zAt.1 h with h|h
 · have h1:=(List.mem_filter.1 h).1;exact ⟨eT hb x h1,e8 hb x h1⟩
 · obtain ⟨y,hy,rfl⟩:=List.mem_map.1 h;exact ⟨eT ha y hy,e8 ha y hy⟩
theorem v7 {a b:List Mrk} (ha:ax a=true) (hb:ax b=true):(gm a b).length≤64:=by
 have h1:=cJ ha;have h2:=cJ hb;have h3:=zAV (fun m:Mrk=>dC a m.path) b;unfold gm;rw [zAL,zAA];omega
theorem zH {α β:Type} {f:α→β} {t:List α} {i:Nat} {x:α} (h:t[i]?=some x):(t.take (i+1)).map f=(t.take i).map f++[f x]:=by
 rw [zAX,h,zAK];rfl
theorem tN (a b:List Mrk) (ha:ax a=true) (hb:ax b=true):Con (E m) 269 0 [.sl (a.map Mrk.c),.sl (b.map Mrk.c)] [] (.own 0) [(0,.own 197 ((gm a b).map Mrk.c))]:=by
 have hal:=cJ ha;have hbl:=cJ hb;have hab:=e8 ha;have hap:=eT ha;have hbp:=eT hb;have hbk:∀ x∈b,x.kind≠0:=fun x hx=>by have:=(de ((cB.1 hb).2.2 x hx).1).1; omega
 have e1:(a.map Mrk.c).length=a.length:=zAA ..;have e2:(b.map Mrk.c).length=b.length:=zAA ..;have hJ:gm a b=(b.filter fun x=>dC a x.path)++a.map (onK b):=rfl;have hFl:=zAV (fun x:Mrk=>dC a x.path) b;rw [hJ];refine G0 Tryz.func269 ?_;repeat' first|refine Rx ⟨?_⟩|refine Rd (fun h=>⟨?_⟩) fun h=>⟨?_⟩|fail
 refine Cd.loop2 (fun mq tm S nx=>∃ (i:Nat) (A:List Mrk),mq=(b.length - i)∧tm=[(0,.sl (a.map Mrk.c)),(1,.sl (b.map Mrk.c)),(5,.own 0),(14,.sl (b.map Mrk.c)),(15,.k .i64 ((b.map Mrk.c).length:Int)),(16,.k .i64 i)]∧S=[(0,.own 197 (A.map Mrk.c))]∧nx=1∧(i≤b.length)∧(A=(b.take i).filter fun x=>dC a x.path)∧(A.length≤i)) ?_ ?_
 · refine la [0,1,5,14,15,16] ?_
   conv=>whnf
   refine ⟨rfl,rfl,_,0,[],rfl,rfl,rfl,rfl,by omega,(by simp),by simp⟩
 · rintro mq tm S nx ⟨i,A,hn,rfl,rfl,rfl,hi,hA,hAl⟩;have e3:(A.map Mrk.c).length=A.length:=zAA ..;rcases au b i hi with ⟨rfl,hd⟩|⟨x,r,hx',hd,hr,hlt⟩
   · rw [zAN] at hA;rw [← hA];repeat' first|refine Rx ⟨?_⟩|refine Rd (fun h=>⟨?_⟩) fun h=>⟨?_⟩|fail
     refine Cd.loop2 (fun mq tm S nx=>∃ (j:Nat) (B:List Mrk),mq=(a.length - j)∧tm=[(1,.sl (b.map Mrk.c)),(5,.own 0),(41,.sl (a.map Mrk.c)),(42,.k .i64 ((a.map Mrk.c).length:Int)),(43,.k .i64 j)]∧S=[(0,.own 197 (B.map Mrk.c))]∧nx=1∧(j≤a.length)∧(B=A++(a.take j).map (onK b))∧(B.length≤32+j)) ?_ ?_
     · refine la [1,5,41,42,43] ?_
       conv=>whnf
       refine ⟨rfl,rfl,_,0,A,rfl,rfl,rfl,rfl,by omega,(by simp),by omega⟩
     · rintro mq tm S nx ⟨j,B,hn,rfl,rfl,rfl,hj,hB,hBl⟩;have e4:(B.map Mrk.c).length=B.length:=zAA ..;rcases au a j hj with ⟨rfl,hd⟩|⟨y,s,hy',hd,hr,hlt⟩
       · rw [zAN] at hB;rw [← hB];repeat' first|refine Rx ⟨?_⟩|refine Rd (fun h=>⟨?_⟩) fun h=>⟨?_⟩|fail
         exact Rf
       · have g1:=zH (f:=onK b) hy';have c3:=hY (m:=m) b y.path (by omega);have hst:∀ k,onK b y=⟨y.path,k,y.data⟩→(B++[⟨y.path,k,y.data⟩]:List Mrk)=A++(a.take (j+1)).map (onK b):=fun k hk=>by rw [hB,g1,hk,zAi]
         cases hm:ag b y.path with
         | none=>
           rw [hm] at c3;have hs:=hst y.kind (by simp [onK,eJ,bZ,hm]);by_cases hk:y.kind=2
           all_goals
            repeat' first|refine Ra ⟨?_⟩|refine R0 c3 ⟨?_⟩|refine Rd (fun h=>⟨?_⟩) fun h=>⟨?_⟩|refine Rb ⟨?_⟩|fail
            refine .here ⟨mq - 1,by omega,?_⟩;refine la [1,5,41,42,43] ?_
            conv=>whnf
            refine ⟨rfl,rfl,j+1,B++[⟨y.path,y.kind,y.data⟩],(by omega),rfl,?_,rfl,by omega,hs,(by simp; omega)⟩;rw [zAK];rfl
         | some z=>
           rw [hm] at c3;have hz:=hbk z (bO hm).1;by_cases hk:y.kind=2
           · by_cases hk2:z.kind=2
             · have hs:=hst y.kind (by simp [onK,eJ,bZ,hm,hk2]);repeat' first|refine Ra ⟨?_⟩|refine R0 c3 ⟨?_⟩|refine Rd (fun h=>⟨?_⟩) fun h=>⟨?_⟩|refine Rb ⟨?_⟩|fail
               refine .here ⟨mq - 1,by omega,?_⟩;refine la [1,5,41,42,43] ?_
               conv=>whnf
               refine ⟨rfl,rfl,j+1,B++[⟨y.path,y.kind,y.data⟩],(by omega),rfl,?_,rfl,by omega,hs,(by simp; omega)⟩;rw [zAK];rfl
             · have hs:=hst 4 (by simp [onK,eJ,bZ,hm,hk2,hk,hz]);repeat' first|refine Ra ⟨?_⟩|refine R0 c3 ⟨?_⟩|refine Rd (fun h=>⟨?_⟩) fun h=>⟨?_⟩|refine Rb ⟨?_⟩|fail
               refine .here ⟨mq - 1,by omega,?_⟩;refine la [1,5,41,42,43] ?_
               conv=>whnf
               refine ⟨rfl,rfl,j+1,B++[⟨y.path,4,y.data⟩],(by omega),rfl,?_,rfl,by omega,hs,(by simp; omega)⟩;rw [zAK];rfl
           · have hs:=hst y.kind (by simp [onK,eJ,bZ,hm,hk]);repeat' first|refine Ra ⟨?_⟩|refine R0 c3 ⟨?_⟩|refine Rd (fun h=>⟨?_⟩) fun h=>⟨?_⟩|refine Rb ⟨?_⟩|fail
             refine .here ⟨mq - 1,by omega,?_⟩;refine la [1,5,41,42,43] ?_
             conv=>whnf
             refine ⟨rfl,rfl,j+1,B++[⟨y.path,y.kind,y.data⟩],(by omega),rfl,?_,rfl,by omega,hs,(by simp; omega)⟩;rw [zAK];rfl
   · have g1:=filter_step (f:=fun x:Mrk=>dC a x.path) hx';have hxp:=hbp x (zAD hx');have hxl:=(aC hxp).2;have c3:=hY (m:=m) a x.path (by omega);have c4:=s7 (m:=m) a x.path (by omega) (by omega) (fun y hy=>by have:=(hab y hy).1; omega);rw [vR hap hxp] at c4;cases hm:ag a x.path with
     | some y=>
       rw [hm] at c3;have kx:dC a x.path=false:=by simp [dC,hm]
       simp only [kx,cond_false,List.append_nil] at g1;repeat' first|refine Ra ⟨?_⟩|refine R0 c3 ⟨?_⟩|refine Rd (fun h=>⟨?_⟩) fun h=>⟨?_⟩|refine Rb ⟨?_⟩|fail
       refine .here ⟨mq - 1,by omega,?_⟩;refine la [0,1,5,14,15,16] ?_
       conv=>whnf
       refine ⟨rfl,rfl,i+1,A,(by omega),rfl,rfl,rfl,by omega,(by rw [hA,g1]),by omega⟩
     | none=>
       rw [hm] at c3;cases hh:bI a x.path with
       | true=>
         rw [hh] at c4;have kx:dC a x.path=false:=by simp [dC,hm,hh]
         simp only [kx,cond_false,List.append_nil] at g1;repeat' first|refine Ra ⟨?_⟩|refine R0 c3 ⟨?_⟩|refine R0 c4 ⟨?_⟩|refine Rd (fun h=>⟨?_⟩) fun h=>⟨?_⟩|refine Rb ⟨?_⟩|fail
         refine .here ⟨mq - 1,by omega,?_⟩;refine la [0,1,5,14,15,16] ?_
         conv=>whnf
         refine ⟨rfl,rfl,i+1,A,(by omega),rfl,rfl,rfl,by omega,(by rw [hA,g1]),by omega⟩
       | false=>
         rw [hh] at c4;have kx:dC a x.path=true:=by simp [dC,hm,hh]
         simp only [kx,cond_true] at g1;repeat' first|refine Ra ⟨?_⟩|refine R0 c3 ⟨?_⟩|refine R0 c4 ⟨?_⟩|refine Rd (fun h=>⟨?_⟩) fun h=>⟨?_⟩|refine Rb ⟨?_⟩|fail
         refine .here ⟨mq - 1,by omega,?_⟩;refine la [0,1,5,14,15,16] ?_
         conv=>whnf
         refine ⟨rfl,rfl,i+1,A++[x],(by omega),rfl,?_,rfl,by omega,(by rw [hA,g1]),(by simp; omega)⟩;rw [zAK];rfl
def jnD:Option (List Mrk)→D
 | some t=>.tup [.sl (t.map Mrk.c),.b true]
 | none=>.tup [.sl [],.b false]
theorem DH {a b:List Mrk} (ha:ax a=true) (hb:ax b=true):(ta a b).length=(dZ a b).length∧(ta a b).length≤64:=by
 have h1:=v7 ha hb;have h2:=zBQ (cl (bare (gm a b))) (gm a b);exact ⟨(mD (pa:=fun e:Mrk=>e.path) (fun S g1 g2=>join_one (bx ha) (bx hb) g1 g2)).symm,zAo h2 h1⟩
theorem tO (a b:List Mrk) (ka:∀ e∈a,e.path.length≤1073741823∧e.data.length≤1073741823) (kb:∀ e∈b,e.path.length≤1073741823∧e.data.length≤1073741823) :
   Con (E m) 222 0 [.sl (a.map Mrk.c),.sl (b.map Mrk.c)] [] (jnD (bD a b)) []:=by
 have c1:=kN (m:=m) a ka;have c2:=kN (m:=m) b kb;cases h1:ax a with
 | false=>
   rw [h1] at c1;have hx:bD a b=none:=by simp [bD,h1]
   rw [hx];refine G0 Tryz.func222 ?_;repeat' first|refine Ra ⟨?_⟩|refine R0 c1 ⟨?_⟩|refine Rd (fun h=>⟨?_⟩) fun h=>⟨?_⟩|refine Rb ⟨?_⟩|fail
   exact Rz
 | true=>
   rw [h1] at c1;cases h2:ax b with
   | false=>
     rw [h2] at c2;have hx:bD a b=none:=by simp [bD,h2]
     rw [hx];refine G0 Tryz.func222 ?_;repeat' first|refine Ra ⟨?_⟩|refine R0 c1 ⟨?_⟩|refine R0 c2 ⟨?_⟩|refine Rd (fun h=>⟨?_⟩) fun h=>⟨?_⟩|refine Rb ⟨?_⟩|fail
     exact Rz
   | true=>
     rw [h2] at c2;have c3:=tN (m:=m) a b h1 h2;obtain ⟨n1,n2⟩:=DH h1 h2;have hx:bD a b=if (dZ a b).length≤32 then some (dZ a b) else none:=by simp [bD,h1,h2]
     have c9:=mZ (m:=m) (ta a b) (dZ a b) (fun S g1 g2=>join_one (bx h1) (bx h2) g1 g2) (by omega);have hfin:ta a b=(gm a b).filterMap (cl (bare (gm a b))):=rfl;have hJm:=fun x (h:x∈gm a b)=>qe h1 h2 h;have hJl:=v7 h1 h2;rw [hx];generalize ta a b=I at n1 n2 c9 hfin;generalize dZ a b=L at n1 c9 ⊢;generalize gm a b=J at c3 hfin hJm hJl;have e1:(J.map Mrk.c).length=J.length:=zAA ..;refine G0 Tryz.func222 ?_;repeat' first|refine Ra ⟨?_⟩|refine R0 c1 ⟨?_⟩|refine R0 c2 ⟨?_⟩|refine Rk [] 1 c3 ⟨?_⟩|refine Rd (fun h=>⟨?_⟩) fun h=>⟨?_⟩|refine Rb ⟨?_⟩|fail
     refine Cd.loop2 (fun mq tm S nx=>∃ (i:Nat) (A:List Mrk),mq=(J.length - i)∧tm=[(6,.sl (J.map Mrk.c)),(7,.own 0),(21,.sl (J.map Mrk.c)),(22,.k .i64 ((J.map Mrk.c).length:Int)),(23,.k .i64 i)]∧S=[(0,.own 197 (A.map Mrk.c))]∧nx=1∧(i≤J.length)∧(A=(J.take i).filterMap (cl (bare J)))∧(A.length≤i)) ?_ ?_
     · refine li [6] [6,7,21,22,23] ?_
       conv=>whnf
       refine ⟨rfl,rfl,_,0,[],rfl,rfl,rfl,rfl,by omega,(by simp),by simp⟩
     · rintro mq tm S nx ⟨i,A,hn,rfl,rfl,rfl,hi,hA,hAl⟩;have e3:(A.map Mrk.c).length=A.length:=zAA ..;rcases au J i hi with ⟨rfl,hd⟩|⟨x,r,hx',hd,hr,hlt⟩
       · rw [zAN,← hfin] at hA;by_cases hn:A.length≤32
         · rw [if_pos (by rw [← n1,← hA]; exact hn)];rw [← hA] at c9;repeat' first|refine Ra ⟨?_⟩|refine Rk [0] 0 c9 ⟨?_⟩|refine Rd (fun h=>⟨?_⟩) fun h=>⟨?_⟩|refine Rb ⟨?_⟩|fail
           exact Rz
         · rw [if_neg (by rw [← n1,← hA]; exact hn)];repeat' first|refine Rx ⟨?_⟩|refine Rd (fun h=>⟨?_⟩) fun h=>⟨?_⟩|fail
           exact Rz
       · have g1:=kf (f:=cl (bare J)) hx';obtain ⟨hxp,hxl,_⟩:=hJm x (zAD hx');have c4:=vu (m:=m) J x.path (by omega) (by omega) (fun y hy=>by have:=(hJm y hy).2.1; omega);rw [sR (fun y hy=>(hJm y hy).1) hxp] at c4;cases hbr:bare J x.path with
         | false=>
           rw [hbr] at c4;have kx:cl (bare J) x=some x:=by simp [cl,hbr]
           rw [kx] at g1;repeat' first|refine Ra ⟨?_⟩|refine R0 c4 ⟨?_⟩|refine Rd (fun h=>⟨?_⟩) fun h=>⟨?_⟩|refine Rb ⟨?_⟩|fail
           refine .here ⟨mq - 1,by omega,?_⟩;refine la [6,7,21,22,23] ?_
           conv=>whnf
           refine ⟨rfl,rfl,i+1,A++[x],(by omega),rfl,?_,rfl,by omega,(by rw [hA,g1]),(by simp; omega)⟩;rw [zAK];rfl
         | true=>
           rw [hbr] at c4;by_cases hk3:x.kind=3
           · have kx:cl (bare J) x=none:=by simp [cl,hbr,hk3]
             rw [kx,List.append_nil] at g1;repeat' first|refine Ra ⟨?_⟩|refine R0 c4 ⟨?_⟩|refine Rd (fun h=>⟨?_⟩) fun h=>⟨?_⟩|refine Rb ⟨?_⟩|fail
             refine .here ⟨mq - 1,by omega,?_⟩;refine la [6,7,21,22,23] ?_
             conv=>whnf
             refine ⟨rfl,rfl,i+1,A,(by omega),rfl,rfl,rfl,by omega,(by rw [hA,g1]),by omega⟩
           · by_cases hk4:x.kind=4
             · have kx:cl (bare J) x=some ⟨x.path,2,x.data⟩:=by simp [cl,hbr,hk4]
               rw [kx] at g1;repeat' first|refine Ra ⟨?_⟩|refine R0 c4 ⟨?_⟩|refine Rd (fun h=>⟨?_⟩) fun h=>⟨?_⟩|refine Rb ⟨?_⟩|fail
               refine .here ⟨mq - 1,by omega,?_⟩;refine la [6,7,21,22,23] ?_
               conv=>whnf
               refine ⟨rfl,rfl,i+1,A++[⟨x.path,2,x.data⟩],(by omega),rfl,?_,rfl,by omega,(by rw [hA,g1]),(by simp; omega)⟩;rw [zAK];rfl
             · have kx:cl (bare J) x=some x:=by simp [cl,hbr,hk3,hk4]
               rw [kx] at g1;repeat' first|refine Ra ⟨?_⟩|refine R0 c4 ⟨?_⟩|refine Rd (fun h=>⟨?_⟩) fun h=>⟨?_⟩|refine Rb ⟨?_⟩|fail
               refine .here ⟨mq - 1,by omega,?_⟩;refine la [6,7,21,22,23] ?_
               conv=>whnf
               refine ⟨rfl,rfl,i+1,A++[x],(by omega),rfl,?_,rfl,by omega,(by rw [hA,g1]),(by simp; omega)⟩;rw [zAK];rfl
end Go.Proofs.YtlicaibhgcenhaaGreatDoor
