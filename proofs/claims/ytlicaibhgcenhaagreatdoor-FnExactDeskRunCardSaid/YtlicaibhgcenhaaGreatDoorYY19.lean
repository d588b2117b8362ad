/- Texts of this claim, set close: lemmas and contracts. -/
import Derived.Test.YtlicaibhgcenhaaGreatDoorYY17
import Derived.Test.YtlicaibhgcenhaaGreatDoorYY18
import Derived.Test.YtlicaibhgcenhaaGreatDoorYY4
import Derived.Test.YtlicaibhgcenhaaGreatDoorTie
import Derived.Test.YtlicaibhgcenhaaGreatDoorYY3
import Derived.Test.YtlicaibhgcenhaaGreatDoorYY5
import Derived.Test.YtlicaibhgcenhaaGreatDoorCards
import Derived.ProofKit
import Derived.LaidMore
import Derived.Lay
import Derived.SevenTiedAt
import Derived.Stop.Joined
set_option linter.unusedSimpArgs false
set_option linter.unusedVariables false
set_option maxHeartbeats 1000000
set_option maxRecDepth 100000
namespace Go.Par
open Go.Ab
def doL (w:Wld) (e:Evn):Wld × List Bs:=((wDo w e).1,[ii (wDo w e).2])
def ik (w:Wld):Wld × List Bs:=(w,[[119,104,97,116]])
def DN (w:Wld) (k:Bs):Wld × List Bs:=
 if k=[116,114,101,101] then (w,(seen w.over).map b8++[[101,110,100]]) else if k=[117,112,112,101,114] then (w,w.over.upper.map bX++[[101,110,100]])
 else if 1≤ld k then ((cS w k).1,[(cS w k).2]) else if k=[116,114,121] then doL w (evT 3) else if k=[116,105,99,107] then doL w (evT 4)
 else if k=[110,101,116] then (w,[gR w.net.length++[32]++gR w.leases.length]) else ik w
def pk (w:Wld) (k:Bs) (q:List Bs) (n:Int):Wld × List Bs:=
 if 1≤fF k∧q=[] then doL w ⟨fF k,0,[],op0,n⟩ else match q with
  | [b]=>if k=[97,115,107] then doL w ⟨1,n,b,op0,0⟩ else if k=[114,101,97,100] then (w,[pg w n b]) else ik w
  | _=>ik w
def Hb (w:Wld) (k a:Bs) (q:List Bs):Wld × List Bs:=match aV (k :: a :: q) with
 | some p=>doL w ⟨2,0,[],p,0⟩
 | none=>if k=[108,105,115,116]∧q=[] then (w,tD (seen w.over) a) else match cA a with
   | some n=>pk w k q n
   | none=>ik w
theorem wa {k:Bs} {r:List Bs} {p:Opn} (h:aV (k :: r)=some p):1≤aO k:=by
 obtain ⟨_,_,h3,h4⟩:=iV h
 have:=vn h3
 rw [h4,tX] at this;exact this.1
theorem Fq (k:Bs):aV [k]=none:=by
 unfold aV;rw [if_neg];rintro ⟨h,_⟩;simp at h
theorem wc {k:Bs} (h:1≤aO k):k≠[97,115,107]∧k≠[116,114,121]∧k≠[116,105,99,107]∧¬ 1≤fF k∧k≠[114,101,97,100]∧k≠[116,114,101,101]∧k≠[108,105,115,116]∧k≠[117,112,112,101,114]∧k≠[110,101,116]∧¬ 1≤ld k:=by
 unfold aO at h;repeat' split at h
 · rename_i e; subst e; decide
 · rename_i e; subst e; decide
 · rename_i e; subst e; decide
 · rename_i e; subst e; decide
 · rename_i e; subst e; decide
 · omega
theorem Fs (w:Wld) (k:Bs):bB w [k]=DN w k:=by
 unfold bB DN;have e1:tC [k]=if k=[116,114,121] then some (evT 3) else if k=[116,105,99,107] then some (evT 4) else none:=by
  show nN k []=_
  unfold nN;rw [Fq];by_cases h1:1≤aO k
  · obtain ⟨_,h2,h3,_⟩:=wc h1;rw [if_pos h1,if_neg h2,if_neg h3];rfl
  · rw [if_neg h1];by_cases h2:k=[97,115,107]
    · subst h2; decide
    · rw [if_neg h2];by_cases h3:k=[116,114,121]
      · simp [h3]
      · rw [if_neg h3,if_neg h3];by_cases h4:k=[116,105,99,107]
        · simp [h4]
        · rw [if_neg h4,if_neg h4];split <;> rfl
 have e2:nO w [k]=if k=[116,114,101,101] then some ((seen w.over).map b8++[[101,110,100]]) else if k=[117,112,112,101,114] then some (w.over.upper.map bX++[[101,110,100]]) else if k=[110,101,116] then some [gR w.net.length++[32]++gR w.leases.length] else none:=by
  show d8 w k []=_
  unfold d8;by_cases h1:k=[114,101,97,100]
  · subst h1; rfl
  · rw [if_neg h1];by_cases h2:k=[116,114,101,101]
    · rw [if_pos h2,if_pos h2,if_pos rfl]
    · rw [if_neg h2,if_neg h2];by_cases h3:k=[108,105,115,116]
      · subst h3; rfl
      · rw [if_neg h3];by_cases h4:k=[117,112,112,101,114]
        · rw [if_pos h4,if_pos h4,if_pos rfl]
        · rw [if_neg h4,if_neg h4];by_cases h5:k=[110,101,116]
          · rw [if_pos h5,if_pos h5,if_pos rfl]
          · rw [if_neg h5,if_neg h5]
 have e0:bL [k] 0=k:=rfl;rw [e1,e2,e0];by_cases h1:k=[116,114,101,101]
 · subst h1; rfl
 · by_cases h2:k=[117,112,112,101,114]
   · subst h2; rfl
   · by_cases h3:k=[116,114,121]
     · subst h3; rfl
     · by_cases h4:k=[116,105,99,107]
       · subst h4; rfl
       · by_cases h5:k=[110,101,116]
         · subst h5; rfl
         · simp only [if_neg h1,if_neg h2,if_neg h3,if_neg h4,if_neg h5];by_cases h6:1≤ld k
           · simp only [if_pos h6,zAw,true_and,if_true]
           · simp only [if_neg h6,zAw,true_and,if_false];rfl
theorem Ft (w:Wld) (k a:Bs) (q:List Bs):bB w (k :: a :: q)=Hb w k a q:=by
 have hlen:¬ ((k :: a :: q).length=1∧1≤ld (bL (k :: a :: q) 0)):=by simp
 unfold bB Hb;rw [if_neg hlen];rw [show tC (k :: a :: q)=nN k (a :: q) from rfl,show nO w (k :: a :: q)=d8 w k (a :: q) from rfl]
 unfold nN;cases ho:aV (k :: a :: q) with
 | some p=>
   rw [if_pos (wa ho)];rfl
 | none=>
   by_cases h1:1≤aO k
   · obtain ⟨n1,n2,n3,n4,n5,n6,n7,n8,n9,n10⟩:=wc h1;rw [if_pos h1];have ht:d8 w k (a :: q)=none:=by
      unfold d8;rw [if_neg n5,if_neg n6,if_neg n7,if_neg n8,if_neg n9]
     simp only [Option.map_none,ht,n7,false_and,if_false];cases cA a with
     | none=>rfl
     | some n=>
       simp only [pk,n4,false_and,if_false,n1,n5];split <;> rfl
   · rw [if_neg h1];by_cases h2:k=[97,115,107]
     · subst h2;have ht:d8 w [97,115,107] (a :: q)=none:=rfl;have hg:¬ 1≤fF [97,115,107]:=by decide
       rw [ht]
       match q with
       | []=>cases hn:cA a <;> simp [hn,pk,doL,ik,hg]
       | [b]=>cases hn:cA a <;> simp [hn,pk,doL,ik,hg]
       | b :: c :: q=>cases hn:cA a <;> simp [hn,pk,doL,ik,hg]
     · rw [if_neg h2];by_cases h3:k=[116,114,121]
       · subst h3
         match q with
         | []=>cases cA a <;> rfl
         | [b]=>cases cA a <;> rfl
         | b :: c :: q=>cases cA a <;> rfl
       · rw [if_neg h3];by_cases h4:k=[116,105,99,107]
         · subst h4
           match q with
           | []=>cases cA a <;> rfl
           | [b]=>cases cA a <;> rfl
           | b :: c :: q=>cases cA a <;> rfl
         · rw [if_neg h4];by_cases h5:1≤fF k
           · rw [if_pos h5];have hk:(k=[103,105,118,101])∨(k=[108,111,115,101])∨(k=[99,111,112,121]):=by
              unfold fF at h5;repeat' split at h5
              · exact .inl ‹_›
              · exact .inr (.inl ‹_›)
              · exact .inr (.inr ‹_›)
              · omega
             rcases hk with rfl|rfl|rfl
             all_goals
              match q with
              | []=>cases hn:cA a <;> simp [hn,pk,doL,ik,fF,d8]
              | [b]=>cases hn:cA a <;> simp [hn,pk,doL,ik,fF,d8]
              | b :: c :: q=>cases hn:cA a <;> simp [hn,pk,doL,ik,fF,d8]
           · rw [if_neg h5];simp only;by_cases h6:k=[114,101,97,100]
             · subst h6
               match q with
               | []=>cases cA a <;> rfl
               | [b]=>cases hn:cA a <;> (simp only [d8,hn]; rfl)
               | b :: c :: q=>cases cA a <;> rfl
             · by_cases h7:k=[108,105,115,116]
               · subst h7
                 match q with
                 | []=>rfl
                 | b :: q=>
                   have ht:d8 w [108,105,115,116] (a :: b :: q)=none:=rfl;rw [ht];simp only [pk,h5,false_and,if_false];cases cA a with
                   | none=>rfl
                   | some n=>
                     match q with
                     | []=>rfl
                     | c :: q=>rfl
               · have ht:d8 w k (a :: q)=none:=by
                   unfold d8;rw [if_neg h6,if_neg h7];repeat' split
                   all_goals first|rfl|simp_all
                 rw [ht];simp only [h7,false_and,if_false];cases cA a with
                 | none=>rfl
                 | some n=>
                   simp only [pk,h5,false_and,if_false,h2,h6];split <;> rfl
end Go.Par
namespace Go.Proofs.YtlicaibhgcenhaaGreatDoor
open Go Go.RowKit Go.Ab Go.Par
variable {m:Int}
theorem ow6 (j:Nat) (h:j≤5):([[D.s []],[.s [109,97,107,101]],[.s [112,117,116]],[.s [114,109]],[.s [114,109,100,105,114]],[.s [109,111,118,101]]]:List (List D))[j]?=some [.s (lQ j)]:=by
 obtain rfl|rfl|rfl|rfl|rfl|rfl:j=0∨j=1∨j=2∨j=3∨j=4∨j=5:=by omega
 all_goals rfl
theorem Fu (k p:Bs):aV [k,p]=if dn ⟨aO k,p,[],[]⟩ then some ⟨aO k,p,[],[]⟩ else none:=by
 unfold aV;have e:cm (aO (bL [k,p] 0)) (bL [k,p] 1) (bL [k,p] 2)=⟨aO k,p,[],[]⟩:=by
  show cm (aO k) p []=_
  unfold cm;split
  · rename_i h; rw [h]
  · rfl
 rw [e];cases h:dn ⟨aO k,p,[],[]⟩ <;> simp
theorem BB (k p q:Bs) (hq:q≠[]):aV [k,p,q]=if aO k=2 then (if dn ⟨2,p,[],q⟩ then some ⟨2,p,[],q⟩ else none) else if aO k=5 then (if dn ⟨5,p,q,[]⟩ then some ⟨5,p,q,[]⟩ else none) else none:=by
 unfold aV;have e:cm (aO (bL [k,p,q] 0)) (bL [k,p,q] 1) (bL [k,p,q] 2)=if aO k=5 then ⟨5,p,q,[]⟩ else ⟨aO k,p,[],q⟩:=by
  show cm (aO k) p q=_
  unfold cm;split
  · rename_i h; rw [h]
  · rfl
 rw [e];by_cases h2:aO k=2
 · rw [if_pos h2,h2,if_neg (show ¬ (2:Int)=5 by decide)]
   cases h:dn ⟨2,p,[],q⟩ <;> simp [h]
 · rw [if_neg h2];by_cases h5:aO k=5
   · rw [if_pos h5,if_pos h5];cases h:dn ⟨5,p,q,[]⟩ <;> simp [h]
   · rw [if_neg h5,if_neg h5]
     have:dn ⟨aO k,p,[],q⟩=false:=by simp [dn,h2,h5,hq]
     simp [this]
theorem DO (k p q x:Bs) (r:List Bs):aV (k :: p :: q :: x :: r)=none:=by
 unfold aV;rw [if_neg];rintro ⟨_,h,_⟩;simp at h
theorem DP (k p:Bs) (r:List Bs) (h:aO k=0):aV (k :: p :: r)=none:=by
 cases ho:aV (k :: p :: r) with
 | none=>rfl
 | some o=>
   have:=wa ho
   omega
def me (K:Int) (a:Bs) (q:List Bs):Opn:=if K=0 then op0 else match q with
 | []=>⟨K,a,[],[]⟩
 | [x]=>if K=2 then ⟨2,a,[],x⟩ else if K=5 then ⟨5,a,x,[]⟩ else ⟨K,a,[],[]⟩
 | _=>⟨K,[],[],[]⟩
def Fv (K:Int) (a:Bs) (q:List Bs):Bool:=if K=0 then false else match q with
 | []=>dn ⟨K,a,[],[]⟩
 | [x]=>if K=2 then dn ⟨2,a,[],x⟩ else if K=5 then dn ⟨5,a,x,[]⟩ else false
 | _=>false
theorem Cy (k a:Bs) (q:List Bs) (hb:∀ x∈q,x≠[]):aV (k :: a :: q)=if Fv (aO k) a q then some (me (aO k) a q) else none:=by
 unfold Fv me;by_cases h0:aO k=0
 · rw [DP k a q h0,if_pos h0];rfl
 · rw [if_neg h0,if_neg h0]
   match q,hb with
   | [],_=>rw [Fu]
   | [x],hb=>
     rw [BB k a x (hb x (by simp))];by_cases h2:aO k=2
     · simp only [if_pos h2]
     · simp only [if_neg h2];by_cases h5:aO k=5
       · simp only [if_pos h5]
       · simp only [if_neg h5];rfl
   | x :: y :: r,_=>rw [DO]; rfl
theorem DQ (k a:Bs) (q:List Bs) (hl:q.length≤1048576) (hb:∀ x∈a :: q,x.length≤1048576):Con (E m) 64 0 [.sl ((k :: a :: q).map fun l=>[.s l])] [] (.tup [.agg (me (aO k) a q).c,.b (Fv (aO k) a q)]) []:=by
 have ha:=hb a (by simp);have hk5:io k 5=aO k:=yy k;have hkl:=pH k;refine G0 Tryz.func64 ?_;repeat' first|refine Rx ⟨?_⟩|refine Rd (fun h=>⟨?_⟩) fun h=>⟨?_⟩|fail
 refine Cd.loop2 (fun mq tm S nx=>∃ (j:Nat) (c:Int),mq=(6 - j)∧tm=[(0,.sl ((k :: a :: q).map fun l=>[.s l])),(2,.bp 0 0),(4,.own 1),(5,.bp 2 0),(6,.k .i64 c)]∧S=[(0,.box 52 op0.c),(1,.own 9 [[.s []],[.s [109,97,107,101]],[.s [112,117,116]],[.s [114,109]],[.s [114,109,100,105,114]],[.s [109,111,118,101]]]),(2,.box 52 [.k .i64 (io k (j - 1)),.s [],.s [],.s []])]∧nx=3∧(c=(j:Nat))∧(1≤j)∧(j≤6)) ?_ ?_
 · refine la [0,2,4,5,6] ?_
   conv=>whnf
   refine ⟨rfl,rfl,_,1,1,rfl,rfl,rfl,rfl,rfl,by omega,by omega⟩
 · rintro mq tm S nx ⟨j,c,hn,rfl,rfl,rfl,hc,hj1,hj2⟩;subst hc;by_cases hj:j≤5
   · obtain ⟨i,rfl⟩:∃ i,j=i+1:=⟨j - 1,by omega⟩;have hkt:io k (i+1)=if lQ ((i+1:Nat):Int)=k then ((i+1:Nat):Int) else io k i:=rfl
     have e:i+2 - 1=i+1:=by omega
     repeat' first|refine Ra ⟨?_⟩|(refine ⟨i+1,rfl,by simp; omega,?_⟩ <;> conv=>whnf)|(refine ⟨_,ow6 (i+1) (by omega),?_⟩ <;> conv=>whnf)|refine Rd (fun h=>⟨?_⟩) fun h=>⟨?_⟩|refine Rb ⟨?_⟩|fail
     · rw [if_pos ‹_›] at hkt;refine .here ⟨mq - 1,by omega,?_⟩;refine la [0,2,4,5,6] ?_
       conv=>whnf
       refine ⟨rfl,rfl,i+2,_,(by omega),rfl,?_,rfl,rfl,by omega,by omega⟩;rw [e,hkt];rfl
     · rw [if_neg ‹_›] at hkt;refine .here ⟨mq - 1,by omega,?_⟩;refine la [0,2,4,5,6] ?_
       conv=>whnf
       refine ⟨rfl,rfl,i+2,_,(by omega),rfl,?_,rfl,rfl,by omega,by omega⟩;rw [e,hkt];rfl
   · obtain rfl:j=6:=by omega
     have hk6:io k (6 - 1)=aO k:=hk5;simp only [hk6];unfold me Fv;generalize aO k=K at hkl ⊢;by_cases h0:K=0
     · subst h0;repeat' first|refine Rx ⟨?_⟩|refine Rd (fun h=>⟨?_⟩) fun h=>⟨?_⟩|fail
       exact Rf
     · simp only [if_neg h0]
       match q,hl,hb with
       | [],_,_=>
         have c2:=mB (m:=m) ⟨K,a,[],[]⟩ (by simp only; omega) (by simp) (by simp);repeat' first|refine Ra ⟨?_⟩|refine R0 c2 ⟨?_⟩|(refine ⟨1,_,rfl,rfl,rfl,?_⟩ <;> conv=>whnf)|refine Rd (fun h=>⟨?_⟩) fun h=>⟨?_⟩|refine Rb ⟨?_⟩|fail
         exact Rf
       | [x],_,hb=>
         have hx:=hb x (by simp);by_cases h2:K=2
         · subst h2;have c2:=mB (m:=m) ⟨2,a,[],x⟩ (by simp only; omega) (by simp) (by simp only; omega);repeat' first|refine Ra ⟨?_⟩|refine R0 c2 ⟨?_⟩|(refine ⟨1,_,rfl,rfl,rfl,?_⟩ <;> conv=>whnf)|(refine ⟨2,_,rfl,rfl,rfl,?_⟩ <;> conv=>whnf)|refine Rd (fun h=>⟨?_⟩) fun h=>⟨?_⟩|refine Rb ⟨?_⟩|fail
           exact Rf
         · simp only [if_neg h2];by_cases h5:K=5
           · subst h5;have c2:=mB (m:=m) ⟨5,a,x,[]⟩ (by simp only; omega) (by simp only; omega) (by simp);repeat' first|refine Ra ⟨?_⟩|refine R0 c2 ⟨?_⟩|(refine ⟨1,_,rfl,rfl,rfl,?_⟩ <;> conv=>whnf)|(refine ⟨2,_,rfl,rfl,rfl,?_⟩ <;> conv=>whnf)|refine Rd (fun h=>⟨?_⟩) fun h=>⟨?_⟩|refine Rb ⟨?_⟩|fail
             exact Rf
           · simp only [if_neg h5];repeat' first|refine Ra ⟨?_⟩|(refine ⟨1,_,rfl,rfl,rfl,?_⟩ <;> conv=>whnf)|refine Rd (fun h=>⟨?_⟩) fun h=>⟨?_⟩|refine Rb ⟨?_⟩|fail
             exact Rf
       | x :: y :: r,_,_=>
         repeat' first|refine Rx ⟨?_⟩|refine Rd (fun h=>⟨?_⟩) fun h=>⟨?_⟩|fail
         exact Rf
theorem Gn {k:Bs} (h:¬ 1≤ld k):¬ k=[112,117,115,104]∧¬ k=[102,108,97,116]∧¬ k=[115,105,110,107]:=by
 refine ⟨?_,?_,?_⟩ <;> (rintro rfl; exact h (by decide))
theorem Cz (k:Int):vY (evT k):=⟨by simp [evT],⟨by simp [evT,op0],by simp [evT,op0],by simp [evT,op0]⟩⟩
theorem BC (w:Wld) (k:Bs) (hb:cR 1048575 w) (hok:aL w=true) (h100:w.leases.length < 100):Con (E m) 63 0 [.agg w.c,.s k] [] (.tup [.agg (DN w k).1.c,.s (aN (DN w k).2)]) []:=by
 have hbw:=hb.w (by omega);obtain ⟨t,v,ho,hw,hs⟩:=bi hok;have hv:=(bu ho).2.2.2;have hlo:=(co (bJ.1 ho).2.1).1;have hnl:=hw.nl;have e3:(w.net.map Mes.c).length=w.net.length:=zAA ..;have e4:(w.leases.map Lse.c).length=w.leases.length:=zAA ..;unfold DN;rw [hs];by_cases h1:k=[116,114,101,101]
 · simp only [if_pos h1];subst h1;have c1:=fg (m:=m) w.over hbw.over;have hvt:gp w.over=some v:=by rw [gp,(bJ.1 ho).1]; exact (bJ.1 ho).2.1
   rw [hvt] at c1;have c2:=zK (m:=m) v hv;refine G0 Tryz.func63 ?_;repeat' first|refine Ra ⟨?_⟩|refine R0 c1 ⟨?_⟩|refine R0 c2 ⟨?_⟩|refine Rd (fun h=>⟨?_⟩) fun h=>⟨?_⟩|refine Rb ⟨?_⟩|fail
   exact Rz
 · simp only [if_neg h1];by_cases h2:k=[117,112,112,101,114]
   · simp only [if_pos h2];subst h2;have c1:=xL (m:=m) w.over hlo;refine G0 Tryz.func63 ?_;repeat' first|refine Ra ⟨?_⟩|refine R0 c1 ⟨?_⟩|refine Rd (fun h=>⟨?_⟩) fun h=>⟨?_⟩|refine Rb ⟨?_⟩|fail
     exact Rz
   · simp only [if_neg h2];by_cases h3:1≤ld k
     · simp only [if_pos h3,ck];have c1:=xN (m:=m) w k hbw h3;generalize cS w k=W at c1 ⊢;rcases lm h3 with ⟨rfl,_⟩|⟨rfl,_⟩|⟨rfl,_⟩
       all_goals
        refine G0 Tryz.func63 ?_;repeat' first|refine Ra ⟨?_⟩|refine R0 c1 ⟨?_⟩|refine Rd (fun h=>⟨?_⟩) fun h=>⟨?_⟩|refine Rb ⟨?_⟩|fail
        exact Rz
     · simp only [if_neg h3];obtain ⟨n1,n2,n3⟩:=Gn h3;by_cases h4:k=[116,114,121]
       · simp only [if_pos h4,doL,ck];subst h4;have c1:=kp (m:=m) w (evT 3) hb hok (Cz 3);generalize wDo w (evT 3)=W at c1 ⊢;refine G0 Tryz.func63 ?_;repeat' first|refine Ra ⟨?_⟩|refine R0 c1 ⟨?_⟩|refine Rd (fun h=>⟨?_⟩) fun h=>⟨?_⟩|refine Rb ⟨?_⟩|fail
         exact Rz
       · simp only [if_neg h4];by_cases h5:k=[116,105,99,107]
         · simp only [if_pos h5,doL,ck];subst h5;have c1:=kp (m:=m) w (evT 4) hb hok (Cz 4);generalize wDo w (evT 4)=W at c1 ⊢;refine G0 Tryz.func63 ?_;repeat' first|refine Ra ⟨?_⟩|refine R0 c1 ⟨?_⟩|refine Rd (fun h=>⟨?_⟩) fun h=>⟨?_⟩|refine Rb ⟨?_⟩|fail
           exact Rz
         · simp only [if_neg h5];by_cases h6:k=[110,101,116]
           · simp only [if_pos h6,ck];subst h6;have c1:=tJ (m:=m) w.net.length (by omega);have c2:=tJ (m:=m) w.leases.length h100;have d1:(gR w.net.length).length≤2:=by unfold gR; split <;> simp
             have d2:(gR w.leases.length).length≤2:=by unfold gR; split <;> simp
             have d3:=d1;have d4:=d2;rw [← e3] at c1 d1;rw [← e4] at c2 d2;rw [← e3,← e4];refine G0 Tryz.func63 ?_;repeat' first|refine Ra ⟨?_⟩|refine R0 c1 ⟨?_⟩|refine R0 c2 ⟨?_⟩|refine Rd (fun h=>⟨?_⟩) fun h=>⟨?_⟩|refine Rb ⟨?_⟩|fail
             exact Rz
           · simp only [if_neg h6,ik,ck];refine G0 Tryz.func63 ?_;repeat' first|refine Rx ⟨?_⟩|refine Rd (fun h=>⟨?_⟩) fun h=>⟨?_⟩|fail
             exact Rz
theorem BD (w:Wld) (k a:Bs) (q:List Bs) (n:Int) (hb:cR 1048575 w) (hok:aL w=true) (hq:∀ x∈q,x.length≤1048576):Con (E m) 70 0 [.agg w.c,.sl ((k :: a :: q).map fun l=>[.s l]),.k .i64 n] [] (.tup [.agg (pk w k q n).1.c,.s (aN (pk w k q n).2)]) []:=by
 have hbw:=hb.w (by omega);have h0:nD 1073741823 op0:=⟨by simp [op0],by simp [op0],by simp [op0]⟩;unfold pk;by_cases hg:1≤fF k
 · match q,hq with
   | [],_=>
     rw [if_pos ⟨hg,rfl⟩];simp only [doL,ck];have c1:=kp (m:=m) w ⟨fF k,0,[],op0,n⟩ hb hok ⟨by simp,h0⟩;rcases fZ hg with ⟨rfl,e⟩|⟨rfl,e⟩|⟨rfl,e⟩
     all_goals
      rw [e] at c1 ⊢;generalize wDo w _=W at c1 ⊢;refine G0 Tryz.func70 ?_;repeat' first|refine Ra ⟨?_⟩|refine R0 c1 ⟨?_⟩|refine Rd (fun h=>⟨?_⟩) fun h=>⟨?_⟩|refine Rb ⟨?_⟩|fail
      exact Rz
   | [x],_=>
     rw [if_neg fun h=>by cases h.2];have e1:¬ k=[97,115,107]:=by rintro rfl; exact absurd hg (by decide)
     have e2:¬ k=[114,101,97,100]:=by rintro rfl; exact absurd hg (by decide)
     simp only [if_neg e1,if_neg e2,ik,ck];rcases fZ hg with ⟨rfl,e⟩|⟨rfl,e⟩|⟨rfl,e⟩
     all_goals
      refine G0 Tryz.func70 ?_;repeat' first|refine Rx ⟨?_⟩|refine Rd (fun h=>⟨?_⟩) fun h=>⟨?_⟩|fail
      exact Rz
   | x :: y :: r,_=>
     rw [if_neg fun h=>by cases h.2];simp only [ik,ck];rcases fZ hg with ⟨rfl,e⟩|⟨rfl,e⟩|⟨rfl,e⟩
     all_goals
      refine G0 Tryz.func70 ?_;repeat' first|refine Rx ⟨?_⟩|refine Rd (fun h=>⟨?_⟩) fun h=>⟨?_⟩|fail
      exact Rz
 · rw [if_neg fun h=>hg h.1];obtain ⟨g1,g2,g3⟩:=Cw hg
   match q,hq with
   | [],_=>
     simp only [ik,ck];by_cases e1:k=[97,115,107]
     · subst e1;refine G0 Tryz.func70 ?_;repeat' first|refine Rx ⟨?_⟩|refine Rd (fun h=>⟨?_⟩) fun h=>⟨?_⟩|fail
       exact Rz
     · by_cases e2:k=[114,101,97,100]
       · subst e2;refine G0 Tryz.func70 ?_;repeat' first|refine Rx ⟨?_⟩|refine Rd (fun h=>⟨?_⟩) fun h=>⟨?_⟩|fail
         exact Rz
       · refine G0 Tryz.func70 ?_;repeat' first|refine Rx ⟨?_⟩|refine Rd (fun h=>⟨?_⟩) fun h=>⟨?_⟩|fail
         exact Rz
   | [x],hq=>
     have hx:=hq x (by simp);by_cases e1:k=[97,115,107]
     · simp only [if_pos e1,doL,ck];have c1:=kp (m:=m) w ⟨1,n,x,op0,0⟩ hb hok ⟨by simp only; omega,h0⟩;subst e1;generalize wDo w _=W at c1 ⊢;refine G0 Tryz.func70 ?_;repeat' first|refine Ra ⟨?_⟩|refine R0 c1 ⟨?_⟩|(refine ⟨2,_,rfl,rfl,rfl,?_⟩ <;> conv=>whnf)|refine Rd (fun h=>⟨?_⟩) fun h=>⟨?_⟩|refine Rb ⟨?_⟩|fail
       exact Rz
     · simp only [if_neg e1];by_cases e2:k=[114,101,97,100]
       · simp only [if_pos e2,ck];have c1:=zL (m:=m) w n x hbw fun h hr=>tL hok hr;subst e2;refine G0 Tryz.func70 ?_;repeat' first|refine Ra ⟨?_⟩|refine R0 c1 ⟨?_⟩|(refine ⟨2,_,rfl,rfl,rfl,?_⟩ <;> conv=>whnf)|refine Rd (fun h=>⟨?_⟩) fun h=>⟨?_⟩|refine Rb ⟨?_⟩|fail
         exact Rz
       · simp only [if_neg e2,ik,ck];refine G0 Tryz.func70 ?_;repeat' first|refine Rx ⟨?_⟩|refine Rd (fun h=>⟨?_⟩) fun h=>⟨?_⟩|fail
         exact Rz
   | x :: y :: r,_=>
     simp only [ik,ck];by_cases e1:k=[97,115,107]
     · subst e1;refine G0 Tryz.func70 ?_;repeat' first|refine Rx ⟨?_⟩|refine Rd (fun h=>⟨?_⟩) fun h=>⟨?_⟩|fail
       exact Rz
     · by_cases e2:k=[114,101,97,100]
       · subst e2;refine G0 Tryz.func70 ?_;repeat' first|refine Rx ⟨?_⟩|refine Rd (fun h=>⟨?_⟩) fun h=>⟨?_⟩|fail
         exact Rz
       · refine G0 Tryz.func70 ?_;repeat' first|refine Rx ⟨?_⟩|refine Rd (fun h=>⟨?_⟩) fun h=>⟨?_⟩|fail
         exact Rz
theorem BE (w:Wld) (k:Bs) (r:List Bs) (hb:cR 1048575 w) (hok:aL w=true) (h100:w.leases.length < 100) (hl:r.length≤1048576) (hbr:∀ x∈r,x.length≤1048576∧x≠[]) :
   Con (E m) 24 0 [.agg w.c,.sl ((k :: r).map fun l=>[.s l])] [] (.tup [.agg (bB w (k :: r)).1.c,.s (aN (bB w (k :: r)).2)]) []:=by
 have hbw:=hb.w (by omega)
 match r,hl,hbr with
 | [],_,_=>
   rw [Fs];have c1:=BC (m:=m) w k hb hok h100;generalize DN w k=W at c1 ⊢;refine G0 Tryz.func24 ?_;repeat' first|refine Ra ⟨?_⟩|refine R0 c1 ⟨?_⟩|refine Rd (fun h=>⟨?_⟩) fun h=>⟨?_⟩|refine Rb ⟨?_⟩|fail
   exact Rz
 | a :: q,hl,hbr=>
   rw [Ft,Hb,Cy k a q fun x hx=>(hbr x (by simp [hx])).2];have c1:=DQ (m:=m) k a q (by simp at hl; omega) fun x hx=>(hbr x hx).1;have ha:=(hbr a (by simp)).1;have hlen:¬ (((k :: a :: q).map fun l=>[D.s l]).length:Int)=1:=by simp; omega
   cases hi:Fv (aO k) a q with
   | true=>
     rw [hi] at c1;simp only [if_true,doL,ck];have hop:dn (me (aO k) a q)=true:=by
      have:=Cy k a q fun x hx=>(hbr x (by simp [hx])).2
      rw [hi] at this;exact (iV this).2.2.1
     have hol:=yz hop;have c2:=kp (m:=m) w ⟨2,0,[],me (aO k) a q,0⟩ hb hok ⟨by simp,⟨by simp only; omega,by simp only; omega,by simp only; omega⟩⟩;generalize me (aO k) a q=p at c1 c2 ⊢;generalize wDo w _=W at c2 ⊢;refine G0 Tryz.func24 ?_;repeat' first|refine Ra ⟨?_⟩|refine R0 c1 ⟨?_⟩|refine R0 c2 ⟨?_⟩|(refine bf hlen ?_ <;> conv=>whnf)|refine Rd (fun h=>⟨?_⟩) fun h=>⟨?_⟩|refine Rb ⟨?_⟩|fail
     exact Rz
   | false=>
     rw [hi] at c1;simp only [zAE,if_false];generalize me (aO k) a q=p at c1;by_cases hlist:k=[108,105,115,116]∧q=[]
     · rw [if_pos hlist];obtain ⟨rfl,rfl⟩:=hlist;obtain ⟨t,v,ho,hw,hs⟩:=bi hok;have hv:=(bu ho).2.2.2;have hvl:=az hv;rw [hs];have c2:=fg (m:=m) w.over hbw.over;have hvt:gp w.over=some v:=by rw [gp,(bJ.1 ho).1]; exact (bJ.1 ho).2.1
       rw [hvt] at c2;have c3:=uD (m:=m) v a (G9 hv) (by omega) (by omega);have hk:(bj v a).1.length≤16∧∀ x∈(bj v a).1,x.length≤12:=pi hv a;have hcd:fP (bj v a).2:=by
        unfold bj;repeat' split
        all_goals simp [fP]
       have c4:=xM (m:=m) (bj v a).1 (bj v a).2 hcd hk.1 hk.2;unfold tD;generalize bj v a=T at c3 c4 ⊢;refine G0 Tryz.func24 ?_;repeat' first|refine Ra ⟨?_⟩|refine R0 c1 ⟨?_⟩|refine R0 c2 ⟨?_⟩|refine Rk [] 1 c3 ⟨?_⟩|refine R0 c4 ⟨?_⟩|(refine bf hlen ?_ <;> conv=>whnf)|(refine ⟨1,_,rfl,rfl,rfl,?_⟩ <;> conv=>whnf)|refine Rd (fun h=>⟨?_⟩) fun h=>⟨?_⟩|refine Rb ⟨?_⟩|fail
       exact Rz
     · rw [if_neg hlist];have c2:=Fm (m:=m) a (by omega);have hlist2:¬ k=[108,105,115,116]∨(k=[108,105,115,116]∧¬ (((k :: a :: q).map fun l=>[D.s l]).length:Int)=2):=by
        by_cases hk:k=[108,105,115,116]
        · refine .inr ⟨hk,fun h=>hlist ⟨hk,?_⟩⟩;simp at h;exact List.eq_nil_of_length_eq_zero (by omega)
        · exact .inl hk
       cases hn:cA a with
       | none=>
         rw [hn] at c2;simp only [ik,ck];rcases hlist2 with hk|⟨hk,hk2⟩
         all_goals
          refine G0 Tryz.func24 ?_;repeat' first|refine Ra ⟨?_⟩|refine R0 c1 ⟨?_⟩|refine R0 c2 ⟨?_⟩|(refine bf hlen ?_ <;> conv=>whnf)|(refine bf hk ?_ <;> conv=>whnf)|(refine bt hk ?_ <;> conv=>whnf)|(refine bf hk2 ?_ <;> conv=>whnf)|(refine ⟨1,_,rfl,rfl,rfl,?_⟩ <;> conv=>whnf)|refine Rd (fun h=>⟨?_⟩) fun h=>⟨?_⟩|refine Rb ⟨?_⟩|fail
          exact Rz
       | some n=>
         rw [hn] at c2;simp only;have c3:=BD (m:=m) w k a q n hb hok fun x hx=>(hbr x (by simp [hx])).1;generalize pk w k q n=W at c3 ⊢;rcases hlist2 with hk|⟨hk,hk2⟩
         all_goals
          refine G0 Tryz.func24 ?_;repeat' first|refine Ra ⟨?_⟩|refine R0 c1 ⟨?_⟩|refine R0 c2 ⟨?_⟩|refine R0 c3 ⟨?_⟩|(refine bf hlen ?_ <;> conv=>whnf)|(refine bf hk ?_ <;> conv=>whnf)|(refine bt hk ?_ <;> conv=>whnf)|(refine bf hk2 ?_ <;> conv=>whnf)|(refine ⟨1,_,rfl,rfl,rfl,?_⟩ <;> conv=>whnf)|refine Rd (fun h=>⟨?_⟩) fun h=>⟨?_⟩|refine Rb ⟨?_⟩|fail
          exact Rz
theorem uM (o:Ovr) (hb:gq o):Con (E m) 21 0 [.agg o.c] [] (.agg (av o).c) []:=by
 have c1:=cH (iL (m:=m) o hb);refine cE ?_;refine dO B0 FP Tryz.func21 rfl rfl rfl (zAF rfl) ?_;repeat' first|refine Ra ⟨?_⟩|refine R0 c1 ⟨?_⟩|((refine ⟨rfl,?_⟩) <;> conv=>whnf)|((refine ⟨3,rfl,zAF rfl,zAF rfl,?_⟩) <;> conv=>whnf)|((refine ⟨3,rfl,rfl,zAF rfl,zAF rfl,?_⟩) <;> conv=>whnf)|refine Rd (fun h=>⟨?_⟩) fun h=>⟨?_⟩|refine Rb ⟨?_⟩|fail
 exact Rz
theorem ln (s:Bs) (hs:s.length≤1048576):Con (E m) 7 0 [.s s] [] (.s (aT s)) []:=by
 unfold aT;by_cases h2:20000 < s.length
 · rw [if_pos h2];refine G0 Tryz.func7 ?_;repeat' first|refine Rx ⟨?_⟩|refine Rd (fun h=>⟨?_⟩) fun h=>⟨?_⟩|fail
   exact Rf
 · rw [if_neg h2];have c1:=uM (m:=m) ov0 xn;have c2:=sH (m:=m) s 10 (by omega);have hL1:=kH 10 s;have hL2:=jT 10 s;have e1:((cut 10 s).map fun l=>[D.s l]).length=(cut 10 s).length:=zAA ..;generalize cut 10 s=L at c2 hL1 hL2 e1 ⊢;refine G0 Tryz.func7 ?_;repeat' first|refine Ra ⟨?_⟩|refine R0 c1 ⟨?_⟩|refine Rk [] 1 c2 ⟨?_⟩|refine Rd (fun h=>⟨?_⟩) fun h=>⟨?_⟩|refine Rb ⟨?_⟩|fail
   refine Cd.loop2 (fun mq tm S nx=>∃ (i:Nat) (x:Wld) (out:Bs),mq=(L.length - i)∧tm=[(3,.bp 0 0),(4,.sl (L.map fun l=>[.s l])),(5,.s out),(6,.k .i64 i)]∧S=[(0,.box 54 x.c)]∧nx=1∧(i≤L.length)∧(aL x=true)∧(cR i x)∧(few i x)∧(out.length≤21005)∧(bm 0 (av ov0) [] L=bm i x out (L.drop i))) ?_ ?_
   · refine li [3,4] [3,4,5,6] ?_
     conv=>whnf
     refine ⟨rfl,rfl,_,0,av ov0,[],rfl,rfl,rfl,rfl,zAG _,jx (by decide +kernel),zj xn,Ct ov0,(by simp),rfl⟩
   · rintro mq tm S nx ⟨i,x,out,hn,rfl,rfl,rfl,hi,hok,hbn,hf,ho,hrun⟩;obtain ⟨t,v,hov,hw,_⟩:=bi hok;rcases au L i hi with ⟨rfl,hd⟩|⟨l,q,hl,hd,hr,hlt⟩
     · rw [hd,bm] at hrun;rw [hrun];repeat' first|refine Rx ⟨?_⟩|refine Rd (fun h=>⟨?_⟩) fun h=>⟨?_⟩|fail
       exact Rf
     · have hll:=hL2 l (zAD hl);obtain ⟨hw1,hw2⟩:=q9 l;have c3:=zy (m:=m) l (by omega);rw [hd,bm] at hrun;cases hws:bH l with
       | nil=>
         rw [hws] at c3;rw [hws,if_pos rfl,← hr] at hrun;repeat' first|refine Ra ⟨?_⟩|refine Rk [] 1 c3 ⟨?_⟩|refine Rd (fun h=>⟨?_⟩) fun h=>⟨?_⟩|refine Rb ⟨?_⟩|fail
         refine .here ⟨mq - 1,by omega,?_⟩;refine la [3,4,5,6] ?_
         conv=>whnf
         refine ⟨rfl,rfl,i+1,x,out,(by omega),rfl,rfl,rfl,by omega,hok,hbn.up (Nat.le_succ _),xC hf (Nat.le_succ _),ho,hrun⟩
       | cons k r=>
         rw [hws] at c3 hw1 hw2;rw [hws,if_neg (by simp),← hr] at hrun;have e2:(((k :: r).map fun l=>[D.s l]).length:Int)=r.length+1:=by simp
         by_cases hfull:200≤i∨20000 < out.length
         · rw [if_pos hfull] at hrun;rw [hrun];rcases Nat.lt_or_ge i 200 with hlt2|hge2
           · have hf2:20000 < out.length:=hfull.resolve_left (by omega);repeat' first|refine Ra ⟨?_⟩|refine Rk [] 1 c3 ⟨?_⟩|refine Rd (fun h=>⟨?_⟩) fun h=>⟨?_⟩|refine Rb ⟨?_⟩|fail
             exact Rf
           · repeat' first|refine Ra ⟨?_⟩|refine Rk [] 1 c3 ⟨?_⟩|refine Rd (fun h=>⟨?_⟩) fun h=>⟨?_⟩|refine Rb ⟨?_⟩|fail
             exact Rf
         · rw [if_neg hfull] at hrun;have hb1:=hbn.up (k:=1048575) (by omega);have h100:=Cr hf hw;have c4:=BE (m:=m) x k r hb1 hok (by omega) (by simp at hw1; omega) fun a ha=>by
            have:=hw2 a (by simp [ha])
            exact ⟨by omega,this.2⟩
           have d1:=rK hok (k :: r);have d2:=hbn.line hok (k:=k) (r:=r) fun a ha=>by have:=(hw2 a (by simp [ha])).1; omega
           have d3:=zq hf (k :: r);have d4:=tM hok (k :: r);generalize bB x (k :: r)=Y at c4 hrun d1 d2 d3 d4;obtain ⟨y,A⟩:=Y;simp only at c4 hrun d1 d2 d3 d4;repeat' first|refine Ra ⟨?_⟩|refine Rk [] 1 c3 ⟨?_⟩|refine R0 c4 ⟨?_⟩|refine Rd (fun h=>⟨?_⟩) fun h=>⟨?_⟩|refine Rb ⟨?_⟩|fail
           refine .here ⟨mq - 1,by omega,?_⟩;refine la [3,4,5,6] ?_
           conv=>whnf
           refine ⟨rfl,rfl,i+1,y,out++aN A,(by omega),rfl,rfl,rfl,by omega,d1,d2,d3,(by rw [zAL]; omega),hrun⟩
end Go.Proofs.YtlicaibhgcenhaaGreatDoor
namespace Go.Proofs.YtlicaibhgcenhaaGreatDoor
open Go Go.RowKit
theorem qf {P:Program} {f:FuncId} {fn:Func} {s:ChangeSpec} {c:OpenClaim}
   (k1:c.wf (OpenSpec.ofChange s)=true) (k2:laidOutB P=true) (k3:mapsRowed P=true) (k4:fn.params.all (P.readableRec ·)=true) (k5:namedTie P c.named s.vars=true)
   (k6:(c.stops == [])=true) (k7:(P.stops == [])=true) (k8:(c.knobs == [])=true) (k9:(P.stopKnobs == [])=true)
   (k10:(c.inPlace == P.inPlace f)=true) (k11:(c.unfollowed == P.unfollowed f)=true) (k12:(c.recurses == P.recurses f)=true) (k13:(c.named == P.varsNamed f)=true)
   (k14:(c.maps == (fn.params.toList++s.plain.varTypes P).any (P.mapsRec ·))=true) (k15:(c.ifaces == (fn.params.toList++s.plain.varTypes P).any (P.ifacesRec ·))=true) (k16:(c.mapsOut == P.mapsAmong fn.resultTypes.toList)=true)
   (k17:(c.loops == (fn.params.toList++s.plain.varTypes P).any (P.loopsFrom ·))=true) (k18:(c.wideKeys == (fn.params.toList++s.plain.varTypes P++fn.resultTypes.toList).any (P.wideKeysFrom ·))=true)
   (k19:s.vars.all (P.varReadable ·)=true) (k20:fn.resultTypes.all (fun t=>P.readableRec t && decide (t < P.types.size))=true) (k21:(c.ifacesOut == fn.resultTypes.toList.any (P.ifacesRec ·))=true) (k22:(c.loopsOut == fn.resultTypes.toList.any (P.loopsFrom ·))=true) (k23:(c.plainKeys == P.plainKeys)=true)
   (k24:c.shortTexts.isNone=true) (k25:P.stopsHeard=true) (k26:P.mayEnter=true) (k27:(c.lifted == P.liftsFinal)=true) (k28:(P.make == some c.make)=true)
   (k29:(c.kinds == (if c.domain.isEmpty then [] else fn.params.toList.map fun t=>match P.underlying t with|some (.int k)=>some k|_=>none))=true) (k30:(c.pinned == c.pinnedBy)=true)
   (k31:(c.veiled == (fn.params.toList++s.plain.varTypes P++fn.resultTypes.toList).any (P.veiledRec ·))=true) (k32:c.veiledFits P fn.params.toList (fn.params.toList++s.plain.varTypes P++fn.resultTypes.toList)=true):joinedFacts P f fn s c=true:=by
 unfold joinedFacts;simp only [zAC];exact ⟨⟨⟨⟨⟨⟨⟨⟨⟨⟨⟨⟨⟨⟨⟨⟨⟨⟨⟨⟨⟨⟨⟨⟨⟨⟨⟨⟨⟨⟨⟨k1,k2⟩,k3⟩,k4⟩,k5⟩,k6⟩,k7⟩,k8⟩,k9⟩,k10⟩,k11⟩,k12⟩,k13⟩,k14⟩,k15⟩,k16⟩,k17⟩,k18⟩,k19⟩,k20⟩,k21⟩,k22⟩,k23⟩,k24⟩,k25⟩,k26⟩,k27⟩,k28⟩,k29⟩,k30⟩,k31⟩,k32⟩
def io0:List Char:=(List.map Char.ofNat [104, 97, 114, 110, 101, 115, 115, 32, 50, 100, 53, 97, 56, 54, 51, 48, 101, 50, 97, 56, 51, 51, 54, 101, 52, 48, 53, 100, 101, 51, 99, 98, 102, 48, 55, 99, 57, 50, 55, 53, 102, 54, 53, 98, 101, 48, 53, 99, 99, 98, 48, 56, 99, 48, 99, 99, 55, 51, 52, 49, 99, 100, 53, 57, 98, 102, 57, 50, 57, 97, 100, 49, 32, 99, 117, 116, 32, 97, 116, 32, 108, 111, 111, 112, 46, 101, 120, 97, 109, 112, 108, 101, 47, 112, 97, 114, 103, 101, 116, 105, 110, 103, 47, 108, 97, 119, 115, 46, 70, 110, 69, 120, 97, 99, 116, 68, 101, 115, 107, 82, 117, 110, 32, 108, 111, 111, 112, 46, 101, 120, 97, 109, 112, 108, 101, 47, 112, 97, 114, 103, 101, 116, 105, 110, 103, 47, 108, 97, 119, 115, 46, 70, 110, 68, 101, 115, 107, 32, 108, 111, 111, 112, 46, 101, 120, 97, 109, 112, 108, 101, 47, 112, 97, 114, 103, 101, 116, 105, 110, 103, 47, 108, 97, 119, 115, 46, 70, 110, 68, 101, 115, 107, 70, 114, 101, 115, 104, 32, 108, 111, 111, 112, 46, 101, 120, 97, 109, 112, 108, 101, 47, 112, 97, 114, 103, 101, 116, 105, 110, 103, 47, 108, 97, 119, 115, 46, 70, 110, 69, 120, 97, 99, 116, 87, 111, 114, 108, 100, 66, 97, 114, 115])
def ioW:List (List Char):=[(List.map Char.ofNat [104, 97, 114, 110, 101, 115, 115]),(List.map Char.ofNat [50, 100, 53, 97, 56, 54, 51, 48, 101, 50, 97, 56, 51, 51, 54, 101, 52, 48, 53, 100, 101, 51, 99, 98, 102, 48, 55, 99, 57, 50, 55, 53, 102, 54, 53, 98, 101, 48, 53, 99, 99, 98, 48, 56, 99, 48, 99, 99, 55, 51, 52, 49, 99, 100, 53, 57, 98, 102, 57, 50, 57, 97, 100, 49]),(List.map Char.ofNat [99, 117, 116]),(List.map Char.ofNat [97, 116]),(List.map Char.ofNat [108, 111, 111, 112, 46, 101, 120, 97, 109, 112, 108, 101, 47, 112, 97, 114, 103, 101, 116, 105, 110, 103, 47, 108, 97, 119, 115, 46, 70, 110, 69, 120, 97, 99, 116, 68, 101, 115, 107, 82, 117, 110]),(List.map Char.ofNat [108, 111, 111, 112, 46, 101, 120, 97, 109, 112, 108, 101, 47, 112, 97, 114, 103, 101, 116, 105, 110, 103, 47, 108, 97, 119, 115, 46, 70, 110, 68, 101, 115, 107]),(List.map Char.ofNat [108, 111, 111, 112, 46, 101, 120, 97, 109, 112, 108, 101, 47, 112, 97, 114, 103, 101, 116, 105, 110, 103, 47, 108, 97, 119, 115, 46, 70, 110, 68, 101, 115, 107, 70, 114, 101, 115, 104]),(List.map Char.ofNat [108, 111, 111, 112, 46, 101, 120, 97, 109, 112, 108, 101, 47, 112, 97, 114, 103, 101, 116, 105, 110, 103, 47, 108, 97, 119, 115, 46, 70, 110, 69, 120, 97, 99, 116, 87, 111, 114, 108, 100, 66, 97, 114, 115])]
def ioR:List (List Char):=ioW.drop 3
theorem Gp:Tryz.prog.initOrder=String.ofList io0:=by kernel_rfl
theorem zM:wordsSigns Tryz.prog.initOrder.toList=ioW:=by
 rw [Gp,String.toList_ofList]
 kernel_rfl
theorem mK:behindMainWord (wordsSigns Tryz.prog.initOrder.toList)=(List.map Char.ofNat [99, 117, 116]) :: ioR:=by
 rw [zM]
 kernel_rfl
theorem zN:stripLifts liftWords ((List.map Char.ofNat [99, 117, 116]) :: ioR)=([],(List.map Char.ofNat [99, 117, 116]) :: ioR):=by kernel_rfl
theorem Hc:Tryz.prog.laysLater=false:=by kernel_rfl
theorem Fw:Tryz.prog.bearsReflect=false:=by kernel_rfl
theorem Hr:Tryz.prog.doorFits []=true:=by kernel_rfl
theorem Hd:Tryz.prog.mayEnter=true:=by
 unfold Program.mayEnter;rw [mK];simp only [zN,Hc,Fw,Hr]
 kernel_rfl
theorem tS:Tryz.prog.headLifts=[]:=by
 unfold Program.headLifts;rw [mK,zN]
 kernel_rfl
theorem BF:Tryz.prog.liftsFinal=false:=by
 unfold Program.liftsFinal;rw [mK,tS]
 kernel_rfl
theorem Fx:Tryz.prog.make=some .cut:=by
 unfold Program.make;rw [mK];simp only [tS]
 kernel_rfl
theorem xO:Tryz.prog.mainIs=some (true,(List.map Char.ofNat [50, 100, 53, 97, 56, 54, 51, 48, 101, 50, 97, 56, 51, 51, 54, 101, 52, 48, 53, 100, 101, 51, 99, 98, 102, 48, 55, 99, 57, 50, 55, 53, 102, 54, 53, 98, 101, 48, 53, 99, 99, 98, 48, 56, 99, 48, 99, 99, 55, 51, 52, 49, 99, 100, 53, 57, 98, 102, 57, 50, 57, 97, 100, 49])):=by
 unfold Program.mainIs;rw [zM]
 kernel_rfl
theorem BG:mapsRowed Tryz.prog=true:=by kernel_rfl
theorem nS:Tryz.prog.plainKeys=true:=by kernel_rfl
theorem BH:Tryz.prog.stopsHeard=true:=by kernel_rfl
theorem BI:Tryz.prog.stops=[]:=by kernel_rfl
theorem BJ:Tryz.prog.stopKnobs=[]:=by kernel_rfl
theorem BK:Tryz.prog.looks []=false:=by kernel_rfl
theorem zO:Tryz.prog.funcs.any Func.goes=false:=by kernel_rfl
theorem Fy (c:OpenClaim) (h:c.start=.entering):false=c.goesBy Tryz.prog:=by
 unfold OpenClaim.goesBy Program.goesAt Program.goesFrom Program.goes;rw [h,zO]
 have:∀ f,((Tryz.prog.closure f).any fun g=>(Tryz.prog.funcs[g]?).any Func.goes)=false:=fun f=>by
  rw [List.any_eq_false];intro g _;cases hg:Tryz.prog.funcs[g]? with
  | none=>simp
  | some fn=>
    have hm:=zBK hg
    have:=Array.any_eq_false'.1 zO fn hm
    simpa using this
 cases Tryz.prog.funcNamed c.func with
 | none=>rfl
 | some f=>simp [this f]
end Go.Proofs.YtlicaibhgcenhaaGreatDoor
namespace Go.Proofs.YtlicaibhgcenhaaGreatDoor
open Go Go.RowKit Go.Ab
variable {m:Int}
theorem jJ (W:World) (h:W.ShapedOpen Tryz.prog):∃ m,W.cell? ⟨1,0,none⟩=some (.int .i64 m):=
 Go.Proofs.cell_of_shapedOpen_int (zero:=#[.int .i64 0]) (t:=3) h (of_decide_eq_true (by kernel_rfl)) (by kernel_rfl) rfl (by kernel_rfl) (by kernel_rfl) Tryz.underlying3
theorem ra:∀ (xs:List (List D)),(∀ cs∈xs,Shp Tryz.prog 5 cs)→∃ l:List UInt8,xs=aA l
 | [],_=>⟨[],rfl⟩
 | cs :: xs,h=>by
   obtain ⟨n,rfl,hn⟩:=(h cs (by simp)).int_inv Tryz.underlying5;obtain ⟨l,rfl⟩:=ra xs fun c hc=>h c (by simp [hc]);simp only [Lit.wf,zAC,decide_eq_true_eq] at hn;have h1:0≤n:=hn.1;have h2:n≤255:=hn.2;refine ⟨UInt8.ofNat n.toNat :: l,?_⟩
   have:((UInt8.ofNat n.toNat).toNat:Int)=n:=by
    rw [UInt8.toNat_ofNat'];omega
   simp only [aA,List.map_cons,this]
theorem qg {d:D} (h:Ap Tryz.prog 24 d):∃ l:List UInt8,d=.sl (aA l):=by
 have h1:=h.one (fun fs=>by rw [Tryz.underlying24]; simp);obtain ⟨xs,hx,hl,hc⟩:=h1.slice_inv Tryz.underlying24;obtain ⟨l,rfl⟩:=ra xs hc;cases hx;exact ⟨l,rfl⟩
theorem BL {W : World} {l : List (String × DataW Unit)} (hm : W.cell? ⟨1, 0, none⟩ = some (.int .i64 m)) (hplain : (l.all fun x => x.2.handleName?.isNone) = true) (hmem : ("loop.example/pargeting/impl.opWords", Rows.laid_loop_example_pargeting_impl_opWords) ∈ l) (hx : laidMetH Tryz.prog l W) :
   ∀ g cs,(Eo m).gl g=some cs→VI W ni (.ep cs) (.pointer (some ⟨g,0,none⟩)):=by
 intro g cs h;have h':lk (FO m) g=some cs:=h;unfold FO at h';rw [ak] at h';split at h'
 · rename_i hg;subst hg;cases h';exact GS hm rfl (.k _ _)
 · rw [ak] at h';split at h'
   · rename_i hg;subst hg;cases h';rw [MakeChecks.laidMetH_plain _ _ _ hplain] at hx;obtain ⟨ps,hl,_,_⟩:=hx;obtain ⟨g1,t1,cs1,fuel,p,e1,e2,e3,e4⟩:=EC hl _ _ hmem;have hg : Tryz.prog.globalNamed "loop.example/pargeting/impl.opWords" = some 0 := by kernel_rfl
     have ht:(Tryz.prog.globals[0]?).map (·.type)=some 235:=by kernel_rfl
     obtain rfl:=zAY (hg.symm.trans e1);obtain rfl:=zAY (ht.symm.trans e2);exact EB (ls:=[[],[109,97,107,101],[112,117,116],[114,109],[114,109,100,105,114],[109,111,118,101]]) hg e3 Tryz.underlying235 Tryz.underlying9 (by kernel_rfl) (by simp) e4
   · simp [lk] at h'
end Go.Proofs.YtlicaibhgcenhaaGreatDoor
