/- Texts of this claim, set close: lemmas and contracts. -/
import Derived.Test.YtagejnomlkfndaaGreatDoorYY16
import Derived.Test.YtagejnomlkfndaaGreatDoorYY5
import Derived.Test.YtagejnomlkfndaaGreatDoorYY13
import Derived.Test.YtagejnomlkfndaaGreatDoorYY10
import Derived.Test.YtagejnomlkfndaaGreatDoorYY9
set_option linter.unusedSimpArgs false
set_option linter.unusedVariables false
set_option maxHeartbeats 1000000
set_option maxRecDepth 10000
namespace Go.Proofs.YtagejnomlkfndaaGreatDoor
open Go Go.RowKit Go.Ab Go.Par Go.Proofs Go.Sort Go.Shelf
variable {m:Int}
theorem uu (x:Value) (l:Bs) (hx:x=vS l) (W:World):Calls Tryz.prog 286 #[x] W fun e w'=>e=.returned (.bool false)∧w'=W:=by
 subst hx
 go_enter Tryz.func286,Tryz.ntmps286
 go_wp2
 go_ret
 exact ⟨by simp,rfl⟩
theorem rT (a b:Bs) (W:World):Calls Tryz.prog 253 #[vS a,vS b] W fun e w'=>e=.returned (.int .i64 (oY a b))∧w'=W:=by
 have h1:=fun W=>uu (vS a) a rfl W;have h2:=fun W=>uu (vS b) b rfl W;unfold oY
 go_enter Tryz.func253,Tryz.ntmps253
 go_wp2_with (go_at_call 286; first|(refine (h1 _).mono ?_; rintro e w' ⟨rfl,rfl⟩)|(refine (h2 _).mono ?_; rintro e w' ⟨rfl,rfl⟩))
 all_goals first
  | (go_ret; exact ⟨rfl,rfl⟩)
  | (go_ret; refine ⟨?_,rfl⟩; simp_all; done)
  | (go_ret; refine ⟨?_,rfl⟩; rcases eZ a b with g|g|g <;> simp_all)
  | (exfalso; rcases eZ a b with g|g|g <;> simp_all)
theorem D0 (x y:Ent) (W:World):Calls Tryz.prog 252 #[.agg (Ent.v x).toArray,.agg (Ent.v y).toArray] W fun e w'=>e=.returned (.int .i64 (oY x.path y.path))∧∃ q os',w'=grow (W.drewN q) os':=by
 have hcon:=fun W'=>rT x.path y.path W';generalize oY x.path y.path=r at hcon ⊢;unfold Ent.v
 go_enter Tryz.func252,Tryz.ntmps252
 go_wp2_with (go_at_call 253; refine (hcon _).mono ?_; rintro e w' ⟨rfl,rfl⟩)
 go_ret
 exact ⟨rfl,0,_,by rw [alloc_eq_grow,alloc_eq_grow,grow_grow]; rfl⟩
theorem sW (L U:List Ent) (hU:∀ S:List Ent,S.Perm L→(S.Pairwise fun a b=>lt b.path a.path=false)→S=U) (hl:L.length≤1000000) :
   Con (E m) 251 1 [.own 0,.fn 252 []] [(0,.own 66 (L.map Ent.c))] (.tup []) [(0,.own 66 (U.map Ent.c))]:=
 xl zK (by decide) (by kernel_rfl) ⟨_,Tryz.func251,rfl,rfl⟩ (o5 (pa:=fun e:Ent=>e.path) hU)
  (fun _ w=>AnyF.slices_SortFunc_none Tryz.sortE none 0 _ w)
  (fun b cap w hH hb=>by
   have eg:∀ args w,(callFunc 252 args).run Tryz.prog w=.ok (.enter 252 args) w:=enters_of Tryz.func252 (by kernel_rfl) rfl;refine (AnyQ.slices_SortFunc Tryz.sortE 3 Tryz.isAgg66 Tryz.sizeOf66 Ent.v zK.len zK.one (fun x y=>oY x.path y.path) GR 252 #[] b 0 cap L.toArray w eg (fun _ _ _ _ x y=>D0 x y _) hH hb (by simp; omega)).mono ?_;rintro e w' ⟨he,d,n,os,hp,hs,rfl⟩;have hd:d.toList=U:=hU _ (ut hp) (pM (pa:=fun e:Ent=>e.path) hp.1 hs);refine ⟨he,n,os,?_⟩;rw [← hd])
theorem nW (L U:List Ent) (hU:∀ S:List Ent,S.Perm L→(S.Pairwise fun a b=>lt b.path a.path=false)→S=U) (hl:L.length≤1000000) :
   Con (E m) 193 1 [.own 0] [(0,.own 66 (L.map Ent.c))] (.tup []) [(0,.own 66 (U.map Ent.c))]:=by
 have c1:=sW (m:=m) L U hU hl;refine G0 Tryz.func193 ?_;repeat' first|refine Ra ⟨?_⟩|refine Rk [0] 0 c1 ⟨?_⟩|refine Rd (fun h=>⟨?_⟩) fun h=>⟨?_⟩|refine Rb ⟨?_⟩|fail
 exact Rf
end Go.Proofs.YtagejnomlkfndaaGreatDoor
namespace Go.Proofs.YtagejnomlkfndaaGreatDoor
open Go Go.RowKit Go.Ab Go.Par
variable {m:Int}
theorem mc (s a b:Bs) (hs:s.length≤1073741823) (ha:a.length≤1073741823) (hb:b.length≤1073741823):Con (E m) 192 0 [.s s,.s a,.s b] [] (Fy (aO s a b)) []:=by
 have c1:=cb (m:=m) s (by omega);have c2:=cb (m:=m) a (by omega);have c3:=cb (m:=m) b (by omega);have c4:=iJ (m:=m) s a (by omega) (by omega);cases h1:ae s with
 | false=>
   have hx:aO s a b=none:=by simp [aO,h1]
   rw [hx];rw [h1] at c1;refine G0 Tryz.func192 ?_;repeat' first|refine Ra ⟨?_⟩|refine R0 c1 ⟨?_⟩|refine Rd (fun h=>⟨?_⟩) fun h=>⟨?_⟩|refine Rb ⟨?_⟩|fail
   exact Rf
 | true=>
   cases h2:ae a with
   | false=>
     have hx:aO s a b=none:=by simp [aO,h2]
     rw [hx];rw [h1] at c1;rw [h2] at c2;refine G0 Tryz.func192 ?_;repeat' first|refine Ra ⟨?_⟩|refine R0 c1 ⟨?_⟩|refine R0 c2 ⟨?_⟩|refine Rd (fun h=>⟨?_⟩) fun h=>⟨?_⟩|refine Rb ⟨?_⟩|fail
     exact Rf
   | true=>
     have hpu:bB s a=under s a:=by simp [bB,h1,h2]
     rw [hpu] at c4;cases h3:ae b with
     | false=>
       have hx:aO s a b=none:=by simp [aO,h3]
       rw [hx];rw [h1] at c1;rw [h2] at c2;rw [h3] at c3;refine G0 Tryz.func192 ?_;repeat' first|refine Ra ⟨?_⟩|refine R0 c1 ⟨?_⟩|refine R0 c2 ⟨?_⟩|refine R0 c3 ⟨?_⟩|refine Rd (fun h=>⟨?_⟩) fun h=>⟨?_⟩|refine Rb ⟨?_⟩|fail
       exact Rf
     | true=>
       rw [h1] at c1;rw [h2] at c2;rw [h3] at c3;have hrt:=aW h2;by_cases hc:s≠a∧under s a=false
       · have hx:aO s a b=some s:=by simp [aO,h1,h2,h3,hc.1,hc.2]
         obtain ⟨hc1,hc2⟩:=hc;rw [hx];rw [hc2] at c4;refine G0 Tryz.func192 ?_;repeat' first|refine Ra ⟨?_⟩|refine R0 c1 ⟨?_⟩|refine R0 c2 ⟨?_⟩|refine R0 c3 ⟨?_⟩|refine R0 c4 ⟨?_⟩|refine Rd (fun h=>⟨?_⟩) fun h=>⟨?_⟩|refine Rb ⟨?_⟩|fail
         exact Rf
       · have hlen:a.length≤s.length:=by
           by_cases he:s=a
           · rw [he]; exact zAJ _
           · have hu:under s a=true:=by
               cases hu:under s a with
               | true=>rfl
               | false=>exact absurd ⟨he,hu⟩ hc
             have:=oP hu hrt
             omega
         have c5:=cb (m:=m) (b++(s.take s.length).drop a.length) (by
          have:=(aM h1).2
          have:=(aM h3).2
          simp; omega)
         have hx:aO s a b=if ae (b++(s.take s.length).drop a.length) then some (b++(s.take s.length).drop a.length) else none:=by
          unfold aO;rw [h1,h2,h3,zAP];simp only [zBO,if_true];rw [if_neg hc]
         rw [hx];by_cases he:s=a
         all_goals
          cases h5:ae (b++(s.take s.length).drop a.length);all_goals
           rw [h5] at c5;have hu:s=a∨under s a=true:=by
            by_cases he:s=a
            · exact .inl he
            · right;cases hu:under s a with
              | true=>rfl
              | false=>exact absurd ⟨he,hu⟩ hc
           try rw [hu.resolve_left he] at c4
           simp only [if_true,if_false,zAF];refine G0 Tryz.func192 ?_;repeat' first|refine Ra ⟨?_⟩|refine R0 c1 ⟨?_⟩|refine R0 c2 ⟨?_⟩|refine R0 c3 ⟨?_⟩|refine R0 c4 ⟨?_⟩|refine R0 c5 ⟨?_⟩|refine Rd (fun h=>⟨?_⟩) fun h=>⟨?_⟩|refine Rb ⟨?_⟩|fail
           exact Rf
theorem sX (t:List Ent) (o:Opn) (ht:t.length≤1073741824) (hp:ae o.path=true):Con (E m) 245 0 [.sl (t.map Ent.c),.agg o.c] [] (.k .i64 (dw t o.path)) []:=by
 have hl:=(aM hp).2;have c1:=gI (m:=m) t o.path ht (by omega);have c2:=hP (m:=m) t o.path ht;have hc:=ur (t:=t) hp;rw [hc];by_cases hu:bc t o.path=0
 · rw [hu] at c1;simp only [hu,ne_eq,not_true_eq_false,if_false];cases he:ah t o.path with
   | some e=>
     rw [he] at c2;refine G0 Tryz.func245 ?_;repeat' first|refine Ra ⟨?_⟩|refine R0 c1 ⟨?_⟩|refine R0 c2 ⟨?_⟩|refine Rd (fun h=>⟨?_⟩) fun h=>⟨?_⟩|refine Rb ⟨?_⟩|fail
     exact Rf
   | none=>
     rw [he] at c2;by_cases hlen:16≤t.length
     · simp only [Option.isSome_none,zAF,if_false,hlen,if_true];refine G0 Tryz.func245 ?_;repeat' first|refine Ra ⟨?_⟩|refine R0 c1 ⟨?_⟩|refine R0 c2 ⟨?_⟩|refine Rd (fun h=>⟨?_⟩) fun h=>⟨?_⟩|refine Rb ⟨?_⟩|fail
       exact Rf
     · simp only [Option.isSome_none,zAF,if_false,hlen];refine G0 Tryz.func245 ?_;repeat' first|refine Ra ⟨?_⟩|refine R0 c1 ⟨?_⟩|refine R0 c2 ⟨?_⟩|refine Rd (fun h=>⟨?_⟩) fun h=>⟨?_⟩|refine Rb ⟨?_⟩|fail
       exact Rf
 · simp only [hu,ne_eq,not_false_eq_true,if_true];refine G0 Tryz.func245 ?_;repeat' first|refine Ra ⟨?_⟩|refine R0 c1 ⟨?_⟩|refine Rd (fun h=>⟨?_⟩) fun h=>⟨?_⟩|refine Rb ⟨?_⟩|fail
   exact Rf
theorem vN (t:List Ent) (o:Opn) (ht:t.length≤1073741824) (hp:ae o.path=true):Con (E m) 246 0 [.sl (t.map Ent.c),.agg o.c] [] (.k .i64 (dN t o.path)) []:=by
 have hl:=(aM hp).2;have c1:=gI (m:=m) t o.path ht (by omega);have c2:=hP (m:=m) t o.path ht;have hc:=Cj (t:=t) hp;rw [hc];by_cases hu:bc t o.path=0
 · rw [hu] at c1;simp only [hu,ne_eq,not_true_eq_false,if_false];cases he:ah t o.path with
   | some e=>
     rw [he] at c2;cases hd:e.dir;all_goals
      simp only [Ent.c,lU,hd] at c2;simp only [Option.isSome_some,Option.getD_some,hd,zAF,and_false,and_true,if_true,if_false,Option.isNone_some,false_and];refine G0 Tryz.func246 ?_;repeat' first|refine Ra ⟨?_⟩|refine R0 c1 ⟨?_⟩|refine R0 c2 ⟨?_⟩|refine Rd (fun h=>⟨?_⟩) fun h=>⟨?_⟩|refine Rb ⟨?_⟩|fail
      exact Rf
   | none=>
     rw [he] at c2;by_cases hlen:16≤t.length
     · simp only [Option.isSome_none,zAF,false_and,if_false,Option.isNone_none,true_and,hlen,if_true];refine G0 Tryz.func246 ?_;repeat' first|refine Ra ⟨?_⟩|refine R0 c1 ⟨?_⟩|refine R0 c2 ⟨?_⟩|refine Rd (fun h=>⟨?_⟩) fun h=>⟨?_⟩|refine Rb ⟨?_⟩|fail
       exact Rf
     · simp only [Option.isSome_none,zAF,false_and,if_false,Option.isNone_none,true_and,hlen];refine G0 Tryz.func246 ?_;repeat' first|refine Ra ⟨?_⟩|refine R0 c1 ⟨?_⟩|refine R0 c2 ⟨?_⟩|refine Rd (fun h=>⟨?_⟩) fun h=>⟨?_⟩|refine Rb ⟨?_⟩|fail
       exact Rf
 · simp only [hu,ne_eq,not_false_eq_true,if_true];refine G0 Tryz.func246 ?_;repeat' first|refine Ra ⟨?_⟩|refine R0 c1 ⟨?_⟩|refine Rd (fun h=>⟨?_⟩) fun h=>⟨?_⟩|refine Rb ⟨?_⟩|fail
   exact Rf
theorem xU (t:List Ent) (o:Opn) (ht:ai t=true) (hp:ae o.path=true) (hk:o.kind=3):Con (E m) 247 0 [.sl (t.map Ent.c),.agg o.c] [] (.k .i64 (eP t o)) []:=by
 have hl:=aI ht;have c2:=hP (m:=m) t o.path (by omega);have hc:=DY (o:=o) ht hp hk;rw [hc];cases he:ah t o.path with
 | none=>
   rw [he] at c2;refine G0 Tryz.func247 ?_;repeat' first|refine Ra ⟨?_⟩|refine R0 c2 ⟨?_⟩|refine Rd (fun h=>⟨?_⟩) fun h=>⟨?_⟩|refine Rb ⟨?_⟩|fail
   exact Rf
 | some e=>
   rw [he] at c2;cases hd:e.dir;all_goals
    simp only [Ent.c,lU,hd] at c2;simp only [Option.getD_some,hd,zAF,if_true,if_false,Option.isNone_some];refine G0 Tryz.func247 ?_;repeat' first|refine Ra ⟨?_⟩|refine R0 c2 ⟨?_⟩|refine Rd (fun h=>⟨?_⟩) fun h=>⟨?_⟩|refine Rb ⟨?_⟩|fail
    exact Rf
theorem sY {α:Type} {l:List α} {p:α→Bool} {i:Nat} {x:α} (h:(l.take i).any p=false) (hx:l[i]?=some x) (hp:p x=false):(l.take (i+1)).any p=false:=by
 rw [zAX,hx,List.any_append,h];simp [hp]
theorem EZ {α:Type} {l:List α} {p:α→Bool} {i:Nat} {x:α} (hx:l[i]?=some x) (hp:p x=true):l.any p=true:=zAr.2 ⟨x,zAD hx,hp⟩
theorem rU (t:List Ent) (o:Opn) (ht:ai t=true) (hp:ae o.path=true) (hk:o.kind=4):Con (E m) 248 0 [.sl (t.map Ent.c),.agg o.c] [] (.k .i64 (eP t o)) []:=by
 have hl:=aI ht;have hpl:=(aM hp).2;have c2:=hP (m:=m) t o.path (by omega);have hc:=xQ (o:=o) ht hp hk;rw [hc];cases he:ah t o.path with
 | none=>
   rw [he] at c2;refine G0 Tryz.func248 ?_;repeat' first|refine Ra ⟨?_⟩|refine R0 c2 ⟨?_⟩|refine Rd (fun h=>⟨?_⟩) fun h=>⟨?_⟩|refine Rb ⟨?_⟩|fail
   exact Rf
 | some e=>
   rw [he] at c2;cases hd:e.dir with
   | false=>
     simp only [Ent.c,lU,hd] at c2;simp only [Option.getD_some,hd,if_true,zAF,if_false,Option.isNone_some];refine G0 Tryz.func248 ?_;repeat' first|refine Ra ⟨?_⟩|refine R0 c2 ⟨?_⟩|refine Rd (fun h=>⟨?_⟩) fun h=>⟨?_⟩|refine Rb ⟨?_⟩|fail
     exact Rf
   | true=>
     simp only [Ent.c,lU,hd] at c2;simp only [Option.getD_some,hd,zAL,zAF,if_false,Option.isNone_some];have e1:(t.map Ent.c).length=t.length:=zAA ..;refine G0 Tryz.func248 ?_;repeat' first|refine Ra ⟨?_⟩|refine R0 c2 ⟨?_⟩|refine Rd (fun h=>⟨?_⟩) fun h=>⟨?_⟩|refine Rb ⟨?_⟩|fail
     refine Cd.loop2 (fun mq tm S nx=>∃ (i:Nat),mq=(t.length - i)∧tm=[(3,.bp 0 0),(21,.sl (t.map Ent.c)),(22,.k .i64 ((t.map Ent.c).length:Int)),(23,.k .i64 i)]∧S=[(0,.box 53 o.c)]∧nx=1∧(i≤t.length)∧((t.take i).any (fun e=>under e.path o.path)=false)) ?_ ?_
     · refine la [3,21,22,23] ?_
       conv=>whnf
       refine ⟨rfl,rfl,_,0,rfl,rfl,rfl,rfl,by omega,by simp⟩
     · rintro mq tm S nx ⟨i,hn,rfl,rfl,rfl,hi,ha⟩;rcases al t i hi with ⟨rfl,hd⟩|⟨x,r,hx',hd,hr,hlt⟩
       · rw [zAP] at ha;rw [ha];repeat' first|refine Rx ⟨?_⟩|refine Rd (fun h=>⟨?_⟩) fun h=>⟨?_⟩|fail
         exact Rf
       · have hxp:=(fc ht (zAD hx')).2.1;have hxl:=(aM hxp).2;have c5:=iJ (m:=m) x.path o.path (by omega) (by omega);have hpu:bB x.path o.path=under x.path o.path:=by simp [bB,hxp,hp]
         rw [hpu] at c5;cases hm:under x.path o.path with
         | true=>
           rw [hm] at c5;have hf:t.any (fun e=>under e.path o.path)=true:=EZ hx' hm;rw [hf];repeat' first|refine Ra ⟨?_⟩|refine R0 c5 ⟨?_⟩|refine Rd (fun h=>⟨?_⟩) fun h=>⟨?_⟩|refine Rb ⟨?_⟩|fail
           exact Rf
         | false=>
           rw [hm] at c5;repeat' first|refine Ra ⟨?_⟩|refine R0 c5 ⟨?_⟩|refine Rd (fun h=>⟨?_⟩) fun h=>⟨?_⟩|refine Rb ⟨?_⟩|fail
           refine .here ⟨mq - 1,by omega,?_⟩;refine la [3,21,22,23] ?_
           conv=>whnf
           refine ⟨rfl,rfl,i+1,(by omega),rfl,rfl,rfl,by omega,(sY ha hx' hm)⟩
theorem sZ (t:List Ent) (o:Opn) (ht:ai t=true) (hp:ae o.path=true) (hq:ae o.to=true):Con (E m) 249 0 [.sl (t.map Ent.c),.agg o.c] [] (.k .i64 (cO t o)) []:=by
 have hl:=aI ht;have hpl:=(aM hp).2;have hql:=(aM hq).2;have c1:=hP (m:=m) t o.path (by omega);have c2:=gI (m:=m) t o.to (by omega) (by omega);have c3:=hP (m:=m) t o.to (by omega);have c4:=iJ (m:=m) o.to o.path (by omega) (by omega);have hpu:bB o.to o.path=under o.to o.path:=by simp [bB,hq,hp]
 rw [hpu] at c4;have hc:=zE (t:=t) hp hq;rw [hc];cases he:ah t o.path with
 | none=>
   rw [he] at c1;refine G0 Tryz.func249 ?_;repeat' first|refine Ra ⟨?_⟩|refine R0 c1 ⟨?_⟩|refine Rd (fun h=>⟨?_⟩) fun h=>⟨?_⟩|refine Rb ⟨?_⟩|fail
   exact Rf
 | some e=>
   rw [he] at c1;simp only [Option.isNone_some,zAF,if_false];by_cases hu:bc t o.to=0
   · rw [hu] at c2;simp only [hu,ne_eq,not_true_eq_false,if_false];cases hf:ah t o.to with
     | some f=>
       rw [hf] at c3;refine G0 Tryz.func249 ?_;repeat' first|refine Ra ⟨?_⟩|refine R0 c1 ⟨?_⟩|refine R0 c2 ⟨?_⟩|refine R0 c3 ⟨?_⟩|refine Rd (fun h=>⟨?_⟩) fun h=>⟨?_⟩|refine Rb ⟨?_⟩|fail
       exact Rf
     | none=>
       rw [hf] at c3;simp only [Option.isSome_none,zAF,if_false];cases hv:under o.to o.path with
       | true=>
         rw [hv] at c4;refine G0 Tryz.func249 ?_;repeat' first|refine Ra ⟨?_⟩|refine R0 c1 ⟨?_⟩|refine R0 c2 ⟨?_⟩|refine R0 c3 ⟨?_⟩|refine R0 c4 ⟨?_⟩|refine Rd (fun h=>⟨?_⟩) fun h=>⟨?_⟩|refine Rb ⟨?_⟩|fail
         exact Rf
       | false=>
         rw [hv] at c4;simp only [zAF,if_false];have e1:(t.map Ent.c).length=t.length:=zAA ..;refine G0 Tryz.func249 ?_;repeat' first|refine Ra ⟨?_⟩|refine R0 c1 ⟨?_⟩|refine R0 c2 ⟨?_⟩|refine R0 c3 ⟨?_⟩|refine R0 c4 ⟨?_⟩|refine Rd (fun h=>⟨?_⟩) fun h=>⟨?_⟩|refine Rb ⟨?_⟩|fail
         refine Cd.loop2 (fun mq tm S nx=>∃ (i:Nat),mq=(t.length - i)∧tm=[(3,.bp 0 0),(43,.sl (t.map Ent.c)),(44,.k .i64 ((t.map Ent.c).length:Int)),(45,.k .i64 i)]∧S=[(0,.box 53 o.c)]∧nx=1∧(i≤t.length)∧((t.take i).all (fun e=>(aO e.path o.path o.to).isSome)=true)) ?_ ?_
         · refine la [3,43,44,45] ?_
           conv=>whnf
           refine ⟨rfl,rfl,_,0,rfl,rfl,rfl,rfl,by omega,rfl⟩
         · rintro mq tm S nx ⟨i,hn,rfl,rfl,rfl,hi,ha⟩;rcases al t i hi with ⟨rfl,hd⟩|⟨x,r,hx',hd,hr,hlt⟩
           · rw [zAP] at ha;rw [ha];repeat' first|refine Rx ⟨?_⟩|refine Rd (fun h=>⟨?_⟩) fun h=>⟨?_⟩|fail
             exact Rf
           · have hxp:=(fc ht (zAD hx')).2.1;have hxl:=(aM hxp).2;have c5:=mc (m:=m) x.path o.path o.to (by omega) (by omega) (by omega);cases hm:aO x.path o.path o.to with
             | none=>
               rw [hm] at c5;have hf:t.all (fun e=>(aO e.path o.path o.to).isSome)=false:=cS hx' (by simp [hm]);rw [hf];repeat' first|refine Ra ⟨?_⟩|refine R0 c5 ⟨?_⟩|refine Rd (fun h=>⟨?_⟩) fun h=>⟨?_⟩|refine Rb ⟨?_⟩|fail
               exact Rf
             | some y=>
               rw [hm] at c5;repeat' first|refine Ra ⟨?_⟩|refine R0 c5 ⟨?_⟩|refine Rd (fun h=>⟨?_⟩) fun h=>⟨?_⟩|refine Rb ⟨?_⟩|fail
               refine .here ⟨mq - 1,by omega,?_⟩;refine la [3,43,44,45] ?_
               conv=>whnf
               refine ⟨rfl,rfl,i+1,(by omega),rfl,rfl,rfl,by omega,(bu ha hx' (by simp [hm]))⟩
   · simp only [hu,ne_eq,not_false_eq_true,if_true];refine G0 Tryz.func249 ?_;repeat' first|refine Ra ⟨?_⟩|refine R0 c1 ⟨?_⟩|refine R0 c2 ⟨?_⟩|refine Rd (fun h=>⟨?_⟩) fun h=>⟨?_⟩|refine Rb ⟨?_⟩|fail
     exact Rf
def rV (t:List Ent) (o:Opn):Int:=if f7 o then cr t o else 1
theorem xV (t:List Ent) (o:Opn) (ht:ai t=true) (h1:o.path.length≤1073741823) (h2:o.to.length≤1073741823) (h3:o.data.length≤1073741823):Con (E m) 191 0 [.sl (t.map Ent.c),.agg o.c] [] (.k .i64 (rV t o)) []:=by
 have hl:=aI ht;have c0:=B8 (m:=m) o (by omega) (by omega) (by omega);unfold rV;cases hok:f7 o with
 | false=>
   rw [hok] at c0;refine G0 Tryz.func191 ?_;repeat' first|refine Ra ⟨?_⟩|refine R0 c0 ⟨?_⟩|refine Rd (fun h=>⟨?_⟩) fun h=>⟨?_⟩|refine Rb ⟨?_⟩|fail
   exact Rf
 | true=>
   rw [hok] at c0;have hp:=iq hok;simp only [if_true];rcases kinds hok with hk|hk|hk|hk|hk
   · have c1:=sX (m:=m) t o (by omega) hp;have hx:cr t o=dw t o.path:=by simp [cr,hk]
     rw [hx];refine G0 Tryz.func191 ?_;repeat' first|refine Ra ⟨?_⟩|refine R0 c0 ⟨?_⟩|refine R0 c1 ⟨?_⟩|refine Rd (fun h=>⟨?_⟩) fun h=>⟨?_⟩|refine Rb ⟨?_⟩|fail
     exact Rf
   · have c1:=vN (m:=m) t o (by omega) hp;have hx:cr t o=dN t o.path:=by simp [cr,hk]
     rw [hx];refine G0 Tryz.func191 ?_;repeat' first|refine Ra ⟨?_⟩|refine R0 c0 ⟨?_⟩|refine R0 c1 ⟨?_⟩|refine Rd (fun h=>⟨?_⟩) fun h=>⟨?_⟩|refine Rb ⟨?_⟩|fail
     exact Rf
   · have c1:=xU (m:=m) t o ht hp hk;have hx:cr t o=eP t o:=by simp [cr,hk]
     rw [hx];refine G0 Tryz.func191 ?_;repeat' first|refine Ra ⟨?_⟩|refine R0 c0 ⟨?_⟩|refine R0 c1 ⟨?_⟩|refine Rd (fun h=>⟨?_⟩) fun h=>⟨?_⟩|refine Rb ⟨?_⟩|fail
     exact Rf
   · have c1:=rU (m:=m) t o ht hp hk;have hx:cr t o=eP t o:=by simp [cr,hk]
     rw [hx];refine G0 Tryz.func191 ?_;repeat' first|refine Ra ⟨?_⟩|refine R0 c0 ⟨?_⟩|refine R0 c1 ⟨?_⟩|refine Rd (fun h=>⟨?_⟩) fun h=>⟨?_⟩|refine Rb ⟨?_⟩|fail
     exact Rf
   · have c1:=sZ (m:=m) t o ht hp (qC hok hk).1;have hx:cr t o=cO t o:=by simp [cr,hk]
     rw [hx];refine G0 Tryz.func191 ?_;repeat' first|refine Ra ⟨?_⟩|refine R0 c0 ⟨?_⟩|refine R0 c1 ⟨?_⟩|refine Rd (fun h=>⟨?_⟩) fun h=>⟨?_⟩|refine Rb ⟨?_⟩|fail
     exact Rf
theorem kh (t:List Ent) (ht:t.length≤1073741824):Con (E m) 128 0 [.sl (t.map Ent.c)] [] (.own 0) [(0,.own 66 (t.map Ent.c))]:=by
 have e1:(t.map Ent.c).length=t.length:=zAA ..;refine G0 Tryz.func128 ?_;repeat' first|refine Rx ⟨?_⟩|refine Rd (fun h=>⟨?_⟩) fun h=>⟨?_⟩|fail
 exact Rf
def pN (t:List Ent) (o:Opn):List Ent:=if o.kind=5 then t.map (f8 o.path o.to) else iI t o.path
theorem Cm (t:List Ent) (o:Opn):(pN t o).length≤t.length:=by
 unfold pN;split
 · simp
 · exact zAf _ _
theorem zM {t:List Ent} {o:Opn} {i:Nat} {x:Ent} (h:t[i]?=some x):pN (t.take (i+1)) o=pN (t.take i) o++(if o.kind=5 then [f8 o.path o.to x] else if x.path=o.path then [] else [x]):=by
 unfold pN iI;rw [zAX,h];split
 · simp
 · rw [zAl];congr 1
   by_cases hp:x.path=o.path <;> simp [hp]
theorem eI (t:List Ent) (o:Opn) (hb:∀ e∈t,e.path.length≤1073741824∧e.data.length≤1073741824) (h1:o.path.length≤1073741823) (h2:o.to.length≤1073741823) (h3:o.data.length≤1073741823):Con (E m) 129 0 [.sl (t.map Ent.c),.agg o.c] [] (.tup [.own 0,.k .i64 (aC t o).2]) [(0,.own 66 ((aC t o).1.map Ent.c))]:=by
 have c1:=fx (m:=m) t hb;cases k1:ai t with
 | false=>
   have hx:aC t o=([],1):=by simp [aC,k1]
   rw [hx];rw [k1] at c1;refine G0 Tryz.func129 ?_;repeat' first|refine Ra ⟨?_⟩|refine R0 c1 ⟨?_⟩|refine Rd (fun h=>⟨?_⟩) fun h=>⟨?_⟩|refine Rb ⟨?_⟩|fail
   exact Rf
 | true=>
   rw [k1] at c1;have hl:=aI k1;have c2:=xV (m:=m) t o k1 h1 h2 h3;have c3:=kh (m:=m) t (by omega);by_cases k3:rV t o=0
   · have k2:f7 o=true:=by
       unfold rV at k3;split at k3
       · assumption
       · cases k3
     have k4:cr t o=0:=by
      unfold rV at k3;rw [if_pos k2] at k3;exact k3
     have hx:aC t o=(doT t o,0):=by simp [aC,k1,k2,k4]
     rw [hx];rw [k3] at c2;have hp:=iq k2;have c9:=nW (m:=m) (nV t o) (doT t o) (fun S g1 g2=>DX k1 k2 k4 g1 g2) (by have:=Ci (t:=t) (o:=o) k1; omega);have hbl:=Cm t o;have e1:(t.map Ent.c).length=t.length:=zAA ..;have hst:=fun i x h=>zM (t:=t) (o:=o) (i:=i) (x:=x) h;have hfin:nV t o=pN t o++(if o.kind=1∨o.kind=2 then [⟨o.path,decide (o.kind=1),o.data⟩] else []):=rfl
     generalize nV t o=L at c9 hfin;refine G0 Tryz.func129 ?_;repeat' first|refine Ra ⟨?_⟩|refine R0 c1 ⟨?_⟩|refine R0 c2 ⟨?_⟩|refine Rd (fun h=>⟨?_⟩) fun h=>⟨?_⟩|refine Rb ⟨?_⟩|fail
     refine Cd.loop2 (fun mq tm S nx=>∃ (i:Nat) (A:List Ent),mq=(t.length - i)∧tm=[(3,.bp 0 0),(7,.own 1),(21,.sl (t.map Ent.c)),(22,.k .i64 ((t.map Ent.c).length:Int)),(23,.k .i64 i)]∧S=[(0,.box 53 o.c),(1,.own 66 (A.map Ent.c))]∧nx=2∧(i≤t.length)∧(A=pN (t.take i) o)∧(A.length≤i)) ?_ ?_
     · refine la [3,7,21,22,23] ?_
       conv=>whnf
       refine ⟨rfl,rfl,_,0,[],rfl,rfl,rfl,rfl,by omega,(by simp [pN,iI]),by simp⟩
     · rintro mq tm S nx ⟨i,A,hn,rfl,rfl,rfl,hi,hA,hAl⟩;have e2:(A.map Ent.c).length=A.length:=zAA ..;rcases al t i hi with ⟨rfl,hd⟩|⟨x,r,hx',hd,hr,hlt⟩
       · rw [zAP] at hA;rw [← hA] at hfin;rcases kinds k2 with hk|hk|hk|hk|hk
         · rw [if_pos (.inl hk)] at hfin;rw [hfin,zAM] at c9;have c9':Con (E m) 193 1 [.own 0] [(0,.own 66 (A.map Ent.c++[[.s o.path,.b (decide (o.kind=1)),.s o.data]]))] (.tup []) [(0,.own 66 ((doT t o).map Ent.c))]:=c9;repeat' first|refine Ra ⟨?_⟩|refine Rk [3] 0 c9' ⟨?_⟩|refine Rd (fun h=>⟨?_⟩) fun h=>⟨?_⟩|refine Rb ⟨?_⟩|fail
           exact Rf
         · rw [if_pos (.inr hk)] at hfin;rw [hfin,zAM] at c9;have c9':Con (E m) 193 1 [.own 0] [(0,.own 66 (A.map Ent.c++[[.s o.path,.b (decide (o.kind=1)),.s o.data]]))] (.tup []) [(0,.own 66 ((doT t o).map Ent.c))]:=c9;repeat' first|refine Ra ⟨?_⟩|refine Rk [3] 0 c9' ⟨?_⟩|refine Rd (fun h=>⟨?_⟩) fun h=>⟨?_⟩|refine Rb ⟨?_⟩|fail
           exact Rf
         all_goals
          rw [if_neg (by omega),List.append_nil] at hfin;rw [hfin] at c9;repeat' first|refine Ra ⟨?_⟩|refine Rk [1] 0 c9 ⟨?_⟩|refine Rd (fun h=>⟨?_⟩) fun h=>⟨?_⟩|refine Rb ⟨?_⟩|fail
          exact Rf
       · have g2:=hst i x hx';have hxp:=(fc k1 (zAD hx')).2.1;have hxl:=(aM hxp).2;by_cases hk:o.kind=5
         · rw [if_pos hk] at g2;have c5:=mc (m:=m) x.path o.path o.to (by omega) (by omega) (by omega);have hme:f8 o.path o.to x=⟨(aO x.path o.path o.to).getD [],x.dir,x.data⟩:=rfl;cases hm:aO x.path o.path o.to;all_goals
            rw [hm] at c5 hme;repeat' first|refine Ra ⟨?_⟩|refine R0 c5 ⟨?_⟩|refine Rd (fun h=>⟨?_⟩) fun h=>⟨?_⟩|refine Rb ⟨?_⟩|fail
            refine .here ⟨mq - 1,by omega,?_⟩;refine la [3,7,21,22,23] ?_
            conv=>whnf
            refine ⟨rfl,rfl,i+1,A++[f8 o.path o.to x],(by omega),rfl,?_,rfl,by omega,(by rw [hA,g2]),(by simp; omega)⟩;rw [hme,zAM];rfl
         · rw [if_neg hk] at g2;by_cases hxo:x.path=o.path
           · rw [if_pos hxo,List.append_nil] at g2;repeat' first|refine Rx ⟨?_⟩|refine Rd (fun h=>⟨?_⟩) fun h=>⟨?_⟩|fail
             refine .here ⟨mq - 1,by omega,?_⟩;refine la [3,7,21,22,23] ?_
             conv=>whnf
             refine ⟨rfl,rfl,i+1,A,(by omega),rfl,rfl,rfl,by omega,(by rw [hA,g2]),by omega⟩
           · rw [if_neg hxo] at g2;repeat' first|refine Rx ⟨?_⟩|refine Rd (fun h=>⟨?_⟩) fun h=>⟨?_⟩|fail
             refine .here ⟨mq - 1,by omega,?_⟩;refine la [3,7,21,22,23] ?_
             conv=>whnf
             refine ⟨rfl,rfl,i+1,A++[x],(by omega),rfl,?_,rfl,by omega,(by rw [hA,g2]),(by simp; omega)⟩;rw [zAM];rfl
   · have hx:aC t o=(t,rV t o):=by
       unfold rV at k3 ⊢;cases k2:f7 o with
       | false=>simp [aC,k1,k2]
       | true=>
         rw [k2] at k3;simp only [if_true] at k3;simp [aC,k1,k2,k3]
     rw [hx];refine G0 Tryz.func129 ?_;repeat' first|refine Ra ⟨?_⟩|refine R0 c1 ⟨?_⟩|refine R0 c2 ⟨?_⟩|refine Rk [] 1 c3 ⟨?_⟩|refine Rd (fun h=>⟨?_⟩) fun h=>⟨?_⟩|refine Rb ⟨?_⟩|fail
     exact Rf
end Go.Proofs.YtagejnomlkfndaaGreatDoor
