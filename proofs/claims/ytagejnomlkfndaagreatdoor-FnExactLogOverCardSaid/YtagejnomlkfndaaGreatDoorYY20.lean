/- Texts of this claim, set close: lemmas and contracts. -/
import Derived.Test.YtagejnomlkfndaaGreatDoorYY12
import Derived.Test.YtagejnomlkfndaaGreatDoorYY5
import Derived.Test.YtagejnomlkfndaaGreatDoorYY13
import Derived.Test.YtagejnomlkfndaaGreatDoorYY10
import Derived.Test.YtagejnomlkfndaaGreatDoorYY9
set_option linter.unusedSimpArgs false
set_option linter.unusedVariables false
set_option maxHeartbeats 1000000
set_option maxRecDepth 10000
namespace Go.Proofs.YtagejnomlkfndaaGreatDoor
open Go Go.RowKit Go.Ab Go.Par Go.Proofs Go.Sort Go.Shelf
variable {m:Int}
theorem wX (x:Value) (l:Bs) (hx:x=vS l) (W:World):Calls Tryz.prog 286 #[x] W fun e w'=>e=.returned (.bool false)∧w'=W:=by
 subst hx
 go_enter Tryz.func286,Tryz.ntmps286
 go_wp2
 go_ret
 exact ⟨by simp,rfl⟩
theorem uj (a b:Bs) (W:World):Calls Tryz.prog 253 #[vS a,vS b] W fun e w'=>e=.returned (.int .i64 (qS a b))∧w'=W:=by
 have h1:=fun W=>wX (vS a) a rfl W;have h2:=fun W=>wX (vS b) b rfl W;unfold qS
 go_enter Tryz.func253,Tryz.ntmps253
 go_wp2_with (go_at_call 286; first|(refine (h1 _).mono ?_; rintro e w' ⟨rfl,rfl⟩)|(refine (h2 _).mono ?_; rintro e w' ⟨rfl,rfl⟩))
 all_goals first
  | (go_ret; exact ⟨rfl,rfl⟩)
  | (go_ret; refine ⟨?_,rfl⟩; simp_all; done)
  | (go_ret; refine ⟨?_,rfl⟩; rcases gp a b with g|g|g <;> simp_all)
  | (exfalso; rcases gp a b with g|g|g <;> simp_all)
theorem G4 (x y:Ent) (W:World):Calls Tryz.prog 252 #[.agg (Ent.v x).toArray,.agg (Ent.v y).toArray] W fun e w'=>e=.returned (.int .i64 (qS x.path y.path))∧∃ q os',w'=grow (W.drewN q) os':=by
 have hcon:=fun W'=>uj x.path y.path W';generalize qS x.path y.path=r at hcon ⊢;unfold Ent.v
 go_enter Tryz.func252,Tryz.ntmps252
 go_wp2_with (go_at_call 253; refine (hcon _).mono ?_; rintro e w' ⟨rfl,rfl⟩)
 go_ret
 exact ⟨rfl,0,_,by rw [alloc_eq_grow,alloc_eq_grow,grow_grow]; rfl⟩
theorem vm (L U:List Ent) (hU:∀ S:List Ent,S.Perm L→(S.Pairwise fun a b=>lt b.path a.path=false)→S=U) (hl:L.length≤1000000) :
   Con (E m) 251 1 [.own 0,.fn 252 []] [(0,.own 66 (L.map Ent.c))] (.tup []) [(0,.own 66 (U.map Ent.c))]:=
 zS CJ (by decide) (by kernel_rfl) ⟨_,Tryz.func251,rfl,rfl⟩ (qU (pa:=fun e:Ent=>e.path) hU)
  (fun _ w=>AnyF.slices_SortFunc_none Tryz.sortE none 0 _ w)
  (fun b cap w hH hb=>by
   have eg:∀ args w,(callFunc 252 args).run Tryz.prog w=.ok (.enter 252 args) w:=enters_of Tryz.func252 (by kernel_rfl) rfl;refine (AnyQ.slices_SortFunc Tryz.sortE 3 Tryz.isAgg66 Tryz.sizeOf66 Ent.v CJ.len CJ.one (fun x y=>qS x.path y.path) JR 252 #[] b 0 cap L.toArray w eg (fun _ _ _ _ x y=>G4 x y _) hH hb (by simp; omega)).mono ?_;rintro e w' ⟨he,d,n,os,hp,hs,rfl⟩;have hd:d.toList=U:=hU _ (wW hp) (rK (pa:=fun e:Ent=>e.path) hp.1 hs);refine ⟨he,n,os,?_⟩;rw [← hd])
theorem pX (L U:List Ent) (hU:∀ S:List Ent,S.Perm L→(S.Pairwise fun a b=>lt b.path a.path=false)→S=U) (hl:L.length≤1000000) :
   Con (E m) 193 1 [.own 0] [(0,.own 66 (L.map Ent.c))] (.tup []) [(0,.own 66 (U.map Ent.c))]:=by
 have c1:=vm (m:=m) L U hU hl;refine G0 Tryz.func193 ?_;repeat' first|refine Ra ⟨?_⟩|refine Rk [0] 0 c1 ⟨?_⟩|refine Rd (fun h=>⟨?_⟩) fun h=>⟨?_⟩|refine Rb ⟨?_⟩|fail
 exact Rf
end Go.Proofs.YtagejnomlkfndaaGreatDoor
namespace Go.Proofs.YtagejnomlkfndaaGreatDoor
open Go Go.RowKit Go.Ab Go.Par
variable {m:Int}
theorem nY (s a b:Bs) (hs:s.length≤1073741823) (ha:a.length≤1073741823) (hb:b.length≤1073741823):Con (E m) 192 0 [.s s,.s a,.s b] [] (Ix (aX s a b)) []:=by
 have c1:=cu (m:=m) s (by omega);have c2:=cu (m:=m) a (by omega);have c3:=cu (m:=m) b (by omega);have c4:=jT (m:=m) s a (by omega) (by omega);cases h1:ah s with
 | false=>
   have hx:aX s a b=none:=by simp [aX,h1]
   rw [hx];rw [h1] at c1;refine G0 Tryz.func192 ?_;repeat' first|refine Ra ⟨?_⟩|refine R0 c1 ⟨?_⟩|refine Rd (fun h=>⟨?_⟩) fun h=>⟨?_⟩|refine Rb ⟨?_⟩|fail
   exact Rf
 | true=>
   cases h2:ah a with
   | false=>
     have hx:aX s a b=none:=by simp [aX,h2]
     rw [hx];rw [h1] at c1;rw [h2] at c2;refine G0 Tryz.func192 ?_;repeat' first|refine Ra ⟨?_⟩|refine R0 c1 ⟨?_⟩|refine R0 c2 ⟨?_⟩|refine Rd (fun h=>⟨?_⟩) fun h=>⟨?_⟩|refine Rb ⟨?_⟩|fail
     exact Rf
   | true=>
     have hpu:bW s a=bc s a:=by simp [bW,h1,h2]
     rw [hpu] at c4;cases h3:ah b with
     | false=>
       have hx:aX s a b=none:=by simp [aX,h3]
       rw [hx];rw [h1] at c1;rw [h2] at c2;rw [h3] at c3;refine G0 Tryz.func192 ?_;repeat' first|refine Ra ⟨?_⟩|refine R0 c1 ⟨?_⟩|refine R0 c2 ⟨?_⟩|refine R0 c3 ⟨?_⟩|refine Rd (fun h=>⟨?_⟩) fun h=>⟨?_⟩|refine Rb ⟨?_⟩|fail
       exact Rf
     | true=>
       rw [h1] at c1;rw [h2] at c2;rw [h3] at c3;have hrt:=bw h2;by_cases hc:s≠a∧bc s a=false
       · have hx:aX s a b=some s:=by simp [aX,h1,h2,h3,hc.1,hc.2]
         obtain ⟨hc1,hc2⟩:=hc;rw [hx];rw [hc2] at c4;refine G0 Tryz.func192 ?_;repeat' first|refine Ra ⟨?_⟩|refine R0 c1 ⟨?_⟩|refine R0 c2 ⟨?_⟩|refine R0 c3 ⟨?_⟩|refine R0 c4 ⟨?_⟩|refine Rd (fun h=>⟨?_⟩) fun h=>⟨?_⟩|refine Rb ⟨?_⟩|fail
         exact Rf
       · have hlen:a.length≤s.length:=by
           by_cases he:s=a
           · rw [he]; exact zAL _
           · have hu:bc s a=true:=by
               cases hu:bc s a with
               | true=>rfl
               | false=>exact absurd ⟨he,hu⟩ hc
             have:=qL hu hrt
             omega
         have c5:=cu (m:=m) (b++(s.take s.length).drop a.length) (by
          have:=(aQ h1).2
          have:=(aQ h3).2
          simp; omega)
         have hx:aX s a b=if ah (b++(s.take s.length).drop a.length) then some (b++(s.take s.length).drop a.length) else none:=by
          unfold aX;rw [h1,h2,h3,zAP];simp only [zBN,if_true];rw [if_neg hc]
         rw [hx];by_cases he:s=a
         all_goals
          cases h5:ah (b++(s.take s.length).drop a.length);all_goals
           rw [h5] at c5;have hu:s=a∨bc s a=true:=by
            by_cases he:s=a
            · exact .inl he
            · right;cases hu:bc s a with
              | true=>rfl
              | false=>exact absurd ⟨he,hu⟩ hc
           try rw [hu.resolve_left he] at c4
           simp only [if_true,if_false,zAF];refine G0 Tryz.func192 ?_;repeat' first|refine Ra ⟨?_⟩|refine R0 c1 ⟨?_⟩|refine R0 c2 ⟨?_⟩|refine R0 c3 ⟨?_⟩|refine R0 c4 ⟨?_⟩|refine R0 c5 ⟨?_⟩|refine Rd (fun h=>⟨?_⟩) fun h=>⟨?_⟩|refine Rb ⟨?_⟩|fail
           exact Rf
theorem vn (t:List Ent) (o:Opn) (ht:t.length≤1073741824) (hp:ah o.path=true):Con (E m) 245 0 [.sl (t.map Ent.c),.agg o.c] [] (.k .i64 (eF t o.path)) []:=by
 have hl:=(aQ hp).2;have c1:=iX (m:=m) t o.path ht (by omega);have c2:=jt (m:=m) t o.path ht;have hc:=wR (t:=t) hp;rw [hc];by_cases hu:bC t o.path=0
 · rw [hu] at c1;simp only [hu,ne_eq,not_true_eq_false,if_false];cases he:ao t o.path with
   | some e=>
     rw [he] at c2;refine G0 Tryz.func245 ?_;repeat' first|refine Ra ⟨?_⟩|refine R0 c1 ⟨?_⟩|refine R0 c2 ⟨?_⟩|refine Rd (fun h=>⟨?_⟩) fun h=>⟨?_⟩|refine Rb ⟨?_⟩|fail
     exact Rf
   | none=>
     rw [he] at c2;by_cases hlen:16≤t.length
     · simp only [Option.isSome_none,zAF,if_false,hlen,if_true];refine G0 Tryz.func245 ?_;repeat' first|refine Ra ⟨?_⟩|refine R0 c1 ⟨?_⟩|refine R0 c2 ⟨?_⟩|refine Rd (fun h=>⟨?_⟩) fun h=>⟨?_⟩|refine Rb ⟨?_⟩|fail
       exact Rf
     · simp only [Option.isSome_none,zAF,if_false,hlen];refine G0 Tryz.func245 ?_;repeat' first|refine Ra ⟨?_⟩|refine R0 c1 ⟨?_⟩|refine R0 c2 ⟨?_⟩|refine Rd (fun h=>⟨?_⟩) fun h=>⟨?_⟩|refine Rb ⟨?_⟩|fail
       exact Rf
 · simp only [hu,ne_eq,not_false_eq_true,if_true];refine G0 Tryz.func245 ?_;repeat' first|refine Ra ⟨?_⟩|refine R0 c1 ⟨?_⟩|refine Rd (fun h=>⟨?_⟩) fun h=>⟨?_⟩|refine Rb ⟨?_⟩|fail
   exact Rf
theorem yy (t:List Ent) (o:Opn) (ht:t.length≤1073741824) (hp:ah o.path=true):Con (E m) 246 0 [.sl (t.map Ent.c),.agg o.c] [] (.k .i64 (eP t o.path)) []:=by
 have hl:=(aQ hp).2;have c1:=iX (m:=m) t o.path ht (by omega);have c2:=jt (m:=m) t o.path ht;have hc:=Fa (t:=t) hp;rw [hc];by_cases hu:bC t o.path=0
 · rw [hu] at c1;simp only [hu,ne_eq,not_true_eq_false,if_false];cases he:ao t o.path with
   | some e=>
     rw [he] at c2;cases hd:e.dir;all_goals
      simp only [Ent.c,nD,hd] at c2;simp only [Option.isSome_some,Option.getD_some,hd,zAF,and_false,and_true,if_true,if_false,Option.isNone_some,false_and];refine G0 Tryz.func246 ?_;repeat' first|refine Ra ⟨?_⟩|refine R0 c1 ⟨?_⟩|refine R0 c2 ⟨?_⟩|refine Rd (fun h=>⟨?_⟩) fun h=>⟨?_⟩|refine Rb ⟨?_⟩|fail
      exact Rf
   | none=>
     rw [he] at c2;by_cases hlen:16≤t.length
     · simp only [Option.isSome_none,zAF,false_and,if_false,Option.isNone_none,true_and,hlen,if_true];refine G0 Tryz.func246 ?_;repeat' first|refine Ra ⟨?_⟩|refine R0 c1 ⟨?_⟩|refine R0 c2 ⟨?_⟩|refine Rd (fun h=>⟨?_⟩) fun h=>⟨?_⟩|refine Rb ⟨?_⟩|fail
       exact Rf
     · simp only [Option.isSome_none,zAF,false_and,if_false,Option.isNone_none,true_and,hlen];refine G0 Tryz.func246 ?_;repeat' first|refine Ra ⟨?_⟩|refine R0 c1 ⟨?_⟩|refine R0 c2 ⟨?_⟩|refine Rd (fun h=>⟨?_⟩) fun h=>⟨?_⟩|refine Rb ⟨?_⟩|fail
       exact Rf
 · simp only [hu,ne_eq,not_false_eq_true,if_true];refine G0 Tryz.func246 ?_;repeat' first|refine Ra ⟨?_⟩|refine R0 c1 ⟨?_⟩|refine Rd (fun h=>⟨?_⟩) fun h=>⟨?_⟩|refine Rb ⟨?_⟩|fail
   exact Rf
theorem AE (t:List Ent) (o:Opn) (ht:aq t=true) (hp:ah o.path=true) (hk:o.kind=3):Con (E m) 247 0 [.sl (t.map Ent.c),.agg o.c] [] (.k .i64 (gb t o)) []:=by
 have hl:=aN ht;have c2:=jt (m:=m) t o.path (by omega);have hc:=G2 (o:=o) ht hp hk;rw [hc];cases he:ao t o.path with
 | none=>
   rw [he] at c2;refine G0 Tryz.func247 ?_;repeat' first|refine Ra ⟨?_⟩|refine R0 c2 ⟨?_⟩|refine Rd (fun h=>⟨?_⟩) fun h=>⟨?_⟩|refine Rb ⟨?_⟩|fail
   exact Rf
 | some e=>
   rw [he] at c2;cases hd:e.dir;all_goals
    simp only [Ent.c,nD,hd] at c2;simp only [Option.getD_some,hd,zAF,if_true,if_false,Option.isNone_some];refine G0 Tryz.func247 ?_;repeat' first|refine Ra ⟨?_⟩|refine R0 c2 ⟨?_⟩|refine Rd (fun h=>⟨?_⟩) fun h=>⟨?_⟩|refine Rb ⟨?_⟩|fail
    exact Rf
theorem vo {α:Type} {l:List α} {p:α→Bool} {i:Nat} {x:α} (h:(l.take i).any p=false) (hx:l[i]?=some x) (hp:p x=false):(l.take (i+1)).any p=false:=by
 rw [zAY,hx,List.any_append,h];simp [hp]
theorem H3 {α:Type} {l:List α} {p:α→Bool} {i:Nat} {x:α} (hx:l[i]?=some x) (hp:p x=true):l.any p=true:=zAp.2 ⟨x,zAD hx,hp⟩
theorem uk (t:List Ent) (o:Opn) (ht:aq t=true) (hp:ah o.path=true) (hk:o.kind=4):Con (E m) 248 0 [.sl (t.map Ent.c),.agg o.c] [] (.k .i64 (gb t o)) []:=by
 have hl:=aN ht;have hpl:=(aQ hp).2;have c2:=jt (m:=m) t o.path (by omega);have hc:=Ay (o:=o) ht hp hk;rw [hc];cases he:ao t o.path with
 | none=>
   rw [he] at c2;refine G0 Tryz.func248 ?_;repeat' first|refine Ra ⟨?_⟩|refine R0 c2 ⟨?_⟩|refine Rd (fun h=>⟨?_⟩) fun h=>⟨?_⟩|refine Rb ⟨?_⟩|fail
   exact Rf
 | some e=>
   rw [he] at c2;cases hd:e.dir with
   | false=>
     simp only [Ent.c,nD,hd] at c2;simp only [Option.getD_some,hd,if_true,zAF,if_false,Option.isNone_some];refine G0 Tryz.func248 ?_;repeat' first|refine Ra ⟨?_⟩|refine R0 c2 ⟨?_⟩|refine Rd (fun h=>⟨?_⟩) fun h=>⟨?_⟩|refine Rb ⟨?_⟩|fail
     exact Rf
   | true=>
     simp only [Ent.c,nD,hd] at c2;simp only [Option.getD_some,hd,zAM,zAF,if_false,Option.isNone_some];have e1:(t.map Ent.c).length=t.length:=zAA ..;refine G0 Tryz.func248 ?_;repeat' first|refine Ra ⟨?_⟩|refine R0 c2 ⟨?_⟩|refine Rd (fun h=>⟨?_⟩) fun h=>⟨?_⟩|refine Rb ⟨?_⟩|fail
     refine Cd.loop2 (fun mq tm S nx=>∃ (i:Nat),mq=(t.length - i)∧tm=[(3,.bp 0 0),(21,.sl (t.map Ent.c)),(22,.k .i64 ((t.map Ent.c).length:Int)),(23,.k .i64 i)]∧S=[(0,.box 53 o.c)]∧nx=1∧(i≤t.length)∧((t.take i).any (fun e=>bc e.path o.path)=false)) ?_ ?_
     · refine la [3,21,22,23] ?_
       conv=>whnf
       refine ⟨rfl,rfl,_,0,rfl,rfl,rfl,rfl,by omega,by simp⟩
     · rintro mq tm S nx ⟨i,hn,rfl,rfl,rfl,hi,ha⟩;rcases av t i hi with ⟨rfl,hd⟩|⟨x,r,hx',hd,hr,hlt⟩
       · rw [zAP] at ha;rw [ha];repeat' first|refine Rx ⟨?_⟩|refine Rd (fun h=>⟨?_⟩) fun h=>⟨?_⟩|fail
         exact Rf
       · have hxp:=(gx ht (zAD hx')).2.1;have hxl:=(aQ hxp).2;have c5:=jT (m:=m) x.path o.path (by omega) (by omega);have hpu:bW x.path o.path=bc x.path o.path:=by simp [bW,hxp,hp]
         rw [hpu] at c5;cases hm:bc x.path o.path with
         | true=>
           rw [hm] at c5;have hf:t.any (fun e=>bc e.path o.path)=true:=H3 hx' hm;rw [hf];repeat' first|refine Ra ⟨?_⟩|refine R0 c5 ⟨?_⟩|refine Rd (fun h=>⟨?_⟩) fun h=>⟨?_⟩|refine Rb ⟨?_⟩|fail
           exact Rf
         | false=>
           rw [hm] at c5;repeat' first|refine Ra ⟨?_⟩|refine R0 c5 ⟨?_⟩|refine Rd (fun h=>⟨?_⟩) fun h=>⟨?_⟩|refine Rb ⟨?_⟩|fail
           refine .here ⟨mq - 1,by omega,?_⟩;refine la [3,21,22,23] ?_
           conv=>whnf
           refine ⟨rfl,rfl,i+1,(by omega),rfl,rfl,rfl,by omega,(vo ha hx' hm)⟩
theorem vq (t:List Ent) (o:Opn) (ht:aq t=true) (hp:ah o.path=true) (hq:ah o.tgt=true):Con (E m) 249 0 [.sl (t.map Ent.c),.agg o.c] [] (.k .i64 (dI t o)) []:=by
 have hl:=aN ht;have hpl:=(aQ hp).2;have hql:=(aQ hq).2;have c1:=jt (m:=m) t o.path (by omega);have c2:=iX (m:=m) t o.tgt (by omega) (by omega);have c3:=jt (m:=m) t o.tgt (by omega);have c4:=jT (m:=m) o.tgt o.path (by omega) (by omega);have hpu:bW o.tgt o.path=bc o.tgt o.path:=by simp [bW,hq,hp]
 rw [hpu] at c4;have hc:=CE (t:=t) hp hq;rw [hc];cases he:ao t o.path with
 | none=>
   rw [he] at c1;refine G0 Tryz.func249 ?_;repeat' first|refine Ra ⟨?_⟩|refine R0 c1 ⟨?_⟩|refine Rd (fun h=>⟨?_⟩) fun h=>⟨?_⟩|refine Rb ⟨?_⟩|fail
   exact Rf
 | some e=>
   rw [he] at c1;simp only [Option.isNone_some,zAF,if_false];by_cases hu:bC t o.tgt=0
   · rw [hu] at c2;simp only [hu,ne_eq,not_true_eq_false,if_false];cases hf:ao t o.tgt with
     | some f=>
       rw [hf] at c3;refine G0 Tryz.func249 ?_;repeat' first|refine Ra ⟨?_⟩|refine R0 c1 ⟨?_⟩|refine R0 c2 ⟨?_⟩|refine R0 c3 ⟨?_⟩|refine Rd (fun h=>⟨?_⟩) fun h=>⟨?_⟩|refine Rb ⟨?_⟩|fail
       exact Rf
     | none=>
       rw [hf] at c3;simp only [Option.isSome_none,zAF,if_false];cases hv:bc o.tgt o.path with
       | true=>
         rw [hv] at c4;refine G0 Tryz.func249 ?_;repeat' first|refine Ra ⟨?_⟩|refine R0 c1 ⟨?_⟩|refine R0 c2 ⟨?_⟩|refine R0 c3 ⟨?_⟩|refine R0 c4 ⟨?_⟩|refine Rd (fun h=>⟨?_⟩) fun h=>⟨?_⟩|refine Rb ⟨?_⟩|fail
         exact Rf
       | false=>
         rw [hv] at c4;simp only [zAF,if_false];have e1:(t.map Ent.c).length=t.length:=zAA ..;refine G0 Tryz.func249 ?_;repeat' first|refine Ra ⟨?_⟩|refine R0 c1 ⟨?_⟩|refine R0 c2 ⟨?_⟩|refine R0 c3 ⟨?_⟩|refine R0 c4 ⟨?_⟩|refine Rd (fun h=>⟨?_⟩) fun h=>⟨?_⟩|refine Rb ⟨?_⟩|fail
         refine Cd.loop2 (fun mq tm S nx=>∃ (i:Nat),mq=(t.length - i)∧tm=[(3,.bp 0 0),(43,.sl (t.map Ent.c)),(44,.k .i64 ((t.map Ent.c).length:Int)),(45,.k .i64 i)]∧S=[(0,.box 53 o.c)]∧nx=1∧(i≤t.length)∧((t.take i).all (fun e=>(aX e.path o.path o.tgt).isSome)=true)) ?_ ?_
         · refine la [3,43,44,45] ?_
           conv=>whnf
           refine ⟨rfl,rfl,_,0,rfl,rfl,rfl,rfl,by omega,rfl⟩
         · rintro mq tm S nx ⟨i,hn,rfl,rfl,rfl,hi,ha⟩;rcases av t i hi with ⟨rfl,hd⟩|⟨x,r,hx',hd,hr,hlt⟩
           · rw [zAP] at ha;rw [ha];repeat' first|refine Rx ⟨?_⟩|refine Rd (fun h=>⟨?_⟩) fun h=>⟨?_⟩|fail
             exact Rf
           · have hxp:=(gx ht (zAD hx')).2.1;have hxl:=(aQ hxp).2;have c5:=nY (m:=m) x.path o.path o.tgt (by omega) (by omega) (by omega);cases hm:aX x.path o.path o.tgt with
             | none=>
               rw [hm] at c5;have hf:t.all (fun e=>(aX e.path o.path o.tgt).isSome)=false:=dM hx' (by simp [hm]);rw [hf];repeat' first|refine Ra ⟨?_⟩|refine R0 c5 ⟨?_⟩|refine Rd (fun h=>⟨?_⟩) fun h=>⟨?_⟩|refine Rb ⟨?_⟩|fail
               exact Rf
             | some y=>
               rw [hm] at c5;repeat' first|refine Ra ⟨?_⟩|refine R0 c5 ⟨?_⟩|refine Rd (fun h=>⟨?_⟩) fun h=>⟨?_⟩|refine Rb ⟨?_⟩|fail
               refine .here ⟨mq - 1,by omega,?_⟩;refine la [3,43,44,45] ?_
               conv=>whnf
               refine ⟨rfl,rfl,i+1,(by omega),rfl,rfl,rfl,by omega,(bN ha hx' (by simp [hm]))⟩
   · simp only [hu,ne_eq,not_false_eq_true,if_true];refine G0 Tryz.func249 ?_;repeat' first|refine Ra ⟨?_⟩|refine R0 c1 ⟨?_⟩|refine R0 c2 ⟨?_⟩|refine Rd (fun h=>⟨?_⟩) fun h=>⟨?_⟩|refine Rb ⟨?_⟩|fail
     exact Rf
def un (t:List Ent) (o:Opn):Int:=if iu o then dh t o else 1
theorem AF (t:List Ent) (o:Opn) (ht:aq t=true) (h1:o.path.length≤1073741823) (h2:o.tgt.length≤1073741823) (h3:o.data.length≤1073741823):Con (E m) 191 0 [.sl (t.map Ent.c),.agg o.c] [] (.k .i64 (un t o)) []:=by
 have hl:=aN ht;have c0:=EZ (m:=m) o (by omega) (by omega) (by omega);unfold un;cases hok:iu o with
 | false=>
   rw [hok] at c0;refine G0 Tryz.func191 ?_;repeat' first|refine Ra ⟨?_⟩|refine R0 c0 ⟨?_⟩|refine Rd (fun h=>⟨?_⟩) fun h=>⟨?_⟩|refine Rb ⟨?_⟩|fail
   exact Rf
 | true=>
   rw [hok] at c0;have hp:=jG hok;simp only [if_true];rcases kinds hok with hk|hk|hk|hk|hk
   · have c1:=vn (m:=m) t o (by omega) hp;have hx:dh t o=eF t o.path:=by simp [dh,hk]
     rw [hx];refine G0 Tryz.func191 ?_;repeat' first|refine Ra ⟨?_⟩|refine R0 c0 ⟨?_⟩|refine R0 c1 ⟨?_⟩|refine Rd (fun h=>⟨?_⟩) fun h=>⟨?_⟩|refine Rb ⟨?_⟩|fail
     exact Rf
   · have c1:=yy (m:=m) t o (by omega) hp;have hx:dh t o=eP t o.path:=by simp [dh,hk]
     rw [hx];refine G0 Tryz.func191 ?_;repeat' first|refine Ra ⟨?_⟩|refine R0 c0 ⟨?_⟩|refine R0 c1 ⟨?_⟩|refine Rd (fun h=>⟨?_⟩) fun h=>⟨?_⟩|refine Rb ⟨?_⟩|fail
     exact Rf
   · have c1:=AE (m:=m) t o ht hp hk;have hx:dh t o=gb t o:=by simp [dh,hk]
     rw [hx];refine G0 Tryz.func191 ?_;repeat' first|refine Ra ⟨?_⟩|refine R0 c0 ⟨?_⟩|refine R0 c1 ⟨?_⟩|refine Rd (fun h=>⟨?_⟩) fun h=>⟨?_⟩|refine Rb ⟨?_⟩|fail
     exact Rf
   · have c1:=uk (m:=m) t o ht hp hk;have hx:dh t o=gb t o:=by simp [dh,hk]
     rw [hx];refine G0 Tryz.func191 ?_;repeat' first|refine Ra ⟨?_⟩|refine R0 c0 ⟨?_⟩|refine R0 c1 ⟨?_⟩|refine Rd (fun h=>⟨?_⟩) fun h=>⟨?_⟩|refine Rb ⟨?_⟩|fail
     exact Rf
   · have c1:=vq (m:=m) t o ht hp (sF hok hk).1;have hx:dh t o=dI t o:=by simp [dh,hk]
     rw [hx];refine G0 Tryz.func191 ?_;repeat' first|refine Ra ⟨?_⟩|refine R0 c0 ⟨?_⟩|refine R0 c1 ⟨?_⟩|refine Rd (fun h=>⟨?_⟩) fun h=>⟨?_⟩|refine Rb ⟨?_⟩|fail
     exact Rf
theorem lY (t:List Ent) (ht:t.length≤1073741824):Con (E m) 128 0 [.sl (t.map Ent.c)] [] (.own 0) [(0,.own 66 (t.map Ent.c))]:=by
 have e1:(t.map Ent.c).length=t.length:=zAA ..;refine G0 Tryz.func128 ?_;repeat' first|refine Rx ⟨?_⟩|refine Rd (fun h=>⟨?_⟩) fun h=>⟨?_⟩|fail
 exact Rf
def rL (t:List Ent) (o:Opn):List Ent:=if o.kind=5 then t.map (gt o.path o.tgt) else js t o.path
theorem Ff (t:List Ent) (o:Opn):(rL t o).length≤t.length:=by
 unfold rL;split
 · simp
 · exact zAa _ _
theorem CL {t:List Ent} {o:Opn} {i:Nat} {x:Ent} (h:t[i]?=some x):rL (t.take (i+1)) o=rL (t.take i) o++(if o.kind=5 then [gt o.path o.tgt x] else if x.path=o.path then [] else [x]):=by
 unfold rL js;rw [zAY,h];split
 · simp
 · rw [zAj];congr 1
   by_cases hp:x.path=o.path <;> simp [hp]
theorem fY (t:List Ent) (o:Opn) (hb:∀ e∈t,e.path.length≤1073741824∧e.data.length≤1073741824) (h1:o.path.length≤1073741823) (h2:o.tgt.length≤1073741823) (h3:o.data.length≤1073741823):Con (E m) 129 0 [.sl (t.map Ent.c),.agg o.c] [] (.tup [.own 0,.k .i64 (aJ t o).2]) [(0,.own 66 ((aJ t o).1.map Ent.c))]:=by
 have c1:=gQ (m:=m) t hb;cases k1:aq t with
 | false=>
   have hx:aJ t o=([],1):=by simp [aJ,k1]
   rw [hx];rw [k1] at c1;refine G0 Tryz.func129 ?_;repeat' first|refine Ra ⟨?_⟩|refine R0 c1 ⟨?_⟩|refine Rd (fun h=>⟨?_⟩) fun h=>⟨?_⟩|refine Rb ⟨?_⟩|fail
   exact Rf
 | true=>
   rw [k1] at c1;have hl:=aN k1;have c2:=AF (m:=m) t o k1 h1 h2 h3;have c3:=lY (m:=m) t (by omega);by_cases k3:un t o=0
   · have k2:iu o=true:=by
       unfold un at k3;split at k3
       · assumption
       · cases k3
     have k4:dh t o=0:=by
      unfold un at k3;rw [if_pos k2] at k3;exact k3
     have hx:aJ t o=(doT t o,0):=by simp [aJ,k1,k2,k4]
     rw [hx];rw [k3] at c2;have hp:=jG k2;have c9:=pX (m:=m) (pV t o) (doT t o) (fun S g1 g2=>G1 k1 k2 k4 g1 g2) (by have:=E9 (t:=t) (o:=o) k1; omega);have hbl:=Ff t o;have e1:(t.map Ent.c).length=t.length:=zAA ..;have hst:=fun i x h=>CL (t:=t) (o:=o) (i:=i) (x:=x) h;have hfin:pV t o=rL t o++(if o.kind=1∨o.kind=2 then [⟨o.path,decide (o.kind=1),o.data⟩] else []):=rfl
     generalize pV t o=L at c9 hfin;refine G0 Tryz.func129 ?_;repeat' first|refine Ra ⟨?_⟩|refine R0 c1 ⟨?_⟩|refine R0 c2 ⟨?_⟩|refine Rd (fun h=>⟨?_⟩) fun h=>⟨?_⟩|refine Rb ⟨?_⟩|fail
     refine Cd.loop2 (fun mq tm S nx=>∃ (i:Nat) (A:List Ent),mq=(t.length - i)∧tm=[(3,.bp 0 0),(7,.own 1),(21,.sl (t.map Ent.c)),(22,.k .i64 ((t.map Ent.c).length:Int)),(23,.k .i64 i)]∧S=[(0,.box 53 o.c),(1,.own 66 (A.map Ent.c))]∧nx=2∧(i≤t.length)∧(A=rL (t.take i) o)∧(A.length≤i)) ?_ ?_
     · refine la [3,7,21,22,23] ?_
       conv=>whnf
       refine ⟨rfl,rfl,_,0,[],rfl,rfl,rfl,rfl,by omega,(by simp [rL,js]),by simp⟩
     · rintro mq tm S nx ⟨i,A,hn,rfl,rfl,rfl,hi,hA,hAl⟩;have e2:(A.map Ent.c).length=A.length:=zAA ..;rcases av t i hi with ⟨rfl,hd⟩|⟨x,r,hx',hd,hr,hlt⟩
       · rw [zAP] at hA;rw [← hA] at hfin;rcases kinds k2 with hk|hk|hk|hk|hk
         · rw [if_pos (.inl hk)] at hfin;rw [hfin,zAH] at c9;have c9':Con (E m) 193 1 [.own 0] [(0,.own 66 (A.map Ent.c++[[.s o.path,.b (decide (o.kind=1)),.s o.data]]))] (.tup []) [(0,.own 66 ((doT t o).map Ent.c))]:=c9;repeat' first|refine Ra ⟨?_⟩|refine Rk [3] 0 c9' ⟨?_⟩|refine Rd (fun h=>⟨?_⟩) fun h=>⟨?_⟩|refine Rb ⟨?_⟩|fail
           exact Rf
         · rw [if_pos (.inr hk)] at hfin;rw [hfin,zAH] at c9;have c9':Con (E m) 193 1 [.own 0] [(0,.own 66 (A.map Ent.c++[[.s o.path,.b (decide (o.kind=1)),.s o.data]]))] (.tup []) [(0,.own 66 ((doT t o).map Ent.c))]:=c9;repeat' first|refine Ra ⟨?_⟩|refine Rk [3] 0 c9' ⟨?_⟩|refine Rd (fun h=>⟨?_⟩) fun h=>⟨?_⟩|refine Rb ⟨?_⟩|fail
           exact Rf
         all_goals
          rw [if_neg (by omega),List.append_nil] at hfin;rw [hfin] at c9;repeat' first|refine Ra ⟨?_⟩|refine Rk [1] 0 c9 ⟨?_⟩|refine Rd (fun h=>⟨?_⟩) fun h=>⟨?_⟩|refine Rb ⟨?_⟩|fail
          exact Rf
       · have g2:=hst i x hx';have hxp:=(gx k1 (zAD hx')).2.1;have hxl:=(aQ hxp).2;by_cases hk:o.kind=5
         · rw [if_pos hk] at g2;have c5:=nY (m:=m) x.path o.path o.tgt (by omega) (by omega) (by omega);have hme:gt o.path o.tgt x=⟨(aX x.path o.path o.tgt).getD [],x.dir,x.data⟩:=rfl;cases hm:aX x.path o.path o.tgt;all_goals
            rw [hm] at c5 hme;repeat' first|refine Ra ⟨?_⟩|refine R0 c5 ⟨?_⟩|refine Rd (fun h=>⟨?_⟩) fun h=>⟨?_⟩|refine Rb ⟨?_⟩|fail
            refine .here ⟨mq - 1,by omega,?_⟩;refine la [3,7,21,22,23] ?_
            conv=>whnf
            refine ⟨rfl,rfl,i+1,A++[gt o.path o.tgt x],(by omega),rfl,?_,rfl,by omega,(by rw [hA,g2]),(by simp; omega)⟩;rw [hme,zAH];rfl
         · rw [if_neg hk] at g2;by_cases hxo:x.path=o.path
           · rw [if_pos hxo,List.append_nil] at g2;repeat' first|refine Rx ⟨?_⟩|refine Rd (fun h=>⟨?_⟩) fun h=>⟨?_⟩|fail
             refine .here ⟨mq - 1,by omega,?_⟩;refine la [3,7,21,22,23] ?_
             conv=>whnf
             refine ⟨rfl,rfl,i+1,A,(by omega),rfl,rfl,rfl,by omega,(by rw [hA,g2]),by omega⟩
           · rw [if_neg hxo] at g2;repeat' first|refine Rx ⟨?_⟩|refine Rd (fun h=>⟨?_⟩) fun h=>⟨?_⟩|fail
             refine .here ⟨mq - 1,by omega,?_⟩;refine la [3,7,21,22,23] ?_
             conv=>whnf
             refine ⟨rfl,rfl,i+1,A++[x],(by omega),rfl,?_,rfl,by omega,(by rw [hA,g2]),(by simp; omega)⟩;rw [zAH];rfl
   · have hx:aJ t o=(t,un t o):=by
       unfold un at k3 ⊢;cases k2:iu o with
       | false=>simp [aJ,k1,k2]
       | true=>
         rw [k2] at k3;simp only [if_true] at k3;simp [aJ,k1,k2,k3]
     rw [hx];refine G0 Tryz.func129 ?_;repeat' first|refine Ra ⟨?_⟩|refine R0 c1 ⟨?_⟩|refine R0 c2 ⟨?_⟩|refine Rk [] 1 c3 ⟨?_⟩|refine Rd (fun h=>⟨?_⟩) fun h=>⟨?_⟩|refine Rb ⟨?_⟩|fail
     exact Rf
end Go.Proofs.YtagejnomlkfndaaGreatDoor
