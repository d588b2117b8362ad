/- Texts of this claim, set close: lemmas and contracts. -/
import Derived.Shelf.SlSortCmp.NoneTotal
import Derived.Shelf.SlicesQ.Reverse
import Derived.Shelf.SlGeneric
import Derived.Ground.SlsfProg
import Derived.Ground.SlgnProg
import Derived.Test.YtlicaibhgcenhaaGreatDoorProg
import Derived.Test.YtlicaibhgcenhaaGreatDoorYY7
import Derived.Test.YtlicaibhgcenhaaGreatDoorYY4
import Derived.Test.YtlicaibhgcenhaaGreatDoorYY6
import Derived.Test.YtlicaibhgcenhaaGreatDoorYY5
import Derived.Test.YtlicaibhgcenhaaGreatDoorYY3
import Derived.Lib.SlicesCompact
set_option linter.unusedSimpArgs false
set_option linter.unusedVariables false
set_option maxHeartbeats 1000000
set_option maxRecDepth 10000
namespace Go.Proofs
open Go.Shelf
def Tryz.sortE_ren:Go.Shelf.Ren:=⟨fun|6=>245|15=>287|14=>286|28=>319|29=>320|20=>311|21=>312|22=>313|23=>314|24=>315|25=>316|26=>317|27=>318|46=>331|47=>332|48=>333|49=>334|50=>335|57=>348|n=>n,fun|22=>45|24=>150|25=>260|3=>3|39=>263|0=>0|53=>288|55=>293|4=>4|46=>303|45=>302|50=>117|5=>5|9=>9|66=>322|70=>326|76=>334|77=>335|n=>n,fun|n=>n⟩
theorem Tryz.sortE:Go.Proofs.SlLaysF0.n6 Tryz.prog Tryz.sortE_ren:={
 mixed:=by kernel_rfl
 f6:=⟨Tryz.f245.name,by decide,Tryz.func245.trans (congrArg some (by kernel_rfl))⟩
 f14:=⟨Tryz.f286.name,by decide,Tryz.func286.trans (congrArg some (by kernel_rfl))⟩
 f15:=Tryz.func287.trans (congrArg some (by kernel_rfl))
 f20:=⟨Tryz.f311.name,by decide,Tryz.func311.trans (congrArg some (by kernel_rfl))⟩
 f21:=⟨Tryz.f312.name,by decide,Tryz.func312.trans (congrArg some (by kernel_rfl))⟩
 f22:=⟨Tryz.f313.name,by decide,Tryz.func313.trans (congrArg some (by kernel_rfl))⟩
 f23:=⟨Tryz.f314.name,by decide,Tryz.func314.trans (congrArg some (by kernel_rfl))⟩
 f24:=⟨Tryz.f315.name,by decide,Tryz.func315.trans (congrArg some (by kernel_rfl))⟩
 f25:=⟨Tryz.f316.name,by decide,Tryz.func316.trans (congrArg some (by kernel_rfl))⟩
 f26:=⟨Tryz.f317.name,by decide,Tryz.func317.trans (congrArg some (by kernel_rfl))⟩
 f27:=⟨Tryz.f318.name,by decide,Tryz.func318.trans (congrArg some (by kernel_rfl))⟩
 f28:=Tryz.func319.trans (congrArg some (by kernel_rfl))
 f29:=Tryz.func320.trans (congrArg some (by kernel_rfl))
 f46:=⟨Tryz.f331.name,by decide,Tryz.func331.trans (congrArg some (by kernel_rfl))⟩
 f47:=Tryz.func332.trans (congrArg some (by kernel_rfl))
 f48:=Tryz.func333.trans (congrArg some (by kernel_rfl))
 f49:=⟨Tryz.f334.name,by decide,Tryz.func334.trans (congrArg some (by kernel_rfl))⟩
 f50:=⟨Tryz.f335.name,by decide,Tryz.func335.trans (congrArg some (by kernel_rfl))⟩
 f57:=⟨Tryz.f348.name,by decide,Tryz.func348.trans (congrArg some (by kernel_rfl))⟩
 t0:=Tryz.underlying0
 a0:=Tryz.isAgg0
 z0:=Tryz.sizeOf0
 v0:=Tryz.zeroValue0
 t3:=Tryz.underlying3
 a3:=Tryz.isAgg3
 z3:=Tryz.sizeOf3
 v3:=Tryz.zeroValue3
 t4:=Tryz.underlying4
 a4:=Tryz.isAgg4
 z4:=Tryz.sizeOf4
 v4:=Tryz.zeroValue4
 t5:=Tryz.underlying5
 a5:=Tryz.isAgg5
 z5:=Tryz.sizeOf5
 v5:=Tryz.zeroValue5
 t9:=Tryz.underlying9
 a9:=Tryz.isAgg9
 z9:=Tryz.sizeOf9
 v9:=Tryz.zeroValue9
 t22:=Tryz.underlying45
 a22:=Tryz.isAgg45
 z22:=Tryz.sizeOf45
 v22:=Tryz.zeroValue45
 t25:=Tryz.underlying260
 a25:=Tryz.isAgg260
 z25:=Tryz.sizeOf260
 v25:=Tryz.zeroValue260
 t39:=Tryz.underlying263
 a39:=Tryz.isAgg263
 z39:=Tryz.sizeOf263
 v39:=Tryz.zeroValue263
 t45:=Tryz.underlying302
 a45:=Tryz.isAgg302
 z45:=Tryz.sizeOf302
 v45:=Tryz.zeroValue302
 t46:=Tryz.underlying303
 a46:=Tryz.isAgg303
 z46:=Tryz.sizeOf303
 v46:=Tryz.zeroValue303
 t50:=Tryz.underlying117
 a50:=Tryz.isAgg117
 z50:=Tryz.sizeOf117
 v50:=Tryz.zeroValue117
 t53:=Tryz.underlying288
 a53:=Tryz.isAgg288
 z53:=Tryz.sizeOf288
 v53:=Tryz.zeroValue288
 t55:=Tryz.underlying293
 a55:=Tryz.isAgg293
 z55:=Tryz.sizeOf293
 v55:=Tryz.zeroValue293
 t66:=Tryz.underlying322
 a66:=Tryz.isAgg322
 z66:=Tryz.sizeOf322
 v66:=Tryz.zeroValue322
 t70:=Tryz.underlying326
 a70:=Tryz.isAgg326
 z70:=Tryz.sizeOf326
 v70:=Tryz.zeroValue326
 t76:=Tryz.underlying334
 a76:=Tryz.isAgg334
 z76:=Tryz.sizeOf334
 v76:=Tryz.zeroValue334
 t77:=Tryz.underlying335
 a77:=Tryz.isAgg335
 z77:=Tryz.sizeOf335
 v77:=Tryz.zeroValue335 }
def Tryz.sortM_ren:Go.Shelf.Ren:=⟨fun|6=>307|15=>287|14=>330|28=>319|29=>320|20=>340|21=>341|22=>342|23=>343|24=>344|25=>345|26=>346|27=>347|46=>351|47=>332|48=>333|49=>352|50=>353|57=>354|n=>n,fun|22=>47|24=>197|25=>300|3=>3|39=>263|0=>0|53=>288|55=>293|4=>4|46=>303|45=>302|50=>117|5=>5|9=>9|66=>322|70=>326|76=>334|77=>335|n=>n,fun|n=>n⟩
theorem Tryz.sortM:Go.Proofs.SlLaysF0.n6 Tryz.prog Tryz.sortM_ren:={
 mixed:=by kernel_rfl
 f6:=⟨Tryz.f307.name,by decide,Tryz.func307.trans (congrArg some (by kernel_rfl))⟩
 f14:=⟨Tryz.f330.name,by decide,Tryz.func330.trans (congrArg some (by kernel_rfl))⟩
 f15:=Tryz.func287.trans (congrArg some (by kernel_rfl))
 f20:=⟨Tryz.f340.name,by decide,Tryz.func340.trans (congrArg some (by kernel_rfl))⟩
 f21:=⟨Tryz.f341.name,by decide,Tryz.func341.trans (congrArg some (by kernel_rfl))⟩
 f22:=⟨Tryz.f342.name,by decide,Tryz.func342.trans (congrArg some (by kernel_rfl))⟩
 f23:=⟨Tryz.f343.name,by decide,Tryz.func343.trans (congrArg some (by kernel_rfl))⟩
 f24:=⟨Tryz.f344.name,by decide,Tryz.func344.trans (congrArg some (by kernel_rfl))⟩
 f25:=⟨Tryz.f345.name,by decide,Tryz.func345.trans (congrArg some (by kernel_rfl))⟩
 f26:=⟨Tryz.f346.name,by decide,Tryz.func346.trans (congrArg some (by kernel_rfl))⟩
 f27:=⟨Tryz.f347.name,by decide,Tryz.func347.trans (congrArg some (by kernel_rfl))⟩
 f28:=Tryz.func319.trans (congrArg some (by kernel_rfl))
 f29:=Tryz.func320.trans (congrArg some (by kernel_rfl))
 f46:=⟨Tryz.f351.name,by decide,Tryz.func351.trans (congrArg some (by kernel_rfl))⟩
 f47:=Tryz.func332.trans (congrArg some (by kernel_rfl))
 f48:=Tryz.func333.trans (congrArg some (by kernel_rfl))
 f49:=⟨Tryz.f352.name,by decide,Tryz.func352.trans (congrArg some (by kernel_rfl))⟩
 f50:=⟨Tryz.f353.name,by decide,Tryz.func353.trans (congrArg some (by kernel_rfl))⟩
 f57:=⟨Tryz.f354.name,by decide,Tryz.func354.trans (congrArg some (by kernel_rfl))⟩
 t0:=Tryz.underlying0
 a0:=Tryz.isAgg0
 z0:=Tryz.sizeOf0
 v0:=Tryz.zeroValue0
 t3:=Tryz.underlying3
 a3:=Tryz.isAgg3
 z3:=Tryz.sizeOf3
 v3:=Tryz.zeroValue3
 t4:=Tryz.underlying4
 a4:=Tryz.isAgg4
 z4:=Tryz.sizeOf4
 v4:=Tryz.zeroValue4
 t5:=Tryz.underlying5
 a5:=Tryz.isAgg5
 z5:=Tryz.sizeOf5
 v5:=Tryz.zeroValue5
 t9:=Tryz.underlying9
 a9:=Tryz.isAgg9
 z9:=Tryz.sizeOf9
 v9:=Tryz.zeroValue9
 t22:=Tryz.underlying47
 a22:=Tryz.isAgg47
 z22:=Tryz.sizeOf47
 v22:=Tryz.zeroValue47
 t25:=Tryz.underlying300
 a25:=Tryz.isAgg300
 z25:=Tryz.sizeOf300
 v25:=Tryz.zeroValue300
 t39:=Tryz.underlying263
 a39:=Tryz.isAgg263
 z39:=Tryz.sizeOf263
 v39:=Tryz.zeroValue263
 t45:=Tryz.underlying302
 a45:=Tryz.isAgg302
 z45:=Tryz.sizeOf302
 v45:=Tryz.zeroValue302
 t46:=Tryz.underlying303
 a46:=Tryz.isAgg303
 z46:=Tryz.sizeOf303
 v46:=Tryz.zeroValue303
 t50:=Tryz.underlying117
 a50:=Tryz.isAgg117
 z50:=Tryz.sizeOf117
 v50:=Tryz.zeroValue117
 t53:=Tryz.underlying288
 a53:=Tryz.isAgg288
 z53:=Tryz.sizeOf288
 v53:=Tryz.zeroValue288
 t55:=Tryz.underlying293
 a55:=Tryz.isAgg293
 z55:=Tryz.sizeOf293
 v55:=Tryz.zeroValue293
 t66:=Tryz.underlying322
 a66:=Tryz.isAgg322
 z66:=Tryz.sizeOf322
 v66:=Tryz.zeroValue322
 t70:=Tryz.underlying326
 a70:=Tryz.isAgg326
 z70:=Tryz.sizeOf326
 v70:=Tryz.zeroValue326
 t76:=Tryz.underlying334
 a76:=Tryz.isAgg334
 z76:=Tryz.sizeOf334
 v76:=Tryz.zeroValue334
 t77:=Tryz.underlying335
 a77:=Tryz.isAgg335
 z77:=Tryz.sizeOf335
 v77:=Tryz.zeroValue335 }
end Go.Proofs
namespace Go.Proofs.YtlicaibhgcenhaaGreatDoor
open Go Go.RowKit Go.Ab Go.Par Go.Proofs Go.Sort Go.Shelf
variable {m:Int}
theorem vK (x:Value) (l:Bs) (hx:x=vS l) (W:World):Calls Tryz.prog 288 #[x] W fun e w'=>e=.returned (.bool false)∧w'=W:=by
 subst hx
 go_enter Tryz.func288,Tryz.ntmps288
 go_wp2
 go_ret
 exact ⟨by simp,rfl⟩
theorem sV (a b:Bs) (W:World):Calls Tryz.prog 247 #[vS a,vS b] W fun e w'=>e=.returned (.int .i64 (pQ a b))∧w'=W:=by
 have h1:=fun W=>vK (vS a) a rfl W;have h2:=fun W=>vK (vS b) b rfl W;unfold pQ
 go_enter Tryz.func247,Tryz.ntmps247
 go_wp2_with (go_at_call 288; first|(refine (h1 _).mono ?_; rintro e w' ⟨rfl,rfl⟩)|(refine (h2 _).mono ?_; rintro e w' ⟨rfl,rfl⟩))
 all_goals first
  | (go_ret; exact ⟨rfl,rfl⟩)
  | (go_ret; refine ⟨?_,rfl⟩; simp_all; done)
  | (go_ret; refine ⟨?_,rfl⟩; rcases fu a b with g|g|g <;> simp_all)
  | (exfalso; rcases fu a b with g|g|g <;> simp_all)
theorem EW (x y:Ent) (W:World):Calls Tryz.prog 246 #[.agg (Ent.v x).toArray,.agg (Ent.v y).toArray] W fun e w'=>e=.returned (.int .i64 (pQ x.path y.path))∧∃ q os',w'=grow (W.drewN q) os':=by
 have hcon:=fun W'=>sV x.path y.path W';generalize pQ x.path y.path=r at hcon ⊢;unfold Ent.v
 go_enter Tryz.func246,Tryz.ntmps246
 go_wp2_with (go_at_call 247; refine (hcon _).mono ?_; rintro e w' ⟨rfl,rfl⟩)
 go_ret
 exact ⟨rfl,0,_,by rw [alloc_eq_grow,alloc_eq_grow,grow_grow]; rfl⟩
theorem uf (L U:List Ent) (hU:∀ S:List Ent,S.Perm L→(S.Pairwise fun a b=>lt b.path a.path=false)→S=U) (hl:L.length≤1000000) :
   Con (E m) 245 1 [.own 0,.fn 246 []] [(0,.own 150 (L.map Ent.c))] (.tup []) [(0,.own 150 (U.map Ent.c))]:=
 yS AK (by decide) (by kernel_rfl) ⟨_,Tryz.func245,rfl,rfl⟩ (mD (pa:=fun e:Ent=>e.path) hU)
  (fun _ w=>AnyF.slices_SortFunc_none Tryz.sortE none 0 _ w)
  (fun b cap w hH hb=>by
   have eg:∀ args w,(callFunc 246 args).run Tryz.prog w=.ok (.enter 246 args) w:=enters_of Tryz.func246 (by kernel_rfl) rfl;refine (AnyQ.slices_SortFunc Tryz.sortE 3 Tryz.isAgg150 Tryz.sizeOf150 Ent.v AK.len AK.one (fun x y=>pQ x.path y.path) Hv 246 #[] b 0 cap L.toArray w eg (fun _ _ _ _ x y=>EW x y _) hH hb (by simp; omega)).mono ?_;rintro e w' ⟨he,d,n,os,hp,hs,rfl⟩;have hd:d.toList=U:=hU _ (vJ hp) (qH (pa:=fun e:Ent=>e.path) hp.1 hs);refine ⟨he,n,os,?_⟩;rw [← hd])
theorem oL (L U:List Ent) (hU:∀ S:List Ent,S.Perm L→(S.Pairwise fun a b=>lt b.path a.path=false)→S=U) (hl:L.length≤1000000) :
   Con (E m) 177 1 [.own 0] [(0,.own 150 (L.map Ent.c))] (.tup []) [(0,.own 150 (U.map Ent.c))]:=by
 have c1:=uf (m:=m) L U hU hl;refine G0 Tryz.func177 ?_;repeat' first|refine Ra ⟨?_⟩|refine Rk [0] 0 c1 ⟨?_⟩|refine Rd (fun h=>⟨?_⟩) fun h=>⟨?_⟩|refine Rb ⟨?_⟩|fail
 exact Rf
end Go.Proofs.YtlicaibhgcenhaaGreatDoor
namespace Go.Proofs.YtlicaibhgcenhaaGreatDoor
open Go Go.RowKit Go.Ab Go.Par
variable {m:Int}
theorem mX (s a b:Bs) (hs:s.length≤1073741823) (ha:a.length≤1073741823) (hb:b.length≤1073741823):Con (E m) 176 0 [.s s,.s a,.s b] [] (Gv (aK s a b)) []:=by
 have c1:=bP (m:=m) s (by omega);have c2:=bP (m:=m) a (by omega);have c3:=bP (m:=m) b (by omega);have c4:=iY (m:=m) s a (by omega) (by omega);cases h1:ac s with
 | false=>
   have hx:aK s a b=none:=by simp [aK,h1]
   rw [hx];rw [h1] at c1;refine G0 Tryz.func176 ?_;repeat' first|refine Ra ⟨?_⟩|refine R0 c1 ⟨?_⟩|refine Rd (fun h=>⟨?_⟩) fun h=>⟨?_⟩|refine Rb ⟨?_⟩|fail
   exact Rf
 | true=>
   cases h2:ac a with
   | false=>
     have hx:aK s a b=none:=by simp [aK,h2]
     rw [hx];rw [h1] at c1;rw [h2] at c2;refine G0 Tryz.func176 ?_;repeat' first|refine Ra ⟨?_⟩|refine R0 c1 ⟨?_⟩|refine R0 c2 ⟨?_⟩|refine Rd (fun h=>⟨?_⟩) fun h=>⟨?_⟩|refine Rb ⟨?_⟩|fail
     exact Rf
   | true=>
     have hpu:bC s a=under s a:=by simp [bC,h1,h2]
     rw [hpu] at c4;cases h3:ac b with
     | false=>
       have hx:aK s a b=none:=by simp [aK,h3]
       rw [hx];rw [h1] at c1;rw [h2] at c2;rw [h3] at c3;refine G0 Tryz.func176 ?_;repeat' first|refine Ra ⟨?_⟩|refine R0 c1 ⟨?_⟩|refine R0 c2 ⟨?_⟩|refine R0 c3 ⟨?_⟩|refine Rd (fun h=>⟨?_⟩) fun h=>⟨?_⟩|refine Rb ⟨?_⟩|fail
       exact Rf
     | true=>
       rw [h1] at c1;rw [h2] at c2;rw [h3] at c3;have hrt:=aW h2;by_cases hc:s≠a∧under s a=false
       · have hx:aK s a b=some s:=by simp [aK,h1,h2,h3,hc.1,hc.2]
         obtain ⟨hc1,hc2⟩:=hc;rw [hx];rw [hc2] at c4;refine G0 Tryz.func176 ?_;repeat' first|refine Ra ⟨?_⟩|refine R0 c1 ⟨?_⟩|refine R0 c2 ⟨?_⟩|refine R0 c3 ⟨?_⟩|refine R0 c4 ⟨?_⟩|refine Rd (fun h=>⟨?_⟩) fun h=>⟨?_⟩|refine Rb ⟨?_⟩|fail
         exact Rf
       · have hlen:a.length≤s.length:=by
           by_cases he:s=a
           · rw [he]; exact zAM _
           · have hu:under s a=true:=by
               cases hu:under s a with
               | true=>rfl
               | false=>exact absurd ⟨he,hu⟩ hc
             have:=pI hu hrt
             omega
         have c5:=bP (m:=m) (b++(s.take s.length).drop a.length) (by
          have:=(aC h1).2
          have:=(aC h3).2
          simp; omega)
         have hx:aK s a b=if ac (b++(s.take s.length).drop a.length) then some (b++(s.take s.length).drop a.length) else none:=by
          unfold aK;rw [h1,h2,h3,zAN];simp only [zBT,if_true];rw [if_neg hc]
         rw [hx];by_cases he:s=a
         all_goals
          cases h5:ac (b++(s.take s.length).drop a.length);all_goals
           rw [h5] at c5;have hu:s=a∨under s a=true:=by
            by_cases he:s=a
            · exact .inl he
            · right;cases hu:under s a with
              | true=>rfl
              | false=>exact absurd ⟨he,hu⟩ hc
           try rw [hu.resolve_left he] at c4
           simp only [if_true,if_false,zAE];refine G0 Tryz.func176 ?_;repeat' first|refine Ra ⟨?_⟩|refine R0 c1 ⟨?_⟩|refine R0 c2 ⟨?_⟩|refine R0 c3 ⟨?_⟩|refine R0 c4 ⟨?_⟩|refine R0 c5 ⟨?_⟩|refine Rd (fun h=>⟨?_⟩) fun h=>⟨?_⟩|refine Rb ⟨?_⟩|fail
           exact Rf
theorem ug (t:List Ent) (o:Opn) (ht:t.length≤1073741824) (hp:ac o.path=true):Con (E m) 239 0 [.sl (t.map Ent.c),.agg o.c] [] (.k .i64 (cL t o.path)) []:=by
 have hl:=(aC hp).2;have c1:=hO (m:=m) t o.path ht (by omega);have c2:=iC (m:=m) t o.path ht;have hc:=vE (t:=t) hp;rw [hc];by_cases hu:aY t o.path=0
 · rw [hu] at c1;simp only [hu,ne_eq,not_true_eq_false,if_false];cases he:ah t o.path with
   | some e=>
     rw [he] at c2;refine G0 Tryz.func239 ?_;repeat' first|refine Ra ⟨?_⟩|refine R0 c1 ⟨?_⟩|refine R0 c2 ⟨?_⟩|refine Rd (fun h=>⟨?_⟩) fun h=>⟨?_⟩|refine Rb ⟨?_⟩|fail
     exact Rf
   | none=>
     rw [he] at c2;by_cases hlen:16≤t.length
     · simp only [Option.isSome_none,zAE,if_false,hlen,if_true];refine G0 Tryz.func239 ?_;repeat' first|refine Ra ⟨?_⟩|refine R0 c1 ⟨?_⟩|refine R0 c2 ⟨?_⟩|refine Rd (fun h=>⟨?_⟩) fun h=>⟨?_⟩|refine Rb ⟨?_⟩|fail
       exact Rf
     · simp only [Option.isSome_none,zAE,if_false,hlen];refine G0 Tryz.func239 ?_;repeat' first|refine Ra ⟨?_⟩|refine R0 c1 ⟨?_⟩|refine R0 c2 ⟨?_⟩|refine Rd (fun h=>⟨?_⟩) fun h=>⟨?_⟩|refine Rb ⟨?_⟩|fail
       exact Rf
 · simp only [hu,ne_eq,not_false_eq_true,if_true];refine G0 Tryz.func239 ?_;repeat' first|refine Ra ⟨?_⟩|refine R0 c1 ⟨?_⟩|refine Rd (fun h=>⟨?_⟩) fun h=>⟨?_⟩|refine Rb ⟨?_⟩|fail
   exact Rf
theorem xg (t:List Ent) (o:Opn) (ht:t.length≤1073741824) (hp:ac o.path=true):Con (E m) 240 0 [.sl (t.map Ent.c),.agg o.c] [] (.k .i64 (dG t o.path)) []:=by
 have hl:=(aC hp).2;have c1:=hO (m:=m) t o.path ht (by omega);have c2:=iC (m:=m) t o.path ht;have hc:=C8 (t:=t) hp;rw [hc];by_cases hu:aY t o.path=0
 · rw [hu] at c1;simp only [hu,ne_eq,not_true_eq_false,if_false];cases he:ah t o.path with
   | some e=>
     rw [he] at c2;cases hd:e.dir;all_goals
      simp only [Ent.c,nv,hd] at c2;simp only [Option.isSome_some,Option.getD_some,hd,zAE,and_false,and_true,if_true,if_false,Option.isNone_some,false_and];refine G0 Tryz.func240 ?_;repeat' first|refine Ra ⟨?_⟩|refine R0 c1 ⟨?_⟩|refine R0 c2 ⟨?_⟩|refine Rd (fun h=>⟨?_⟩) fun h=>⟨?_⟩|refine Rb ⟨?_⟩|fail
      exact Rf
   | none=>
     rw [he] at c2;by_cases hlen:16≤t.length
     · simp only [Option.isSome_none,zAE,false_and,if_false,Option.isNone_none,true_and,hlen,if_true];refine G0 Tryz.func240 ?_;repeat' first|refine Ra ⟨?_⟩|refine R0 c1 ⟨?_⟩|refine R0 c2 ⟨?_⟩|refine Rd (fun h=>⟨?_⟩) fun h=>⟨?_⟩|refine Rb ⟨?_⟩|fail
       exact Rf
     · simp only [Option.isSome_none,zAE,false_and,if_false,Option.isNone_none,true_and,hlen];refine G0 Tryz.func240 ?_;repeat' first|refine Ra ⟨?_⟩|refine R0 c1 ⟨?_⟩|refine R0 c2 ⟨?_⟩|refine Rd (fun h=>⟨?_⟩) fun h=>⟨?_⟩|refine Rb ⟨?_⟩|fail
       exact Rf
 · simp only [hu,ne_eq,not_false_eq_true,if_true];refine G0 Tryz.func240 ?_;repeat' first|refine Ra ⟨?_⟩|refine R0 c1 ⟨?_⟩|refine Rd (fun h=>⟨?_⟩) fun h=>⟨?_⟩|refine Rb ⟨?_⟩|fail
   exact Rf
theorem yU (t:List Ent) (o:Opn) (ht:af t=true) (hp:ac o.path=true) (hk:o.kind=3):Con (E m) 241 0 [.sl (t.map Ent.c),.agg o.c] [] (.k .i64 (eI t o)) []:=by
 have hl:=az ht;have c2:=iC (m:=m) t o.path (by omega);have hc:=ET (o:=o) ht hp hk;rw [hc];cases he:ah t o.path with
 | none=>
   rw [he] at c2;refine G0 Tryz.func241 ?_;repeat' first|refine Ra ⟨?_⟩|refine R0 c2 ⟨?_⟩|refine Rd (fun h=>⟨?_⟩) fun h=>⟨?_⟩|refine Rb ⟨?_⟩|fail
   exact Rf
 | some e=>
   rw [he] at c2;cases hd:e.dir;all_goals
    simp only [Ent.c,nv,hd] at c2;simp only [Option.getD_some,hd,zAE,if_true,if_false,Option.isNone_some];refine G0 Tryz.func241 ?_;repeat' first|refine Ra ⟨?_⟩|refine R0 c2 ⟨?_⟩|refine Rd (fun h=>⟨?_⟩) fun h=>⟨?_⟩|refine Rb ⟨?_⟩|fail
    exact Rf
theorem uh {α:Type} {l:List α} {p:α→Bool} {i:Nat} {x:α} (h:(l.take i).any p=false) (hx:l[i]?=some x) (hp:p x=false):(l.take (i+1)).any p=false:=by
 rw [zAX,hx,List.any_append,h];simp [hp]
theorem FZ {α:Type} {l:List α} {p:α→Bool} {i:Nat} {x:α} (hx:l[i]?=some x) (hp:p x=true):l.any p=true:=zAp.2 ⟨x,zAD hx,hp⟩
theorem sW (t:List Ent) (o:Opn) (ht:af t=true) (hp:ac o.path=true) (hk:o.kind=4):Con (E m) 242 0 [.sl (t.map Ent.c),.agg o.c] [] (.k .i64 (eI t o)) []:=by
 have hl:=az ht;have hpl:=(aC hp).2;have c2:=iC (m:=m) t o.path (by omega);have hc:=yP (o:=o) ht hp hk;rw [hc];cases he:ah t o.path with
 | none=>
   rw [he] at c2;refine G0 Tryz.func242 ?_;repeat' first|refine Ra ⟨?_⟩|refine R0 c2 ⟨?_⟩|refine Rd (fun h=>⟨?_⟩) fun h=>⟨?_⟩|refine Rb ⟨?_⟩|fail
   exact Rf
 | some e=>
   rw [he] at c2;cases hd:e.dir with
   | false=>
     simp only [Ent.c,nv,hd] at c2;simp only [Option.getD_some,hd,if_true,zAE,if_false,Option.isNone_some];refine G0 Tryz.func242 ?_;repeat' first|refine Ra ⟨?_⟩|refine R0 c2 ⟨?_⟩|refine Rd (fun h=>⟨?_⟩) fun h=>⟨?_⟩|refine Rb ⟨?_⟩|fail
     exact Rf
   | true=>
     simp only [Ent.c,nv,hd] at c2;simp only [Option.getD_some,hd,zAO,zAE,if_false,Option.isNone_some];have e1:(t.map Ent.c).length=t.length:=zAA ..;refine G0 Tryz.func242 ?_;repeat' first|refine Ra ⟨?_⟩|refine R0 c2 ⟨?_⟩|refine Rd (fun h=>⟨?_⟩) fun h=>⟨?_⟩|refine Rb ⟨?_⟩|fail
     refine Cd.loop2 (fun mq tm S nx=>∃ (i:Nat),mq=(t.length - i)∧tm=[(3,.bp 0 0),(21,.sl (t.map Ent.c)),(22,.k .i64 ((t.map Ent.c).length:Int)),(23,.k .i64 i)]∧S=[(0,.box 52 o.c)]∧nx=1∧(i≤t.length)∧((t.take i).any (fun e=>under e.path o.path)=false)) ?_ ?_
     · refine la [3,21,22,23] ?_
       conv=>whnf
       refine ⟨rfl,rfl,_,0,rfl,rfl,rfl,rfl,by omega,by simp⟩
     · rintro mq tm S nx ⟨i,hn,rfl,rfl,rfl,hi,ha⟩;rcases au t i hi with ⟨rfl,hd⟩|⟨x,r,hx',hd,hr,hlt⟩
       · rw [zAN] at ha;rw [ha];repeat' first|refine Rx ⟨?_⟩|refine Rd (fun h=>⟨?_⟩) fun h=>⟨?_⟩|fail
         exact Rf
       · have hxp:=(fy ht (zAD hx')).2.1;have hxl:=(aC hxp).2;have c5:=iY (m:=m) x.path o.path (by omega) (by omega);have hpu:bC x.path o.path=under x.path o.path:=by simp [bC,hxp,hp]
         rw [hpu] at c5;cases hm:under x.path o.path with
         | true=>
           rw [hm] at c5;have hf:t.any (fun e=>under e.path o.path)=true:=FZ hx' hm;rw [hf];repeat' first|refine Ra ⟨?_⟩|refine R0 c5 ⟨?_⟩|refine Rd (fun h=>⟨?_⟩) fun h=>⟨?_⟩|refine Rb ⟨?_⟩|fail
           exact Rf
         | false=>
           rw [hm] at c5;repeat' first|refine Ra ⟨?_⟩|refine R0 c5 ⟨?_⟩|refine Rd (fun h=>⟨?_⟩) fun h=>⟨?_⟩|refine Rb ⟨?_⟩|fail
           refine .here ⟨mq - 1,by omega,?_⟩;refine la [3,21,22,23] ?_
           conv=>whnf
           refine ⟨rfl,rfl,i+1,(by omega),rfl,rfl,rfl,by omega,(uh ha hx' hm)⟩
theorem ui (t:List Ent) (o:Opn) (ht:af t=true) (hp:ac o.path=true) (hq:ac o.tgt=true):Con (E m) 243 0 [.sl (t.map Ent.c),.agg o.c] [] (.k .i64 (cz t o)) []:=by
 have hl:=az ht;have hpl:=(aC hp).2;have hql:=(aC hq).2;have c1:=iC (m:=m) t o.path (by omega);have c2:=hO (m:=m) t o.tgt (by omega) (by omega);have c3:=iC (m:=m) t o.tgt (by omega);have c4:=iY (m:=m) o.tgt o.path (by omega) (by omega);have hpu:bC o.tgt o.path=under o.tgt o.path:=by simp [bC,hq,hp]
 rw [hpu] at c4;have hc:=AG (t:=t) hp hq;rw [hc];cases he:ah t o.path with
 | none=>
   rw [he] at c1;refine G0 Tryz.func243 ?_;repeat' first|refine Ra ⟨?_⟩|refine R0 c1 ⟨?_⟩|refine Rd (fun h=>⟨?_⟩) fun h=>⟨?_⟩|refine Rb ⟨?_⟩|fail
   exact Rf
 | some e=>
   rw [he] at c1;simp only [Option.isNone_some,zAE,if_false];by_cases hu:aY t o.tgt=0
   · rw [hu] at c2;simp only [hu,ne_eq,not_true_eq_false,if_false];cases hf:ah t o.tgt with
     | some f=>
       rw [hf] at c3;refine G0 Tryz.func243 ?_;repeat' first|refine Ra ⟨?_⟩|refine R0 c1 ⟨?_⟩|refine R0 c2 ⟨?_⟩|refine R0 c3 ⟨?_⟩|refine Rd (fun h=>⟨?_⟩) fun h=>⟨?_⟩|refine Rb ⟨?_⟩|fail
       exact Rf
     | none=>
       rw [hf] at c3;simp only [Option.isSome_none,zAE,if_false];cases hv:under o.tgt o.path with
       | true=>
         rw [hv] at c4;refine G0 Tryz.func243 ?_;repeat' first|refine Ra ⟨?_⟩|refine R0 c1 ⟨?_⟩|refine R0 c2 ⟨?_⟩|refine R0 c3 ⟨?_⟩|refine R0 c4 ⟨?_⟩|refine Rd (fun h=>⟨?_⟩) fun h=>⟨?_⟩|refine Rb ⟨?_⟩|fail
         exact Rf
       | false=>
         rw [hv] at c4;simp only [zAE,if_false];have e1:(t.map Ent.c).length=t.length:=zAA ..;refine G0 Tryz.func243 ?_;repeat' first|refine Ra ⟨?_⟩|refine R0 c1 ⟨?_⟩|refine R0 c2 ⟨?_⟩|refine R0 c3 ⟨?_⟩|refine R0 c4 ⟨?_⟩|refine Rd (fun h=>⟨?_⟩) fun h=>⟨?_⟩|refine Rb ⟨?_⟩|fail
         refine Cd.loop2 (fun mq tm S nx=>∃ (i:Nat),mq=(t.length - i)∧tm=[(3,.bp 0 0),(43,.sl (t.map Ent.c)),(44,.k .i64 ((t.map Ent.c).length:Int)),(45,.k .i64 i)]∧S=[(0,.box 52 o.c)]∧nx=1∧(i≤t.length)∧((t.take i).all (fun e=>(aK e.path o.path o.tgt).isSome)=true)) ?_ ?_
         · refine la [3,43,44,45] ?_
           conv=>whnf
           refine ⟨rfl,rfl,_,0,rfl,rfl,rfl,rfl,by omega,rfl⟩
         · rintro mq tm S nx ⟨i,hn,rfl,rfl,rfl,hi,ha⟩;rcases au t i hi with ⟨rfl,hd⟩|⟨x,r,hx',hd,hr,hlt⟩
           · rw [zAN] at ha;rw [ha];repeat' first|refine Rx ⟨?_⟩|refine Rd (fun h=>⟨?_⟩) fun h=>⟨?_⟩|fail
             exact Rf
           · have hxp:=(fy ht (zAD hx')).2.1;have hxl:=(aC hxp).2;have c5:=mX (m:=m) x.path o.path o.tgt (by omega) (by omega) (by omega);cases hm:aK x.path o.path o.tgt with
             | none=>
               rw [hm] at c5;have hf:t.all (fun e=>(aK e.path o.path o.tgt).isSome)=false:=cr hx' (by simp [hm]);rw [hf];repeat' first|refine Ra ⟨?_⟩|refine R0 c5 ⟨?_⟩|refine Rd (fun h=>⟨?_⟩) fun h=>⟨?_⟩|refine Rb ⟨?_⟩|fail
               exact Rf
             | some y=>
               rw [hm] at c5;repeat' first|refine Ra ⟨?_⟩|refine R0 c5 ⟨?_⟩|refine Rd (fun h=>⟨?_⟩) fun h=>⟨?_⟩|refine Rb ⟨?_⟩|fail
               refine .here ⟨mq - 1,by omega,?_⟩;refine la [3,43,44,45] ?_
               conv=>whnf
               refine ⟨rfl,rfl,i+1,(by omega),rfl,rfl,rfl,by omega,(bA ha hx' (by simp [hm]))⟩
   · simp only [hu,ne_eq,not_false_eq_true,if_true];refine G0 Tryz.func243 ?_;repeat' first|refine Ra ⟨?_⟩|refine R0 c1 ⟨?_⟩|refine R0 c2 ⟨?_⟩|refine Rd (fun h=>⟨?_⟩) fun h=>⟨?_⟩|refine Rb ⟨?_⟩|fail
     exact Rf
def sX (t:List Ent) (o:Opn):Int:=if dn o then cj t o else 1
theorem yV (t:List Ent) (o:Opn) (ht:af t=true) (h1:o.path.length≤1073741823) (h2:o.tgt.length≤1073741823) (h3:o.data.length≤1073741823):Con (E m) 175 0 [.sl (t.map Ent.c),.agg o.c] [] (.k .i64 (sX t o)) []:=by
 have hl:=az ht;have c0:=vt (m:=m) o (by omega) (by omega) (by omega);unfold sX;cases hok:dn o with
 | false=>
   rw [hok] at c0;refine G0 Tryz.func175 ?_;repeat' first|refine Ra ⟨?_⟩|refine R0 c0 ⟨?_⟩|refine Rd (fun h=>⟨?_⟩) fun h=>⟨?_⟩|refine Rb ⟨?_⟩|fail
   exact Rf
 | true=>
   rw [hok] at c0;have hp:=iJ hok;simp only [if_true];rcases kinds hok with hk|hk|hk|hk|hk
   · have c1:=ug (m:=m) t o (by omega) hp;have hx:cj t o=cL t o.path:=by simp [cj,hk]
     rw [hx];refine G0 Tryz.func175 ?_;repeat' first|refine Ra ⟨?_⟩|refine R0 c0 ⟨?_⟩|refine R0 c1 ⟨?_⟩|refine Rd (fun h=>⟨?_⟩) fun h=>⟨?_⟩|refine Rb ⟨?_⟩|fail
     exact Rf
   · have c1:=xg (m:=m) t o (by omega) hp;have hx:cj t o=dG t o.path:=by simp [cj,hk]
     rw [hx];refine G0 Tryz.func175 ?_;repeat' first|refine Ra ⟨?_⟩|refine R0 c0 ⟨?_⟩|refine R0 c1 ⟨?_⟩|refine Rd (fun h=>⟨?_⟩) fun h=>⟨?_⟩|refine Rb ⟨?_⟩|fail
     exact Rf
   · have c1:=yU (m:=m) t o ht hp hk;have hx:cj t o=eI t o:=by simp [cj,hk]
     rw [hx];refine G0 Tryz.func175 ?_;repeat' first|refine Ra ⟨?_⟩|refine R0 c0 ⟨?_⟩|refine R0 c1 ⟨?_⟩|refine Rd (fun h=>⟨?_⟩) fun h=>⟨?_⟩|refine Rb ⟨?_⟩|fail
     exact Rf
   · have c1:=sW (m:=m) t o ht hp hk;have hx:cj t o=eI t o:=by simp [cj,hk]
     rw [hx];refine G0 Tryz.func175 ?_;repeat' first|refine Ra ⟨?_⟩|refine R0 c0 ⟨?_⟩|refine R0 c1 ⟨?_⟩|refine Rd (fun h=>⟨?_⟩) fun h=>⟨?_⟩|refine Rb ⟨?_⟩|fail
     exact Rf
   · have c1:=ui (m:=m) t o ht hp (rG hok hk).1;have hx:cj t o=cz t o:=by simp [cj,hk]
     rw [hx];refine G0 Tryz.func175 ?_;repeat' first|refine Ra ⟨?_⟩|refine R0 c0 ⟨?_⟩|refine R0 c1 ⟨?_⟩|refine Rd (fun h=>⟨?_⟩) fun h=>⟨?_⟩|refine Rb ⟨?_⟩|fail
     exact Rf
theorem oM (t:List Ent) (ht:t.length≤1073741824):Con (E m) 136 0 [.sl (t.map Ent.c)] [] (.own 0) [(0,.own 150 (t.map Ent.c))]:=by
 have e1:(t.map Ent.c).length=t.length:=zAA ..;refine G0 Tryz.func136 ?_;repeat' first|refine Rx ⟨?_⟩|refine Rd (fun h=>⟨?_⟩) fun h=>⟨?_⟩|fail
 exact Rf
def qI (t:List Ent) (o:Opn):List Ent:=if o.kind=5 then t.map (gD o.path o.tgt) else iW t o.path
theorem De (t:List Ent) (o:Opn):(qI t o).length≤t.length:=by
 unfold qI;split
 · simp
 · exact zAV _ _
theorem AM {t:List Ent} {o:Opn} {i:Nat} {x:Ent} (h:t[i]?=some x):qI (t.take (i+1)) o=qI (t.take i) o++(if o.kind=5 then [gD o.path o.tgt x] else if x.path=o.path then [] else [x]):=by
 unfold qI iW;rw [zAX,h];split
 · simp
 · rw [zAg];congr 1
   by_cases hp:x.path=o.path <;> simp [hp]
theorem ju (t:List Ent) (o:Opn) (hb:∀ e∈t,e.path.length≤1073741824∧e.data.length≤1073741824) (h1:o.path.length≤1073741823) (h2:o.tgt.length≤1073741823) (h3:o.data.length≤1073741823):Con (E m) 109 0 [.sl (t.map Ent.c),.agg o.c] [] (.tup [.own 0,.k .i64 (ao t o).2]) [(0,.own 150 ((ao t o).1.map Ent.c))]:=by
 have c1:=dX (m:=m) t hb;cases k1:af t with
 | false=>
   have hx:ao t o=([],1):=by simp [ao,k1]
   rw [hx];rw [k1] at c1;refine G0 Tryz.func109 ?_;repeat' first|refine Ra ⟨?_⟩|refine R0 c1 ⟨?_⟩|refine Rd (fun h=>⟨?_⟩) fun h=>⟨?_⟩|refine Rb ⟨?_⟩|fail
   exact Rf
 | true=>
   rw [k1] at c1;have hl:=az k1;have c2:=yV (m:=m) t o k1 h1 h2 h3;have c3:=oM (m:=m) t (by omega);by_cases k3:sX t o=0
   · have k2:dn o=true:=by
       unfold sX at k3;split at k3
       · assumption
       · cases k3
     have k4:cj t o=0:=by
      unfold sX at k3;rw [if_pos k2] at k3;exact k3
     have hx:ao t o=(doT t o,0):=by simp [ao,k1,k2,k4]
     rw [hx];rw [k3] at c2;have hp:=iJ k2;have c9:=oL (m:=m) (oJ t o) (doT t o) (fun S g1 g2=>ES k1 k2 k4 g1 g2) (by have:=C7 (t:=t) (o:=o) k1; omega);have hbl:=De t o;have e1:(t.map Ent.c).length=t.length:=zAA ..;have hst:=fun i x h=>AM (t:=t) (o:=o) (i:=i) (x:=x) h;have hfin:oJ t o=qI t o++(if o.kind=1∨o.kind=2 then [⟨o.path,decide (o.kind=1),o.data⟩] else []):=rfl
     generalize oJ t o=L at c9 hfin;refine G0 Tryz.func109 ?_;repeat' first|refine Ra ⟨?_⟩|refine R0 c1 ⟨?_⟩|refine R0 c2 ⟨?_⟩|refine Rd (fun h=>⟨?_⟩) fun h=>⟨?_⟩|refine Rb ⟨?_⟩|fail
     refine Cd.loop2 (fun mq tm S nx=>∃ (i:Nat) (A:List Ent),mq=(t.length - i)∧tm=[(3,.bp 0 0),(7,.own 1),(21,.sl (t.map Ent.c)),(22,.k .i64 ((t.map Ent.c).length:Int)),(23,.k .i64 i)]∧S=[(0,.box 52 o.c),(1,.own 150 (A.map Ent.c))]∧nx=2∧(i≤t.length)∧(A=qI (t.take i) o)∧(A.length≤i)) ?_ ?_
     · refine la [3,7,21,22,23] ?_
       conv=>whnf
       refine ⟨rfl,rfl,_,0,[],rfl,rfl,rfl,rfl,by omega,(by simp [qI,iW]),by simp⟩
     · rintro mq tm S nx ⟨i,A,hn,rfl,rfl,rfl,hi,hA,hAl⟩;have e2:(A.map Ent.c).length=A.length:=zAA ..;rcases au t i hi with ⟨rfl,hd⟩|⟨x,r,hx',hd,hr,hlt⟩
       · rw [zAN] at hA;rw [← hA] at hfin;rcases kinds k2 with hk|hk|hk|hk|hk
         · rw [if_pos (.inl hk)] at hfin;rw [hfin,zAK] at c9;have c9':Con (E m) 177 1 [.own 0] [(0,.own 150 (A.map Ent.c++[[.s o.path,.b (decide (o.kind=1)),.s o.data]]))] (.tup []) [(0,.own 150 ((doT t o).map Ent.c))]:=c9;repeat' first|refine Ra ⟨?_⟩|refine Rk [3] 0 c9' ⟨?_⟩|refine Rd (fun h=>⟨?_⟩) fun h=>⟨?_⟩|refine Rb ⟨?_⟩|fail
           exact Rf
         · rw [if_pos (.inr hk)] at hfin;rw [hfin,zAK] at c9;have c9':Con (E m) 177 1 [.own 0] [(0,.own 150 (A.map Ent.c++[[.s o.path,.b (decide (o.kind=1)),.s o.data]]))] (.tup []) [(0,.own 150 ((doT t o).map Ent.c))]:=c9;repeat' first|refine Ra ⟨?_⟩|refine Rk [3] 0 c9' ⟨?_⟩|refine Rd (fun h=>⟨?_⟩) fun h=>⟨?_⟩|refine Rb ⟨?_⟩|fail
           exact Rf
         all_goals
          rw [if_neg (by omega),List.append_nil] at hfin;rw [hfin] at c9;repeat' first|refine Ra ⟨?_⟩|refine Rk [1] 0 c9 ⟨?_⟩|refine Rd (fun h=>⟨?_⟩) fun h=>⟨?_⟩|refine Rb ⟨?_⟩|fail
          exact Rf
       · have g2:=hst i x hx';have hxp:=(fy k1 (zAD hx')).2.1;have hxl:=(aC hxp).2;by_cases hk:o.kind=5
         · rw [if_pos hk] at g2;have c5:=mX (m:=m) x.path o.path o.tgt (by omega) (by omega) (by omega);have hme:gD o.path o.tgt x=⟨(aK x.path o.path o.tgt).getD [],x.dir,x.data⟩:=rfl;cases hm:aK x.path o.path o.tgt;all_goals
            rw [hm] at c5 hme;repeat' first|refine Ra ⟨?_⟩|refine R0 c5 ⟨?_⟩|refine Rd (fun h=>⟨?_⟩) fun h=>⟨?_⟩|refine Rb ⟨?_⟩|fail
            refine .here ⟨mq - 1,by omega,?_⟩;refine la [3,7,21,22,23] ?_
            conv=>whnf
            refine ⟨rfl,rfl,i+1,A++[gD o.path o.tgt x],(by omega),rfl,?_,rfl,by omega,(by rw [hA,g2]),(by simp; omega)⟩;rw [hme,zAK];rfl
         · rw [if_neg hk] at g2;by_cases hxo:x.path=o.path
           · rw [if_pos hxo,List.append_nil] at g2;repeat' first|refine Rx ⟨?_⟩|refine Rd (fun h=>⟨?_⟩) fun h=>⟨?_⟩|fail
             refine .here ⟨mq - 1,by omega,?_⟩;refine la [3,7,21,22,23] ?_
             conv=>whnf
             refine ⟨rfl,rfl,i+1,A,(by omega),rfl,rfl,rfl,by omega,(by rw [hA,g2]),by omega⟩
           · rw [if_neg hxo] at g2;repeat' first|refine Rx ⟨?_⟩|refine Rd (fun h=>⟨?_⟩) fun h=>⟨?_⟩|fail
             refine .here ⟨mq - 1,by omega,?_⟩;refine la [3,7,21,22,23] ?_
             conv=>whnf
             refine ⟨rfl,rfl,i+1,A++[x],(by omega),rfl,?_,rfl,by omega,(by rw [hA,g2]),(by simp; omega)⟩;rw [zAK];rfl
   · have hx:ao t o=(t,sX t o):=by
       unfold sX at k3 ⊢;cases k2:dn o with
       | false=>simp [ao,k1,k2]
       | true=>
         rw [k2] at k3;simp only [if_true] at k3;simp [ao,k1,k2,k3]
     rw [hx];refine G0 Tryz.func109 ?_;repeat' first|refine Ra ⟨?_⟩|refine R0 c1 ⟨?_⟩|refine R0 c2 ⟨?_⟩|refine Rk [] 1 c3 ⟨?_⟩|refine Rd (fun h=>⟨?_⟩) fun h=>⟨?_⟩|refine Rb ⟨?_⟩|fail
     exact Rf
variable {m:Int}
def opD:Option Opn→D
 | some o=>.tup [.agg o.c,.b true]
 | none=>.tup [.agg op0.c,.b false]
theorem yW (w:List Bs) (i:Nat) (hl:w.length≤1073741824) (hi:i≤1073741824):Con (E m) 205 0 [.sl (w.map fun l=>[.s l]),.k .i64 i] [] (.s (bL w i)) []:=by
 by_cases h:i < w.length
 · have hx:bL w i=w[i]:=by unfold bL; rw [zAl,zAB h]; rfl
   rw [hx];refine G0 Tryz.func205 ?_;repeat' first|refine Rx ⟨?_⟩|refine Rd (fun h=>⟨?_⟩) fun h=>⟨?_⟩|fail
   exact Rf
 · have hx:bL w i=[]:=by unfold bL; rw [zAl,List.getElem?_eq_none (by omega)]; rfl
   rw [hx];refine G0 Tryz.func205 ?_;repeat' first|refine Rx ⟨?_⟩|refine Rd (fun h=>⟨?_⟩) fun h=>⟨?_⟩|fail
   exact Rf
theorem ow (k:Nat) (h:k < 6):[D.s [],D.s [109,97,107,101],D.s [112,117,116],D.s [114,109],D.s [114,109,100,105,114],D.s [109,111,118,101]][k]?=some (D.s (lQ (k:Int))):=by
 have:k=0∨k=1∨k=2∨k=3∨k=4∨k=5:=by omega
 rcases this with rfl|rfl|rfl|rfl|rfl|rfl <;> rfl
theorem sY (w:List Bs) (hl:w.length≤1073741824) (hb:∀ a∈w,a.length≤1073741824):Con (Eo m) 140 0 [.sl (w.map fun l=>[.s l])] [] (opD (aV w)) []:=by
 by_cases hw:2≤w.length∧w.length≤3
 · match w,hw,hl,hb with
   | [],hw,_,_=>exact absurd hw.1 (by simp)
   | [a],hw,_,_=>exact absurd hw.1 (by simp)
   | a :: b :: q,hw,hl,hb=>
     have hq:q.length≤1:=by have:=hw.2; simp at this; omega
     have hlen:((a :: b :: q).map fun l=>[D.s l]).length=q.length+2:=by simp
     have c1:=ir (yW (m:=m) (a :: b :: q) 2 hl (by omega));have hb2:(bL (a :: b :: q) 2).length≤1073741824:=by
      match q with
      | []=>simp [bL]
      | c :: r=>exact hb c (by simp)
     have c2:=ir (vt (m:=m) (cm (aO a) b (bL (a :: b :: q) 2)) (by unfold cm; split <;> exact hb b (by simp)) (by unfold cm; split <;> simp [hb2]) (by unfold cm; split <;> simp [hb2]));have hx:aV (a :: b :: q)=if dn (cm (aO a) b (bL (a :: b :: q) 2)) then some (cm (aO a) b (bL (a :: b :: q) 2)) else none:=by
      unfold aV;have e0:bL (a :: b :: q) 0=a:=rfl;have e1:bL (a :: b :: q) 1=b:=rfl;rw [e0,e1];by_cases hok:dn (cm (aO a) b (bL (a :: b :: q) 2))=true
      · rw [if_pos ⟨by simp,by simp; omega,hok⟩,if_pos hok]
      · rw [if_neg (fun h=>hok h.2.2),if_neg hok]
     rw [hx];refine G1 Tryz.func140 ?_;repeat' first|refine Ra ⟨?_⟩|(refine bt (by rw [hlen]; omega) ?_ <;> conv=>whnf)|(refine bf (by rw [hlen]; omega) ?_ <;> conv=>whnf)|(refine ⟨1,_,rfl,rfl,rfl,?_⟩ <;> conv=>whnf)|refine Rd (fun h=>⟨?_⟩) fun h=>⟨?_⟩|refine Rb ⟨?_⟩|fail
     refine Cd.loop2 (fun mq tm S nx=>∃ (k:Nat) (c:Int),mq=(6 - k)∧tm=[(0,.sl ((a :: b :: q).map fun l=>[.s l])),(2,.bp 0 0),(4,.bp 1 0),(5,.k .i64 c)]∧S=[(0,.box 52 op0.c),(1,.box 52 [.k .i64 (io a (k - 1)),.s b,.s [],.s []])]∧nx=2∧(c=(k:Nat))∧(1≤k)∧(k≤6)) ?_ ?_
     · refine la [0,2,4,5] ?_
       conv=>whnf
       refine ⟨rfl,rfl,_,1,1,rfl,rfl,rfl,rfl,rfl,by omega,by omega⟩
     · rintro mq tm S nx ⟨k,c,hn,rfl,rfl,rfl,hc,hk1,hk2⟩;subst hc;by_cases hk:k≤5
       · obtain ⟨j,rfl⟩:∃ j,k=j+1:=⟨k - 1,by omega⟩;have hkt:io a (j+1)=if lQ ((j+1:Nat):Int)=a then ((j+1:Nat):Int) else io a j:=rfl
         repeat' first|refine Ra ⟨?_⟩|(refine ⟨j+1,_,rfl,by omega,ow (j+1) (by omega),?_⟩ <;> conv=>whnf)|refine Rd (fun h=>⟨?_⟩) fun h=>⟨?_⟩|refine Rb ⟨?_⟩|fail
         · rw [if_pos ‹_›] at hkt;refine .here ⟨mq - 1,by omega,?_⟩;refine la [0,2,4,5] ?_
           conv=>whnf
           refine ⟨rfl,rfl,j+2,_,(by omega),rfl,?_,rfl,rfl,by omega,by omega⟩;have e:j+2 - 1=j+1:=by omega
           rw [e,hkt];rfl
         · rw [if_neg ‹_›] at hkt;refine .here ⟨mq - 1,by omega,?_⟩;refine la [0,2,4,5] ?_
           conv=>whnf
           refine ⟨rfl,rfl,j+2,_,(by omega),rfl,?_,rfl,rfl,by omega,by omega⟩;have e:j+2 - 1=j+1:=by omega
           rw [e,hkt];rfl
       · obtain rfl:k=6:=by omega
         have hk5:io a (6 - 1)=aO a:=yy a;simp only [hk5];have hkd:=pH a;cases hok:dn (cm (aO a) b (bL (a :: b :: q) 2));all_goals
          rw [hok] at c2;by_cases h5:aO a=5
          all_goals
           simp only [cm,h5,if_true,if_false] at c2;simp only [cm,h5,if_true,if_false,zAE];repeat' first|refine Ra ⟨?_⟩|refine R0 c1 ⟨?_⟩|refine R0 c2 ⟨?_⟩|refine Rd (fun h=>⟨?_⟩) fun h=>⟨?_⟩|refine Rb ⟨?_⟩|fail
           refine Rg ⟨?_⟩
           first|rfl|(simp_all [opD]; done)|(simp [opD] <;> (repeat' split) <;> omega)|(simp only [opD]; repeat' split) <;> first|omega|(simp_all; done)|(simp_all; omega)|(rw [zAI]; simp [*,opD] <;> omega)
 · have hx:aV w=none:=by
     unfold aV;rw [if_neg fun h=>hw ⟨h.1,h.2.1⟩]
   rw [hx];refine G1 Tryz.func140 ?_;repeat' first|refine Rx ⟨?_⟩|refine Rd (fun h=>⟨?_⟩) fun h=>⟨?_⟩|fail
   all_goals
    exact Rf
variable {m:Int}
theorem xh (o:Option Ent):nv o=.tup [.agg (o.getD eZ).c,.b o.isSome]:=by cases o <;> rfl
abbrev fe (X Y:Option Ent):Bool:=decide ((X.getD eZ).path=(Y.getD eZ).path) && (((X.getD eZ).dir == (Y.getD eZ).dir) && (decide ((X.getD eZ).data=(Y.getD eZ).data) && true))
abbrev fs (X Y:Option Ent):Bool:=X.isSome == Y.isSome
theorem Gw {X Y:Option Ent} (h:X=Y):fe X Y=true:=by subst h; simp [fe]
theorem Gx {X Y:Option Ent} (h:X≠Y):fs X Y=false∨(fs X Y=true∧fe X Y=false):=by
 cases X with
 | none=>
   cases Y with
   | none=>exact absurd rfl h
   | some y=>left; rfl
 | some x=>
   cases Y with
   | none=>left; rfl
   | some y=>
     right;refine ⟨rfl,?_⟩;rw [← zAa];intro hf;apply h;obtain ⟨p,d,q⟩:=x;obtain ⟨p',d',q'⟩:=y;simp [fe] at hf;simp [hf]
theorem oN (t:List Ent) (p:Bs) (hb:∀ e∈t,e.path.length≤1073741824∧e.data.length≤1073741824):Con (E m) 236 0 [.sl (t.map Ent.c),.s p] [] (nv (if af t then am t p else none)) []:=by
 have c1:=dX (m:=m) t hb;cases hok:af t with
 | false=>
   rw [hok] at c1;refine G0 Tryz.func236 ?_;repeat' first|refine Ra ⟨?_⟩|refine R0 c1 ⟨?_⟩|refine Rd (fun h=>⟨?_⟩) fun h=>⟨?_⟩|refine Rb ⟨?_⟩|fail
   exact Rf
 | true=>
   rw [hok] at c1;have hl:=az hok;have c2:=iC (m:=m) t p (by omega);simp only [if_true];unfold am;by_cases hr:p=[47]
   · subst hr;refine G0 Tryz.func236 ?_;repeat' first|refine Ra ⟨?_⟩|refine R0 c1 ⟨?_⟩|refine Rd (fun h=>⟨?_⟩) fun h=>⟨?_⟩|refine Rb ⟨?_⟩|fail
     exact Rf
   · rw [if_neg hr];rw [xh] at c2 ⊢;refine G0 Tryz.func236 ?_;repeat' first|refine Ra ⟨?_⟩|refine R0 c1 ⟨?_⟩|refine R0 c2 ⟨?_⟩|refine Rd (fun h=>⟨?_⟩) fun h=>⟨?_⟩|refine Rb ⟨?_⟩|fail
     exact Rf
end Go.Proofs.YtlicaibhgcenhaaGreatDoor
namespace Go.Par
open Go.Ab
theorem fJ (a b:List Ent):(aS a b).length≤32:=by
 unfold aS;split
 · rename_i h;rw [zAC] at h;refine zAo (zAV _ _) ?_;rw [zAA];have h1:=putAll_len b a
   have:=az h.1
   have:=az h.2
   omega
 · simp
theorem filter_step {l:List Bs} {i:Nat} {x:Bs} (p:Bs→Bool) (h:l[i]?=some x):((l.take (i+1)).filter p).length=((l.take i).filter p).length+if p x then 1 else 0:=by
 rw [zAX,h,zAg,zAL];congr 1
 cases hp:p x <;> simp [hp]
end Go.Par
namespace Go.Proofs.YtlicaibhgcenhaaGreatDoor
open Go Go.RowKit Go.Ab Go.Par
variable {m:Int}
set_option maxHeartbeats 1000000 in
theorem kQ (l:List Mrk) (hl:l.length≤1073741824) (hb:∀ e∈l,e.path.length≤1073741823∧e.data.length≤1073741823):Con (E m) 192 0 [.sl (l.map Mrk.c)] [] (.b (ax l)) []:=by
 refine G0 Tryz.func192 ?_;repeat' first|refine Rx ⟨?_⟩|refine Rd (fun h=>⟨?_⟩) fun h=>⟨?_⟩|fail
 refine Cd.loop2 (fun mq tm S nx=>∃ (i:Nat),mq=(l.length - i)∧tm=[(0,.sl (l.map Mrk.c)),(3,.k .i64 i)]∧S=[]∧nx=0∧(i≤l.length)∧(∀ k,k < i→rc l k=true)) ?_ ?_
 · refine la [0,3] ?_
   conv=>whnf
   refine ⟨rfl,rfl,_,0,rfl,rfl,rfl,rfl,zAG _,fun k h=>absurd h (Nat.not_lt_zero _)⟩
 · rintro mq tm S nx ⟨i,hn,rfl,rfl,rfl,hi,ha⟩;by_cases hlt:i < l.length
   · have hq:=hb l[i] (zAb hlt);have h1:=cc (m:=m) l[i].path (by omega);have h2:=pJ (m:=m) l[i].data (by omega);have h3:=C4 (m:=m) (l.take i) l[i].path (by rw [zAW]; omega) (by omega);have h4:=qA (m:=m) (l.take i) l[i].path (by rw [zAW]; omega) (by omega) (fun x hx=>(hb x (zAy hx)).1);rw [zBU] at h3 h4;repeat' first|refine Ra ⟨?_⟩|refine R0 h1 ⟨?_⟩|refine R0 h2 ⟨?_⟩|refine R0 h3 ⟨?_⟩|refine R0 h4 ⟨?_⟩|(refine ⟨i - 1,_,by omega,eY (by omega),rfl,?_⟩ <;> conv=>whnf)|refine Rd (fun h=>⟨?_⟩) fun h=>⟨?_⟩|refine Rb ⟨?_⟩|fail
     all_goals first
      | (have hf:rc l i=false:=by
           clear h1 h2 h3 h4 hb ha hn;rw [B3 hlt];try have hi0:0 < i:=by omega
           try have hi0:i=0:=by omega
           first|(rw [Az ‹_›]; simp; done)|(unfold ci; simp_all [lt]; done)|(unfold ci; simp_all [lt]; omega)
         have hg:=tY hlt hf;rw [hg];refine ai.here (fa ?_)
         conv=>whnf
         exact ⟨rfl,rfl,rfl,rfl⟩)
      | (have hf:rc l i=true:=by
           clear h1 h2 h3 h4 hb ha hn;rw [B3 hlt];unfold ci;try have hi0:0 < i:=by omega
           try have hi0:i=0:=by omega
           first|(simp_all [lt]; done)|(simp_all [lt]; omega)
         refine .here ⟨mq - 1,by omega,?_⟩;refine la [0,3] ?_
         conv=>whnf
         refine ⟨rfl,rfl,i+1,(by omega),rfl,rfl,rfl,by omega,As ha hf⟩)
   · repeat' first|refine Rx ⟨?_⟩|refine Rd (fun h=>⟨?_⟩) fun h=>⟨?_⟩|fail
     have hi2:i=l.length:=by omega
     subst hi2;by_cases h32:l.length≤32
     · have hf:ax l=true:=wX h32 ha;rw [hf];exact Rf
     · have hf:ax l=false:=by simp [ax,h32]
       rw [hf];exact Rf
variable {m:Int}
abbrev strs (w:List Bs):List (List D):=w.map fun l=>[.s l]
variable {m:Int}
abbrev ee (x y:Ent):Bool:=decide (x.path=y.path) && ((x.dir == y.dir) && (decide (x.data=y.data) && true))
theorem EX (x:Ent):ee x x=true:=by simp [ee]
theorem EY {x y:Ent} (h:x≠y):ee x y=false:=by
 rw [← zAa];intro hf;apply h;obtain ⟨p,d,q⟩:=x;obtain ⟨p',d',q'⟩:=y;simp [ee] at hf;simp [hf]
abbrev em (x y:Mrk):Bool:=decide (x.path=y.path) && (decide (x.kind=y.kind) && (decide (x.data=y.data) && true))
theorem Gy (x:Mrk):em x x=true:=by simp [em]
theorem Gz {x y:Mrk} (h:x≠y):em x y=false:=by
 rw [← zAa];intro hf;apply h;obtain ⟨p,d,q⟩:=x;obtain ⟨p',d',q'⟩:=y;simp [em] at hf;simp [hf]
theorem GA {α:Type} {t u:List α} {i:Nat} {x y:α} (h1:t[i]?=some x) (h2:u[i]?=some y) (h:x≠y):t≠u:=by
 rintro rfl;rw [h1] at h2;exact h (zAY h2)
theorem vL {α:Type} {t u:List α} {i:Nat} {x:α} (h1:t[i]?=some x) (h2:u[i]?=some x) (h:t.take i=u.take i):t.take (i+1)=u.take (i+1):=by
 rw [zAX,zAX,h1,h2,h]
theorem yX {α:Type} {t u:List α} {i:Nat} (hl:t.length=u.length) (hi:t.length≤i) (h:t.take i=u.take i):t=u:=by
 rw [zAf hi,zAf (by omega)] at h;exact h
theorem yY (t u:List Mrk) (ht:t.length≤1048576) (hu:u.length≤1048576):Con (E m) 283 0 [.sl (t.map Mrk.c),.sl (u.map Mrk.c)] [] (.b (decide (t=u))) []:=by
 have e1:(t.map Mrk.c).length=t.length:=zAA ..;have e2:(u.map Mrk.c).length=u.length:=zAA ..;by_cases hl:t.length=u.length
 · refine G0 Tryz.func283 ?_;repeat' first|refine Rx ⟨?_⟩|refine Rd (fun h=>⟨?_⟩) fun h=>⟨?_⟩|fail
   refine Cd.loop2 (fun mq tm S nx=>∃ (i:Nat),mq=(t.length - i)∧tm=[(0,.sl (t.map Mrk.c)),(1,.sl (u.map Mrk.c)),(12,.k .i64 ((t.map Mrk.c).length:Int)),(13,.k .i64 i)]∧S=[]∧nx=0∧(i≤t.length)∧(t.take i=u.take i)) ?_ ?_
   · refine la [0,1,12,13] ?_
     conv=>whnf
     refine ⟨rfl,rfl,_,0,rfl,rfl,rfl,rfl,by omega,rfl⟩
   · rintro mq tm S nx ⟨i,hn,rfl,rfl,rfl,hi,ha⟩;by_cases hlt:i < t.length
     · have g1:t[i]?=some t[i]:=zAB hlt;have g2:u[i]?=some (u[i]'(by omega)):=zAB (by omega);generalize t[i]=x at g1;generalize u[i]'(by omega)=y at g2;by_cases hxy:x=y
       · subst hxy;have e3:=Gy x;repeat' first|refine Rx ⟨?_⟩|refine Rd (fun h=>⟨?_⟩) fun h=>⟨?_⟩|fail
         refine .here ⟨mq - 1,by omega,?_⟩;refine la [0,1,12,13] ?_
         conv=>whnf
         refine ⟨rfl,rfl,i+1,(by omega),rfl,rfl,rfl,by omega,vL g1 g2 ha⟩
       · have e3:=Gz hxy;have e4:decide (t=u)=false:=decide_eq_false (GA g1 g2 hxy);rw [e4];repeat' first|refine Rx ⟨?_⟩|refine Rd (fun h=>⟨?_⟩) fun h=>⟨?_⟩|fail
         exact Rf
     · have e4:decide (t=u)=true:=decide_eq_true (yX hl (by omega) ha);rw [e4];repeat' first|refine Rx ⟨?_⟩|refine Rd (fun h=>⟨?_⟩) fun h=>⟨?_⟩|fail
       exact Rf
 · have e4:decide (t=u)=false:=decide_eq_false (fun h=>hl (by rw [h]));rw [e4];refine G0 Tryz.func283 ?_;repeat' first|refine Rx ⟨?_⟩|refine Rd (fun h=>⟨?_⟩) fun h=>⟨?_⟩|fail
   exact Rf
theorem uj (t u:List Mrk) (ht:t.length≤1048576) (hu:u.length≤1048576):Con (E m) 230 0 [.sl (t.map Mrk.c),.sl (u.map Mrk.c)] [] (.b (decide (t=u))) []:=by
 have c1:=yY (m:=m) t u ht hu;refine G0 Tryz.func230 ?_;repeat' first|refine Ra ⟨?_⟩|refine R0 c1 ⟨?_⟩|refine Rd (fun h=>⟨?_⟩) fun h=>⟨?_⟩|refine Rb ⟨?_⟩|fail
 exact Rf
theorem e7 (A:List Bs) (x:Bs):strs A++[[.s x]]=strs (A++[x]):=by simp [strs]
theorem qJ {t:List Ent} {j:Nat} {x:Ent} (h:t[j]?=some x):aq (t.take (j+1))=aq (t.take j)++[x.path]:=by
 rw [zAX,h]
 simp
theorem qK {t es:List Ent} {i:Nat} {x:Ent} (h:es[i]?=some x):cb t (es.take (i+1))=dF (cb t (es.take i)) x:=by
 rw [zAX,h];simp [cb,List.foldl_append]
theorem vM (r:List Ent):df r []=aq r:=by
 cases r <;> simp [df]
theorem Ca {x:Ent} {r u:List Ent} (h:u=[]∨∃ y s,u=y :: s∧lt x.path y.path=true):df (x :: r) u=x.path :: df r u:=by
 rcases h with rfl|⟨y,s,rfl,h⟩
 · rw [vM,vM]; rfl
 · rw [df,if_pos h]
theorem Cb {y:Ent} {t s:List Ent} (h:t=[]∨∃ x r,t=x :: r∧lt x.path y.path=false∧lt y.path x.path=true):df t (y :: s)=y.path :: df t s:=by
 rcases h with rfl|⟨x,r,rfl,h1,h2⟩
 · simp [df]
 · rw [df,if_neg (by rw [h1]; simp),if_pos h2]
theorem F0 {x y:Ent} {r s:List Ent} (h1:lt x.path y.path=false) (h2:lt y.path x.path=false):df (x :: r) (y :: s)=if x=y then df r s else x.path :: df r s:=by
 rw [df,if_neg (by rw [h1]; simp),if_neg (by rw [h2]; simp)]
theorem qL (t u:List Ent) (ht:∀ e∈t,e.path.length≤1073741824∧e.data.length≤1073741824) (hu:∀ e∈u,e.path.length≤1073741824∧e.data.length≤1073741824):Con (E m) 110 0 [.sl (t.map Ent.c),.sl (u.map Ent.c)] [] (.own 0) [(0,.own 9 (strs (aS t u)))]:=by
 have c1:=dX (m:=m) t ht;have c2:=dX (m:=m) u hu;cases h1:af t with
 | false=>
   rw [h1] at c1;have hx:aS t u=[]:=by rw [aS,h1]; rfl
   rw [hx];refine G0 Tryz.func110 ?_;repeat' first|refine Ra ⟨?_⟩|refine R0 c1 ⟨?_⟩|refine Rd (fun h=>⟨?_⟩) fun h=>⟨?_⟩|refine Rb ⟨?_⟩|fail
   exact Rf
 | true=>
   rw [h1] at c1;cases h2:af u with
   | false=>
     rw [h2] at c2;have hx:aS t u=[]:=by rw [aS,h1,h2]; rfl
     rw [hx];refine G0 Tryz.func110 ?_;repeat' first|refine Ra ⟨?_⟩|refine R0 c1 ⟨?_⟩|refine R0 c2 ⟨?_⟩|refine Rd (fun h=>⟨?_⟩) fun h=>⟨?_⟩|refine Rb ⟨?_⟩|fail
     exact Rf
   | true=>
     rw [h2] at c2;have l1:=az h1;have l2:=az h2;rw [← EO h1 h2];have e1:(t.map Ent.c).length=t.length:=zAA ..;have e2:(u.map Ent.c).length=u.length:=zAA ..;refine G0 Tryz.func110 ?_;repeat' first|refine Ra ⟨?_⟩|refine R0 c1 ⟨?_⟩|refine R0 c2 ⟨?_⟩|refine Rd (fun h=>⟨?_⟩) fun h=>⟨?_⟩|refine Rb ⟨?_⟩|fail
     refine Cd.loop2 (fun mq tm S nx=>∃ (i:Nat) (j:Nat) (A:List Bs),mq=(t.length+u.length - i - j)∧tm=[(0,.sl (t.map Ent.c)),(1,.sl (u.map Ent.c)),(5,.own 0),(6,.k .i64 i),(7,.k .i64 j)]∧S=[(0,.own 9 (strs A))]∧nx=1∧(i≤t.length)∧(j≤u.length)∧(df t u=A++df (t.drop i) (u.drop j))∧(A.length≤i+j)) ?_ ?_
     · refine la [0,1,5,6,7] ?_
       conv=>whnf
       refine ⟨rfl,rfl,_,0,0,[],rfl,rfl,rfl,rfl,by omega,by omega,by simp,by simp⟩
     · rintro mq tm S nx ⟨i,j,A,hn,rfl,rfl,rfl,hi,hj,hA,hAl⟩;have e3:(strs A).length=A.length:=zAA ..;rcases au t i hi with ⟨k1,k2⟩|⟨x,r,g1,k1,k2,k3⟩
       · rcases au u j hj with ⟨k4,k5⟩|⟨y,s,g2,k4,k5,k6⟩
         · rw [k2,k5] at hA;have hA':A=df t u:=by rw [hA]; simp [df]
           rw [← hA'];repeat' first|refine Rx ⟨?_⟩|refine Rd (fun h=>⟨?_⟩) fun h=>⟨?_⟩|fail
           exact Rf
         · rw [k2,k4,Cb (.inl rfl),← k5,← k2] at hA;repeat' first|refine Rx ⟨?_⟩|refine Rd (fun h=>⟨?_⟩) fun h=>⟨?_⟩|fail
           refine .here ⟨mq - 1,by omega,?_⟩;refine la [0,1,5,6,7] ?_
           conv=>whnf
           refine ⟨rfl,rfl,i,j+1,A++[y.path],(by omega),rfl,?_,rfl,by omega,by omega,(by rw [hA]; simp),(by simp; omega)⟩;rw [← e7];rfl
       · rcases au u j hj with ⟨k4,k5⟩|⟨y,s,g2,k4,k5,k6⟩
         · rw [k1,k5,Ca (.inl rfl),← k2,← k5] at hA;repeat' first|refine Rx ⟨?_⟩|refine Rd (fun h=>⟨?_⟩) fun h=>⟨?_⟩|fail
           refine .here ⟨mq - 1,by omega,?_⟩;refine la [0,1,5,6,7] ?_
           conv=>whnf
           refine ⟨rfl,rfl,i+1,j,A++[x.path],(by omega),rfl,?_,rfl,by omega,by omega,(by rw [hA]; simp),(by simp; omega)⟩;rw [← e7];rfl
         · cases q1:lt x.path y.path with
           | true=>
             rw [k1,k4,Ca (.inr ⟨y,s,rfl,q1⟩),← k2,← k4] at hA;repeat' first|refine Rx ⟨?_⟩|refine Rd (fun h=>⟨?_⟩) fun h=>⟨?_⟩|fail
             refine .here ⟨mq - 1,by omega,?_⟩;refine la [0,1,5,6,7] ?_
             conv=>whnf
             refine ⟨rfl,rfl,i+1,j,A++[x.path],(by omega),rfl,?_,rfl,by omega,by omega,(by rw [hA]; simp),(by simp; omega)⟩;rw [← e7];rfl
           | false=>
             cases q2:lt y.path x.path with
             | true=>
               rw [k1,k4,Cb (.inr ⟨x,r,rfl,q1,q2⟩),← k1,← k5] at hA;repeat' first|refine Rx ⟨?_⟩|refine Rd (fun h=>⟨?_⟩) fun h=>⟨?_⟩|fail
               refine .here ⟨mq - 1,by omega,?_⟩;refine la [0,1,5,6,7] ?_
               conv=>whnf
               refine ⟨rfl,rfl,i,j+1,A++[y.path],(by omega),rfl,?_,rfl,by omega,by omega,(by rw [hA]; simp),(by simp; omega)⟩;rw [← e7];rfl
             | false=>
               rw [k1,k4,F0 q1 q2] at hA;by_cases hxy:x=y
               · have q3:=EX x;subst hxy;rw [if_pos rfl,← k2,← k5] at hA;repeat' first|refine Rx ⟨?_⟩|refine Rd (fun h=>⟨?_⟩) fun h=>⟨?_⟩|fail
                 refine .here ⟨mq - 2,by omega,?_⟩;refine la [0,1,5,6,7] ?_
                 conv=>whnf
                 refine ⟨rfl,rfl,i+1,j+1,A,(by omega),rfl,rfl,rfl,by omega,by omega,hA,by omega⟩
               · have q3:=EY hxy;rw [if_neg hxy,← k2,← k5] at hA;repeat' first|refine Rx ⟨?_⟩|refine Rd (fun h=>⟨?_⟩) fun h=>⟨?_⟩|fail
                 refine .here ⟨mq - 2,by omega,?_⟩;refine la [0,1,5,6,7] ?_
                 conv=>whnf
                 refine ⟨rfl,rfl,i+1,j+1,A++[x.path],(by omega),rfl,?_,rfl,by omega,by omega,(by rw [hA]; simp),(by simp; omega)⟩;rw [← e7];rfl
variable {m:Int}
abbrev i7 (l:List Int):List (List D):=l.map fun n=>[.k .i64 n]
theorem bE0 {t:List Ent} (h:af t=true):∀ e∈t,e.path.length≤1073741824∧e.data.length≤1073741824:=fun e he=>by
 have:=eE (dm h e he); omega
abbrev nD (n:Nat) (o:Opn):Prop:=o.path.length≤n∧o.tgt.length≤n∧o.data.length≤n
end Go.Proofs.YtlicaibhgcenhaaGreatDoor
