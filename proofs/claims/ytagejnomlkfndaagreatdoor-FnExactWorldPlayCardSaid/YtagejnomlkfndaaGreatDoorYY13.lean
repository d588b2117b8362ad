/- Texts of this claim, set close: lemmas and contracts. -/
import Derived.Shelf.SlSortCmp.NoneTotal
import Derived.Shelf.SlicesQ.Reverse
import Derived.Shelf.SlGeneric
import Derived.Ground.SlsfProg
import Derived.Ground.SlgnProg
import Derived.Test.YtagejnomlkfndaaGreatDoorProg
import Derived.Test.YtagejnomlkfndaaGreatDoorYY11
import Derived.Lib.SlicesCompact
import Derived.Test.YtagejnomlkfndaaGreatDoorYY4
import Derived.Test.YtagejnomlkfndaaGreatDoorYY5
import Derived.Test.YtagejnomlkfndaaGreatDoorTie
set_option linter.unusedSimpArgs false
set_option linter.unusedVariables false
set_option maxHeartbeats 1000000
set_option maxRecDepth 100000
namespace Go.Proofs
open Go.Shelf
def Tryz.sortE_ren:Go.Shelf.Ren:=⟨fun|6=>251|15=>285|14=>284|28=>307|29=>308|20=>299|21=>300|22=>301|23=>302|24=>303|25=>304|26=>305|27=>306|46=>325|47=>326|48=>327|49=>328|50=>329|57=>337|n=>n,fun|22=>30|24=>66|25=>262|3=>3|39=>281|0=>0|53=>305|55=>307|4=>4|46=>298|45=>297|50=>302|5=>5|9=>9|66=>314|70=>318|76=>331|77=>332|n=>n,fun|n=>n⟩
theorem Tryz.sortE:Go.Proofs.SlLaysF0.n6 Tryz.prog Tryz.sortE_ren:={
 mixed:=by kernel_rfl
 f6:=⟨Tryz.f251.name,by decide,Tryz.func251.trans (congrArg some (by kernel_rfl))⟩
 f14:=⟨Tryz.f284.name,by decide,Tryz.func284.trans (congrArg some (by kernel_rfl))⟩
 f15:=Tryz.func285.trans (congrArg some (by kernel_rfl))
 f20:=⟨Tryz.f299.name,by decide,Tryz.func299.trans (congrArg some (by kernel_rfl))⟩
 f21:=⟨Tryz.f300.name,by decide,Tryz.func300.trans (congrArg some (by kernel_rfl))⟩
 f22:=⟨Tryz.f301.name,by decide,Tryz.func301.trans (congrArg some (by kernel_rfl))⟩
 f23:=⟨Tryz.f302.name,by decide,Tryz.func302.trans (congrArg some (by kernel_rfl))⟩
 f24:=⟨Tryz.f303.name,by decide,Tryz.func303.trans (congrArg some (by kernel_rfl))⟩
 f25:=⟨Tryz.f304.name,by decide,Tryz.func304.trans (congrArg some (by kernel_rfl))⟩
 f26:=⟨Tryz.f305.name,by decide,Tryz.func305.trans (congrArg some (by kernel_rfl))⟩
 f27:=⟨Tryz.f306.name,by decide,Tryz.func306.trans (congrArg some (by kernel_rfl))⟩
 f28:=Tryz.func307.trans (congrArg some (by kernel_rfl))
 f29:=Tryz.func308.trans (congrArg some (by kernel_rfl))
 f46:=⟨Tryz.f325.name,by decide,Tryz.func325.trans (congrArg some (by kernel_rfl))⟩
 f47:=Tryz.func326.trans (congrArg some (by kernel_rfl))
 f48:=Tryz.func327.trans (congrArg some (by kernel_rfl))
 f49:=⟨Tryz.f328.name,by decide,Tryz.func328.trans (congrArg some (by kernel_rfl))⟩
 f50:=⟨Tryz.f329.name,by decide,Tryz.func329.trans (congrArg some (by kernel_rfl))⟩
 f57:=⟨Tryz.f337.name,by decide,Tryz.func337.trans (congrArg some (by kernel_rfl))⟩
 t0:=Tryz.underlying0
 a0:=Tryz.isAgg0
 z0:=Tryz.sizeOf0
 v0:=Tryz.zeroValue0
 t3:=Tryz.underlying3
 a3:=Tryz.isAgg3
 z3:=Tryz.sizeOf3
 v3:=Tryz.zeroValue3
 t4:=Tryz.underlying4
 a4:=Tryz.isAgg4
 z4:=Tryz.sizeOf4
 v4:=Tryz.zeroValue4
 t5:=Tryz.underlying5
 a5:=Tryz.isAgg5
 z5:=Tryz.sizeOf5
 v5:=Tryz.zeroValue5
 t9:=Tryz.underlying9
 a9:=Tryz.isAgg9
 z9:=Tryz.sizeOf9
 v9:=Tryz.zeroValue9
 t22:=Tryz.underlying30
 a22:=Tryz.isAgg30
 z22:=Tryz.sizeOf30
 v22:=Tryz.zeroValue30
 t25:=Tryz.underlying262
 a25:=Tryz.isAgg262
 z25:=Tryz.sizeOf262
 v25:=Tryz.zeroValue262
 t39:=Tryz.underlying281
 a39:=Tryz.isAgg281
 z39:=Tryz.sizeOf281
 v39:=Tryz.zeroValue281
 t45:=Tryz.underlying297
 a45:=Tryz.isAgg297
 z45:=Tryz.sizeOf297
 v45:=Tryz.zeroValue297
 t46:=Tryz.underlying298
 a46:=Tryz.isAgg298
 z46:=Tryz.sizeOf298
 v46:=Tryz.zeroValue298
 t50:=Tryz.underlying302
 a50:=Tryz.isAgg302
 z50:=Tryz.sizeOf302
 v50:=Tryz.zeroValue302
 t53:=Tryz.underlying305
 a53:=Tryz.isAgg305
 z53:=Tryz.sizeOf305
 v53:=Tryz.zeroValue305
 t55:=Tryz.underlying307
 a55:=Tryz.isAgg307
 z55:=Tryz.sizeOf307
 v55:=Tryz.zeroValue307
 t66:=Tryz.underlying314
 a66:=Tryz.isAgg314
 z66:=Tryz.sizeOf314
 v66:=Tryz.zeroValue314
 t70:=Tryz.underlying318
 a70:=Tryz.isAgg318
 z70:=Tryz.sizeOf318
 v70:=Tryz.zeroValue318
 t76:=Tryz.underlying331
 a76:=Tryz.isAgg331
 z76:=Tryz.sizeOf331
 v76:=Tryz.zeroValue331
 t77:=Tryz.underlying332
 a77:=Tryz.isAgg332
 z77:=Tryz.sizeOf332
 v77:=Tryz.zeroValue332 }
def Tryz.sortM_ren:Go.Shelf.Ren:=⟨fun|6=>255|15=>285|14=>290|28=>307|29=>308|20=>311|21=>312|22=>313|23=>314|24=>315|25=>316|26=>317|27=>318|46=>332|47=>326|48=>327|49=>333|50=>334|57=>338|n=>n,fun|22=>32|24=>166|25=>265|3=>3|39=>281|0=>0|53=>305|55=>307|4=>4|46=>298|45=>297|50=>302|5=>5|9=>9|66=>314|70=>318|76=>331|77=>332|n=>n,fun|n=>n⟩
theorem Tryz.sortM:Go.Proofs.SlLaysF0.n6 Tryz.prog Tryz.sortM_ren:={
 mixed:=by kernel_rfl
 f6:=⟨Tryz.f255.name,by decide,Tryz.func255.trans (congrArg some (by kernel_rfl))⟩
 f14:=⟨Tryz.f290.name,by decide,Tryz.func290.trans (congrArg some (by kernel_rfl))⟩
 f15:=Tryz.func285.trans (congrArg some (by kernel_rfl))
 f20:=⟨Tryz.f311.name,by decide,Tryz.func311.trans (congrArg some (by kernel_rfl))⟩
 f21:=⟨Tryz.f312.name,by decide,Tryz.func312.trans (congrArg some (by kernel_rfl))⟩
 f22:=⟨Tryz.f313.name,by decide,Tryz.func313.trans (congrArg some (by kernel_rfl))⟩
 f23:=⟨Tryz.f314.name,by decide,Tryz.func314.trans (congrArg some (by kernel_rfl))⟩
 f24:=⟨Tryz.f315.name,by decide,Tryz.func315.trans (congrArg some (by kernel_rfl))⟩
 f25:=⟨Tryz.f316.name,by decide,Tryz.func316.trans (congrArg some (by kernel_rfl))⟩
 f26:=⟨Tryz.f317.name,by decide,Tryz.func317.trans (congrArg some (by kernel_rfl))⟩
 f27:=⟨Tryz.f318.name,by decide,Tryz.func318.trans (congrArg some (by kernel_rfl))⟩
 f28:=Tryz.func307.trans (congrArg some (by kernel_rfl))
 f29:=Tryz.func308.trans (congrArg some (by kernel_rfl))
 f46:=⟨Tryz.f332.name,by decide,Tryz.func332.trans (congrArg some (by kernel_rfl))⟩
 f47:=Tryz.func326.trans (congrArg some (by kernel_rfl))
 f48:=Tryz.func327.trans (congrArg some (by kernel_rfl))
 f49:=⟨Tryz.f333.name,by decide,Tryz.func333.trans (congrArg some (by kernel_rfl))⟩
 f50:=⟨Tryz.f334.name,by decide,Tryz.func334.trans (congrArg some (by kernel_rfl))⟩
 f57:=⟨Tryz.f338.name,by decide,Tryz.func338.trans (congrArg some (by kernel_rfl))⟩
 t0:=Tryz.underlying0
 a0:=Tryz.isAgg0
 z0:=Tryz.sizeOf0
 v0:=Tryz.zeroValue0
 t3:=Tryz.underlying3
 a3:=Tryz.isAgg3
 z3:=Tryz.sizeOf3
 v3:=Tryz.zeroValue3
 t4:=Tryz.underlying4
 a4:=Tryz.isAgg4
 z4:=Tryz.sizeOf4
 v4:=Tryz.zeroValue4
 t5:=Tryz.underlying5
 a5:=Tryz.isAgg5
 z5:=Tryz.sizeOf5
 v5:=Tryz.zeroValue5
 t9:=Tryz.underlying9
 a9:=Tryz.isAgg9
 z9:=Tryz.sizeOf9
 v9:=Tryz.zeroValue9
 t22:=Tryz.underlying32
 a22:=Tryz.isAgg32
 z22:=Tryz.sizeOf32
 v22:=Tryz.zeroValue32
 t25:=Tryz.underlying265
 a25:=Tryz.isAgg265
 z25:=Tryz.sizeOf265
 v25:=Tryz.zeroValue265
 t39:=Tryz.underlying281
 a39:=Tryz.isAgg281
 z39:=Tryz.sizeOf281
 v39:=Tryz.zeroValue281
 t45:=Tryz.underlying297
 a45:=Tryz.isAgg297
 z45:=Tryz.sizeOf297
 v45:=Tryz.zeroValue297
 t46:=Tryz.underlying298
 a46:=Tryz.isAgg298
 z46:=Tryz.sizeOf298
 v46:=Tryz.zeroValue298
 t50:=Tryz.underlying302
 a50:=Tryz.isAgg302
 z50:=Tryz.sizeOf302
 v50:=Tryz.zeroValue302
 t53:=Tryz.underlying305
 a53:=Tryz.isAgg305
 z53:=Tryz.sizeOf305
 v53:=Tryz.zeroValue305
 t55:=Tryz.underlying307
 a55:=Tryz.isAgg307
 z55:=Tryz.sizeOf307
 v55:=Tryz.zeroValue307
 t66:=Tryz.underlying314
 a66:=Tryz.isAgg314
 z66:=Tryz.sizeOf314
 v66:=Tryz.zeroValue314
 t70:=Tryz.underlying318
 a70:=Tryz.isAgg318
 z70:=Tryz.sizeOf318
 v70:=Tryz.zeroValue318
 t76:=Tryz.underlying331
 a76:=Tryz.isAgg331
 z76:=Tryz.sizeOf331
 v76:=Tryz.zeroValue331
 t77:=Tryz.underlying332
 a77:=Tryz.isAgg332
 z77:=Tryz.sizeOf332
 v77:=Tryz.zeroValue332 }
end Go.Proofs
namespace Go.Par
open Go.Ab
theorem eJ (a b:List Ent):(aY a b).length≤32:=by
 unfold aY;split
 · rename_i h;rw [zAE] at h;refine zBU (zAf _ _) ?_;rw [zAA];have h1:=putAll_len b a
   have:=aI h.1
   have:=aI h.2
   omega
 · simp
theorem filter_step {l:List Bs} {i:Nat} {x:Bs} (p:Bs→Bool) (h:l[i]?=some x):((l.take (i+1)).filter p).length=((l.take i).filter p).length+if p x then 1 else 0:=by
 rw [zAX,h,zAl,zAV];congr 1
 cases hp:p x <;> simp [hp]
end Go.Par
namespace Go.Ab
open Go Go.RowKit
section
variable {w:World} {G:Nat→Prop} {Sa:ab} {ρ:Nat→Option Value} {P:Program}
theorem Bh (hG:∀ x,G x→¬ dB Sa ρ x) (hs:∀ t b,lk Sa t=some b→SR P w (AvS G Sa ρ) ρ t b) {d d':D} {u:Value} (hv:VA w (AvS G Sa ρ) ρ d u) (hi:b8 Sa d=some d'):VI w G d' u:=by
 have hi0:∀ d u,VI w (AvS G Sa ρ) d u→VI w G d u:=fun d u h=>h.mono (fun _ _ _=>rfl) (zAJ _) fun x _ hx=>.inl hx;cases d with
 | own t=>
   simp only [b8] at hi;split at hi
   · rename_i b hl;split at hi
     · rename_i xs hx;cases hi;cases hv with
       | im h=>cases h
       | own h h1=>
         have hsr:=hs t b hl;have hout:∀ x,cG b=true→bk b (ρ t) x→¬ G x:=fun x hb hx hg=>hG x hg ⟨t,b,hl,hb,hx⟩;cases b with
         | box e cs=>simp [imB] at hx
         | row e ys=>simp [imB] at hx
         | own e ys=>
           simp only [imB,zAT] at hx;subst hx;obtain ⟨u',us,hr,ho,hc⟩:=hsr
           have:u=u':=by
            have:=cB hr (bY ho)
            rw [h] at this;exact zAZ this
           subst this;exact iC ho (hc.mono hi0) fun x hx=>hout x rfl (by rw [hr]; exact hx)
         | fr ys=>
           simp only [imB,zAT] at hx;subst hx;obtain ⟨u',hr,hv⟩:=hsr;rw [h] at hr;cases hr;exact hi0 _ _ hv
         | deep e e2 zs=>
           obtain ⟨u',vs,us,hd⟩:=hsr
           have:=dm hd.name
           rw [h] at this;cases this;exact hd.rows hx hi0 fun x hx=>hout x rfl hx
     · cases hi
   · cases hi
 | nil=>
   simp only [b8,zAT] at hi;subst hi;cases hv with
   | im h=>cases h; exact .sl0
 | fn f cs=>
   simp only [b8] at hi;split at hi
   · cases hi;cases hv with
     | im h=>exact hi0 _ _ h
     | fn hl h=>
       rename_i us
       have:us=[]:=List.eq_nil_of_length_eq_zero (by simpa using hl.symm)
       subst this;exact .fn f
   · cases hi
 | b x=>simp only [b8,zAT] at hi; subst hi; cases hv with|im h=>exact hi0 _ _ h
 | k x=>simp only [b8,zAT] at hi; subst hi; cases hv with|im h=>exact hi0 _ _ h
 | s x=>simp only [b8,zAT] at hi; subst hi; cases hv with|im h=>exact hi0 _ _ h
 | v x=>simp only [b8,zAT] at hi; subst hi; cases hv with|im h=>exact hi0 _ _ h
 | sl x=>simp only [b8,zAT] at hi; subst hi; cases hv with|im h=>exact hi0 _ _ h
 | ep x=>simp only [b8,zAT] at hi; subst hi; cases hv with|im h=>exact hi0 _ _ h
 | bp=>simp [b8] at hi
 | op=>simp [b8] at hi
 | junk=>simp [b8] at hi
 | agg=>simp [b8] at hi
 | tup=>simp [b8] at hi
 | vw=>simp [b8] at hi
theorem yi (hG:∀ x,G x→¬ dB Sa ρ x) (hs:∀ t b,lk Sa t=some b→SR P w (AvS G Sa ρ) ρ t b):∀ {ds ds':List D} {us:List Value},ds.length=us.length→(∀ (i:Nat) (d:D) (u:Value),ds[i]?=some d→us[i]?=some u→VA w (AvS G Sa ρ) ρ d u)→jo Sa ds=some ds' →
   ds'.length=us.length∧∀ (i:Nat) (d:D) (u:Value),ds'[i]?=some d→us[i]?=some u→VI w G d u
 | [],ds',us,hl,_,hi=>by simp only [jo,zAT] at hi; subst hi; exact ⟨by simpa using hl,by simp⟩
 | d :: r,ds',[],hl,_,_=>by simp at hl
 | d :: r,ds',u :: q,hl,hv,hi=>by
   simp only [jo] at hi;split at hi
   · rename_i d1 hd1;split at hi
     · rename_i r1 hr1;cases hi;have h1:=Bh hG hs (hv 0 d u rfl rfl) hd1;have h2:=yi hG hs (us:=q) (by simpa using hl) (fun i d u p q=>hv (i+1) d u (by simpa using p) (by simpa using q)) hr1;refine ⟨by simp [h2.1],fun i d' u' p q=>?_⟩;cases i with
       | zero=>simp at p q; subst p q; exact h1
       | succ i=>exact h2.2 i d' u' (by simpa using p) (by simpa using q)
     · cases hi
   · cases hi
theorem Fb (hG:∀ x,G x→¬ dB Sa ρ x) (hs:∀ t b,lk Sa t=some b→SR P w (AvS G Sa ρ) ρ t b) {d d':D} {u:Value} (hv:VG w (AvS G Sa ρ) ρ d u) (hi:ez Sa d=some d'):VI w G d' u:=by
 have hi0:∀ d u,VI w (AvS G Sa ρ) d u→VI w G d u:=fun d u h=>h.mono (fun _ _ _=>rfl) (zAJ _) fun x _ hx=>.inl hx;by_cases ha:∃ ds,d=.agg ds
 · obtain ⟨ds,rfl⟩:=ha;simp only [ez] at hi;split at hi
   · rename_i ds' hds;cases hi;obtain ⟨us,rfl,hl,h1,hr⟩:=(VR.gr hv).agg_inv;obtain ⟨e1,e2⟩:=yi hG hs hl hr hds;exact .agg e1 h1 e2
   · cases hi
 · have hd:ez Sa d=b8 Sa d:=by cases d <;> first|rfl|exact absurd ⟨_,rfl⟩ ha
   rw [hd] at hi;cases hv with
   | atom hv=>exact Bh hG hs hv hi
   | agg=>exact absurd ⟨_,rfl⟩ ha
end
section
variable {E:Env} {f:FuncId} {k:Nat} {cds cds':List D} {d:D} {Sa:ab}
def yj (S:ab):List D→List D→Prop
 | [],[]=>True
 | d :: r,d' :: r'=>ez S d=some d'∧yj S r r'
 | _,_=>False
theorem uD {S:ab}:∀ {ds cs:List D},yj S ds cs→cs.length=ds.length∧∀ (i:Nat) (d d':D),ds[i]?=some d→cs[i]?=some d'→ez S d=some d'
 | [],[],_=>⟨rfl,by simp⟩
 | d :: r,d' :: r',h=>by
   obtain ⟨h1,h2⟩:=uD h.2;refine ⟨by simp [h1],fun i e e' p q=>?_⟩;cases i with
   | zero=>simp at p q; subst p q; exact h.1
   | succ i=>exact h2 i e e' (by simpa using p) (by simpa using q)
 | [],d' :: r',h=>h.elim
 | d :: r,[],h=>h.elim
theorem lq {ρ:Nat→Option Value} {x:Nat}:¬ dB [] ρ x:=by
 rintro ⟨t,b,h,_⟩;simp [lk] at h
theorem VI.resd {w:World} {Av Av':Nat→Prop} {ρ:Nat→Option Value} (hi:∀ d u,VI w Av d u→VI w Av' d u) {d:D} {u:Value} (h:VR w Av ρ d u):VR w Av' ρ d u:=h.mono hi fun _ _ h=>h
theorem Bi (d:D):p7 id d=d:=by cases d <;> simp [p7]
theorem Bj (d:D):sL id d=d:=by
 have e:p7 id=id:=funext Bi;cases d
 case agg ds=>simp [sL,e]
 all_goals (unfold sL; first|exact Bi _|rfl)
theorem Gg (d:D):uM id d=d:=by
 have e:sL id=id:=funext Bj;cases d
 case tup ds=>simp [uM,e]
 all_goals (unfold uM; exact Bj _)
theorem Con.away (c:Con E f 0 cds [] d []) (ha:yj Sa cds' cds) (hn:nmR d=[]):Con E f k cds' Sa d []:=by
 refine ⟨c.can,fun w vs ρ G hlen hG hGH hargs hst hdis hnone hgl=>?_⟩;obtain ⟨a1,a2⟩:=uD ha;have hav:AvS G [] (fun _=>none)=G:=by
  funext x
  exact propext ⟨fun h=>h.resolve_right lq,.inl⟩
 refine (c.run w vs (fun _=>none) G (by rw [a1,hlen]) hG (fun x _=>lq) (fun i d' u h1 h2=>?_) (fun t b h=>by simp [lk] at h) (fun t t' b b' x h=>by simp [lk] at h) (fun _ _=>rfl) fun g cs h=>?_).mono fun e w' hp=>?_
 · have hil:i < cds'.length:=by rw [← a1]; exact (List.getElem?_eq_some_iff.1 h1).1
   have hdi:cds'[i]?=some cds'[i]:=zAB hil;rw [hav];exact .atom (.im (Fb hGH hst (hargs i _ u hdi h2) (a2 i _ d' hdi h1)))
 · rw [hav];exact (hgl g cs h).mono (fun _ _ _=>rfl) (zAJ _) fun x _ hx=>.inl hx
 · obtain ⟨v,ρ',he,hv,hs,hd,hnw,hk,hf⟩:=hp;have hav':∀ ρ1:Nat→Option Value,AvS G [] ρ1=G:=fun ρ1=>by
    funext x
    exact propext ⟨fun h=>h.resolve_right lq,.inl⟩
   refine ⟨v,ρ,he,?_,fun t b h=>by simp [lk] at h,fun t t' b b' x h=>by simp [lk] at h,fun x hx=>(lq hx).elim,fun t u _ h=>⟨u,h,.refl u⟩,hf.weaken fun x hx=>(lq hx).elim⟩;rw [hav'] at hv ⊢;have T:sQ w' G G ρ' ρ id 0 (fun _=>True):=⟨fun d u h _=>h,fun t u h=>absurd h (Nat.not_lt_zero _)⟩
   have:=T.vr hv (by rw [hn]; simp) (vc d)
   rwa [Gg] at this
end
end Go.Ab
namespace Go.Proofs.YtagejnomlkfndaaGreatDoor
open Go Go.RowKit
theorem joined_of {P:Program} {f:FuncId} {fn:Func} {s:ChangeSpec} {c:OpenClaim}
   (k1:c.wf (OpenSpec.ofChange s)=true) (k2:laidOutB P=true) (k3:mapsRowed P=true) (k4:fn.params.all (P.readableRec ·)=true) (k5:namedTie P c.named s.vars=true)
   (k6:(c.stops == [])=true) (k7:(P.stops == [])=true) (k8:(c.knobs == [])=true) (k9:(P.stopKnobs == [])=true)
   (k10:(c.inPlace == P.inPlace f)=true) (k11:(c.unfollowed == P.unfollowed f)=true) (k12:(c.recurses == P.recurses f)=true) (k13:(c.named == P.varsNamed f)=true)
   (k14:(c.maps == (fn.params.toList++s.plain.varTypes P).any (P.mapsRec ·))=true) (k15:(c.ifaces == (fn.params.toList++s.plain.varTypes P).any (P.ifacesRec ·))=true) (k16:(c.mapsOut == P.mapsAmong fn.resultTypes.toList)=true)
   (k17:(c.loops == (fn.params.toList++s.plain.varTypes P).any (P.loopsFrom ·))=true) (k18:(c.wideKeys == (fn.params.toList++s.plain.varTypes P++fn.resultTypes.toList).any (P.wideKeysFrom ·))=true)
   (k19:s.vars.all (P.varReadable ·)=true) (k20:fn.resultTypes.all (fun t=>P.readableRec t && decide (t < P.types.size))=true) (k21:(c.ifacesOut == fn.resultTypes.toList.any (P.ifacesRec ·))=true) (k22:(c.loopsOut == fn.resultTypes.toList.any (P.loopsFrom ·))=true) (k23:(c.plainKeys == P.plainKeys)=true)
   (k24:c.shortTexts.isNone=true) (k25:P.stopsHeard=true) (k26:P.mayEnter=true) (k27:(c.lifted == P.liftsFinal)=true) (k28:(P.make == some c.make)=true)
   (k29:(c.kinds == (if c.domain.isEmpty then [] else fn.params.toList.map fun t=>match P.underlying t with|some (.int k)=>some k|_=>none))=true) (k30:(c.pinned == c.pinnedBy)=true)
   (k31:(c.veiled == (fn.params.toList++s.plain.varTypes P++fn.resultTypes.toList).any (P.veiledRec ·))=true) (k32:c.veiledFits P fn.params.toList (fn.params.toList++s.plain.varTypes P++fn.resultTypes.toList)=true):joinedFacts P f fn s c=true:=by
 unfold joinedFacts;simp only [zAE];exact ⟨⟨⟨⟨⟨⟨⟨⟨⟨⟨⟨⟨⟨⟨⟨⟨⟨⟨⟨⟨⟨⟨⟨⟨⟨⟨⟨⟨⟨⟨⟨k1,k2⟩,k3⟩,k4⟩,k5⟩,k6⟩,k7⟩,k8⟩,k9⟩,k10⟩,k11⟩,k12⟩,k13⟩,k14⟩,k15⟩,k16⟩,k17⟩,k18⟩,k19⟩,k20⟩,k21⟩,k22⟩,k23⟩,k24⟩,k25⟩,k26⟩,k27⟩,k28⟩,k29⟩,k30⟩,k31⟩,k32⟩
def io0:List Char:=['h','a','r','n','e','s','s',' ','6','8','2','6','e','b','0','4','f','9','2','e','2','6','5','1','7','9','6','4','6','e','2','9','b','7','2','e','f','6','c','a','6','3','e','8','7','9','7','e','9','f','2','b','4','f','f','e','5','3','b','4','7','6','a','c','1','c','c','c','f','a','3','b',' ','c','u','t',' ','a','t',' ','l','o','o','p','.','e','x','a','m','p','l','e','/','p','a','r','g','e','t','i','n','g','/','l','a','w','s','.','F','n','E','x','a','c','t','L','o','g','O','v','e','r',' ','l','o','o','p','.','e','x','a','m','p','l','e','/','p','a','r','g','e','t','i','n','g','/','l','a','w','s','.','F','n','W','o','r','l','d','A','s','k',' ','l','o','o','p','.','e','x','a','m','p','l','e','/','p','a','r','g','e','t','i','n','g','/','l','a','w','s','.','F','n','E','x','a','c','t','W','o','r','l','d','P','l','a','y',' ','l','o','o','p','.','e','x','a','m','p','l','e','/','p','a','r','g','e','t','i','n','g','/','l','a','w','s','.','F','n','E','x','a','c','t','W','o','r','l','d','D','o']
def ioW:List (List Char):=[['h','a','r','n','e','s','s'],['6','8','2','6','e','b','0','4','f','9','2','e','2','6','5','1','7','9','6','4','6','e','2','9','b','7','2','e','f','6','c','a','6','3','e','8','7','9','7','e','9','f','2','b','4','f','f','e','5','3','b','4','7','6','a','c','1','c','c','c','f','a','3','b'],['c','u','t'],['a','t'],['l','o','o','p','.','e','x','a','m','p','l','e','/','p','a','r','g','e','t','i','n','g','/','l','a','w','s','.','F','n','E','x','a','c','t','L','o','g','O','v','e','r'],['l','o','o','p','.','e','x','a','m','p','l','e','/','p','a','r','g','e','t','i','n','g','/','l','a','w','s','.','F','n','W','o','r','l','d','A','s','k'],['l','o','o','p','.','e','x','a','m','p','l','e','/','p','a','r','g','e','t','i','n','g','/','l','a','w','s','.','F','n','E','x','a','c','t','W','o','r','l','d','P','l','a','y'],['l','o','o','p','.','e','x','a','m','p','l','e','/','p','a','r','g','e','t','i','n','g','/','l','a','w','s','.','F','n','E','x','a','c','t','W','o','r','l','d','D','o']]
def ioR:List (List Char):=ioW.drop 3
theorem io_text:Tryz.prog.initOrder=String.ofList io0:=by kernel_rfl
theorem io_signs:wordsSigns Tryz.prog.initOrder.toList=ioW:=by
 rw [io_text,String.toList_ofList]
 kernel_rfl
theorem io_behind:behindMainWord (wordsSigns Tryz.prog.initOrder.toList)=['c','u','t'] :: ioR:=by
 rw [io_signs]
 kernel_rfl
theorem io_strip:stripLifts liftWords (['c','u','t'] :: ioR)=([],['c','u','t'] :: ioR):=by kernel_rfl
theorem later0:Tryz.prog.laysLater=false:=by kernel_rfl
theorem reflect0:Tryz.prog.bearsReflect=false:=by kernel_rfl
theorem door0:Tryz.prog.doorFits []=true:=by kernel_rfl
theorem may0:Tryz.prog.mayEnter=true:=by
 unfold Program.mayEnter;rw [io_behind];simp only [io_strip,later0,reflect0,door0]
 kernel_rfl
theorem headLifts0:Tryz.prog.headLifts=[]:=by
 unfold Program.headLifts;rw [io_behind,io_strip]
 kernel_rfl
theorem lifts0:Tryz.prog.liftsFinal=false:=by
 unfold Program.liftsFinal;rw [io_behind,headLifts0]
 kernel_rfl
theorem make0:Tryz.prog.make=some .cut:=by
 unfold Program.make;rw [io_behind];simp only [headLifts0]
 kernel_rfl
theorem mainIs0:Tryz.prog.mainIs=some (true,['6','8','2','6','e','b','0','4','f','9','2','e','2','6','5','1','7','9','6','4','6','e','2','9','b','7','2','e','f','6','c','a','6','3','e','8','7','9','7','e','9','f','2','b','4','f','f','e','5','3','b','4','7','6','a','c','1','c','c','c','f','a','3','b']):=by
 unfold Program.mainIs;rw [io_signs]
 kernel_rfl
theorem rowed0:mapsRowed Tryz.prog=true:=by kernel_rfl
theorem plainKeys0:Tryz.prog.plainKeys=true:=by kernel_rfl
theorem heard0:Tryz.prog.stopsHeard=true:=by kernel_rfl
theorem stops0:Tryz.prog.stops=[]:=by kernel_rfl
theorem knobs0:Tryz.prog.stopKnobs=[]:=by kernel_rfl
theorem looks0:Tryz.prog.looks []=false:=by kernel_rfl
theorem noneGoes:Tryz.prog.funcs.any Func.goes=false:=by kernel_rfl
theorem goes0 (c:OpenClaim) (h:c.start=.entering):false=c.goesBy Tryz.prog:=by
 unfold OpenClaim.goesBy Program.goesAt Program.goesFrom Program.goes;rw [h,noneGoes]
 have:∀ f,((Tryz.prog.closure f).any fun g=>(Tryz.prog.funcs[g]?).any Func.goes)=false:=fun f=>by
  rw [List.any_eq_false];intro g _;cases hg:Tryz.prog.funcs[g]? with
  | none=>simp
  | some fn=>
    have hm:=zBW hg
    have:=Array.any_eq_false'.1 noneGoes fn hm
    simpa using this
 cases Tryz.prog.funcNamed c.func with
 | none=>rfl
 | some f=>simp [this f]
end Go.Proofs.YtagejnomlkfndaaGreatDoor
