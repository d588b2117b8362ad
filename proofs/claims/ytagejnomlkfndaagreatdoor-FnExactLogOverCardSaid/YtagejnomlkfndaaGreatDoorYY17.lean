/- Texts of this claim, set close: lemmas and contracts. -/
import Derived.Test.YtagejnomlkfndaaGreatDoorYY4
set_option linter.unusedVariables false
set_option linter.unusedSimpArgs false
namespace Go.Ab
open Go Go.RowKit
section
variable {w:World} {G:Nat→Prop} {Sa:ac} {ρ:Nat→Option Value} {P:Program}
theorem D2 (hG:∀ x,G x→¬ eH Sa ρ x) (hs:∀ t b,lk Sa t=some b→SR P w (AvS G Sa ρ) ρ t b) {d d':D} {u:Value} (hv:VA w (AvS G Sa ρ) ρ d u) (hi:cR Sa d=some d'):VI w G d' u:=by
 have hi0:∀ d u,VI w (AvS G Sa ρ) d u→VI w G d u:=fun d u h=>h.mono (fun _ _ _=>rfl) (zAL _) fun x _ hx=>.inl hx;cases d with
 | own t=>
   simp only [cR] at hi;split at hi
   · rename_i b hl;split at hi
     · rename_i xs hx;cases hi;cases hv with
       | im h=>cases h
       | own h h1=>
         have hsr:=hs t b hl;have hout:∀ x,de b=true→bk b (ρ t) x→¬ G x:=fun x hb hx hg=>hG x hg ⟨t,b,hl,hb,hx⟩;cases b with
         | box e cs=>simp [imB] at hx
         | row e ys=>simp [imB] at hx
         | own e ys=>
           simp only [imB,zAV] at hx;subst hx;obtain ⟨u',us,hr,ho,hc⟩:=hsr
           have:u=u':=by
            have:=dt hr (cJ ho)
            rw [h] at this;exact zAb this
           subst this;exact gB ho (hc.mono hi0) fun x hx=>hout x rfl (by rw [hr]; exact hx)
         | fr ys=>
           simp only [imB,zAV] at hx;subst hx;obtain ⟨u',hr,hv⟩:=hsr;rw [h] at hr;cases hr;exact hi0 _ _ hv
         | deep e e2 zs=>
           obtain ⟨u',vs,us,hd⟩:=hsr
           have:=dX hd.name
           rw [h] at this;cases this;exact hd.rows hx hi0 fun x hx=>hout x rfl hx
     · cases hi
   · cases hi
 | nil=>
   simp only [cR,zAV] at hi;subst hi;cases hv with
   | im h=>cases h; exact .sl0
 | fn f cs=>
   simp only [cR] at hi;split at hi
   · cases hi;cases hv with
     | im h=>exact hi0 _ _ h
     | fn hl h=>
       rename_i us
       have:us=[]:=List.eq_nil_of_length_eq_zero (by simpa using hl.symm)
       subst this;exact .fn f
   · cases hi
 | b x=>simp only [cR,zAV] at hi; subst hi; cases hv with|im h=>exact hi0 _ _ h
 | k x=>simp only [cR,zAV] at hi; subst hi; cases hv with|im h=>exact hi0 _ _ h
 | s x=>simp only [cR,zAV] at hi; subst hi; cases hv with|im h=>exact hi0 _ _ h
 | v x=>simp only [cR,zAV] at hi; subst hi; cases hv with|im h=>exact hi0 _ _ h
 | sl x=>simp only [cR,zAV] at hi; subst hi; cases hv with|im h=>exact hi0 _ _ h
 | ep x=>simp only [cR,zAV] at hi; subst hi; cases hv with|im h=>exact hi0 _ _ h
 | bp=>simp [cR] at hi
 | op=>simp [cR] at hi
 | junk=>simp [cR] at hi
 | agg=>simp [cR] at hi
 | tup=>simp [cR] at hi
 | vw=>simp [cR] at hi
theorem AC (hG:∀ x,G x→¬ eH Sa ρ x) (hs:∀ t b,lk Sa t=some b→SR P w (AvS G Sa ρ) ρ t b):∀ {ds ds':List D} {us:List Value},ds.length=us.length→(∀ (i:Nat) (d:D) (u:Value),ds[i]?=some d→us[i]?=some u→VA w (AvS G Sa ρ) ρ d u)→me Sa ds=some ds' →
   ds'.length=us.length∧∀ (i:Nat) (d:D) (u:Value),ds'[i]?=some d→us[i]?=some u→VI w G d u
 | [],ds',us,hl,_,hi=>by simp only [me,zAV] at hi; subst hi; exact ⟨by simpa using hl,by simp⟩
 | d :: r,ds',[],hl,_,_=>by simp at hl
 | d :: r,ds',u :: q,hl,hv,hi=>by
   simp only [me] at hi;split at hi
   · rename_i d1 hd1;split at hi
     · rename_i r1 hr1;cases hi;have h1:=D2 hG hs (hv 0 d u rfl rfl) hd1;have h2:=AC hG hs (us:=q) (by simpa using hl) (fun i d u p q=>hv (i+1) d u (by simpa using p) (by simpa using q)) hr1;refine ⟨by simp [h2.1],fun i d' u' p q=>?_⟩;cases i with
       | zero=>simp at p q; subst p q; exact h1
       | succ i=>exact h2.2 i d' u' (by simpa using p) (by simpa using q)
     · cases hi
   · cases hi
theorem H1 (hG:∀ x,G x→¬ eH Sa ρ x) (hs:∀ t b,lk Sa t=some b→SR P w (AvS G Sa ρ) ρ t b) {d d':D} {u:Value} (hv:VG w (AvS G Sa ρ) ρ d u) (hi:fJ Sa d=some d'):VI w G d' u:=by
 have hi0:∀ d u,VI w (AvS G Sa ρ) d u→VI w G d u:=fun d u h=>h.mono (fun _ _ _=>rfl) (zAL _) fun x _ hx=>.inl hx;by_cases ha:∃ ds,d=.agg ds
 · obtain ⟨ds,rfl⟩:=ha;simp only [fJ] at hi;split at hi
   · rename_i ds' hds;cases hi;obtain ⟨us,rfl,hl,h1,hr⟩:=(VR.gr hv).agg_inv;obtain ⟨e1,e2⟩:=AC hG hs hl hr hds;exact .agg e1 h1 e2
   · cases hi
 · have hd:fJ Sa d=cR Sa d:=by cases d <;> first|rfl|exact absurd ⟨_,rfl⟩ ha
   rw [hd] at hi;cases hv with
   | atom hv=>exact D2 hG hs hv hi
   | agg=>exact absurd ⟨_,rfl⟩ ha
end
section
variable {E:Env} {f:FuncId} {k:Nat} {cds cds':List D} {d:D} {Sa:ac}
def D3 (S:ac):List D→List D→Prop
 | [],[]=>True
 | d :: r,d' :: r'=>fJ S d=some d'∧D3 S r r'
 | _,_=>False
theorem wU {S:ac}:∀ {ds cs:List D},D3 S ds cs→cs.length=ds.length∧∀ (i:Nat) (d d':D),ds[i]?=some d→cs[i]?=some d'→fJ S d=some d'
 | [],[],_=>⟨rfl,by simp⟩
 | d :: r,d' :: r',h=>by
   obtain ⟨h1,h2⟩:=wU h.2;refine ⟨by simp [h1],fun i e e' p q=>?_⟩;cases i with
   | zero=>simp at p q; subst p q; exact h.1
   | succ i=>exact h2 i e e' (by simpa using p) (by simpa using q)
 | [],d' :: r',h=>h.elim
 | d :: r,[],h=>h.elim
theorem mU {ρ:Nat→Option Value} {x:Nat}:¬ eH [] ρ x:=by
 rintro ⟨t,b,h,_⟩;simp [lk] at h
theorem D4 (d:D):r7 id d=d:=by cases d <;> simp [r7]
theorem D5 (d:D):u6 id d=d:=by
 have e:r7 id=id:=funext D4;cases d
 case agg ds=>simp [u6,e]
 all_goals (unfold u6; first|exact D4 _|rfl)
theorem Jg (d:D):xk id d=d:=by
 have e:u6 id=id:=funext D5;cases d
 case tup ds=>simp [xk,e]
 all_goals (unfold xk; exact D5 _)
theorem Con.away (c:Con E f 0 cds [] d []) (ha:D3 Sa cds' cds) (hn:nmR d=[]):Con E f k cds' Sa d []:=by
 refine ⟨c.can,fun w vs ρ G hlen hG hGH hargs hst hdis hnone hgl=>?_⟩;obtain ⟨a1,a2⟩:=wU ha;have hav:AvS G [] (fun _=>none)=G:=by
  funext x
  exact propext ⟨fun h=>h.resolve_right mU,.inl⟩
 refine (c.run w vs (fun _=>none) G (by rw [a1,hlen]) hG (fun x _=>mU) (fun i d' u h1 h2=>?_) (fun t b h=>by simp [lk] at h) (fun t t' b b' x h=>by simp [lk] at h) (fun _ _=>rfl) fun g cs h=>?_).mono fun e w' hp=>?_
 · have hil:i < cds'.length:=by rw [← a1]; exact (List.getElem?_eq_some_iff.1 h1).1
   have hdi:cds'[i]?=some cds'[i]:=zAB hil;rw [hav];exact .atom (.im (H1 hGH hst (hargs i _ u hdi h2) (a2 i _ d' hdi h1)))
 · rw [hav];exact (hgl g cs h).mono (fun _ _ _=>rfl) (zAL _) fun x _ hx=>.inl hx
 · obtain ⟨v,ρ',he,hv,hs,hd,hnw,hk,hf⟩:=hp;have hav':∀ ρ1:Nat→Option Value,AvS G [] ρ1=G:=fun ρ1=>by
    funext x
    exact propext ⟨fun h=>h.resolve_right mU,.inl⟩
   refine ⟨v,ρ,he,?_,fun t b h=>by simp [lk] at h,fun t t' b b' x h=>by simp [lk] at h,fun x hx=>(mU hx).elim,fun t u _ h=>⟨u,h,.refl u⟩,hf.weaken fun x hx=>(mU hx).elim⟩;rw [hav'] at hv ⊢;have T:ve w' G G ρ' ρ id 0 (fun _=>True):=⟨fun d u h _=>h,fun t u h=>absurd h (Nat.not_lt_zero _)⟩
   have:=T.vr hv (by rw [hn]; simp) (xL d)
   rwa [Jg] at this
end
end Go.Ab
