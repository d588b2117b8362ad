/- Texts of this claim, set close: lemmas and contracts. -/
import Derived.Test.YtlicaibhgcenhaaGreatDoorYY6
import Derived.Test.YtlicaibhgcenhaaGreatDoorYY3
import Derived.Shelf.SlSortCmp.WholeK
import Derived.Shelf.SlSortCmp.NoneTotal
set_option linter.unusedSimpArgs false
set_option linter.unusedVariables false
namespace Go.Par
open Go.Ab
theorem iJ {o:Opn} (h:dn o=true):ac o.path=true:=by
 simp only [dn,zAC] at h;exact h.1
theorem rG {o:Opn} (h:dn o=true) (hk:o.kind=5):ac o.tgt=true∧o.data=[]:=by
 simp only [dn,zAC,hk,if_true,decide_eq_true_eq] at h;exact h.2
theorem vB {o:Opn} (h:dn o=true):cy o.data=true∧(o.kind≠2→o.data=[])∧(o.kind≠5→o.tgt=[]):=by
 simp only [dn,zAC] at h;obtain ⟨_,h⟩:=h;split at h
 · rename_i hk;simp only [zAC,decide_eq_true_eq] at h;refine ⟨by rw [h.2]; rfl,fun _=>h.2,fun hn=>absurd hk hn⟩
 · split at h
   · rename_i hk;simp only [zAC,decide_eq_true_eq] at h;exact ⟨h.2,fun hn=>absurd hk hn,fun _=>h.1⟩
   · simp only [zAC,decide_eq_true_eq] at h;exact ⟨by rw [h.2]; rfl,fun _=>h.2,fun _=>h.1.2⟩
theorem oG {p d:Bs} {x:Bool} (hp:ac p=true) (hd:cy d=true) (hx:x=true→d=[]):ew ⟨p,x,d⟩=true:=by
 simp only [ew,hp,hd,zBA,Bool.and_true];cases x with
 | true=>simp [hx rfl]
 | false=>simp
theorem ny {e:Ent} (h:ew e=true):cy e.data=true∧(e.dir=true→e.data=[]):=by
 simp only [ew,zAC] at h;refine ⟨h.1.2,fun hd=>?_⟩
 have:=h.2
 rw [hd] at this;simpa using this
theorem kO {t:List Ent} {p:Bs} (hp:ac p=true):cL t p=0↔aY t p=0∧ah t p=none∧t.length < 16:=by
 unfold cL;rw [cu (aW hp)];by_cases h1:aY t p=0
 · rw [if_neg (by simpa using h1)];cases h2:ah t p with
   | none=>
     simp only [Option.isSome_none,zAE,if_false,h1,true_and];by_cases h3:16≤t.length
     · rw [if_pos h3]; constructor
       · intro h; cases h
       · intro h; omega
     · rw [if_neg h3]; simp; omega
   | some e=>simp
 · rw [if_pos (by simpa using h1)];simp [h1]
theorem oH {t:List Ent} {p:Bs} (hp:ac p=true):cL t p=4↔aY t p=0∧∃ e,ah t p=some e:=by
 unfold cL;rw [cu (aW hp)];by_cases h1:aY t p=0
 · rw [if_neg (by simpa using h1)];cases h2:ah t p with
   | none=>
     simp only [Option.isSome_none,zAE,if_false];split <;> simp
   | some e=>simp [h1]
 · rw [if_pos (by simpa using h1)]
   have:aY t p≠4:=by
    unfold aY;repeat' split
    all_goals decide
   simp [h1,this]
theorem oI {t:List Ent} {p:Bs} (hp:ac p=true):dG t p=0↔aY t p=0∧((∃ e,ah t p=some e∧e.dir=false)∨(ah t p=none∧t.length < 16)):=by
 unfold dG;have hg:am t p=ah t p:=cu (aW hp);by_cases h4:cL t p=4
 · obtain ⟨h5,e,h6⟩:=(oH hp).1 h4;rw [hg,h6];cases hd:e.dir with
   | true=>simp [h4,ef,hd,h5]
   | false=>simp [h4,ef,hd,h5]
 · rw [if_neg (fun h=>h4 h.1),if_neg h4,kO hp];constructor
   · rintro ⟨h1,h2,h3⟩;exact ⟨h1,.inr ⟨h2,h3⟩⟩
   · rintro ⟨h1,⟨e,h2,h3⟩|h2⟩
     · exact absurd ((oH hp).2 ⟨h1,e,h2⟩) h4
     · exact ⟨h1,h2.1,h2.2⟩
theorem w8 {t:List Ent} {o:Opn} (hp:ac o.path=true):eI t o=0↔∃ e,ah t o.path=some e∧(o.kind=3→e.dir=false)∧(o.kind=4→e.dir=true)∧jY t o.path=[]:=by
 unfold eI;rw [cu (aW hp)];cases h:ah t o.path with
 | none=>simp
 | some e=>
   simp only;by_cases h1:o.kind=3∧e.dir=true
   · rw [if_pos h1];constructor
     · intro h; cases h
     · rintro ⟨e',h2,h3,_⟩;cases h2;rw [h3 h1.1] at h1;cases h1.2
   · rw [if_neg h1];by_cases h2:o.kind=4∧e.dir=false
     · rw [if_pos h2];constructor
       · intro h; cases h
       · rintro ⟨e',h3,_,h4,_⟩;cases h3;rw [h4 h2.1] at h2;cases h2.2
     · rw [if_neg h2];by_cases h3:0 < (jY t o.path).length
       · rw [if_pos h3];constructor
         · intro h; cases h
         · rintro ⟨_,_,_,_,h4⟩;rw [h4] at h3;simp at h3
       · rw [if_neg h3];simp only [true_iff];refine ⟨e,rfl,fun hk=>?_,fun hk=>?_,List.length_eq_zero_iff.1 (by omega)⟩
         · cases hd:e.dir with
           | false=>rfl
           | true=>exact absurd ⟨hk,hd⟩ h1
         · cases hd:e.dir with
           | true=>rfl
           | false=>exact absurd ⟨hk,hd⟩ h2
theorem jF {t:List Ent} {o:Opn} (ht:af t=true) (hp:ac o.path=true) (hq:ac o.tgt=true):cz t o=0↔(∃ e,ah t o.path=some e)∧aY t o.tgt=0∧ah t o.tgt=none∧under o.tgt o.path=false∧∀ e∈t,ac (mvP o.path o.tgt e.path)=true:=by
 unfold cz;rw [cu (aW hp),cu (aW hq)];cases h1:ah t o.path with
 | none=>simp
 | some e1=>
   simp only [Option.isNone_some,zAE,if_false];by_cases h2:aY t o.tgt=0
   · rw [if_neg (by simpa using h2)];cases h3:ah t o.tgt with
     | some e2=>simp
     | none=>
       simp only [Option.isSome_none,zAE,if_false];cases h4:under o.tgt o.path with
       | true=>simp
       | false=>
         simp only [zAE,if_false];have hall:t.all (fun e=>(aK e.path o.path o.tgt).isSome)=true↔∀ e∈t,ac (mvP o.path o.tgt e.path)=true:=by
          rw [zAr];refine forall_congr' fun e=>imp_congr_right fun he=>?_;rw [qE (fy ht he).2.1 hp hq];split <;> simp_all
         by_cases h5:t.all (fun e=>(aK e.path o.path o.tgt).isSome)=true
         · rw [if_pos h5];simp only [true_iff];exact ⟨⟨e1,rfl⟩,h2,trivial,trivial,hall.1 h5⟩
         · rw [if_neg h5];constructor
           · intro h; cases h
           · rintro ⟨_,_,_,_,h6⟩;exact absurd (hall.2 h6) h5
   · rw [if_pos (by simpa using h2)];simp [h2]
def fSx (t:List Ent) (o:Opn) (q:Bs):Option Ent:=
 if o.kind=1 then (if o.path=q then some ⟨o.path,true,[]⟩ else ah t q)
 else if o.kind=2 then (if o.path=q then some ⟨o.path,false,o.data⟩ else ah t q)
 else if o.kind=5 then (if inP q o.tgt=true then (ah t (mvP o.tgt o.path q)).map (fun e=>⟨q,e.dir,e.data⟩) else if inP q o.path=true then none else ah t q)
 else (if o.path=q then none else ah t q)
theorem EQ {a b:Bs} {e:Ent} (hs:ac e.path=true) (ha:ac a=true) (hb:ac b=true) (ho:ac (mvP a b e.path)=true):gD a b e=⟨mvP a b e.path,e.dir,e.data⟩:=by
 unfold gD;rw [qE hs ha hb,if_pos ho];rfl
theorem B5 {t:List Ent} {a b:Bs} (ht:af t=true) (ha:ac a=true) (hb:ac b=true) (hn:∀ q,inP q b=true→ah t q=none) (hall:∀ e∈t,ac (mvP a b e.path)=true) :
   (aq (t.map (gD a b))).Nodup∧∀ q,ah (t.map (gD a b)) q=if inP q b=true then (ah t (mvP b a q)).map (fun e=>⟨q,e.dir,e.data⟩) else if inP q a=true then none else ah t q:=by
 have hf:∀ e∈t,gD a b e=⟨mvP a b e.path,e.dir,e.data⟩:=fun e he=>EQ (fy ht he).2.1 ha hb (hall e he);have hnb:∀ e∈t,inP e.path b=false:=fun e he=>by
  rw [← zAa];intro hi
  have:=hn e.path hi
  rw [iZ (bh ht) he] at this;cases this
 have key:∀ e∈t,∀ q,mvP a b e.path=q→(inP q b=true∧e.path=mvP b a q)∨(inP q b=false∧inP q a=false∧e.path=q):=by
  intro e he q hq;cases hi:inP e.path a with
  | true=>
    obtain ⟨x,h1,h2⟩:=(pL ha).1 hi;rw [h1,(gh ha h2).2] at hq;left;rw [← hq];exact ⟨(gh (b:=a) hb h2).1,by rw [(gh hb h2).2]; exact h1⟩
  | false=>
    rw [rE hi] at hq;right;rw [← hq];exact ⟨hnb e he,hi,rfl⟩
 have back:∀ s,inP s b=true→∃ x,s=b++x∧mvP b a s=a++x∧mvP a b (mvP b a s)=s:=by
  intro s hs;obtain ⟨x,h1,h2⟩:=(pL hb).1 hs;refine ⟨x,h1,by rw [h1]; exact (gh hb h2).2,?_⟩;rw [h1,(gh hb h2).2,(gh ha h2).2]
 refine ⟨?_,fun q=>?_⟩
 · have e1:aq (t.map (gD a b))=(aq t).map (mvP a b):=by
     rw [aq,aq,zBi,zBi];exact List.map_congr_left fun e he=>by simp [hf e he]
   rw [e1];have hinj:∀ x∈aq t,∀ y∈aq t,mvP a b x=mvP a b y→x=y:=by
    intro x hx y hy hxy;obtain ⟨e,he,rfl⟩:=List.mem_map.1 hx;obtain ⟨d,hd,rfl⟩:=List.mem_map.1 hy;rcases key e he _ rfl with ⟨k1,k2⟩|⟨k1,k2,k3⟩
    · rcases key d hd _ hxy.symm with ⟨l1,l2⟩|⟨l1,l2,l3⟩
      · rw [k2,l2]
      · rw [k1] at l1; cases l1
    · rcases key d hd _ hxy.symm with ⟨l1,l2⟩|⟨l1,l2,l3⟩
      · rw [k1] at l1; cases l1
      · rw [k3,l3]
   have hnd:=bG (bh ht);rw [List.nodup_iff_pairwise_ne] at hnd ⊢;rw [zBE];exact hnd.imp_of_mem fun {x y} hx hy hne heq=>hne (hinj x hx y hy heq)
 · cases h1:inP q b with
   | true=>
     rw [if_pos rfl];obtain ⟨x,g1,g2,g3⟩:=back q h1;rw [pN (s:=mvP b a q)]
     · cases he:ah t (mvP b a q) with
       | none=>rfl
       | some e=>
         obtain ⟨k1,k2⟩:=cg he;simp only [Option.map_some];rw [hf e k1,k2,g3]
     · intro e he;rw [hf e he];constructor
       · intro h;rcases key e he q h with ⟨_,k⟩|⟨k,_⟩
         · exact k
         · rw [h1] at k; cases k
       · intro h;simp only;rw [h,g3]
   | false=>
     rw [if_neg (by simp)];cases h2:inP q a with
     | true=>
       rw [if_pos rfl];refine sP fun e he h=>?_;rw [hf e he] at h;rcases key e he q h with ⟨k,_⟩|⟨_,k,_⟩
       · rw [h1] at k; cases k
       · rw [h2] at k; cases k
     | false=>
       rw [if_neg (by simp),pN (s:=q)]
       · cases he:ah t q with
         | none=>rfl
         | some e=>
           obtain ⟨k1,k2⟩:=cg he;simp only [Option.map_some];rw [hf e k1,k2,rE h2,← k2]
       · intro e he;rw [hf e he];constructor
         · intro h;rcases key e he q h with ⟨k,_⟩|⟨_,_,k⟩
           · rw [h1] at k; cases k
           · exact k
         · intro h;simp only;rw [h,rE h2]
theorem w9 {t:List Ent} {b:Bs} (ht:af t=true) (hb:ac b=true) (h:ah t b=none):∀ q,inP q b=true→ah t q=none:=by
 intro q hq;rcases bY.1 hq with rfl|hq
 · exact h
 · exact oF ht hb (fun d hd=>by rw [h] at hd; cases hd) hq
theorem AE {t:List Ent} {o:Opn} (ht:af t=true) (ho:dn o=true) (hc:cj t o=0) (q:Bs):ah (doT t o) q=fSx t o q:=by
 unfold doT fSx cj at *;have hp:=iJ ho;split
 · exact w7 (bh ht) _ _
 · split
   · exact w7 (bh ht) _ _
   · split
     · rename_i h1 h2 h5;rw [if_neg h1,if_neg h2,if_pos h5] at hc;obtain ⟨hq,_⟩:=rG ho h5;obtain ⟨g1,g2,g3,g4,g5⟩:=(jF ht hp hq).1 hc;obtain ⟨m1,m2⟩:=B5 ht hp hq (w9 ht hq g3) g5;unfold lU;rw [pM (X:=[]) List.Pairwise.nil m1,m2];simp [ah]
     · exact rF t o.path q
theorem xa {t:List Ent} {p:Bs} (h:aY t p=0):ae p=[47]∨∃ d,ah t (ae p)=some d∧d.dir=true:=eR.1 h
theorem ER {p:Bs} (hp:ac p=true):ae p≠p:=by
 intro h;rcases g9 hp with h1|⟨_,h1⟩
 · rw [h1] at h; rw [← h,jW] at hp; cases hp
 · rw [h,fW] at h1; cases h1
theorem B6 {t:List Ent} (ht:af t=true) (o:Opn):al (aq (doT t o)):=by
 unfold doT;split
 · exact jp (bh ht) _
 · split
   · exact jp (bh ht) _
   · split
     · exact gV List.Pairwise.nil
     · exact qF (bh ht) _
theorem FT {t:List Ent} {o:Opn} (ht:af t=true) (ho:dn o=true) (hc:cj t o=0):(doT t o).length≤16:=by
 have hl:=az ht;have hp:=iJ ho;unfold doT cj at *;split
 · rename_i h1;rw [if_pos h1] at hc
   have:=(gd t ⟨o.path,true,[]⟩).2
   have:=((kO hp).1 hc).2.2
   omega
 · rename_i h1;rw [if_neg h1] at hc;split
   · rename_i h2;rw [if_pos h2] at hc;rcases ((oI hp).1 hc).2 with ⟨e,he,_⟩|⟨_,h3⟩
     · obtain ⟨k1,k2⟩:=cg he;rw [qG (e:=⟨o.path,false,o.data⟩) (List.mem_map.2 ⟨e,k1,k2⟩) (bh ht)];exact hl
     · have:=(gd t ⟨o.path,false,o.data⟩).2
       omega
   · split
     · have:=putAll_len (t.map (gD o.path o.tgt)) []
       simp only [zAA,List.length_nil] at this;unfold lU;omega
     · have:=zAV (fun e:Ent=>decide (e.path≠o.path)) t
       unfold iW;omega
theorem G2 {t:List Ent} {o:Opn} (ht:af t=true) (ho:dn o=true) (hc:cj t o=0):af (doT t o)=true:=by
 refine vA (FT ht ho hc) (B6 ht o) fun p e he=>?_;rw [AE ht ho hc] at he;simp only [AE ht ho hc];have hp:=iJ ho;have hdat:=vB ho;unfold fSx cj at *;by_cases h1:o.kind=1
 · simp only [if_pos h1] at hc he ⊢;obtain ⟨g1,g2,g3⟩:=(kO hp).1 hc;by_cases hq:o.path=p
   · rw [if_pos hq] at he;cases he;refine ⟨oG hp rfl fun _=>rfl,?_⟩;rw [← hq];refine (xa g1).imp id ?_;rintro ⟨d,d1,d2⟩;exact ⟨d,by rw [if_neg fun h=>ER hp h.symm]; exact d1,d2⟩
   · rw [if_neg hq] at he;obtain ⟨k1,k2,k3,k4⟩:=en ht he;refine ⟨k1,k4.imp id ?_⟩;rintro ⟨d,d1,d2⟩;exact ⟨d,by rw [if_neg fun h=>by rw [← h,g2] at d1; cases d1]; exact d1,d2⟩
 · simp only [if_neg h1] at hc he ⊢;by_cases h2:o.kind=2
   · simp only [if_pos h2] at hc he ⊢;obtain ⟨g1,g2⟩:=(oI hp).1 hc;have hnd:∀ d,ah t o.path=some d→d.dir=false:=by
      intro d hd;rcases g2 with ⟨e',h3,h4⟩|⟨h3,_⟩
      · rw [h3] at hd; cases hd; exact h4
      · rw [h3] at hd; cases hd
     by_cases hq:o.path=p
     · rw [if_pos hq] at he;cases he;refine ⟨oG hp hdat.1 (fun h=>by cases h),?_⟩;rw [← hq];refine (xa g1).imp id ?_;rintro ⟨d,d1,d2⟩;exact ⟨d,by rw [if_neg fun h=>ER hp h.symm]; exact d1,d2⟩
     · rw [if_neg hq] at he;obtain ⟨k1,k2,k3,k4⟩:=en ht he;refine ⟨k1,k4.imp id ?_⟩;rintro ⟨d,d1,d2⟩;exact ⟨d,by rw [if_neg fun h=>by rw [← h] at d1; rw [hnd d d1] at d2; cases d2]; exact d1,d2⟩
   · simp only [if_neg h2] at hc he ⊢;by_cases h5:o.kind=5
     · simp only [if_pos h5] at hc he ⊢;obtain ⟨hq,_⟩:=rG ho h5;obtain ⟨⟨e0,g1⟩,g2,g3,g4,g5⟩:=(jF ht hp hq).1 hc;have hfree:=w9 ht hq g3;have hupto:ae o.tgt=[47]∨(inP (ae o.tgt) o.tgt=false∧inP (ae o.tgt) o.path=false):=by
        by_cases hr:ae o.tgt=[47]
        · exact .inl hr
        · right;constructor
          · rw [← zAa,bY];rintro (h|h)
            · exact ER hq h
            · have:=j7 hq h
              have:=ei hq hr
              omega
          · rw [← zAa,bY];intro h
            have:=j6 hq hp h
            rw [g4] at this;cases this
       by_cases hb:inP p o.tgt=true
       · rw [if_pos hb] at he;cases hs:ah t (mvP o.tgt o.path p) with
         | none=>rw [hs] at he; cases he
         | some e'=>
           rw [hs] at he;cases he;obtain ⟨k1,k2,k3,k4⟩:=en ht hs;obtain ⟨x,hx1,hx2⟩:=(pL hq).1 hb;have hsrc:mvP o.tgt o.path p=o.path++x:=by rw [hx1]; exact (gh hq hx2).2
           have hmv:mvP o.path o.tgt (o.path++x)=p:=by rw [(gh hp hx2).2,hx1]
           have hpok:ac p=true:=by
            have:=g5 e' (cg hs).1
            rw [k2,hsrc,hmv] at this;exact this
           obtain ⟨d1,d2⟩:=ny k1;refine ⟨oG hpok d1 d2,?_⟩;rcases hx2 with rfl|⟨r,hr⟩
           · -- the moved one itself
             have hpt:p=o.tgt:=by rw [hx1]; simp
             rw [hpt];rcases xa g2 with h|⟨d,h3,h4⟩
             · exact .inl h
             · rcases hupto with h|⟨h6,h7⟩
               · exact .inl h
               · right;refine ⟨d,?_,h4⟩;rw [h6,h7];simpa using h3
           · -- below it
             have hu:under (o.path++x) o.path=true:=(fx (aW hp)).2 ⟨r,by rw [hr]⟩;rw [hsrc] at k3 k4;obtain ⟨u1,u2⟩:=ib k3 hp hu;obtain ⟨d,h3,h4⟩:=k4.resolve_left (aW u1);have hup:ae p=mvP o.path o.tgt (ae (o.path++x)):=by
              have:=GZ k3 hp hq hu (by rw [hmv]; exact hpok)
              rw [hmv] at this;exact this
             obtain ⟨y,hy1,hy2⟩:=(pL hp).1 (bY.2 u2);have hup2:ae p=o.tgt++y:=by rw [hup,hy1]; exact (gh hp hy2).2
             right;refine ⟨⟨ae p,d.dir,d.data⟩,?_,h4⟩;obtain ⟨i1,i2⟩:=gh (b:=o.path) hq hy2;rw [hup2,if_pos i1,i2,← hy1,h3];rfl
       · have hb':inP p o.tgt=false:=by simpa using hb
         simp only [hb',zAE,if_false] at he;by_cases ha:inP p o.path=true
         · rw [if_pos ha] at he; cases he
         · have ha':inP p o.path=false:=by simpa using ha
           simp only [ha',zAE,if_false] at he;obtain ⟨k1,k2,k3,k4⟩:=en ht he;refine ⟨k1,?_⟩;rcases k4 with k4|⟨d,h3,h4⟩
           · exact .inl k4
           · right;refine ⟨d,?_,h4⟩;have i1:inP (ae p) o.tgt=false:=by
              rw [← zAa];intro h;rw [hfree _ h] at h3;cases h3
             have i2:inP (ae p) o.path=false:=by
              rw [GY k3 hp]
              · exact ha'
              · rintro rfl;rw [bY.2 (.inl rfl)] at ha';cases ha'
             rw [i1,i2];simpa using h3
     · simp only [if_neg h5] at hc he ⊢;obtain ⟨e0,g1,g2,g3,g4⟩:=(w8 hp).1 hc;by_cases hq:o.path=p
       · rw [if_pos hq] at he; cases he
       · rw [if_neg hq] at he;obtain ⟨k1,k2,k3,k4⟩:=en ht he;refine ⟨k1,k4.imp id ?_⟩;rintro ⟨d,d1,d2⟩;refine ⟨d,?_,d2⟩;rw [if_neg]
         · exact d1
         · intro h
           have:=mC.1 g4 e (cg he).1
           rw [k2] at this;exact this h.symm
theorem gM {t:List Ent} (ht:af t=true) (o:Opn):af (ao t o).1=true:=by
 unfold ao;split
 · rename_i h; rw [ht] at h; cases h
 · split
   · exact ht
   · split
     · exact ht
     · rename_i h1 h2 h3;exact G2 ht (by simpa using h2) (by simpa using h3)
theorem kinds {o:Opn} (h:dn o=true):o.kind=1∨o.kind=2∨o.kind=3∨o.kind=4∨o.kind=5:=by
 have:=vn h
 omega
theorem AF {t u:List Ent} {p:Bs} (ht:af t=true) (hu:af u=true) (hp:ac p=true) (hn:∀ d,ah t p=some d→d.dir=false) (hq:∀ q,q≠p→ah u q=ah t q):jY u p=[]:=by
 refine mC.2 fun e he h=>?_;obtain ⟨k1,k2,k3⟩:=fy hu he;have h1:=iZ (bh hu) he;have h2:under e.path p=true:=j6 k2 hp (.inl h);have h3:e.path≠p:=fun h4=>by
  have:=j7 hp h2
  rw [h4] at this;omega
 rw [hq _ h3,oF ht hp hn h2] at h1;cases h1
theorem B7 {e:Ent} {p:Bs} {d:Bool} {x:Bs} (h1:e.path=p) (h2:e.dir=d) (h3:e.data=x):e=⟨p,d,x⟩:=by
 cases e; simp_all
theorem Ho {t:List Ent} {o:Opn} (ht:af t=true) (h:(ao t o).2≠0):(ao t o).1=t:=by
 unfold ao at h ⊢;split
 · rename_i h1; rw [ht] at h1; cases h1
 · split
   · rfl
   · split
     · rfl
     · rename_i h1 h2 h3;rw [if_neg h1,if_neg h2,if_neg h3] at h;exact absurd rfl h
theorem vC {t:List Ent} (hn:(aq t).Nodup) {q:Bs} {e:Ent}:ah t q=some e↔e∈t∧e.path=q:=by
 constructor
 · exact cg
 · rintro ⟨h1,h2⟩
   induction t with
   | nil=>cases h1
   | cons x t ih=>
     have hn2:=List.nodup_cons.1 hn;rw [aF];rcases List.mem_cons.1 h1 with h1|h1
     · rw [← h1,if_pos h2]
     · rw [if_neg]
       · exact ih hn2.2 h1
       · intro h3;exact hn2.1 (by show x.path∈_; rw [h3,← h2]; exact List.mem_map.2 ⟨e,h1,rfl⟩)
theorem yO {S L U:List Ent} (hp:S.Perm L) (hs:S.Pairwise fun a b=>lt b.path a.path=false) (hn:(aq L).Nodup) (hu:al (aq U)) (hat:∀ q,ah L q=ah U q):S=U:=by
 have hn2:(aq S).Nodup:=(hp.map _).nodup_iff.2 hn;have hss:al (aq S):=by
  unfold al aq;rw [zBE];have h1:=zBE.1 (List.nodup_iff_pairwise_ne.1 hn2);refine (h1.and hs).imp ?_;rintro a b ⟨h2,h3⟩;rcases fu a.path b.path with h|h|h
  · exact h
  · exact absurd h h2
  · rw [h] at h3; cases h3
 refine w6 hss hu fun q=>?_;rw [← hat];cases h:ah L q with
 | none=>
   refine bU.2 fun hm=>bU.1 h ?_;exact (hp.map _).mem_iff.1 hm
 | some e=>
   obtain ⟨h1,h2⟩:=(vC hn).1 h;exact (vC hn2).2 ⟨hp.mem_iff.2 h1,h2⟩
def oJ (t:List Ent) (o:Opn):List Ent:=
 (if o.kind=5 then t.map (gD o.path o.tgt) else iW t o.path)++(if o.kind=1∨o.kind=2 then [⟨o.path,decide (o.kind=1),o.data⟩] else [])
theorem vD {t:List Ent} {o:Opn} (ht:af t=true) (ho:dn o=true) (hc:cj t o=0):(aq (oJ t o)).Nodup∧∀ q,ah (oJ t o) q=ah (doT t o) q:=by
 have hp:=iJ ho;have hoff:(aq (iW t o.path)).Nodup:=bG (qF (bh ht) _);have hno:o.path ∉ aq (iW t o.path):=by
  rw [← bU,rF,if_pos rfl]
 have hsnoc:∀ e:Ent,e.path=o.path→(aq (iW t o.path++[e])).Nodup∧∀ q,ah (iW t o.path++[e]) q=if o.path=q then some e else ah t q:=by
  intro e he;constructor
  · rw [aq,zAK,List.nodup_append];refine ⟨hoff,by simp,?_⟩;intro a ha b hb hab;simp at hb;rw [hab,hb,he] at ha;exact hno ha
  · intro q;have happ:∀ l:List Ent,ah (l++[e]) q=(ah l q).or (ah [e] q):=by
     intro l;simp [ah,zBO]
    rw [happ,rF];by_cases hq:o.path=q
    · rw [if_pos hq,if_pos hq];simp [ah,he,hq]
    · rw [if_neg hq,if_neg hq]
      have:ah [e] q=none:=by
       rw [aF,if_neg (by rw [he]; exact hq)];rfl
      rw [this]
      simp
 simp only [AE ht ho hc];unfold oJ fSx;have hdat:=vB ho;by_cases h1:o.kind=1
 · have h5:¬ o.kind=5:=by omega
   rw [if_neg h5,if_pos (.inl h1)];simp only [if_pos h1];have hd:o.data=[]:=hdat.2.1 (by omega);have h:=hsnoc ⟨o.path,decide (o.kind=1),o.data⟩ rfl;refine ⟨h.1,fun q=>?_⟩;rw [h.2,hd,h1]
   simp
 · by_cases h2:o.kind=2
   · have h5:¬ o.kind=5:=by omega
     rw [if_neg h5,if_pos (.inr h2)];simp only [if_neg h1,if_pos h2];have h:=hsnoc ⟨o.path,decide (o.kind=1),o.data⟩ rfl;refine ⟨h.1,fun q=>?_⟩;rw [h.2];simp [h1]
   · rw [if_neg (show ¬ (o.kind=1∨o.kind=2) by omega),List.append_nil]
     simp only [if_neg h1,if_neg h2];by_cases h5:o.kind=5
     · simp only [if_pos h5];unfold cj at hc;rw [if_neg h1,if_neg h2,if_pos h5] at hc;obtain ⟨hq,_⟩:=rG ho h5;obtain ⟨g1,g2,g3,g4,g5⟩:=(jF ht hp hq).1 hc;exact B5 ht hp hq (w9 ht hq g3) g5
     · simp only [if_neg h5];exact ⟨hoff,fun q=>rF t o.path q⟩
theorem ES {t S:List Ent} {o:Opn} (ht:af t=true) (ho:dn o=true) (hc:cj t o=0) (hp:S.Perm (oJ t o)) (hs:S.Pairwise fun a b=>lt b.path a.path=false):S=doT t o:=
 yO hp hs (vD ht ho hc).1 (B6 ht o) (vD ht ho hc).2
theorem C7 {t:List Ent} {o:Opn} (ht:af t=true):(oJ t o).length≤17:=by
 have hl:=az ht;unfold oJ;rw [zAL];have h1:(if o.kind=5 then t.map (gD o.path o.tgt) else iW t o.path).length≤16:=by
  split
  · simp; exact hl
  · have:=zAV (fun e:Ent=>decide (e.path≠o.path)) t
    unfold iW;omega
 have h2:(if o.kind=1∨o.kind=2 then [(⟨o.path,decide (o.kind=1),o.data⟩:Ent)] else []).length≤1:=by
  split <;> simp
 omega
theorem vE {t:List Ent} {p:Bs} (hp:ac p=true):cL t p=if aY t p≠0 then aY t p else if (ah t p).isSome then 4 else if 16≤t.length then 8 else 0:=by
 unfold cL;rw [cu (aW hp)]
theorem C8 {t:List Ent} {p:Bs} (hp:ac p=true):dG t p=if aY t p≠0 then aY t p else if (ah t p).isSome∧((ah t p).getD eZ).dir=true then 5 else if (ah t p).isNone∧16≤t.length then 8 else 0:=by
 unfold dG;rw [vE hp,cu (aW hp)];by_cases h1:aY t p=0
 · simp only [h1,ne_eq,not_true_eq_false,if_false];cases h2:ah t p with
   | none=>
     simp only [Option.isSome_none,zAE,if_false,false_and,Option.isNone_none,true_and];by_cases h3:16≤t.length
     · simp [h3]
     · simp [h3]
   | some e=>
     cases hd:e.dir <;> simp [ef,hd]
 · have h4:aY t p≠4:=by
     unfold aY;repeat' split
     all_goals decide
   simp [h1,h4]
theorem ET {t:List Ent} {o:Opn} (ht:af t=true) (hp:ac o.path=true) (hk:o.kind=3):eI t o=if (ah t o.path).isNone then 2 else if ((ah t o.path).getD eZ).dir=true then 5 else 0:=by
 unfold eI;rw [cu (aW hp)];cases h:ah t o.path with
 | none=>rfl
 | some e=>
   simp only [Option.isNone_some,zAE,if_false,Option.getD_some,hk,true_and];by_cases hd:e.dir=true
   · simp [hd]
   · have hd':e.dir=false:=by simpa using hd
     have hkid:jY t o.path=[]:=AF ht ht hp (fun d hd2=>by rw [h] at hd2; cases hd2; exact hd') (fun _ _=>rfl);simp [hkid,hd']
theorem EU {t:List Ent} {p:Bs} (ht:af t=true) (hp:ac p=true):decide (0 < (jY t p).length)=t.any (fun e=>under e.path p):=by
 rw [zAI,decide_eq_true_eq,zAp];constructor
 · intro h;have hne:jY t p≠[]:=by intro h2; rw [h2] at h; simp at h
   rw [ne_eq,mC] at hne;simp only [ne_eq,Classical.not_forall,Decidable.not_not] at hne;obtain ⟨e,he,h2⟩:=hne;exact ⟨e,he,j6 (fy ht he).2.1 hp (.inl h2)⟩
 · rintro ⟨e,he,hu⟩;obtain ⟨k,h1,h2⟩:=EP ht hp e.path.length (zAM _) (iZ (bh ht) he) hu;apply Nat.pos_of_ne_zero;intro h3;exact mC.1 (List.length_eq_zero_iff.1 h3) k h1 h2
theorem yP {t:List Ent} {o:Opn} (ht:af t=true) (hp:ac o.path=true) (hk:o.kind=4):eI t o=if (ah t o.path).isNone then 2 else if ((ah t o.path).getD eZ).dir=false then 3 else if t.any (fun e=>under e.path o.path)=true then 6 else 0:=by
 unfold eI;rw [cu (aW hp)];cases h:ah t o.path with
 | none=>rfl
 | some e=>
   have h3:¬ (o.kind=3∧e.dir=true):=by omega
   simp only [if_neg h3,hk,true_and,Option.isNone_some,zAE,if_false,Option.getD_some]
   have:=EU ht hp
   by_cases hd:e.dir=true
   · rw [← this];simp [hd]
   · have hd':e.dir=false:=by simpa using hd
     simp [hd']
theorem AG {t:List Ent} {o:Opn} (hp:ac o.path=true) (hq:ac o.tgt=true):cz t o=if (ah t o.path).isNone then 2 else if aY t o.tgt≠0 then aY t o.tgt else if (ah t o.tgt).isSome then 4 else if under o.tgt o.path=true then 7 else if t.all (fun e=>(aK e.path o.path o.tgt).isSome)=true then 0 else 8:=by
 unfold cz;rw [cu (aW hp),cu (aW hq)]
abbrev ay (l:List Mrk):List Bs:=l.map (·.path)
theorem aE (e:Mrk) (t:List Mrk) (p:Bs):ag (e :: t) p=if e.path=p then some e else ag t p:=by
 unfold ag;rw [List.find?_cons];by_cases h:e.path=p <;> simp [h]
theorem dg {t:List Mrk} {p:Bs}:ag t p=none↔p ∉ ay t:=by
 unfold ag ay;rw [List.find?_eq_none];constructor
 · intro h hm;obtain ⟨e,he,rfl⟩:=List.mem_map.1 hm;exact absurd (h e he) (by simp)
 · intro h e he hp;exact h (List.mem_map.2 ⟨e,he,by simpa using hp⟩)
theorem sQ {t:List Mrk} {p:Bs} (h:p∈ay t):∃ e,ag t p=some e:=by
 cases he:ag t p with
 | some e=>exact ⟨e,rfl⟩
 | none=>exact absurd h (dg.1 he)
theorem eS:∀ {t:List Mrk} {e:Mrk},al (ay t)→e∈t→ag t e.path=some e
 | x :: t,e,hs,he=>by
   rw [aE];rcases List.mem_cons.1 he with rfl|he
   · rw [if_pos rfl]
   · have:x.path≠e.path:=mS (aM hs _ (List.mem_map.2 ⟨e,he,rfl⟩))
     rw [if_neg this];exact eS (aD hs) he
theorem yQ:∀ {t u:List Mrk},al (ay t)→al (ay u)→(∀ p,ag t p=ag u p)→t=u
 | [],[],_,_,_=>rfl
 | [],y :: s,_,_,h=>by have:=h y.path; rw [aE,if_pos rfl] at this; cases this
 | x :: r,[],_,_,h=>by have:=h x.path; rw [aE,if_pos rfl] at this; cases this
 | x :: r,y :: s,ht,hu,h=>by
   have hxy:x.path=y.path:=by
    have h1:=h x.path;have h2:=h y.path;rw [aE,if_pos rfl] at h1;rw [aE y,if_pos rfl] at h2;by_cases hp:x.path=y.path
    · exact hp
    · rw [aE,if_neg (Ne.symm hp)] at h1;rw [aE,if_neg hp] at h2;have g1:=bO h1.symm;have g2:=bO h2;have k1:=aM hu x.path (List.mem_map.2 ⟨x,g1.1,rfl⟩);have k2:=aM ht y.path (List.mem_map.2 ⟨y,g2.1,rfl⟩);rw [lO _ _ k1] at k2;cases k2
   have hxe:x=y:=by
    have h1:=h x.path;rw [aE,if_pos rfl,aE,if_pos hxy.symm] at h1;exact zAY h1
   subst hxe;congr 1
   refine yQ (aD ht) (aD hu) fun p=>?_;by_cases hp:x.path=p
   · subst hp;rw [dg.2 (dJ ht),dg.2 (dJ hu)]
   · have:=h p
     rwa [aE,if_neg hp,aE,if_neg hp] at this
theorem xb {t:List Mrk} (hs:al (ay t)) (e:Mrk) (p:Bs):ag (cX t e) p=if e.path=p then some e else ag t p:=by
 induction t with
 | nil=>rw [cX,aE]
 | cons x r ih=>
   have ih:=ih (aD hs);unfold cX;split
   · rename_i hl;rw [aE,ih,aE];by_cases h1:x.path=p
     · have:e.path≠p:=by rw [← h1]; exact fun h=>mS hl h.symm
       rw [if_pos h1,if_neg this,if_pos h1]
     · rw [if_neg h1,if_neg h1]
   · split
     · rename_i hp;rw [aE,aE];by_cases h1:e.path=p
       · rw [if_pos h1,if_pos h1]
       · rw [if_neg h1,if_neg h1,if_neg (by rw [hp]; exact h1)]
     · rw [aE]
theorem AH {t:List Mrk} {e:Mrk} {p:Bs}:p∈ay (cX t e)↔p=e.path∨p∈ay t:=by
 induction t with
 | nil=>simp [cX,ay]
 | cons x r ih=>
   unfold cX;split
   · simp only [ay,List.map_cons,List.mem_cons] at ih ⊢;rw [ih];constructor
     · rintro (h|h|h) <;> simp [h]
     · rintro (h|h|h) <;> simp [h]
   · split
     · rename_i hp;simp only [ay,List.map_cons,List.mem_cons,hp];constructor
       · rintro (h|h) <;> simp [h]
       · rintro (h|h|h) <;> simp [h]
     · simp [ay]
theorem jr {t:List Mrk} (hs:al (ay t)) (e:Mrk):al (ay (cX t e)):=by
 induction t with
 | nil=>simp [cX,ay,al]
 | cons x r ih=>
   have ih:=ih (aD hs);unfold cX;split
   · rename_i hl;refine List.pairwise_cons.2 ⟨fun b hb=>?_,ih⟩;rcases AH.1 hb with rfl|hb
     · exact hl
     · exact aM hs b hb
   · rename_i hl;split
     · rename_i hp;refine List.pairwise_cons.2 ⟨fun b hb=>?_,aD hs⟩;show lt e.path b=true
       rw [← hp];exact aM hs b hb
     · rename_i hp;have hlt:lt e.path x.path=true:=by
        rcases fu e.path x.path with h|h|h
        · exact h
        · exact absurd h.symm hp
        · exact absurd h hl
       refine List.pairwise_cons.2 ⟨fun b hb=>?_,hs⟩;rcases List.mem_cons.1 hb with rfl|hb
       · exact hlt
       · exact lt_trans _ _ _ hlt (aM hs b hb)
theorem nz {t:List Mrk} (hn:(ay t).Nodup) {q:Bs} {e:Mrk}:ag t q=some e↔e∈t∧e.path=q:=by
 constructor
 · exact bO
 · rintro ⟨h1,h2⟩
   induction t with
   | nil=>cases h1
   | cons x t ih=>
     have hn2:=List.nodup_cons.1 hn;rw [aE];rcases List.mem_cons.1 h1 with h1|h1
     · rw [← h1,if_pos h2]
     · rw [if_neg]
       · exact ih hn2.2 h1
       · intro h3;exact hn2.1 (by show x.path∈_; rw [h3,← h2]; exact List.mem_map.2 ⟨e,h1,rfl⟩)
theorem vF {S L U:List Mrk} (hp:S.Perm L) (hs:S.Pairwise fun a b=>lt b.path a.path=false) (hn:(ay L).Nodup) (hu:al (ay U)) (hat:∀ q,ag L q=ag U q):S=U:=by
 have hn2:(ay S).Nodup:=(hp.map _).nodup_iff.2 hn;have hss:al (ay S):=by
  unfold al ay;rw [zBE];have h1:=zBE.1 (List.nodup_iff_pairwise_ne.1 hn2);refine (h1.and hs).imp ?_;rintro a b ⟨h2,h3⟩;rcases fu a.path b.path with h|h|h
  · exact h
  · exact absurd h h2
  · rw [h] at h3; cases h3
 refine yQ hss hu fun q=>?_;rw [← hat];cases h:ag L q with
 | none=>
   refine dg.2 fun hm=>dg.1 h ?_;exact (hp.map _).mem_iff.1 hm
 | some e=>
   obtain ⟨h1,h2⟩:=(nz hn).1 h;exact (nz hn2).2 ⟨hp.mem_iff.2 h1,h2⟩
theorem xc {t:List Mrk} (h:al (ay t)) {i:Nat} {e:Mrk} (hi:t[i]?=some e):jl t e i=true:=by
 unfold jl
 match i,hi with
 | 0,_=>rfl
 | j+1,hi=>
   simp only;cases hj:t[j]? with
   | none=>rfl
   | some e'=>
     simp only;exact pG (i:=j) (j:=j+1) h (by simp [hj]) (by simp [hi]) (by omega)
theorem sR {l:List Mrk} (h:∀ m∈l,ac m.path=true) {p:Bs} (hp:ac p=true):jX l p=bare l p:=by
 unfold jX bare;rw [zAI,zAp,zAp];constructor
 · rintro ⟨m,hm,h1⟩;exact ⟨m,hm,by simpa [bC,hp,h m hm] using h1⟩
 · rintro ⟨m,hm,h1⟩;exact ⟨m,hm,by simpa [bC,hp,h m hm] using h1⟩
theorem B8 {l:List Mrk} {p:Bs}:inM l p=true↔ae p=[47]∨∃ d,ag l (ae p)=some d∧cN d=true:=by
 unfold inM;rw [zAe,decide_eq_true_eq];refine or_congr Iff.rfl ?_;cases ag l (ae p) with
 | none=>simp [kJ]
 | some d=>simp [kJ]
theorem cB {l:List Mrk}:ax l=true↔l.length≤32∧al (ay l)∧∀ m∈l,ci m=true∧(ae m.path=[47]∨∃ d,ag l (ae m.path)=some d∧cN d=true)∧(2 < m.kind→bare l m.path=false):=by
 constructor
 · intro h;have hk:=wY h;refine ⟨yE h,lT h,?_⟩;rw [← lS] at h;unfold lR at h;rw [zAC,bN] at h;intro e he;obtain ⟨i,hi⟩:=List.mem_iff_getElem?.1 he
   have:=h.2 i (List.getElem?_eq_some_iff.1 hi).1
   simp only [nr,hi,zAC] at this;obtain ⟨⟨⟨h1,h2⟩,h3⟩,h4⟩:=this;refine ⟨h1,B8.1 h3,fun h5=>?_⟩;rw [sR (fun m hm=>eQ (hk m hm)) (eQ h1)] at h4;simpa [h5] using h4
 · rintro ⟨h1,h2,h3⟩;refine mU h1 fun i hi=>?_;have he:l[i]?=some l[i]:=zAB hi;obtain ⟨g1,g2,g3⟩:=h3 l[i] (zAb hi);simp only [nr,he,zAC];refine ⟨⟨⟨g1,xc h2 he⟩,B8.2 g2⟩,?_⟩;rw [sR (fun m hm=>eQ (h3 m hm).1) (eQ g1)];by_cases h5:2 < l[i].kind
   · rw [g3 h5]; simp
   · simp [h5]
theorem js {l:List Mrk} (h:ax l=true) {p:Bs} {m:Mrk} (hm:ag l p=some m):ci m=true∧m.path=p∧ac p=true∧(ae p=[47]∨∃ d,ag l (ae p)=some d∧cN d=true)∧(2 < m.kind→bare l p=false):=by
 obtain ⟨h1,rfl⟩:=bO hm;obtain ⟨_,_,h3⟩:=cB.1 h;obtain ⟨g1,g2,g3⟩:=h3 m h1;exact ⟨g1,rfl,eQ g1,g2,g3⟩
theorem de {m:Mrk} (h:ci m=true):(m.kind=1∨m.kind=2∨m.kind=3∨m.kind=4)∧ac m.path=true∧cy m.data=true∧(m.kind≠1→m.data=[]):=by
 simp only [ci,zAC,decide_eq_true_eq] at h;obtain ⟨⟨⟨h1,h2⟩,h3⟩,h4⟩:=h;refine ⟨by omega,h3,?_,fun hk=>?_⟩
 · split at h4
   · exact h4
   · rw [of_decide_eq_true h4]; rfl
 · rw [if_neg hk] at h4;exact of_decide_eq_true h4
theorem j8 {p d:Bs} {k:Int} (hk:k=1∨k=2∨k=3∨k=4) (hp:ac p=true) (hd:cy d=true) (hd2:k≠1→d=[]):ci ⟨p,k,d⟩=true:=by
 rcases hk with rfl|rfl|rfl|rfl
 · simp [ci,hp,hd]
 all_goals simp [ci,hp,hd2 (by decide)]
theorem bx {l:List Mrk} (h:ax l=true):al (ay l):=lT h
theorem i6 {m:Mrk}:cN m=true↔m.kind=2∨m.kind=4:=by simp [cN]
def bI (l:List Mrk) (p:Bs):Bool:=l.any fun m=>decide (m.kind≠2) && inP p m.path
theorem C9 {l:List Mrk} {p:Bs}:bI l p=true↔∃ m∈l,m.kind≠2∧inP p m.path=true:=by
 unfold bI;rw [zAp]
 simp
theorem cO {l:List Mrk} (hs:al (ay l)) {p:Bs}:bI l p=true↔∃ q m,ag l q=some m∧m.kind≠2∧inP p q=true:=by
 rw [C9];constructor
 · rintro ⟨m,h1,h2,h3⟩;exact ⟨m.path,m,eS hs h1,h2,h3⟩
 · rintro ⟨q,m,h1,h2,h3⟩;obtain ⟨h4,rfl⟩:=bO h1;exact ⟨m,h4,h2,h3⟩
theorem yR {p a q:Bs} (ha:ac a=true) (hq:ac q=true) (h1:inP a q=true) (h2:under p a=true):under p q=true:=by
 rcases bY.1 h1 with rfl|h
 · exact h2
 · exact jq ha hq h2 (.inr h)
theorem nA {l:List Mrk} (h:ax l=true) {p a:Bs} (ha:ac a=true) (hu:under p a=true) (hh:bI l a=true):bI l p=true:=by
 rw [cO (bx h)] at hh ⊢;obtain ⟨q,m,h1,h2,h3⟩:=hh;exact ⟨q,m,h1,h2,bY.2 (.inr (yR ha (js h h1).2.2.1 h3 hu))⟩
theorem ic {p:Bs} (hp:ac p=true) (hr:ae p≠[47]):ac (ae p)=true∧under p (ae p)=true:=by
 have h1:=((g9 hp).resolve_left hr).1;exact ⟨h1,j6 hp h1 (.inl rfl)⟩
def be (m:Mrk):Option Ent:=if m.kind=3 then none else some ⟨m.path,cN m,m.data⟩
def onL (l:List Mrk) (t:List Ent):List Ent:=cb (t.filter fun e=>!bI l e.path) (l.filterMap be)
def lW (l:List Mrk) (t:List Ent) (p:Bs):Option Ent:=match ag l p with
 | some m=>be m
 | none=>if bI l p then none else ah t p
def aP (l:List Mrk) (t:List Ent):Option (List Ent):=if ax l=true∧af t=true∧(onL l t).length≤16 then some (onL l t) else none
theorem nB (f:Bs→Bool) (q:Bs):∀ t:List Ent,ah (t.filter fun e=>f e.path) q=if f q=true then ah t q else none
 | []=>by simp [ah]
 | e :: t=>by
   have ih:=nB f q t;rw [List.filter_cons];by_cases hq:e.path=q
   · subst hq;by_cases hf:f e.path=true
     · rw [if_pos hf,if_pos hf,aF,aF,if_pos rfl,if_pos rfl]
     · rw [if_neg hf,if_neg hf,ih,if_neg hf]
   · by_cases hf:f e.path=true
     · rw [if_pos hf,aF,if_neg hq,ih,aF,if_neg hq]
     · rw [if_neg hf,ih,aF,if_neg hq]
theorem gi {m:Mrk} {e:Ent} (h:be m=some e):e.path=m.path:=by
 unfold be at h;split at h
 · cases h
 · cases h; rfl
theorem pO:∀ {l:List Mrk},al (ay l)→∀ q,ah (l.filterMap be) q=(ag l q).bind be
 | [],_,q=>rfl
 | m :: r,hs,q=>by
   have ih:=pO (l:=r) (aD hs) q;rw [List.filterMap_cons,aE];by_cases hq:m.path=q
   · rw [if_pos hq,Option.bind_some];cases hm:be m with
     | none=>
       simp only;rw [ih,dg.2 (by rw [← hq]; exact dJ hs)];rfl
     | some e=>
       simp only;rw [aF,if_pos (by rw [gi hm]; exact hq)]
   · rw [if_neg hq];cases hm:be m with
     | none=>exact ih
     | some e=>
       simp only;rw [aF,if_neg (by rw [gi hm]; exact hq)];exact ih
theorem lp {l:List Mrk} (hs:al (ay l)):(aq (l.filterMap be)).Nodup:=by
 induction l with
 | nil=>simp
 | cons m r ih=>
   have ih:=ih (aD hs);rw [List.filterMap_cons];cases hm:be m with
   | none=>exact ih
   | some e=>
     simp only;refine List.nodup_cons.2 ⟨fun hmem=>?_,ih⟩;obtain ⟨x,hx,h1⟩:=List.mem_map.1 hmem;obtain ⟨y,hy,h2⟩:=List.mem_filterMap.1 hx;have h3:=aM hs y.path (List.mem_map.2 ⟨y,hy,rfl⟩);have h4:m.path=y.path:=(gi hm).symm.trans (h1.symm.trans (gi h2));exact absurd h4 (mS h3)
theorem nC {t:List Ent} (h:al (aq t)) (f:Ent→Bool):al (aq (t.filter f)):=by
 unfold al aq at h ⊢;rw [zBE] at h ⊢;exact h.filter _
theorem xd {l:List Mrk} {t:List Ent} (ht:al (aq t)):al (aq (onL l t)):=gV (nC ht _)
theorem xe {l:List Mrk} {t:List Ent} (hl:al (ay l)) (ht:al (aq t)) (p:Bs):ah (onL l t) p=lW l t p:=by
 unfold onL lW;rw [pM (nC ht _) (lp hl),pO hl,nB (fun q=>!bI l q)];cases hm:ag l p with
 | none=>
   simp only [Option.bind_none,zBG];cases bI l p <;> simp
 | some m=>
   simp only [Option.bind_some];cases he:be m with
   | some e=>rfl
   | none=>
     have hk:m.kind=3:=by
      unfold be at he;split at he
      · assumption
      · cases he
     have hh:bI l p=true:=(cO hl).2 ⟨p,m,hm,by omega,bY.2 (.inl rfl)⟩;simp [hh]
theorem AJ {m:Mrk} {e:Ent} (hm:ci m=true) (he:be m=some e):ew e=true∧e.dir=cN m:=by
 obtain ⟨h1,h2,h3,h4⟩:=de hm;unfold be at he;split at he
 · cases he
 · cases he;refine ⟨oG h2 h3 fun hd=>h4 ?_,rfl⟩;rcases i6.1 hd with h|h <;> omega
theorem jt {d:Mrk} (hd:cN d=true):be d=some ⟨d.path,true,d.data⟩:=by
 have:d.kind≠3:=by rcases i6.1 hd with h|h <;> omega
 rw [be,if_neg this,hd]
theorem G3 {l:List Mrk} {t:List Ent} (hl:ax l=true) (ht:af t=true) (hn:(onL l t).length≤16):af (onL l t)=true:=by
 refine vA hn (xd (bh ht)) fun p e he=>?_;simp only [xe (bx hl) (bh ht)] at he ⊢;unfold lW at he;cases hm:ag l p with
 | some m=>
   rw [hm] at he;obtain ⟨h1,h2,h3,h4,_⟩:=js hl hm;refine ⟨(AJ h1 he).1,h4.imp id ?_⟩;rintro ⟨d,d1,d2⟩;refine ⟨⟨d.path,true,d.data⟩,?_,rfl⟩;unfold lW;rw [d1];exact jt d2
 | none=>
   rw [hm] at he;simp only at he;cases hh:bI l p with
   | true=>rw [hh] at he; cases he
   | false=>
     rw [hh] at he;simp only [zAE,if_false] at he;obtain ⟨h1,h2,h3,h4⟩:=en ht he;refine ⟨h1,?_⟩;by_cases hr:ae p=[47]
     · exact .inl hr
     · right;obtain ⟨d,d1,d2⟩:=h4.resolve_left hr;obtain ⟨u1,u2⟩:=ic h3 hr;unfold lW;cases hmu:ag l (ae p) with
       | some m=>
         have hk:m.kind=2:=by
          apply Decidable.byContradiction;intro hk
          have:bI l p=true:=(cO (bx hl)).2 ⟨ae p,m,hmu,hk,bY.2 (.inr u2)⟩
          rw [hh] at this;cases this
         exact ⟨_,jt (i6.2 (.inl hk)),rfl⟩
       | none=>
         have:bI l (ae p)=false:=by
          rw [← zAa];intro h5;rw [nA hl u1 u2 h5] at hh;cases hh
         simp only [this];exact ⟨d,by simpa using d1,d2⟩
theorem co {l:List Mrk} {t u:List Ent} (h:aP l t=some u):ax l=true∧af t=true∧af u=true∧∀ p,ah u p=lW l t p:=by
 unfold aP at h;split at h
 · rename_i hc;cases h;exact ⟨hc.1,hc.2.1,G3 hc.1 hc.2.1 hc.2.2,xe (bx hc.1) (bh hc.2.1)⟩
 · cases h
theorem sS {l:List Mrk} {t u:List Ent} (hl:ax l=true) (ht:af t=true) (hu:af u=true) (h:∀ p,lW l t p=ah u p):aP l t=some u:=by
 have e:onL l t=u:=w6 (xd (bh ht)) (bh hu) fun p=>by rw [xe (bx hl) (bh ht)]; exact h p
 unfold aP;rw [e,if_pos ⟨hl,ht,az hu⟩]
end Go.Par
namespace Go.Ab
open Go Go.RowKit Go.Proofs Go.Sort
section
variable {α:Type} {enc:α→List Value} {c:α→List D} {k:Nat}
theorem j9 (hv:∀ x,(enc x).length=k) (ls:List α):(ls.flatMap enc).length=ls.length * k:=by
 induction ls with
 | nil=>simp
 | cons x r ih=>rw [List.flatMap_cons,zAL,hv,ih,List.length_cons,Nat.succ_mul,Nat.add_comm]
theorem oK (hv:∀ x,(enc x).length=k):∀ (ls:List α) (i j:Nat),j < k→(ls.flatMap enc)[i * k+j]?=(ls[i]?).bind fun x=>(enc x)[j]?
 | [],i,j,_=>by simp
 | x :: r,0,j,hj=>by
   rw [List.flatMap_cons,Nat.zero_mul,zBI,zAT (by rw [hv]; exact hj)];rfl
 | x :: r,i+1,j,hj=>by
   have ih:=oK hv r i j hj;rw [List.flatMap_cons,zAU (by rw [hv,Nat.succ_mul]; omega),hv];have e:(i+1) * k+j - k=i * k+j:=by rw [Nat.succ_mul]; omega
   rw [e,ih];rfl
theorem sT [Inhabited α] (hv:∀ x,(enc x).length=k) (hk:0 < k) (ls:List α):(flatK enc k ls.toArray).toList=ls.flatMap enc:=by
 refine zBN fun t=>?_;by_cases ht:t < ls.length * k
 · have hi:t / k < ls.length:=Nat.div_lt_of_lt_mul (by rw [Nat.mul_comm]; exact ht);have hj:t % k < k:=Nat.mod_lt _ hk;have hz:t < (flatK enc k ls.toArray).size:=by simpa using ht
   have e:t=t / k * k+t % k:=(Nat.div_add_mod' t k).symm;have hR:(ls.flatMap enc)[t]?=some ((enc ls[t / k])[t % k]'(by rw [hv]; exact hj)):=by
    conv=>lhs; rw [e]
    rw [oK hv _ _ _ hj,zAB hi];exact zAB (by rw [hv]; exact hj)
   rw [hR,zBM,zBh hz];have h1:=get_flatK enc k ls.toArray t (by simpa using ht);rw [getElem!_pos _ t hz] at h1;rw [h1];congr 1
   have h2:ls.toArray[t / k]! = ls[t / k]:=by rw [getElem!_pos _ (t / k) (by simpa using hi)]; rfl
   rw [h2,getElem!_pos _ (t % k) (by rw [hv]; exact hj)]
 · rw [List.getElem?_eq_none (by simpa using ht),List.getElem?_eq_none (by rw [j9 hv]; omega)]
structure vG (enc:α→List Value) (c:α→List D) (k:Nat):Prop where
 len:∀ x,(enc x).length=k
 lenD:∀ x,(c x).length=k
 one:∀ x,∀ u∈enc x,u.oneCell'=true
 rel:∀ (w:World) (Av:Nat→Prop) (x:α) (j:Nat) (d:D),(c x)[j]?=some d→∃ u,(enc x)[j]?=some u∧VI w Av d u
 inv:∀ (w:World) (Av:Nat→Prop) (x:α) (j:Nat) (d:D) (u:Value),(c x)[j]?=some d→VI w Av d u→(enc x)[j]?=some u
variable {w:World} {Av:Nat→Prop}
theorem G4 (h:vG enc c k) (ls:List α):Rows (VI w Av) k (ls.map c) (ls.flatMap enc):=by
 refine ⟨by rw [j9 h.len,zAA],fun cs hcs=>?_,fun u hu=>?_,fun i j cs d hc hd'=>?_⟩
 · obtain ⟨l,_,rfl⟩:=List.mem_map.1 hcs;exact h.lenD l
 · obtain ⟨l,_,hl⟩:=List.mem_flatMap.1 hu;exact h.one l u hl
 · simp only [zAQ,Option.map_eq_some_iff] at hc;obtain ⟨l,hl',rfl⟩:=hc;have hj:j < k:=by
    rw [← h.lenD l];exact (List.getElem?_eq_some_iff.1 hd').1
   obtain ⟨u,hu,hv⟩:=h.rel w Av l j d hd';exact ⟨u,by rw [oK h.len _ _ _ hj,hl']; exact hu,hv⟩
theorem G5 (h:vG enc c k) (hk:0 < k) {ls:List α} {us:List Value} (hr:Rows (VI w Av) k (ls.map c) us):us=ls.flatMap enc:=by
 have hl:us.length=ls.length * k:=by have:=hr.len; simpa using this
 refine zBN fun t=>?_;by_cases ht:t < ls.length * k
 · have hi:t / k < ls.length:=Nat.div_lt_of_lt_mul (by rw [Nat.mul_comm]; exact ht);have hj:t % k < k:=Nat.mod_lt _ hk;have e:t=t / k * k+t % k:=(Nat.div_add_mod' t k).symm;have hd:(c ls[t / k])[t % k]?=some ((c ls[t / k])[t % k]'(by rw [h.lenD]; exact hj)):=zAB _;obtain ⟨u,hu,hv⟩:=hr.at_ (t / k) (t % k) (c ls[t / k]) _ (by rw [zAQ,zAB hi]; rfl) hd;have h1:=h.inv w Av _ _ _ _ hd hv;rw [e,hu,oK h.len _ _ _ hj,zAB hi];exact h1.symm
 · rw [List.getElem?_eq_none (by omega),List.getElem?_eq_none (by rw [j9 h.len]; omega)]
end
theorem Da (d:Array Value) (c:Array Value):(Sort.putCells id 0 d c).size=c.size:=by simp [Sort.putCells]
theorem Db (zs:List Value) (c:Array Value) (h:zs.length≤c.size):(Sort.putCells id 0 zs.toArray c).toList.take zs.length=zs:=by
 refine zBN fun i=>?_;by_cases hi:i < zs.length
 · rw [List.getElem?_take_of_lt hi,zBM];unfold Sort.putCells;rw [Array.getElem?_mapIdx,zBh (by omega),zAB hi];simp only [Option.map_some];rw [if_pos ⟨zAG _,by simpa using hi⟩];simp [hi]
 · rw [List.getElem?_eq_none_iff.2 (by simp; omega),List.getElem?_eq_none_iff.2 (by omega)]
theorem FU {w:World} {g n:Nat} {d:Array Value} {cur:Array Value} {e:TypeId} {fz:Nat × Nat} (os:Array Obj) (h:w.heap[g]?=some (.cells cur e fz)) :
   (Sort.grow (Sort.putRow id (Sort.ahead w n) g 0 d) os).heap[g]?=some (.cells (Sort.putCells id 0 d cur) e fz):=by
 have hg:g < w.heap.size:=by
  by_cases hg:g < w.heap.size
  · exact hg
  · rw [Array.getElem?_eq_none (by omega)] at h; cases h
 have h1:(Sort.putRow id (Sort.ahead w n) g 0 d).heap[g]?=some (.cells (Sort.putCells id 0 d cur) e fz):=by
  simp only [Sort.putRow,Sort.mapBlock,Sort.ahead,Array.getElem?_modify,if_true,h,Option.map_some,Sort.onCells]
 have h2:(Sort.putRow id (Sort.ahead w n) g 0 d).heap.size=w.heap.size:=by simp [Sort.putRow,Sort.mapBlock,Sort.ahead]
 simp only [Sort.grow];rw [zBe (by rw [h2]; exact hg),h1]
theorem FV {w:World} {g n:Nat} {d:Array Value} (os:Array Obj) {F:Nat→Prop} (hF:F g):Fr F w (Sort.grow (Sort.putRow id (Sort.ahead w n) g 0 d) os):=by
 have h2:(Sort.putRow id (Sort.ahead w n) g 0 d).heap.size=w.heap.size:=by simp [Sort.putRow,Sort.mapBlock,Sort.ahead]
 refine ⟨rfl,rfl,rfl,by simp only [Sort.grow,Array.size_append,h2]; omega,fun k hk hn=>?_⟩;have hne:g≠k:=by rintro rfl; exact hn hF
 simp only [Sort.grow];rw [zBe (by rw [h2]; exact hk)];simp only [Sort.putRow,Sort.mapBlock,Sort.ahead,Array.getElem?_modify,hne,if_false]
theorem FW {w:World} {g:Nat} {cur:Array Value} {e:TypeId} {F:Array Value} (h:w.heap[g]?=some (.cells cur e (0,0))) (ht:cur.toList.take F.size=F.toList):Sort.Holds id w g 0 F:=by
 intro j hj;have h1:cur[j]?=some F[j]! := by
  have this:(cur.toList.take F.size)[j]?=(F.toList)[j]?:=by rw [ht]
  rw [List.getElem?_take_of_lt hj,zBM,zBM] at this;rw [this,getElem!_pos _ j hj];exact zBh hj
 refine ⟨?_,?_⟩
 · simp only [World.cell?,h];simp [h1]
 · simp [World.frozen?,h]
theorem VA.fn_inv {w:World} {Av:Nat→Prop} {ρ:Nat→Option Value} {g:FuncId} {v:Value} (h:VA w Av ρ (.fn g []) v):v=.func (.func g) #[] #[]:=by
 cases h with
 | im h=>cases h; rfl
 | fn hl hh=>
   rename_i us;cases us with
   | nil=>rfl
   | cons a b=>simp at hl
section
variable {E:Env} {f:FuncId} {α:Type} [Inhabited α] {enc:α→List Value} {c:α→List D} {k:Nat}
theorem Dc {et:TypeId} {ls ls':List α} {td:List D} {tv:List Value} (hT:∀ (w:World) (Av:Nat→Prop) (ρ:Nat→Option Value) (vs:List Value),td.length=vs.length→(∀ (i:Nat) (d:D) (u:Value),td[i]?=some d→vs[i]?=some u→VG w Av ρ d u)→vs=tv)
   (h:vG enc c k) (hk:0 < k) (hce:E.P.cellsOf et=k) (hf:gX E.P f) (hlen:ls'.length=ls.length)
   (h0:ls=[]→∀ (w:World),Calls E.P f (.slice none 0 0 :: tv).toArray w fun e w'=>e=.returned (.tuple #[])∧w'=w)
   (h1:∀ (b cap:Nat) (w:World),HoldsK enc k w b 0 ls.toArray→b < w.heap.size→Calls E.P f (.slice (some ⟨b,0,none⟩) ls.length cap :: tv).toArray w fun e w'=>e=.returned (.tuple #[])∧∃ n os,w'=sortWorldK enc k w b 0 n ls'.toArray os) :
   Con E f 1 (.own 0 :: td) [(0,.own et (ls.map c))] (.tup []) [(0,.own et (ls'.map c))]:=by
 refine ⟨hf,fun w vs ρ G hl hG hGh ha hs hdis hd hg=>?_⟩
 match vs,hl,ha with
 | v0 :: vs,hl,ha=>
   have hv1:nmv ρ 0=some v0:=by
    cases ha 0 (.own 0) v0 rfl rfl with
    | atom h=>
      cases h with
      | im h=>cases h
      | own h _=>exact h
   obtain rfl:=hT _ _ _ vs (by simpa using hl) (fun i d u h1 h2=>ha (i+1) d u (by simpa using h1) (by simpa using h2));obtain ⟨u,us,hu,ho,hr⟩:=hs 0 _ rfl;rw [dd hu (cw ho)] at hv1;obtain rfl:=zAY hv1;have hv0:=hu;rw [hce] at ho hr;obtain rfl:=G5 h hk hr;obtain ⟨ho1,ho2⟩:=ho;have lk0:∀ (t:Nat) (b:Blk) (zs:List α),lk [(0,Blk.own et (zs.map c))] t=some b→t=0∧b=.own et (zs.map c):=by
    intro t b zs hb;rw [ak] at hb;split at hb
    · rename_i ht; cases hb; exact ⟨ht.symm,rfl⟩
    · simp [lk] at hb
   have hd1:Dis [(0,Blk.own et (ls'.map c))] ρ:=fun t t' b b' x hb hb' _ _ _ _=>by rw [(lk0 _ _ _ hb).1,(lk0 _ _ _ hb').1]
   have hh:∀ x,eW [(0,Blk.own et (ls'.map c))] ρ x→w.heap.size≤x∨eW [(0,Blk.own et (ls.map c))] ρ x:=by
    rintro x ⟨t,b,hb,_,hx⟩;obtain ⟨rfl,rfl⟩:=lk0 _ _ _ hb;exact .inr ⟨0,_,rfl,rfl,hx⟩
   rcases ho2 with ⟨rfl,hn⟩|⟨b,cap,cur,rfl,hb0,hgc,hnc,hcm,hcs,htk⟩
   · have hls:ls=[]:=by simpa using hn
     subst hls;obtain rfl:ls'=[]:=List.length_eq_zero_iff.1 hlen;refine (h0 rfl w).mono ?_;rintro e w' ⟨he,rfl⟩;exact ⟨_,ρ,he,.tup (ds:=[]) (us:=[]) rfl (fun i d u h=>by simp at h),hs,hd1,hh,fun _ u _ h=>⟨u,h,.refl u⟩,Fr.refl _ _⟩
   · simp only [zAA] at hcs htk hnc;have hlt:b < w.heap.size:=by
      by_cases hlt:b < w.heap.size
      · exact hlt
      · rw [Array.getElem?_eq_none (by omega)] at hgc; cases hgc
     have hF1:(flatK enc k ls.toArray).toList=ls.flatMap enc:=sT h.len hk ls;have hFs:(flatK enc k ls.toArray).size=ls.length * k:=by simp
     have hholds:HoldsK enc k w b 0 ls.toArray:=FW hgc (by rw [hF1,hFs]; exact htk);have hcall:=h1 b cap w hholds hlt;rw [zAA] at hv0 hu;simp only [zAA];refine hcall.mono ?_;rintro e w' ⟨he,n,os,rfl⟩;have hF:eW [(0,Blk.own et (ls.map c))] ρ b:=⟨0,_,rfl,rfl,by rw [hv0]; rfl⟩;have hF2:(flatK enc k ls'.toArray).toList=ls'.flatMap enc:=sT h.len hk ls';have hFa:flatK enc k ls'.toArray=(ls'.flatMap enc).toArray:=by rw [← hF2]
     refine ⟨_,ρ,he,.tup (ds:=[]) (us:=[]) rfl (fun i d u h=>by simp at h),fun t b' hb=>?_,hd1,hh,fun _ u _ h=>⟨u,h,.refl u⟩,FV os hF⟩;obtain ⟨rfl,rfl⟩:=lk0 _ _ _ hb;refine ⟨_,ls'.flatMap enc,hv0,?_,by rw [hce]; exact G4 h ls'⟩;rw [hce];refine ⟨by rw [j9 h.len,zAA],.inr ⟨b,cap,Sort.putCells id 0 (flatK enc k ls'.toArray) cur,by simp [hlen],zAG _,FU os hgc,by simp [hlen]; exact hnc,hcm,by rw [Da,hcs],?_⟩⟩;rw [zAA];have hle:(ls'.flatMap enc).length≤cur.size:=by
      rw [j9 h.len,hlen,hcs];exact zAc k hnc
     have:=Db (ls'.flatMap enc) cur hle
     rw [j9 h.len] at this;rw [hFa];exact this
theorem yS {et:TypeId} {g:FuncId} {ls ls':List α} (h:vG enc c k) (hk:0 < k) (hce:E.P.cellsOf et=k) (hf:gX E.P f) (hlen:ls'.length=ls.length)
   (h0:ls=[]→∀ (w:World),Calls E.P f #[.slice none 0 0,.func (.func g) #[] #[]] w fun e w'=>e=.returned (.tuple #[])∧w'=w)
   (h1:∀ (b cap:Nat) (w:World),HoldsK enc k w b 0 ls.toArray→b < w.heap.size→Calls E.P f #[.slice (some ⟨b,0,none⟩) ls.length cap,.func (.func g) #[] #[]] w fun e w'=>e=.returned (.tuple #[])∧∃ n os,w'=sortWorldK enc k w b 0 n ls'.toArray os) :
   Con E f 1 [.own 0,.fn g []] [(0,.own et (ls.map c))] (.tup []) [(0,.own et (ls'.map c))]:=
 Dc (tv:=[.func (.func g) #[] #[]]) (fun _ _ _ vs hl ha=>by
  match vs,hl,ha with
  | [v1],_,ha=>
    cases ha 0 (.fn g []) v1 rfl rfl with
    | atom h=>rw [VA.fn_inv h]) h hk hce hf hlen h0 h1
end
end Go.Ab
namespace Go.Ab
open Go Go.RowKit
theorem yT (m:Mv) (r:List Mv) (tm:Tm) (S:ab) (nx:Nat):mvs (m :: r) tm S nx=match mv m tm S nx with
 | some (tm,S,nx)=>mvs r tm S nx
 | none=>none:=rfl
theorem B9:∀ (a b:List Mv) (tm:Tm) (S:ab) (nx:Nat),mvs (a++b) tm S nx=match mvs a tm S nx with
   | some (tm,S,nx)=>mvs b tm S nx
   | none=>none
 | [],b,tm,S,nx=>rfl
 | m :: r,b,tm,S,nx=>by
   rw [zAm,yT,yT];cases mv m tm S nx with
   | none=>rfl
   | some x=>
     obtain ⟨tm1,S1,nx1⟩:=x;exact B9 r b tm1 S1 nx1
def xf:List Mv→(List Mv→Prop)→Prop
 | [],k=>k []
 | n :: r,k=>xf r fun r'=>k (n :: r')
theorem vH:∀ (l:List Mv) (k:List Mv→Prop),xf l k=k l
 | [],_=>rfl
 | n :: r,k=>by rw [xf,vH r]
def EV (n:Nat):Nat→List D→List Mv
 | _,[]=>[]
 | i,d :: r=>match uN d with
   | true=>.thawB n i 0 :: EV n (i+1) r
   | false=>EV n (i+1) r
def vI (tm:Tm) (S:ab):List ResultVar→List Mv
 | []=>[]
 | .cell a _ :: r=>match lk tm a with
   | some (.bp n _)=>match lk S n with
     | some (.box _ cs)=>EV n 0 cs++vI tm S r
     | _=>vI tm S r
   | _=>vI tm S r
 | _ :: r=>vI tm S r
def sU (tm:Tm) (S:ab):List ResultVar→List Nat→List Nat
 | [],ns=>ns
 | .tmp t :: r,ns=>match lk tm t with
   | some d=>sU tm S r (bv ns (nmD d))
   | none=>sU tm S r ns
 | .cell a _ :: r,ns=>match lk tm a with
   | some (.bp n _)=>match lk S n with
     | some (.box _ cs)=>sU tm S r (bv ns (kv cs))
     | _=>sU tm S r ns
   | _=>sU tm S r ns
def mvK:List Mv→Tm→ab→Nat→(Tm→ab→Nat→Prop)→Prop
 | [],tm,S,nx,k=>k tm S nx
 | m :: r,tm,S,nx,k=>match mv m tm S nx with
   | some (tm',S',nx')=>fS S' fun S''=>mvK r tm' S'' nx' k
   | none=>False
theorem pP:∀ {ms:List Mv} {tm:Tm} {S:ab} {nx:Nat} {k:Tm→ab→Nat→Prop},mvK ms tm S nx k→∃ tm1 S1 nx1,mvs ms tm S nx=some (tm1,S1,nx1)∧k tm1 S1 nx1
 | [],tm,S,nx,k,h=>⟨tm,S,nx,rfl,h⟩
 | m :: r,tm,S,nx,k,h=>by
   unfold mvK at h;split at h
   · rename_i tm' S' nx' hm;rw [BZ] at h;obtain ⟨tm1,S1,nx1,h1,h2⟩:=pP h;refine ⟨tm1,S1,nx1,?_,h2⟩;simp only [mvs,hm];exact h1
   · exact h.elim
theorem fz {E:Env} {k0:Nat} {rv:List ResultVar} {d:D} {S':ab} {tm:Tm} {S:ab} {nx:Nat}
   (h:xf (vI tm S rv) fun ts=>mvK ts tm S nx fun tm0 S0 nx0=>ji (sU tm0 S0 rv []) fun ls=>mvK (jQ k0 S0 ls) tm0 S0 nx0 fun tm1 S1 _=>lE E tm1 S1 rv fun ds=>ji (bv (bo 0 k0) (dk ds)) fun n0=>gL S1 16 n0 n0 fun ns=>cI ns=true∧lD 0 k0 ns=true∧rb ns (jC ds)=some d∧iy ns S1 ns 0=S'):nZ E k0 rv d S' tm S nx:=by
 rw [vH] at h;obtain ⟨tm0,S0,nx0,hm0,h⟩:=pP h;rw [eP] at h;obtain ⟨tm1,S1,nx1,hm,h⟩:=pP h;simp only [eP,eD] at h;obtain ⟨ds,h1,h2⟩:=gJ h;refine ⟨vI tm S rv++jQ k0 S0 (sU tm0 S0 rv []),bw S1 16 (bv (bo 0 k0) (dk ds)) (bv (bo 0 k0) (dk ds)),?_⟩;rw [B9,hm0];simp only;rw [hm];exact h2 _ h1
theorem fw (ms:List Mv) {E:Env} {k0:Nat} {rv:List ResultVar} {d:D} {S':ab} {tm:Tm} {S:ab} {nx:Nat}
   (h:mvK ms tm S nx fun tm1 S1 _=>lE E tm1 S1 rv fun ds=>ji (bv (bo 0 k0) (dk ds)) fun n0=>gL S1 16 n0 n0 fun ns=>cI ns=true∧lD 0 k0 ns=true∧rb ns (jC ds)=some d∧iy ns S1 ns 0=S'):nZ E k0 rv d S' tm S nx:=by
 obtain ⟨tm1,S1,nx1,hm,h⟩:=pP h;simp only [eP,eD] at h;obtain ⟨ds,h1,h2⟩:=gJ h;refine ⟨ms,bw S1 16 (bv (bo 0 k0) (dk ds)) (bv (bo 0 k0) (dk ds)),?_⟩;rw [hm];exact h2 _ h1
theorem lw (ms:List Mv) {k0:Nat} {tm:Tm} {S:ab} {nx:Nat} {J:Tm→ab→Nat→Prop} (ts:List Nat)
   (h:mvK ms tm S nx fun tm1 S1 _=>su tm1 ts (bo 0 k0) fun n0=>gL S1 16 n0 n0 fun ns=>cI ns=true∧lD 0 k0 ns=true∧J (lC ns tm1 ts) (iy ns S1 ns 0) ns.length):jg k0 tm S nx J:=by
 obtain ⟨tm1,S1,nx1,hm,h⟩:=pP h;simp only [lM,eD] at h;refine ⟨ms,ts,bw S1 16 (fV tm1 ts (bo 0 k0)) (fV tm1 ts (bo 0 k0)),?_⟩;rw [hm];exact h
theorem mw (ms:List Mv) {E:Env} {k0:Nat} {c:Code} {tm:Tm} {S:ab} {nx:Nat} {Q:Ex→Tm→ab→Nat→Prop} (h:mvK ms tm S nx fun tm1 S1 nx1=>Cd E k0 c tm1 S1 nx1 Q):Cd E k0 c tm S nx Q:=by
 obtain ⟨tm1,S1,nx1,hm,h⟩:=pP h;refine Cd.moves ms ?_;rw [hm];exact h
theorem Rz {P:Prop} (h:P:=by
 first|refine ai.here (fz ?_)|refine fz ?_
 conv=>whnf
 first
  | exact ⟨rfl,rfl,rfl,rfl⟩
  | refine ⟨rfl,rfl,congrArg some (congrArg D.s ?_),rfl⟩
  | refine ⟨rfl,rfl,congrArg some (congrArg D.b ?_),rfl⟩
  | refine ⟨rfl,rfl,congrArg some (congrArg (D.k _) ?_),rfl⟩
  | refine ⟨rfl,rfl,congrArg some (congrArg D.agg ?_),rfl⟩
  | refine ⟨rfl,rfl,rfl,?_⟩
 all_goals first
  | rfl
  | (simp_all; done)
  | (simp <;> (repeat' split) <;> omega)
  | (rw [zAI]; simp [*] <;> omega)
  | fail):P:=h
theorem FX {E:Env} {f:FuncId} {cds:List D} {d:D} (hf:gX E.P f) (h:∀ (w:World) (vs:List Value) (Av:Nat→Prop),(∀ x,Av x→x < w.heap.size)→yk E w Av cds vs→Calls E.P f vs.toArray w fun e w'=>Fr (fun _=>False) w w'∧∃ v,e=.returned v∧VR w' Av (fun _=>none) d v):Con E f 0 cds [] d []:=by
 refine ⟨hf,fun w vs ρ G hl hG _ ha hs _ hd hg=>?_⟩;have hρ:ρ=fun _=>none:=funext fun t=>hd t (zAG _);subst hρ;refine (h w vs _ (fun x hx=>?_) ⟨hl,ha,hg⟩).mono fun e w' ⟨hw,v,he,hv⟩=>?_
 · rcases hx with hx|⟨t,b,hb,_⟩
   · exact hG x hx
   · simp [lk] at hb
 · exact ⟨v,fun _=>none,he,hv,fun t b h=>by simp [lk] at h,fun t t' b b' x h=>by simp [lk] at h,fun x hx=>.inr hx,fun _ _ h=>absurd h (Nat.not_lt_zero _),hw.os,hw.tape,hw.output,hw.size,fun k hk _=>hw.block k hk (fun h=>h)⟩
theorem FY {w:World} {Av:Nat→Prop} {B et:Nat} {u:Value} {ls:List (List UInt8)} {n:Nat} (hn:n=ls.length) (ho:w.ownsRow B et 1 u n (ls.map fun l=>Value.string ⟨l.toArray⟩)) (hav:∀ x,aR u=some x→¬ Av x):VI w Av (.sl (ls.map fun l=>[D.s l])) u:=by
 subst hn;refine kA (e:=et) (sz:=1) (us:=ls.map fun l=>Value.string ⟨l.toArray⟩) ⟨by rw [zAA,zAA,Nat.mul_one],?_⟩ ⟨by simp,fun cs hcs=>?_,fun u hu=>?_,fun i j cs d hc hd'=>?_⟩ hav
 · rcases ho.2 with h|⟨g,cap,cur,h1,_,h3⟩
   · exact .inl (by rw [zAA]; exact h)
   · exact .inr ⟨g,cap,cur,by rw [zAA]; exact h1,zAG _,by rw [zAA]; exact h3⟩
 · obtain ⟨l,_,rfl⟩:=List.mem_map.1 hcs;rfl
 · obtain ⟨l,_,rfl⟩:=List.mem_map.1 hu;rfl
 · simp only [zAQ,Option.map_eq_some_iff] at hc;obtain ⟨l,hl',rfl⟩:=hc;cases j with
   | zero=>
     simp at hd';subst hd';exact ⟨.string ⟨l.toArray⟩,by simp [hl'],.s l⟩
   | succ j=>simp at hd'
theorem VG.fn_inv {w:World} {Av:Nat→Prop} {ρ:Nat→Option Value} {f:FuncId} {v:Value} (h:VG w Av ρ (.fn f []) v):v=.func (.func f) #[] #[]:=by
 cases h with
 | atom h=>cases h with
   | im h=>cases h with
     | fn=>rfl
   | fn hl h=>
     rename_i us
     have:us=[]:=List.eq_nil_of_length_eq_zero hl.symm
     rw [this]
end Go.Ab
namespace Go.Ab
open Go Go.RowKit
section
variable {w:World} {Av Av':Nat→Prop} {ρ:Nat→Option Value}
end
section
variable {E:Env} {f:FuncId} {k:Nat} {cds:List D} {d:D} {P Q L:ab}
end
end Go.Ab
namespace Go.Par
open Go Go.RowKit Go.Ab Go.Proofs Go.Sort
instance:Inhabited Ent:=⟨eZ⟩
instance:Inhabited Mrk:=⟨⟨[],0,[]⟩⟩
abbrev vS (l:Bs):Value:=.string ⟨l.toArray⟩
def Ent.v (e:Ent):List Value:=[vS e.path,.bool e.dir,vS e.data]
def Mrk.v (m:Mrk):List Value:=[vS m.path,.int .i64 m.kind,vS m.data]
theorem AK:vG Ent.v Ent.c 3 where
 len _:=rfl
 lenD _:=rfl
 one x u hu:=by
  simp only [Ent.v,List.mem_cons,List.not_mem_nil,or_false] at hu;rcases hu with rfl|rfl|rfl <;> rfl
 rel w Av x j d hd:=by
  match j,hd with
  | 0,hd=>cases hd; exact ⟨_,rfl,.s _⟩
  | 1,hd=>cases hd; exact ⟨_,rfl,.b _⟩
  | 2,hd=>cases hd; exact ⟨_,rfl,.s _⟩
  | n+3,hd=>cases hd
 inv w Av x j d u hd hu:=by
  match j,hd with
  | 0,hd=>cases hd; cases hu; rfl
  | 1,hd=>cases hd; cases hu; rfl
  | 2,hd=>cases hd; cases hu; rfl
  | n+3,hd=>cases hd
theorem AL:vG Mrk.v Mrk.c 3 where
 len _:=rfl
 lenD _:=rfl
 one x u hu:=by
  simp only [Mrk.v,List.mem_cons,List.not_mem_nil,or_false] at hu;rcases hu with rfl|rfl|rfl <;> rfl
 rel w Av x j d hd:=by
  match j,hd with
  | 0,hd=>cases hd; exact ⟨_,rfl,.s _⟩
  | 1,hd=>cases hd; exact ⟨_,rfl,.k _ _⟩
  | 2,hd=>cases hd; exact ⟨_,rfl,.s _⟩
  | n+3,hd=>cases hd
 inv w Av x j d u hd hu:=by
  match j,hd with
  | 0,hd=>cases hd; cases hu; rfl
  | 1,hd=>cases hd; cases hu; rfl
  | 2,hd=>cases hd; cases hu; rfl
  | n+3,hd=>cases hd
def pQ (a b:Bs):Int:=if lt a b then -1 else if lt b a then 1 else 0
theorem kP (a b:Bs):decide (pQ a b < 0)=lt a b:=by
 unfold pQ;cases lt a b
 · cases lt b a <;> simp
 · simp
theorem pR {a b c:Bs} (h1:lt a b=false) (h2:lt b c=false):lt a c=false:=by
 rw [← zAa];intro h;rcases fu a b with k|k|k
 · rw [h1] at k; cases k
 · rw [k,h2] at h; cases h
 · have:=lt_trans _ _ _ k h
   rw [h2] at this;cases this
theorem Hv:SWO (ltOf fun x y:Ent=>pQ x.path y.path) where
 irrefl x:=by rw [ltOf,kP]; exact fW _
 trans x y z h1 h2:=by
  rw [ltOf,kP] at *;exact lt_trans _ _ _ h1 h2
 ntrans x y z h1 h2:=by
  rw [ltOf,kP] at *;exact pR h1 h2
theorem Hw:SWO (ltOf fun x y:Mrk=>pQ x.path y.path) where
 irrefl x:=by rw [ltOf,kP]; exact fW _
 trans x y z h1 h2:=by
  rw [ltOf,kP] at *;exact lt_trans _ _ _ h1 h2
 ntrans x y z h1 h2:=by
  rw [ltOf,kP] at *;exact pR h1 h2
section
variable {α:Type} [Inhabited α] {pa:α→Bs}
theorem vJ {L:List α} {d:Array α} (h:PermIn 0 L.toArray.size L.toArray d):d.toList.Perm L:=by
 obtain ⟨h1,_,h3⟩:=h;have e1:d.extract 0 L.toArray.size=d:=by rw [← h1]; simp
 have e2:L.toArray.extract 0 L.toArray.size=L.toArray:=by simp
 rw [e1,e2] at h3;exact h3
theorem qH {L:List α} {d:Array α} (h1:d.size=L.toArray.size) (h:SortedIn (ltOf fun x y:α=>pQ (pa x) (pa y)) 0 L.toArray.size d):d.toList.Pairwise fun a b=>lt (pa b) (pa a)=false:=by
 rw [zAz];intro i j hi hj hij;have h2:=h i j (zAG _) hij (by rw [← h1]; simpa using hj);rw [ltOf,kP,getElem!_pos _ i (by simpa using hi),getElem!_pos _ j (by simpa using hj)] at h2;exact h2
end
theorem mD {α:Type} {pa:α→Bs} {L U:List α} (hU:∀ S:List α,S.Perm L→(S.Pairwise fun a b=>lt (pa b) (pa a)=false)→S=U):U.length=L.length:=by
 have hp:(L.mergeSort fun x y=>!lt (pa y) (pa x)).Perm L:=List.mergeSort_perm _ _;have hs:(L.mergeSort fun x y=>!lt (pa y) (pa x)).Pairwise fun x y=>(!lt (pa y) (pa x))=true:=by
  refine List.pairwise_mergeSort (fun a b c h1 h2=>?_) (fun a b=>?_) _
  · simp only [zAJ] at *;exact pR h2 h1
  · cases h:lt (pa b) (pa a) with
    | false=>simp
    | true=>simp [lO _ _ h]
 rw [← hU _ hp (hs.imp fun h=>by simpa using h),hp.length_eq]
end Go.Par
