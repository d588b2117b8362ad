/- Texts of this claim, set close: lemmas and contracts. -/
import Derived.Test.YtagejnomlkfndaaGreatDoorYY11
import Derived.Test.YtagejnomlkfndaaGreatDoorYY6
set_option linter.unusedSimpArgs false
set_option linter.unusedVariables false
namespace Go.Par
open Go.Ab
theorem e8 {s d:Bs} (hd:d≠[47]):under s d=true↔∃ r,s=d++47 :: r:=by
 simp only [under,hd,decide_false,zAu,zAE,decide_eq_true_eq];constructor
 · rintro ⟨⟨h1,h2⟩,h3⟩;refine ⟨s.drop (d.length+1),?_⟩;have h4:=List.drop_eq_getElem_cons h1;rw [zAB h1] at h3;rw [zAZ h3] at h4
   conv=>lhs; rw [← zAx d.length s,h2,h4]
 · rintro ⟨r,rfl⟩
   simp
theorem qz {s:Bs} (h:ae s=true):∃ u n,s=u++47 :: n∧47 ∉ n∧((u=[]∧ag s=[47])∨(ae u=true∧ag s=u)):=by
 obtain ⟨w,a,h1,hw,ha,hl,rfl⟩:=j5 h;refine ⟨_,_,rfl,(lH ha).1,?_⟩;rw [g9 hw ha hl];by_cases hn:w=[]
 · subst hn; exact .inl ⟨rfl,rfl⟩
 · rw [if_neg hn];exact .inr ⟨oO hw (List.length_pos_iff.2 hn) (by omega),rfl⟩
theorem AZ {u n a r:Bs} (hn:47 ∉ n) (h:u++47 :: n=a++47 :: r):a=u∨∃ c,u=a++47 :: c:=by
 rcases List.append_eq_append_iff.1 h with ⟨c,h1,h2⟩|⟨c,h1,h2⟩
 · match c,h1,h2 with
   | [],h1,h2=>left; simpa using h1
   | x :: c,h1,h2=>
     exfalso;simp only [zAk,List.cons.injEq] at h2;apply hn;rw [h2.2]
     simp
 · match c,h1,h2 with
   | [],h1,h2=>left; simpa using h1.symm
   | x :: c,h1,h2=>
     right;simp only [zAk,List.cons.injEq] at h2;exact ⟨c,by rw [h1,← h2.1]⟩
theorem rQ {a:Bs} (ha:ae a=true):under [47] a=false:=by
 rw [← zAa,e8 (aW ha)];rintro ⟨r,h⟩;cases a with
 | nil=>rw [mL] at ha; cases ha
 | cons x a=>simp at h
theorem gM {s a:Bs} (hs:ae s=true) (ha:ae a=true) (h:under s a=true):ae (ag s)=true∧(ag s=a∨under (ag s) a=true):=by
 obtain ⟨u,n,h1,hn,hu⟩:=qz hs;obtain ⟨r,h2⟩:=(e8 (aW ha)).1 h;rcases AZ hn (h1.symm.trans h2) with h3|⟨c,h3⟩
 · rcases hu with ⟨hu,_⟩|⟨hu,hp⟩
   · rw [h3,hu,mL] at ha; cases ha
   · exact ⟨by rw [hp]; exact hu,.inl (by rw [hp,h3])⟩
 · rcases hu with ⟨hu,_⟩|⟨hu,hp⟩
   · rw [hu] at h3; simp at h3
   · exact ⟨by rw [hp]; exact hu,.inr (by rw [hp]; exact (e8 (aW ha)).2 ⟨c,h3⟩)⟩
theorem jJ {s a:Bs} (hs:ae s=true) (ha:ae a=true) (h:ag s=a∨under (ag s) a=true):under s a=true:=by
 obtain ⟨u,n,h1,hn,hu⟩:=qz hs;rcases hu with ⟨hu,hp⟩|⟨hu,hp⟩
 · exfalso;rw [hp] at h;rcases h with h|h
   · rw [← h,jE] at ha; cases ha
   · rw [rQ ha] at h; cases h
 · rw [hp] at h;rw [e8 (aW ha)];rcases h with h|h
   · exact ⟨n,by rw [h1,h]⟩
   · obtain ⟨r,h2⟩:=(e8 (aW ha)).1 h;exact ⟨r++47 :: n,by rw [h1,h2]; simp⟩
theorem Gz {x n:Bs} (h:ae (x++47 :: n)=true) (hn:47 ∉ n) (hx:x≠[]):ag (x++47 :: n)=x:=by
 obtain ⟨u,k,h1,hk,hu⟩:=qz h;have hux:u=x:=by
  rcases AZ hn h1 with h2|⟨c,h2⟩
  · exact h2
  · exfalso;rw [h2] at h1;simp only [zAg,zAk,List.append_cancel_left_eq,List.cons.injEq] at h1;apply hk;rw [← h1.2]
    simp
 rcases hu with ⟨h2,_⟩|⟨_,h2⟩
 · exact absurd (hux.symm.trans h2) hx
 · rw [h2,hux]
theorem k9 {s a:Bs} (ha:ae a=true) (h:under s a=true):a.length < s.length:=(oP h (aW ha)).1
theorem pG {s a b:Bs} (ha:ae a=true) (hb:ae b=true) (h1:under s a=true) (h2:a=b∨under a b=true):under s b=true:=by
 obtain ⟨r,rfl⟩:=(e8 (aW ha)).1 h1;rcases h2 with rfl|h2
 · exact h1
 · obtain ⟨q,rfl⟩:=(e8 (aW hb)).1 h2;exact (e8 (aW hb)).2 ⟨q++47 :: r,by simp⟩
def inP (s a:Bs):Bool:=decide (s=a) || under s a
theorem cM {s a:Bs}:inP s a=true↔s=a∨under s a=true:=by simp [inP]
theorem oS {s a:Bs} (ha:ae a=true):inP s a=true↔∃ x,s=a++x∧(x=[]∨∃ r,x=47 :: r):=by
 rw [cM,e8 (aW ha)];constructor
 · rintro (rfl|⟨r,rfl⟩)
   · exact ⟨[],by simp,.inl rfl⟩
   · exact ⟨_,rfl,.inr ⟨r,rfl⟩⟩
 · rintro ⟨x,rfl,rfl|⟨r,rfl⟩⟩
   · left; simp
   · exact .inr ⟨r,rfl⟩
def mvP (a b s:Bs):Bs:=if inP s a then b++s.drop a.length else s
theorem zB {a b s:Bs} (h:inP s a=true):mvP a b s=b++s.drop a.length:=by rw [mvP,if_pos h]
theorem qA {a b s:Bs} (h:inP s a=false):mvP a b s=s:=by rw [mvP,h]; rfl
theorem fV {a b x:Bs} (ha:ae a=true) (hx:x=[]∨∃ r,x=47 :: r):inP (a++x) a=true∧mvP a b (a++x)=b++x:=by
 have h:inP (a++x) a=true:=(oS ha).2 ⟨x,rfl,hx⟩;exact ⟨h,by rw [zB h]; simp⟩
theorem pH {s a b:Bs} (hs:ae s=true) (ha:ae a=true) (hb:ae b=true):aO s a b=if ae (mvP a b s)=true then some (mvP a b s) else none:=by
 unfold aO;rw [hs,ha,hb];simp only [zBO,if_true];cases h:inP s a with
 | true=>
   have h2:=h;rw [cM] at h2;rw [zB h,if_neg];rintro ⟨h3,h4⟩;rcases h2 with h2|h2
   · exact h3 h2
   · rw [h2] at h4; cases h4
 | false=>
   have h2:¬ inP s a=true:=by rw [h]; simp
   rw [cM] at h2;rw [qA h,if_pos hs,if_pos ⟨fun e=>h2 (.inl e),by rw [← zAa]; exact fun e=>h2 (.inr e)⟩]
theorem F8 {s a:Bs} (hs:ae s=true) (ha:ae a=true) (hne:s≠a):inP (ag s) a=inP s a:=by
 rw [zAK,cM,cM];constructor
 · intro h; exact .inr (jJ hs ha h)
 · rintro (h|h)
   · exact absurd h hne
   · exact (gM hs ha h).2
theorem F9 {s a b:Bs} (hs:ae s=true) (ha:ae a=true) (hb:ae b=true) (h:under s a=true) (ho:ae (mvP a b s)=true):ag (mvP a b s)=mvP a b (ag s):=by
 obtain ⟨hu,h2⟩:=gM hs ha h;obtain ⟨u,n,h1,hn,h3⟩:=qz hs;have hus:ag s=u:=by
  rcases h3 with ⟨_,h3⟩|⟨_,h3⟩
  · rw [h3,jE] at hu; cases hu
  · exact h3
 rw [hus] at h2 ⊢;obtain ⟨x,hx1,hx2⟩:=(oS ha).1 (cM.2 h2);have e1:mvP a b u=b++x:=by rw [hx1]; exact (fV ha hx2).2
 have e2:mvP a b s=(b++x)++47 :: n:=by
  rw [zB (cM.2 (.inr h)),h1,hx1]
  simp
 rw [e2] at ho ⊢;rw [e1];refine Gz ho hn ?_;intro e;have hb2:b=[]:=(List.append_eq_nil_iff.1 e).1;rw [hb2,mL] at hb;cases hb
theorem fc {t:List Ent} (h:ai t=true) {e:Ent} (he:e∈t):eu e=true∧ae e.path=true∧(ag e.path=[47]∨∃ d,ah t (ag e.path)=some d∧d.dir=true):=by
 obtain ⟨_,_,h3⟩:=mN.1 h;obtain ⟨h4,h5⟩:=h3 e he;refine ⟨h4,?_,eH.1 h5⟩;simp only [eu,zAE] at h4;exact h4.1.1
theorem en {t:List Ent} (h:ai t=true) {p:Bs} {e:Ent} (he:ah t p=some e):eu e=true∧e.path=p∧ae p=true∧(ag p=[47]∨∃ d,ah t (ag p)=some d∧d.dir=true):=by
 obtain ⟨h1,rfl⟩:=ci he;obtain ⟨h2,h3,h4⟩:=fc h h1;exact ⟨h2,rfl,h3,h4⟩
theorem lb {t:List Ent} (h:ai t=true) {a:Bs} (ha:ae a=true):∀ (n:Nat) {p:Bs} {e:Ent},p.length≤n→ah t p=some e→under p a=true→∃ d,ah t a=some d∧d.dir=true
 | 0,p,e,hn,he,hu=>by
   have:=k9 ha hu
   omega
 | n+1,p,e,hn,he,hu=>by
   obtain ⟨h2,h3,h4,h5⟩:=en h he;obtain ⟨g1,g2⟩:=gM h4 ha hu;have hne:ag p≠[47]:=aW g1;obtain ⟨d,hd1,hd2⟩:=h5.resolve_left hne;rcases g2 with g2|g2
   · exact ⟨d,by rw [← g2]; exact hd1,hd2⟩
   · have:=ef h4 hne
     exact lb h ha n (by omega) hd1 g2
theorem DU {t:List Ent} (h:ai t=true) {a:Bs} (ha:ae a=true):∀ (n:Nat) {p:Bs} {e:Ent},p.length≤n→ah t p=some e→under p a=true→∃ k∈t,ag k.path=a
 | 0,p,e,hn,he,hu=>by
   have:=k9 ha hu
   omega
 | n+1,p,e,hn,he,hu=>by
   obtain ⟨h2,h3,h4,h5⟩:=en h he;obtain ⟨g1,g2⟩:=gM h4 ha hu;have hne:ag p≠[47]:=aW g1;rcases g2 with g2|g2
   · exact ⟨e,(ci he).1,by rw [h3]; exact g2⟩
   · obtain ⟨d,hd1,hd2⟩:=h5.resolve_left hne
     have:=ef h4 hne
     exact DU h ha n (by omega) hd1 g2
theorem lM {t:List Ent} {p:Bs}:lT t p=[]↔∀ e∈t,ag e.path≠p:=by
 unfold lT;rw [List.map_eq_nil_iff,List.filter_eq_nil_iff]
 simp
theorem nR {t:List Ent} (h:ai t=true) {p:Bs} (hp:ae p=true) (hn:∀ d,ah t p=some d→d.dir=false) {q:Bs} (hq:under q p=true):ah t q=none:=by
 cases he:ah t q with
 | none=>rfl
 | some e=>
   exfalso;obtain ⟨d,h1,h2⟩:=lb h hp q.length (zAJ _) he hq;rw [hn d h1] at h2;cases h2
theorem qB (t:List Ent) (p q:Bs):ah (iI t p) q=if p=q then none else ah t q:=by
 induction t with
 | nil=>simp [iI,ah]
 | cons e t ih=>
   unfold iI at ih ⊢;rw [List.filter_cons];by_cases hp:e.path=p
   · rw [if_neg (by simpa using hp),ih,aJ];by_cases hq:p=q
     · rw [if_pos hq,if_pos hq]
     · rw [if_neg hq,if_neg hq,if_neg (by rw [hp]; exact hq)]
   · rw [if_pos (by simpa using hp),aJ,ih,aJ];by_cases hq:p=q
     · rw [if_pos hq,if_pos hq,if_neg (by rw [← hq]; exact hp)]
     · rw [if_neg hq,if_neg hq]
theorem pI {t:List Ent} (h:aD (ay t)) (p:Bs):aD (ay (iI t p)):=by
 unfold iI;unfold aD ay at h ⊢;rw [zBT] at h ⊢;exact h.filter _
theorem oU:∀ {L X:List Ent},aD (ay X)→(ay L).Nodup→∀ q,ah (b9 X L) q=(ah L q).or (ah X q)
 | [],X,_,_,q=>by simp [b9,ah]
 | e :: r,X,hs,hn,q=>by
   have hn2:=List.nodup_cons.1 hn;have ih:=oU (L:=r) (i8 hs e) hn2.2 q
   have:b9 X (e :: r)=b9 (dD X e) r:=rfl
   rw [this,ih,vE hs,aJ];by_cases he:e.path=q
   · rw [if_pos he,if_pos he]
     have:ah r q=none:=bW.2 (by rw [← he]; exact hn2.1)
     rw [this];rfl
   · rw [if_neg he,if_neg he]
theorem oV {f:Ent→Ent} {q s:Bs}:∀ {t:List Ent},(∀ e∈t,(f e).path=q↔e.path=s)→ah (t.map f) q=(ah t s).map f
 | [],_=>rfl
 | e :: t,h=>by
   have ih:=oV (t:=t) fun x hx=>h x (by simp [hx]);rw [List.map_cons,aJ,aJ,ih];by_cases he:e.path=s
   · rw [if_pos he,if_pos ((h e (by simp)).2 he)]; rfl
   · rw [if_neg he,if_neg fun hq=>he ((h e (by simp)).1 hq)]
theorem rR {f:Ent→Ent} {q:Bs} {t:List Ent} (h:∀ e∈t,(f e).path≠q):ah (t.map f) q=none:=by
 refine bW.2 fun hm=>?_;obtain ⟨x,hx,hq⟩:=List.mem_map.1 hm;obtain ⟨e,he,rfl⟩:=List.mem_map.1 hx;exact h e he hq
theorem uk {t:List Ent} (hl:t.length≤16) (hs:aD (ay t)) (h:∀ p e,ah t p=some e→eu e=true∧(ag p=[47]∨∃ d,ah t (ag p)=some d∧d.dir=true)):ai t=true:=by
 refine mN.2 ⟨hl,hs,fun e he=>?_⟩;have h1:=h e.path e (iK hs he);exact ⟨h1.1,eH.2 h1.2⟩
theorem pJ:∀ {t:List Ent} {e:Ent},e.path∈ay t→aD (ay t)→(dD t e).length=t.length
 | [],_,h,_=>by simp at h
 | x :: r,e,h,hs=>by
   unfold dD;by_cases h1:lt x.path e.path=true
   · rw [if_pos h1];have hm:e.path∈ay r:=by
      rcases List.mem_cons.1 h with h|h
      · rw [h,fu] at h1; cases h1
      · exact h
     simp [pJ hm (aH hs)]
   · rw [if_neg h1];by_cases h2:x.path=e.path
     · rw [if_pos h2]; simp
     · exfalso;rcases List.mem_cons.1 h with h|h
       · exact h2 h.symm
       · exact h1 (aQ hs e.path h)
theorem iq {o:Opn} (h:f7 o=true):ae o.path=true:=by
 simp only [f7,zAE] at h;exact h.1
theorem qC {o:Opn} (h:f7 o=true) (hk:o.kind=5):ae o.to=true∧o.data=[]:=by
 simp only [f7,zAE,hk,if_true,decide_eq_true_eq] at h;exact h.2
theorem un {o:Opn} (h:f7 o=true):cL o.data=true∧(o.kind≠2→o.data=[])∧(o.kind≠5→o.to=[]):=by
 simp only [f7,zAE] at h;obtain ⟨_,h⟩:=h;split at h
 · rename_i hk;simp only [zAE,decide_eq_true_eq] at h;refine ⟨by rw [h.2]; rfl,fun _=>h.2,fun hn=>absurd hk hn⟩
 · split at h
   · rename_i hk;simp only [zAE,decide_eq_true_eq] at h;exact ⟨h.2,fun hn=>absurd hk hn,fun _=>h.1⟩
   · simp only [zAE,decide_eq_true_eq] at h;exact ⟨by rw [h.2]; rfl,fun _=>h.2,fun _=>h.1.2⟩
theorem nS {p d:Bs} {x:Bool} (hp:ae p=true) (hd:cL d=true) (hx:x=true→d=[]):eu ⟨p,x,d⟩=true:=by
 simp only [eu,hp,hd,zAv,zBI];cases x with
 | true=>simp [hx rfl]
 | false=>simp
theorem mO {e:Ent} (h:eu e=true):cL e.data=true∧(e.dir=true→e.data=[]):=by
 simp only [eu,zAE] at h;refine ⟨h.1.2,fun hd=>?_⟩
 have:=h.2
 rw [hd] at this;simpa using this
theorem kf {t:List Ent} {p:Bs} (hp:ae p=true):dw t p=0↔bc t p=0∧ah t p=none∧t.length < 16:=by
 unfold dw;rw [cp (aW hp)];by_cases h1:bc t p=0
 · rw [if_neg (by simpa using h1)];cases h2:ah t p with
   | none=>
     simp only [Option.isSome_none,zAF,if_false,h1,true_and];by_cases h3:16≤t.length
     · rw [if_pos h3]; constructor
       · intro h; cases h
       · intro h; omega
     · rw [if_neg h3]; simp; omega
   | some e=>simp
 · rw [if_pos (by simpa using h1)];simp [h1]
theorem nT {t:List Ent} {p:Bs} (hp:ae p=true):dw t p=4↔bc t p=0∧∃ e,ah t p=some e:=by
 unfold dw;rw [cp (aW hp)];by_cases h1:bc t p=0
 · rw [if_neg (by simpa using h1)];cases h2:ah t p with
   | none=>
     simp only [Option.isSome_none,zAF,if_false];split <;> simp
   | some e=>simp [h1]
 · rw [if_pos (by simpa using h1)]
   have:bc t p≠4:=by
    unfold bc;repeat' split
    all_goals decide
   simp [h1,this]
theorem nU {t:List Ent} {p:Bs} (hp:ae p=true):dN t p=0↔bc t p=0∧((∃ e,ah t p=some e∧e.dir=false)∨(ah t p=none∧t.length < 16)):=by
 unfold dN;have hg:az t p=ah t p:=cp (aW hp);by_cases h4:dw t p=4
 · obtain ⟨h5,e,h6⟩:=(nT hp).1 h4;rw [hg,h6];cases hd:e.dir with
   | true=>simp [h4,ec,hd,h5]
   | false=>simp [h4,ec,hd,h5]
 · rw [if_neg (fun h=>h4 h.1),if_neg h4,kf hp];constructor
   · rintro ⟨h1,h2,h3⟩;exact ⟨h1,.inr ⟨h2,h3⟩⟩
   · rintro ⟨h1,⟨e,h2,h3⟩|h2⟩
     · exact absurd ((nT hp).2 ⟨h1,e,h2⟩) h4
     · exact ⟨h1,h2.1,h2.2⟩
theorem vF {t:List Ent} {o:Opn} (hp:ae o.path=true):eP t o=0↔∃ e,ah t o.path=some e∧(o.kind=3→e.dir=false)∧(o.kind=4→e.dir=true)∧lT t o.path=[]:=by
 unfold eP;rw [cp (aW hp)];cases h:ah t o.path with
 | none=>simp
 | some e=>
   simp only;by_cases h1:o.kind=3∧e.dir=true
   · rw [if_pos h1];constructor
     · intro h; cases h
     · rintro ⟨e',h2,h3,_⟩;cases h2;rw [h3 h1.1] at h1;cases h1.2
   · rw [if_neg h1];by_cases h2:o.kind=4∧e.dir=false
     · rw [if_pos h2];constructor
       · intro h; cases h
       · rintro ⟨e',h3,_,h4,_⟩;cases h3;rw [h4 h2.1] at h2;cases h2.2
     · rw [if_neg h2];by_cases h3:0 < (lT t o.path).length
       · rw [if_pos h3];constructor
         · intro h; cases h
         · rintro ⟨_,_,_,_,h4⟩;rw [h4] at h3;simp at h3
       · rw [if_neg h3];simp only [true_iff];refine ⟨e,rfl,fun hk=>?_,fun hk=>?_,List.length_eq_zero_iff.1 (by omega)⟩
         · cases hd:e.dir with
           | false=>rfl
           | true=>exact absurd ⟨hk,hd⟩ h1
         · cases hd:e.dir with
           | true=>rfl
           | false=>exact absurd ⟨hk,hd⟩ h2
theorem jj {t:List Ent} {o:Opn} (ht:ai t=true) (hp:ae o.path=true) (hq:ae o.to=true):cO t o=0↔(∃ e,ah t o.path=some e)∧bc t o.to=0∧ah t o.to=none∧under o.to o.path=false∧∀ e∈t,ae (mvP o.path o.to e.path)=true:=by
 unfold cO;rw [cp (aW hp),cp (aW hq)];cases h1:ah t o.path with
 | none=>simp
 | some e1=>
   simp only [Option.isNone_some,zAF,if_false];by_cases h2:bc t o.to=0
   · rw [if_neg (by simpa using h2)];cases h3:ah t o.to with
     | some e2=>simp
     | none=>
       simp only [Option.isSome_none,zAF,if_false];cases h4:under o.to o.path with
       | true=>simp
       | false=>
         simp only [zAF,if_false];have hall:t.all (fun e=>(aO e.path o.path o.to).isSome)=true↔∀ e∈t,ae (mvP o.path o.to e.path)=true:=by
          rw [zAq];refine forall_congr' fun e=>imp_congr_right fun he=>?_;rw [pH (fc ht he).2.1 hp hq];split <;> simp_all
         by_cases h5:t.all (fun e=>(aO e.path o.path o.to).isSome)=true
         · rw [if_pos h5];simp only [true_iff];exact ⟨⟨e1,rfl⟩,h2,trivial,trivial,hall.1 h5⟩
         · rw [if_neg h5];constructor
           · intro h; cases h
           · rintro ⟨_,_,_,_,h6⟩;exact absurd (hall.2 h6) h5
   · rw [if_pos (by simpa using h2)];simp [h2]
def EX (t:List Ent) (o:Opn) (q:Bs):Option Ent:=
 if o.kind=1 then (if o.path=q then some ⟨o.path,true,[]⟩ else ah t q)
 else if o.kind=2 then (if o.path=q then some ⟨o.path,false,o.data⟩ else ah t q)
 else if o.kind=5 then (if inP q o.to=true then (ah t (mvP o.to o.path q)).map (fun e=>⟨q,e.dir,e.data⟩) else if inP q o.path=true then none else ah t q)
 else (if o.path=q then none else ah t q)
theorem DV {a b:Bs} {e:Ent} (hs:ae e.path=true) (ha:ae a=true) (hb:ae b=true) (ho:ae (mvP a b e.path)=true):f8 a b e=⟨mvP a b e.path,e.dir,e.data⟩:=by
 unfold f8;rw [pH hs ha hb,if_pos ho];rfl
theorem A2 {t:List Ent} {a b:Bs} (ht:ai t=true) (ha:ae a=true) (hb:ae b=true) (hn:∀ q,inP q b=true→ah t q=none) (hall:∀ e∈t,ae (mvP a b e.path)=true) :
   (ay (t.map (f8 a b))).Nodup∧∀ q,ah (t.map (f8 a b)) q=if inP q b=true then (ah t (mvP b a q)).map (fun e=>⟨q,e.dir,e.data⟩) else if inP q a=true then none else ah t q:=by
 have hf:∀ e∈t,f8 a b e=⟨mvP a b e.path,e.dir,e.data⟩:=fun e he=>DV (fc ht he).2.1 ha hb (hall e he);have hnb:∀ e∈t,inP e.path b=false:=fun e he=>by
  rw [← zAa];intro hi
  have:=hn e.path hi
  rw [iK (bh ht) he] at this;cases this
 have key:∀ e∈t,∀ q,mvP a b e.path=q→(inP q b=true∧e.path=mvP b a q)∨(inP q b=false∧inP q a=false∧e.path=q):=by
  intro e he q hq;cases hi:inP e.path a with
  | true=>
    obtain ⟨x,h1,h2⟩:=(oS ha).1 hi;rw [h1,(fV ha h2).2] at hq;left;rw [← hq];exact ⟨(fV (b:=a) hb h2).1,by rw [(fV hb h2).2]; exact h1⟩
  | false=>
    rw [qA hi] at hq;right;rw [← hq];exact ⟨hnb e he,hi,rfl⟩
 have back:∀ s,inP s b=true→∃ x,s=b++x∧mvP b a s=a++x∧mvP a b (mvP b a s)=s:=by
  intro s hs;obtain ⟨x,h1,h2⟩:=(oS hb).1 hs;refine ⟨x,h1,by rw [h1]; exact (fV hb h2).2,?_⟩;rw [h1,(fV hb h2).2,(fV ha h2).2]
 refine ⟨?_,fun q=>?_⟩
 · have e1:ay (t.map (f8 a b))=(ay t).map (mvP a b):=by
     rw [ay,ay,zAz,zAz];exact List.map_congr_left fun e he=>by simp [hf e he]
   rw [e1];have hinj:∀ x∈ay t,∀ y∈ay t,mvP a b x=mvP a b y→x=y:=by
    intro x hx y hy hxy;obtain ⟨e,he,rfl⟩:=List.mem_map.1 hx;obtain ⟨d,hd,rfl⟩:=List.mem_map.1 hy;rcases key e he _ rfl with ⟨k1,k2⟩|⟨k1,k2,k3⟩
    · rcases key d hd _ hxy.symm with ⟨l1,l2⟩|⟨l1,l2,l3⟩
      · rw [k2,l2]
      · rw [k1] at l1; cases l1
    · rcases key d hd _ hxy.symm with ⟨l1,l2⟩|⟨l1,l2,l3⟩
      · rw [k1] at l1; cases l1
      · rw [k3,l3]
   have hnd:=eQ (bh ht);rw [List.nodup_iff_pairwise_ne] at hnd ⊢;rw [zBT];exact hnd.imp_of_mem fun {x y} hx hy hne heq=>hne (hinj x hx y hy heq)
 · cases h1:inP q b with
   | true=>
     rw [if_pos rfl];obtain ⟨x,g1,g2,g3⟩:=back q h1;rw [oV (s:=mvP b a q)]
     · cases he:ah t (mvP b a q) with
       | none=>rfl
       | some e=>
         obtain ⟨k1,k2⟩:=ci he;simp only [Option.map_some];rw [hf e k1,k2,g3]
     · intro e he;rw [hf e he];constructor
       · intro h;rcases key e he q h with ⟨_,k⟩|⟨k,_⟩
         · exact k
         · rw [h1] at k; cases k
       · intro h;simp only;rw [h,g3]
   | false=>
     rw [if_neg (by simp)];cases h2:inP q a with
     | true=>
       rw [if_pos rfl];refine rR fun e he h=>?_;rw [hf e he] at h;rcases key e he q h with ⟨k,_⟩|⟨_,k,_⟩
       · rw [h1] at k; cases k
       · rw [h2] at k; cases k
     | false=>
       rw [if_neg (by simp),oV (s:=q)]
       · cases he:ah t q with
         | none=>rfl
         | some e=>
           obtain ⟨k1,k2⟩:=ci he;simp only [Option.map_some];rw [hf e k1,k2,qA h2,← k2]
       · intro e he;rw [hf e he];constructor
         · intro h;rcases key e he q h with ⟨k,_⟩|⟨_,_,k⟩
           · rw [h1] at k; cases k
           · exact k
         · intro h;simp only;rw [h,qA h2]
theorem vG {t:List Ent} {b:Bs} (ht:ai t=true) (hb:ae b=true) (h:ah t b=none):∀ q,inP q b=true→ah t q=none:=by
 intro q hq;rcases cM.1 hq with rfl|hq
 · exact h
 · exact nR ht hb (fun d hd=>by rw [h] at hd; cases hd) hq
theorem zC {t:List Ent} {o:Opn} (ht:ai t=true) (ho:f7 o=true) (hc:cr t o=0) (q:Bs):ah (doT t o) q=EX t o q:=by
 unfold doT EX cr at *;have hp:=iq ho;split
 · exact vE (bh ht) _ _
 · split
   · exact vE (bh ht) _ _
   · split
     · rename_i h1 h2 h5;rw [if_neg h1,if_neg h2,if_pos h5] at hc;obtain ⟨hq,_⟩:=qC ho h5;obtain ⟨g1,g2,g3,g4,g5⟩:=(jj ht hp hq).1 hc;obtain ⟨m1,m2⟩:=A2 ht hp hq (vG ht hq g3) g5;unfold kX;rw [oU (X:=[]) List.Pairwise.nil m1,m2];simp [ah]
     · exact qB t o.path q
theorem vH {t:List Ent} {p:Bs} (h:bc t p=0):ag p=[47]∨∃ d,ah t (ag p)=some d∧d.dir=true:=eH.1 h
theorem DW {p:Bs} (hp:ae p=true):ag p≠p:=by
 intro h;rcases gG hp with h1|⟨_,h1⟩
 · rw [h1] at h; rw [← h,jE] at hp; cases hp
 · rw [h,fu] at h1; cases h1
theorem A3 {t:List Ent} (ht:ai t=true) (o:Opn):aD (ay (doT t o)):=by
 unfold doT;split
 · exact i8 (bh ht) _
 · split
   · exact i8 (bh ht) _
   · split
     · exact gy List.Pairwise.nil
     · exact pI (bh ht) _
theorem EY {t:List Ent} {o:Opn} (ht:ai t=true) (ho:f7 o=true) (hc:cr t o=0):(doT t o).length≤16:=by
 have hl:=aI ht;have hp:=iq ho;unfold doT cr at *;split
 · rename_i h1;rw [if_pos h1] at hc
   have:=(fT t ⟨o.path,true,[]⟩).2
   have:=((kf hp).1 hc).2.2
   omega
 · rename_i h1;rw [if_neg h1] at hc;split
   · rename_i h2;rw [if_pos h2] at hc;rcases ((nU hp).1 hc).2 with ⟨e,he,_⟩|⟨_,h3⟩
     · obtain ⟨k1,k2⟩:=ci he;rw [pJ (e:=⟨o.path,false,o.data⟩) (List.mem_map.2 ⟨e,k1,k2⟩) (bh ht)];exact hl
     · have:=(fT t ⟨o.path,false,o.data⟩).2
       omega
   · split
     · have:=putAll_len (t.map (f8 o.path o.to)) []
       simp only [zAA,List.length_nil] at this;unfold kX;omega
     · have:=zAf (fun e:Ent=>decide (e.path≠o.path)) t
       unfold iI;omega
theorem Ga {t:List Ent} {o:Opn} (ht:ai t=true) (ho:f7 o=true) (hc:cr t o=0):ai (doT t o)=true:=by
 refine uk (EY ht ho hc) (A3 ht o) fun p e he=>?_;rw [zC ht ho hc] at he;simp only [zC ht ho hc];have hp:=iq ho;have hdat:=un ho;unfold EX cr at *;by_cases h1:o.kind=1
 · simp only [if_pos h1] at hc he ⊢;obtain ⟨g1,g2,g3⟩:=(kf hp).1 hc;by_cases hq:o.path=p
   · rw [if_pos hq] at he;cases he;refine ⟨nS hp rfl fun _=>rfl,?_⟩;rw [← hq];refine (vH g1).imp id ?_;rintro ⟨d,d1,d2⟩;exact ⟨d,by rw [if_neg fun h=>DW hp h.symm]; exact d1,d2⟩
   · rw [if_neg hq] at he;obtain ⟨k1,k2,k3,k4⟩:=en ht he;refine ⟨k1,k4.imp id ?_⟩;rintro ⟨d,d1,d2⟩;exact ⟨d,by rw [if_neg fun h=>by rw [← h,g2] at d1; cases d1]; exact d1,d2⟩
 · simp only [if_neg h1] at hc he ⊢;by_cases h2:o.kind=2
   · simp only [if_pos h2] at hc he ⊢;obtain ⟨g1,g2⟩:=(nU hp).1 hc;have hnd:∀ d,ah t o.path=some d→d.dir=false:=by
      intro d hd;rcases g2 with ⟨e',h3,h4⟩|⟨h3,_⟩
      · rw [h3] at hd; cases hd; exact h4
      · rw [h3] at hd; cases hd
     by_cases hq:o.path=p
     · rw [if_pos hq] at he;cases he;refine ⟨nS hp hdat.1 (fun h=>by cases h),?_⟩;rw [← hq];refine (vH g1).imp id ?_;rintro ⟨d,d1,d2⟩;exact ⟨d,by rw [if_neg fun h=>DW hp h.symm]; exact d1,d2⟩
     · rw [if_neg hq] at he;obtain ⟨k1,k2,k3,k4⟩:=en ht he;refine ⟨k1,k4.imp id ?_⟩;rintro ⟨d,d1,d2⟩;exact ⟨d,by rw [if_neg fun h=>by rw [← h] at d1; rw [hnd d d1] at d2; cases d2]; exact d1,d2⟩
   · simp only [if_neg h2] at hc he ⊢;by_cases h5:o.kind=5
     · simp only [if_pos h5] at hc he ⊢;obtain ⟨hq,_⟩:=qC ho h5;obtain ⟨⟨e0,g1⟩,g2,g3,g4,g5⟩:=(jj ht hp hq).1 hc;have hfree:=vG ht hq g3;have hupto:ag o.to=[47]∨(inP (ag o.to) o.to=false∧inP (ag o.to) o.path=false):=by
        by_cases hr:ag o.to=[47]
        · exact .inl hr
        · right;constructor
          · rw [← zAa,cM];rintro (h|h)
            · exact DW hq h
            · have:=k9 hq h
              have:=ef hq hr
              omega
          · rw [← zAa,cM];intro h
            have:=jJ hq hp h
            rw [g4] at this;cases this
       by_cases hb:inP p o.to=true
       · rw [if_pos hb] at he;cases hs:ah t (mvP o.to o.path p) with
         | none=>rw [hs] at he; cases he
         | some e'=>
           rw [hs] at he;cases he;obtain ⟨k1,k2,k3,k4⟩:=en ht hs;obtain ⟨x,hx1,hx2⟩:=(oS hq).1 hb;have hsrc:mvP o.to o.path p=o.path++x:=by rw [hx1]; exact (fV hq hx2).2
           have hmv:mvP o.path o.to (o.path++x)=p:=by rw [(fV hp hx2).2,hx1]
           have hpok:ae p=true:=by
            have:=g5 e' (ci hs).1
            rw [k2,hsrc,hmv] at this;exact this
           obtain ⟨d1,d2⟩:=mO k1;refine ⟨nS hpok d1 d2,?_⟩;rcases hx2 with rfl|⟨r,hr⟩
           · -- the moved one itself
             have hpt:p=o.to:=by rw [hx1]; simp
             rw [hpt];rcases vH g2 with h|⟨d,h3,h4⟩
             · exact .inl h
             · rcases hupto with h|⟨h6,h7⟩
               · exact .inl h
               · right;refine ⟨d,?_,h4⟩;rw [h6,h7];simpa using h3
           · -- below it
             have hu:under (o.path++x) o.path=true:=(e8 (aW hp)).2 ⟨r,by rw [hr]⟩;rw [hsrc] at k3 k4;obtain ⟨u1,u2⟩:=gM k3 hp hu;obtain ⟨d,h3,h4⟩:=k4.resolve_left (aW u1);have hup:ag p=mvP o.path o.to (ag (o.path++x)):=by
              have:=F9 k3 hp hq hu (by rw [hmv]; exact hpok)
              rw [hmv] at this;exact this
             obtain ⟨y,hy1,hy2⟩:=(oS hp).1 (cM.2 u2);have hup2:ag p=o.to++y:=by rw [hup,hy1]; exact (fV hp hy2).2
             right;refine ⟨⟨ag p,d.dir,d.data⟩,?_,h4⟩;obtain ⟨i1,i2⟩:=fV (b:=o.path) hq hy2;rw [hup2,if_pos i1,i2,← hy1,h3];rfl
       · have hb':inP p o.to=false:=by simpa using hb
         simp only [hb',zAF,if_false] at he;by_cases ha:inP p o.path=true
         · rw [if_pos ha] at he; cases he
         · have ha':inP p o.path=false:=by simpa using ha
           simp only [ha',zAF,if_false] at he;obtain ⟨k1,k2,k3,k4⟩:=en ht he;refine ⟨k1,?_⟩;rcases k4 with k4|⟨d,h3,h4⟩
           · exact .inl k4
           · right;refine ⟨d,?_,h4⟩;have i1:inP (ag p) o.to=false:=by
              rw [← zAa];intro h;rw [hfree _ h] at h3;cases h3
             have i2:inP (ag p) o.path=false:=by
              rw [F8 k3 hp]
              · exact ha'
              · rintro rfl;rw [cM.2 (.inl rfl)] at ha';cases ha'
             rw [i1,i2];simpa using h3
     · simp only [if_neg h5] at hc he ⊢;obtain ⟨e0,g1,g2,g3,g4⟩:=(vF hp).1 hc;by_cases hq:o.path=p
       · rw [if_pos hq] at he; cases he
       · rw [if_neg hq] at he;obtain ⟨k1,k2,k3,k4⟩:=en ht he;refine ⟨k1,k4.imp id ?_⟩;rintro ⟨d,d1,d2⟩;refine ⟨d,?_,d2⟩;rw [if_neg]
         · exact d1
         · intro h
           have:=lM.1 g4 e (ci he).1
           rw [k2] at this;exact this h.symm
theorem fy {t:List Ent} (ht:ai t=true) (o:Opn):ai (aC t o).1=true:=by
 unfold aC;split
 · rename_i h; rw [ht] at h; cases h
 · split
   · exact ht
   · split
     · exact ht
     · rename_i h1 h2 h3;exact Ga ht (by simpa using h2) (by simpa using h3)
theorem kinds {o:Opn} (h:f7 o=true):o.kind=1∨o.kind=2∨o.kind=3∨o.kind=4∨o.kind=5:=by
 have:=B1 h
 omega
theorem zD {t u:List Ent} {p:Bs} (ht:ai t=true) (hu:ai u=true) (hp:ae p=true) (hn:∀ d,ah t p=some d→d.dir=false) (hq:∀ q,q≠p→ah u q=ah t q):lT u p=[]:=by
 refine lM.2 fun e he h=>?_;obtain ⟨k1,k2,k3⟩:=fc hu he;have h1:=iK (bh hu) he;have h2:under e.path p=true:=jJ k2 hp (.inl h);have h3:e.path≠p:=fun h4=>by
  have:=k9 hp h2
  rw [h4] at this;omega
 rw [hq _ h3,nR ht hp hn h2] at h1;cases h1
theorem A4 {e:Ent} {p:Bs} {d:Bool} {x:Bs} (h1:e.path=p) (h2:e.dir=d) (h3:e.data=x):e=⟨p,d,x⟩:=by
 cases e; simp_all
def vI:List Ent→List Opn→List Ent × List Int
 | t,[]=>(t,[])
 | t,o :: r=>((vI (aC t o).1 r).1,(aC t o).2 :: (vI (aC t o).1 r).2)
theorem GQ {t:List Ent} {o:Opn} (ht:ai t=true) (h:(aC t o).2≠0):(aC t o).1=t:=by
 unfold aC at h ⊢;split
 · rename_i h1; rw [ht] at h1; cases h1
 · split
   · rfl
   · split
     · rfl
     · rename_i h1 h2 h3;rw [if_neg h1,if_neg h2,if_neg h3] at h;exact absurd rfl h
theorem uo {t:List Ent} (hn:(ay t).Nodup) {q:Bs} {e:Ent}:ah t q=some e↔e∈t∧e.path=q:=by
 constructor
 · exact ci
 · rintro ⟨h1,h2⟩
   induction t with
   | nil=>cases h1
   | cons x t ih=>
     have hn2:=List.nodup_cons.1 hn;rw [aJ];rcases List.mem_cons.1 h1 with h1|h1
     · rw [← h1,if_pos h2]
     · rw [if_neg]
       · exact ih hn2.2 h1
       · intro h3;exact hn2.1 (by show x.path∈_; rw [h3,← h2]; exact List.mem_map.2 ⟨e,h1,rfl⟩)
theorem xP {S L U:List Ent} (hp:S.Perm L) (hs:S.Pairwise fun a b=>lt b.path a.path=false) (hn:(ay L).Nodup) (hu:aD (ay U)) (hat:∀ q,ah L q=ah U q):S=U:=by
 have hn2:(ay S).Nodup:=(hp.map _).nodup_iff.2 hn;have hss:aD (ay S):=by
  unfold aD ay;rw [zBT];have h1:=zBT.1 (List.nodup_iff_pairwise_ne.1 hn2);refine (h1.and hs).imp ?_;rintro a b ⟨h2,h3⟩;rcases eZ a.path b.path with h|h|h
  · exact h
  · exact absurd h h2
  · rw [h] at h3; cases h3
 refine vD hss hu fun q=>?_;rw [← hat];cases h:ah L q with
 | none=>
   refine bW.2 fun hm=>bW.1 h ?_;exact (hp.map _).mem_iff.1 hm
 | some e=>
   obtain ⟨h1,h2⟩:=(uo hn).1 h;exact (uo hn2).2 ⟨hp.mem_iff.2 h1,h2⟩
def nV (t:List Ent) (o:Opn):List Ent:=
 (if o.kind=5 then t.map (f8 o.path o.to) else iI t o.path)++(if o.kind=1∨o.kind=2 then [⟨o.path,decide (o.kind=1),o.data⟩] else [])
theorem uq {t:List Ent} {o:Opn} (ht:ai t=true) (ho:f7 o=true) (hc:cr t o=0):(ay (nV t o)).Nodup∧∀ q,ah (nV t o) q=ah (doT t o) q:=by
 have hp:=iq ho;have hoff:(ay (iI t o.path)).Nodup:=eQ (pI (bh ht) _);have hno:o.path ∉ ay (iI t o.path):=by
  rw [← bW,qB,if_pos rfl]
 have hsnoc:∀ e:Ent,e.path=o.path→(ay (iI t o.path++[e])).Nodup∧∀ q,ah (iI t o.path++[e]) q=if o.path=q then some e else ah t q:=by
  intro e he;constructor
  · rw [ay,zAM,List.nodup_append];refine ⟨hoff,by simp,?_⟩;intro a ha b hb hab;simp at hb;rw [hab,hb,he] at ha;exact hno ha
  · intro q;have happ:∀ l:List Ent,ah (l++[e]) q=(ah l q).or (ah [e] q):=by
     intro l;simp [ah,zBS]
    rw [happ,qB];by_cases hq:o.path=q
    · rw [if_pos hq,if_pos hq];simp [ah,he,hq]
    · rw [if_neg hq,if_neg hq]
      have:ah [e] q=none:=by
       rw [aJ,if_neg (by rw [he]; exact hq)];rfl
      rw [this]
      simp
 simp only [zC ht ho hc];unfold nV EX;have hdat:=un ho;by_cases h1:o.kind=1
 · have h5:¬ o.kind=5:=by omega
   rw [if_neg h5,if_pos (.inl h1)];simp only [if_pos h1];have hd:o.data=[]:=hdat.2.1 (by omega);have h:=hsnoc ⟨o.path,decide (o.kind=1),o.data⟩ rfl;refine ⟨h.1,fun q=>?_⟩;rw [h.2,hd,h1]
   simp
 · by_cases h2:o.kind=2
   · have h5:¬ o.kind=5:=by omega
     rw [if_neg h5,if_pos (.inr h2)];simp only [if_neg h1,if_pos h2];have h:=hsnoc ⟨o.path,decide (o.kind=1),o.data⟩ rfl;refine ⟨h.1,fun q=>?_⟩;rw [h.2];simp [h1]
   · rw [if_neg (show ¬ (o.kind=1∨o.kind=2) by omega),List.append_nil]
     simp only [if_neg h1,if_neg h2];by_cases h5:o.kind=5
     · simp only [if_pos h5];unfold cr at hc;rw [if_neg h1,if_neg h2,if_pos h5] at hc;obtain ⟨hq,_⟩:=qC ho h5;obtain ⟨g1,g2,g3,g4,g5⟩:=(jj ht hp hq).1 hc;exact A2 ht hp hq (vG ht hq g3) g5
     · simp only [if_neg h5];exact ⟨hoff,fun q=>qB t o.path q⟩
theorem DX {t S:List Ent} {o:Opn} (ht:ai t=true) (ho:f7 o=true) (hc:cr t o=0) (hp:S.Perm (nV t o)) (hs:S.Pairwise fun a b=>lt b.path a.path=false):S=doT t o:=
 xP hp hs (uq ht ho hc).1 (A3 ht o) (uq ht ho hc).2
theorem Ci {t:List Ent} {o:Opn} (ht:ai t=true):(nV t o).length≤17:=by
 have hl:=aI ht;unfold nV;rw [zAV];have h1:(if o.kind=5 then t.map (f8 o.path o.to) else iI t o.path).length≤16:=by
  split
  · simp; exact hl
  · have:=zAf (fun e:Ent=>decide (e.path≠o.path)) t
    unfold iI;omega
 have h2:(if o.kind=1∨o.kind=2 then [(⟨o.path,decide (o.kind=1),o.data⟩:Ent)] else []).length≤1:=by
  split <;> simp
 omega
theorem ur {t:List Ent} {p:Bs} (hp:ae p=true):dw t p=if bc t p≠0 then bc t p else if (ah t p).isSome then 4 else if 16≤t.length then 8 else 0:=by
 unfold dw;rw [cp (aW hp)]
theorem Cj {t:List Ent} {p:Bs} (hp:ae p=true):dN t p=if bc t p≠0 then bc t p else if (ah t p).isSome∧((ah t p).getD fG).dir=true then 5 else if (ah t p).isNone∧16≤t.length then 8 else 0:=by
 unfold dN;rw [ur hp,cp (aW hp)];by_cases h1:bc t p=0
 · simp only [h1,ne_eq,not_true_eq_false,if_false];cases h2:ah t p with
   | none=>
     simp only [Option.isSome_none,zAF,if_false,false_and,Option.isNone_none,true_and];by_cases h3:16≤t.length
     · simp [h3]
     · simp [h3]
   | some e=>
     cases hd:e.dir <;> simp [ec,hd]
 · have h4:bc t p≠4:=by
     unfold bc;repeat' split
     all_goals decide
   simp [h1,h4]
theorem DY {t:List Ent} {o:Opn} (ht:ai t=true) (hp:ae o.path=true) (hk:o.kind=3):eP t o=if (ah t o.path).isNone then 2 else if ((ah t o.path).getD fG).dir=true then 5 else 0:=by
 unfold eP;rw [cp (aW hp)];cases h:ah t o.path with
 | none=>rfl
 | some e=>
   simp only [Option.isNone_some,zAF,if_false,Option.getD_some,hk,true_and];by_cases hd:e.dir=true
   · simp [hd]
   · have hd':e.dir=false:=by simpa using hd
     have hkid:lT t o.path=[]:=zD ht ht hp (fun d hd2=>by rw [h] at hd2; cases hd2; exact hd') (fun _ _=>rfl);simp [hkid,hd']
theorem DZ {t:List Ent} {p:Bs} (ht:ai t=true) (hp:ae p=true):decide (0 < (lT t p).length)=t.any (fun e=>under e.path p):=by
 rw [zAK,decide_eq_true_eq,zAr];constructor
 · intro h;have hne:lT t p≠[]:=by intro h2; rw [h2] at h; simp at h
   rw [ne_eq,lM] at hne;simp only [ne_eq,Classical.not_forall,Decidable.not_not] at hne;obtain ⟨e,he,h2⟩:=hne;exact ⟨e,he,jJ (fc ht he).2.1 hp (.inl h2)⟩
 · rintro ⟨e,he,hu⟩;obtain ⟨k,h1,h2⟩:=DU ht hp e.path.length (zAJ _) (iK (bh ht) he) hu;apply Nat.pos_of_ne_zero;intro h3;exact lM.1 (List.length_eq_zero_iff.1 h3) k h1 h2
theorem xQ {t:List Ent} {o:Opn} (ht:ai t=true) (hp:ae o.path=true) (hk:o.kind=4):eP t o=if (ah t o.path).isNone then 2 else if ((ah t o.path).getD fG).dir=false then 3 else if t.any (fun e=>under e.path o.path)=true then 6 else 0:=by
 unfold eP;rw [cp (aW hp)];cases h:ah t o.path with
 | none=>rfl
 | some e=>
   have h3:¬ (o.kind=3∧e.dir=true):=by omega
   simp only [if_neg h3,hk,true_and,Option.isNone_some,zAF,if_false,Option.getD_some]
   have:=DZ ht hp
   by_cases hd:e.dir=true
   · rw [← this];simp [hd]
   · have hd':e.dir=false:=by simpa using hd
     simp [hd']
theorem zE {t:List Ent} {o:Opn} (hp:ae o.path=true) (hq:ae o.to=true):cO t o=if (ah t o.path).isNone then 2 else if bc t o.to≠0 then bc t o.to else if (ah t o.to).isSome then 4 else if under o.to o.path=true then 7 else if t.all (fun e=>(aO e.path o.path o.to).isSome)=true then 0 else 8:=by
 unfold cO;rw [cp (aW hp),cp (aW hq)]
abbrev bx (l:List Mrk):List Bs:=l.map (·.path)
theorem bi (e:Mrk) (t:List Mrk) (p:Bs):aA (e :: t) p=if e.path=p then some e else aA t p:=by
 unfold aA;rw [List.find?_cons];by_cases h:e.path=p <;> simp [h]
theorem d7 {t:List Mrk} {p:Bs}:aA t p=none↔p ∉ bx t:=by
 unfold aA bx;rw [List.find?_eq_none];constructor
 · intro h hm;obtain ⟨e,he,rfl⟩:=List.mem_map.1 hm;exact absurd (h e he) (by simp)
 · intro h e he hp;exact h (List.mem_map.2 ⟨e,he,by simpa using hp⟩)
theorem zF {t:List Mrk} {p:Bs} (h:p∈bx t):∃ e,aA t p=some e:=by
 cases he:aA t p with
 | some e=>exact ⟨e,rfl⟩
 | none=>exact absurd h (d7.1 he)
theorem ja:∀ {t:List Mrk} {e:Mrk},aD (bx t)→e∈t→aA t e.path=some e
 | x :: t,e,hs,he=>by
   rw [bi];rcases List.mem_cons.1 he with rfl|he
   · rw [if_pos rfl]
   · have:x.path≠e.path:=l6 (aQ hs _ (List.mem_map.2 ⟨e,he,rfl⟩))
     rw [if_neg this];exact ja (aH hs) he
theorem xR:∀ {t u:List Mrk},aD (bx t)→aD (bx u)→(∀ p,aA t p=aA u p)→t=u
 | [],[],_,_,_=>rfl
 | [],y :: s,_,_,h=>by have:=h y.path; rw [bi,if_pos rfl] at this; cases this
 | x :: r,[],_,_,h=>by have:=h x.path; rw [bi,if_pos rfl] at this; cases this
 | x :: r,y :: s,ht,hu,h=>by
   have hxy:x.path=y.path:=by
    have h1:=h x.path;have h2:=h y.path;rw [bi,if_pos rfl] at h1;rw [bi y,if_pos rfl] at h2;by_cases hp:x.path=y.path
    · exact hp
    · rw [bi,if_neg (Ne.symm hp)] at h1;rw [bi,if_neg hp] at h2;have g1:=fv h1.symm;have g2:=fv h2;have k1:=aQ hu x.path (List.mem_map.2 ⟨x,g1.1,rfl⟩);have k2:=aQ ht y.path (List.mem_map.2 ⟨y,g2.1,rfl⟩);rw [kQ _ _ k1] at k2;cases k2
   have hxe:x=y:=by
    have h1:=h x.path;rw [bi,if_pos rfl,bi,if_pos hxy.symm] at h1;exact zAZ h1
   subst hxe;congr 1
   refine xR (aH ht) (aH hu) fun p=>?_;by_cases hp:x.path=p
   · subst hp;rw [d7.2 (dJ ht),d7.2 (dJ hu)]
   · have:=h p
     rwa [bi,if_neg hp,bi,if_neg hp] at this
theorem A5 {t:List Mrk} (hs:aD (bx t)) (e:Mrk) (p:Bs):aA (dL t e) p=if e.path=p then some e else aA t p:=by
 induction t with
 | nil=>rw [dL,bi]
 | cons x r ih=>
   have ih:=ih (aH hs);unfold dL;split
   · rename_i hl;rw [bi,ih,bi];by_cases h1:x.path=p
     · have:e.path≠p:=by rw [← h1]; exact fun h=>l6 hl h.symm
       rw [if_pos h1,if_neg this,if_pos h1]
     · rw [if_neg h1,if_neg h1]
   · split
     · rename_i hp;rw [bi,bi];by_cases h1:e.path=p
       · rw [if_pos h1,if_pos h1]
       · rw [if_neg h1,if_neg h1,if_neg (by rw [hp]; exact h1)]
     · rw [bi]
theorem zG {t:List Mrk} {e:Mrk} {p:Bs}:p∈bx (dL t e)↔p=e.path∨p∈bx t:=by
 induction t with
 | nil=>simp [dL,bx]
 | cons x r ih=>
   unfold dL;split
   · simp only [bx,List.map_cons,List.mem_cons] at ih ⊢;rw [ih];constructor
     · rintro (h|h|h) <;> simp [h]
     · rintro (h|h|h) <;> simp [h]
   · split
     · rename_i hp;simp only [bx,List.map_cons,List.mem_cons,hp];constructor
       · rintro (h|h) <;> simp [h]
       · rintro (h|h|h) <;> simp [h]
     · simp [bx]
theorem pK {t:List Mrk} (hs:aD (bx t)) (e:Mrk):aD (bx (dL t e)):=by
 induction t with
 | nil=>simp [dL,bx,aD]
 | cons x r ih=>
   have ih:=ih (aH hs);unfold dL;split
   · rename_i hl;refine List.pairwise_cons.2 ⟨fun b hb=>?_,ih⟩;rcases zG.1 hb with rfl|hb
     · exact hl
     · exact aQ hs b hb
   · rename_i hl;split
     · rename_i hp;refine List.pairwise_cons.2 ⟨fun b hb=>?_,aH hs⟩;show lt e.path b=true
       rw [← hp];exact aQ hs b hb
     · rename_i hp;have hlt:lt e.path x.path=true:=by
        rcases eZ e.path x.path with h|h|h
        · exact h
        · exact absurd h.symm hp
        · exact absurd h hl
       refine List.pairwise_cons.2 ⟨fun b hb=>?_,hs⟩;rcases List.mem_cons.1 hb with rfl|hb
       · exact hlt
       · exact lt_trans _ _ _ hlt (aQ hs b hb)
theorem rS {t:List Mrk} (hn:(bx t).Nodup) {q:Bs} {e:Mrk}:aA t q=some e↔e∈t∧e.path=q:=by
 constructor
 · exact fv
 · rintro ⟨h1,h2⟩
   induction t with
   | nil=>cases h1
   | cons x t ih=>
     have hn2:=List.nodup_cons.1 hn;rw [bi];rcases List.mem_cons.1 h1 with h1|h1
     · rw [← h1,if_pos h2]
     · rw [if_neg]
       · exact ih hn2.2 h1
       · intro h3;exact hn2.1 (by show x.path∈_; rw [h3,← h2]; exact List.mem_map.2 ⟨e,h1,rfl⟩)
theorem Ck {S L U:List Mrk} (hp:S.Perm L) (hs:S.Pairwise fun a b=>lt b.path a.path=false) (hn:(bx L).Nodup) (hu:aD (bx U)) (hat:∀ q,aA L q=aA U q):S=U:=by
 have hn2:(bx S).Nodup:=(hp.map _).nodup_iff.2 hn;have hss:aD (bx S):=by
  unfold aD bx;rw [zBT];have h1:=zBT.1 (List.nodup_iff_pairwise_ne.1 hn2);refine (h1.and hs).imp ?_;rintro a b ⟨h2,h3⟩;rcases eZ a.path b.path with h|h|h
  · exact h
  · exact absurd h h2
  · rw [h] at h3; cases h3
 refine xR hss hu fun q=>?_;rw [← hat];cases h:aA L q with
 | none=>
   refine d7.2 fun hm=>d7.1 h ?_;exact (hp.map _).mem_iff.1 hm
 | some e=>
   obtain ⟨h1,h2⟩:=(rS hn).1 h;exact (rS hn2).2 ⟨hp.mem_iff.2 h1,h2⟩
theorem vJ {t:List Mrk} (h:aD (bx t)) {i:Nat} {e:Mrk} (hi:t[i]?=some e):i6 t e i=true:=by
 unfold i6
 match i,hi with
 | 0,_=>rfl
 | j+1,hi=>
   simp only;cases hj:t[j]? with
   | none=>rfl
   | some e'=>
     simp only;exact oN (i:=j) (j:=j+1) h (by simp [hj]) (by simp [hi]) (by omega)
theorem xS {l:List Mrk} (h:∀ m∈l,ae m.path=true) {p:Bs} (hp:ae p=true):jF l p=bare l p:=by
 unfold jF bare;rw [zAK,zAr,zAr];constructor
 · rintro ⟨m,hm,h1⟩;exact ⟨m,hm,by simpa [bB,hp,h m hm] using h1⟩
 · rintro ⟨m,hm,h1⟩;exact ⟨m,hm,by simpa [bB,hp,h m hm] using h1⟩
theorem A6 {l:List Mrk} {p:Bs}:inM l p=true↔ag p=[47]∨∃ d,aA l (ag p)=some d∧dS d=true:=by
 unfold inM;rw [zAh,decide_eq_true_eq];refine or_congr Iff.rfl ?_;cases aA l (ag p) with
 | none=>simp [j7]
 | some d=>simp [j7]
theorem fA {l:List Mrk}:aX l=true↔l.length≤32∧aD (bx l)∧∀ m∈l,cn m=true∧(ag m.path=[47]∨∃ d,aA l (ag m.path)=some d∧dS d=true)∧(2 < m.kind→bare l m.path=false):=by
 constructor
 · intro h;have hk:=vv h;refine ⟨xB h,kW h,?_⟩;rw [← kV] at h;unfold kU at h;rw [zAE,bU] at h;intro e he;obtain ⟨i,hi⟩:=List.mem_iff_getElem?.1 he
   have:=h.2 i (List.getElem?_eq_some_iff.1 hi).1
   simp only [mM,hi,zAE] at this;obtain ⟨⟨⟨h1,h2⟩,h3⟩,h4⟩:=this;refine ⟨h1,A6.1 h3,fun h5=>?_⟩;rw [xS (fun m hm=>eG (hk m hm)) (eG h1)] at h4;simpa [h5] using h4
 · rintro ⟨h1,h2,h3⟩;refine l8 h1 fun i hi=>?_;have he:l[i]?=some l[i]:=zAB hi;obtain ⟨g1,g2,g3⟩:=h3 l[i] (zAc hi);simp only [mM,he,zAE];refine ⟨⟨⟨g1,vJ h2 he⟩,A6.2 g2⟩,?_⟩;rw [xS (fun m hm=>eG (h3 m hm).1) (eG g1)];by_cases h5:2 < l[i].kind
   · rw [g3 h5]; simp
   · simp [h5]
theorem A7 {l:List Mrk} (h:aX l=true) {p:Bs} {m:Mrk} (hm:aA l p=some m):cn m=true∧m.path=p∧ae p=true∧(ag p=[47]∨∃ d,aA l (ag p)=some d∧dS d=true)∧(2 < m.kind→bare l p=false):=by
 obtain ⟨h1,rfl⟩:=fv hm;obtain ⟨_,_,h3⟩:=fA.1 h;obtain ⟨g1,g2,g3⟩:=h3 m h1;exact ⟨g1,rfl,eG g1,g2,g3⟩
theorem h9 {m:Mrk} (h:cn m=true):(m.kind=1∨m.kind=2∨m.kind=3∨m.kind=4)∧ae m.path=true∧cL m.data=true∧(m.kind≠1→m.data=[]):=by
 simp only [cn,zAE,decide_eq_true_eq] at h;obtain ⟨⟨⟨h1,h2⟩,h3⟩,h4⟩:=h;refine ⟨by omega,h3,?_,fun hk=>?_⟩
 · split at h4
   · exact h4
   · rw [of_decide_eq_true h4]; rfl
 · rw [if_neg hk] at h4;exact of_decide_eq_true h4
theorem oW {p d:Bs} {k:Int} (hk:k=1∨k=2∨k=3∨k=4) (hp:ae p=true) (hd:cL d=true) (hd2:k≠1→d=[]):cn ⟨p,k,d⟩=true:=by
 rcases hk with rfl|rfl|rfl|rfl
 · simp [cn,hp,hd]
 all_goals simp [cn,hp,hd2 (by decide)]
theorem gi {l:List Mrk} (h:aX l=true):aD (bx l):=kW h
theorem mP {m:Mrk}:dS m=true↔m.kind=2∨m.kind=4:=by simp [dS]
def cQ (l:List Mrk) (p:Bs):Bool:=l.any fun m=>decide (m.kind≠2) && inP p m.path
theorem Cl {l:List Mrk} {p:Bs}:cQ l p=true↔∃ m∈l,m.kind≠2∧inP p m.path=true:=by
 unfold cQ;rw [zAr]
 simp
theorem lc {l:List Mrk} (hs:aD (bx l)) {p:Bs}:cQ l p=true↔∃ q m,aA l q=some m∧m.kind≠2∧inP p q=true:=by
 rw [Cl];constructor
 · rintro ⟨m,h1,h2,h3⟩;exact ⟨m.path,m,ja hs h1,h2,h3⟩
 · rintro ⟨q,m,h1,h2,h3⟩;obtain ⟨h4,rfl⟩:=fv h1;exact ⟨m,h4,h2,h3⟩
theorem xT {p a q:Bs} (ha:ae a=true) (hq:ae q=true) (h1:inP a q=true) (h2:under p a=true):under p q=true:=by
 rcases cM.1 h1 with rfl|h
 · exact h2
 · exact pG ha hq h2 (.inr h)
theorem zH {l:List Mrk} (h:aX l=true) {p a:Bs} (ha:ae a=true) (hu:under p a=true) (hh:cQ l a=true):cQ l p=true:=by
 rw [lc (gi h)] at hh ⊢;obtain ⟨q,m,h1,h2,h3⟩:=hh;exact ⟨q,m,h1,h2,cM.2 (.inr (xT ha (A7 h h1).2.2.1 h3 hu))⟩
theorem iL {p:Bs} (hp:ae p=true) (hr:ag p≠[47]):ae (ag p)=true∧under p (ag p)=true:=by
 have h1:=((gG hp).resolve_left hr).1;exact ⟨h1,jJ hp h1 (.inl rfl)⟩
def bv (m:Mrk):Option Ent:=if m.kind=3 then none else some ⟨m.path,dS m,m.data⟩
def onL (l:List Mrk) (t:List Ent):List Ent:=b9 (t.filter fun e=>!cQ l e.path) (l.filterMap bv)
def vK (l:List Mrk) (t:List Ent) (p:Bs):Option Ent:=match aA l p with
 | some m=>bv m
 | none=>if cQ l p then none else ah t p
def bC (l:List Mrk) (t:List Ent):Option (List Ent):=if aX l=true∧ai t=true∧(onL l t).length≤16 then some (onL l t) else none
theorem mQ (f:Bs→Bool) (q:Bs):∀ t:List Ent,ah (t.filter fun e=>f e.path) q=if f q=true then ah t q else none
 | []=>by simp [ah]
 | e :: t=>by
   have ih:=mQ f q t;rw [List.filter_cons];by_cases hq:e.path=q
   · subst hq;by_cases hf:f e.path=true
     · rw [if_pos hf,if_pos hf,aJ,aJ,if_pos rfl,if_pos rfl]
     · rw [if_neg hf,if_neg hf,ih,if_neg hf]
   · by_cases hf:f e.path=true
     · rw [if_pos hf,aJ,if_neg hq,ih,aJ,if_neg hq]
     · rw [if_neg hf,ih,aJ,if_neg hq]
theorem fW {m:Mrk} {e:Ent} (h:bv m=some e):e.path=m.path:=by
 unfold bv at h;split at h
 · cases h
 · cases h; rfl
theorem oX:∀ {l:List Mrk},aD (bx l)→∀ q,ah (l.filterMap bv) q=(aA l q).bind bv
 | [],_,q=>rfl
 | m :: r,hs,q=>by
   have ih:=oX (l:=r) (aH hs) q;rw [List.filterMap_cons,bi];by_cases hq:m.path=q
   · rw [if_pos hq,Option.bind_some];cases hm:bv m with
     | none=>
       simp only;rw [ih,d7.2 (by rw [← hq]; exact dJ hs)];rfl
     | some e=>
       simp only;rw [aJ,if_pos (by rw [fW hm]; exact hq)]
   · rw [if_neg hq];cases hm:bv m with
     | none=>exact ih
     | some e=>
       simp only;rw [aJ,if_neg (by rw [fW hm]; exact hq)];exact ih
theorem kz {l:List Mrk} (hs:aD (bx l)):(ay (l.filterMap bv)).Nodup:=by
 induction l with
 | nil=>simp
 | cons m r ih=>
   have ih:=ih (aH hs);rw [List.filterMap_cons];cases hm:bv m with
   | none=>exact ih
   | some e=>
     simp only;refine List.nodup_cons.2 ⟨fun hmem=>?_,ih⟩;obtain ⟨x,hx,h1⟩:=List.mem_map.1 hmem;obtain ⟨y,hy,h2⟩:=List.mem_filterMap.1 hx;have h3:=aQ hs y.path (List.mem_map.2 ⟨y,hy,rfl⟩);have h4:m.path=y.path:=(fW hm).symm.trans (h1.symm.trans (fW h2));exact absurd h4 (l6 h3)
theorem mR {t:List Ent} (h:aD (ay t)) (f:Ent→Bool):aD (ay (t.filter f)):=by
 unfold aD ay at h ⊢;rw [zBT] at h ⊢;exact h.filter _
theorem vL {l:List Mrk} {t:List Ent} (ht:aD (ay t)):aD (ay (onL l t)):=gy (mR ht _)
theorem vM {l:List Mrk} {t:List Ent} (hl:aD (bx l)) (ht:aD (ay t)) (p:Bs):ah (onL l t) p=vK l t p:=by
 unfold onL vK;rw [oU (mR ht _) (kz hl),oX hl,mQ (fun q=>!cQ l q)];cases hm:aA l p with
 | none=>
   simp only [Option.bind_none,zBD];cases cQ l p <;> simp
 | some m=>
   simp only [Option.bind_some];cases he:bv m with
   | some e=>rfl
   | none=>
     have hk:m.kind=3:=by
      unfold bv at he;split at he
      · assumption
      · cases he
     have hh:cQ l p=true:=(lc hl).2 ⟨p,m,hm,by omega,cM.2 (.inl rfl)⟩;simp [hh]
theorem zI {m:Mrk} {e:Ent} (hm:cn m=true) (he:bv m=some e):eu e=true∧e.dir=dS m:=by
 obtain ⟨h1,h2,h3,h4⟩:=h9 hm;unfold bv at he;split at he
 · cases he
 · cases he;refine ⟨nS h2 h3 fun hd=>h4 ?_,rfl⟩;rcases mP.1 hd with h|h <;> omega
theorem pL {d:Mrk} (hd:dS d=true):bv d=some ⟨d.path,true,d.data⟩:=by
 have:d.kind≠3:=by rcases mP.1 hd with h|h <;> omega
 rw [bv,if_neg this,hd]
theorem Gb {l:List Mrk} {t:List Ent} (hl:aX l=true) (ht:ai t=true) (hn:(onL l t).length≤16):ai (onL l t)=true:=by
 refine uk hn (vL (bh ht)) fun p e he=>?_;simp only [vM (gi hl) (bh ht)] at he ⊢;unfold vK at he;cases hm:aA l p with
 | some m=>
   rw [hm] at he;obtain ⟨h1,h2,h3,h4,_⟩:=A7 hl hm;refine ⟨(zI h1 he).1,h4.imp id ?_⟩;rintro ⟨d,d1,d2⟩;refine ⟨⟨d.path,true,d.data⟩,?_,rfl⟩;unfold vK;rw [d1];exact pL d2
 | none=>
   rw [hm] at he;simp only at he;cases hh:cQ l p with
   | true=>rw [hh] at he; cases he
   | false=>
     rw [hh] at he;simp only [zAF,if_false] at he;obtain ⟨h1,h2,h3,h4⟩:=en ht he;refine ⟨h1,?_⟩;by_cases hr:ag p=[47]
     · exact .inl hr
     · right;obtain ⟨d,d1,d2⟩:=h4.resolve_left hr;obtain ⟨u1,u2⟩:=iL h3 hr;unfold vK;cases hmu:aA l (ag p) with
       | some m=>
         have hk:m.kind=2:=by
          apply Decidable.byContradiction;intro hk
          have:cQ l p=true:=(lc (gi hl)).2 ⟨ag p,m,hmu,hk,cM.2 (.inr u2)⟩
          rw [hh] at this;cases this
         exact ⟨_,pL (mP.2 (.inl hk)),rfl⟩
       | none=>
         have:cQ l (ag p)=false:=by
          rw [← zAa];intro h5;rw [zH hl u1 u2 h5] at hh;cases hh
         simp only [this];exact ⟨d,by simpa using d1,d2⟩
theorem eo {l:List Mrk} {t u:List Ent} (h:bC l t=some u):aX l=true∧ai t=true∧ai u=true∧∀ p,ah u p=vK l t p:=by
 unfold bC at h;split at h
 · rename_i hc;cases h;exact ⟨hc.1,hc.2.1,Gb hc.1 hc.2.1 hc.2.2,vM (gi hc.1) (bh hc.2.1)⟩
 · cases h
theorem zJ {l:List Mrk} {t u:List Ent} (hl:aX l=true) (ht:ai t=true) (hu:ai u=true) (h:∀ p,vK l t p=ah u p):bC l t=some u:=by
 have e:onL l t=u:=vD (vL (bh ht)) (bh hu) fun p=>by rw [vM (gi hl) (bh ht)]; exact h p
 unfold bC;rw [e,if_pos ⟨hl,ht,aI hu⟩]
end Go.Par
