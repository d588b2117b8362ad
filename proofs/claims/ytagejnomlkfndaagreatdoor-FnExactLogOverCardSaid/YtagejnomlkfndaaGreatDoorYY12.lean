/- Texts of this claim, set close: lemmas and contracts. -/
import Derived.Test.YtagejnomlkfndaaGreatDoorYY11
import Derived.Test.YtagejnomlkfndaaGreatDoorYY6
import Derived.Test.YtagejnomlkfndaaGreatDoorYY4
set_option linter.unusedSimpArgs false
set_option linter.unusedVariables false
namespace Go.Par
open Go.Ab
theorem gw {s d:Bs} (hd:d≠[47]):bc s d=true↔∃ r,s=d++47 :: r:=by
 simp only [bc,hd,decide_false,zAt,zAE,decide_eq_true_eq];constructor
 · rintro ⟨⟨h1,h2⟩,h3⟩;refine ⟨s.drop (d.length+1),?_⟩;have h4:=List.drop_eq_getElem_cons h1;rw [zAB h1] at h3;rw [zAb h3] at h4
   conv=>lhs; rw [← zBC d.length s,h2,h4]
 · rintro ⟨r,rfl⟩
   simp
theorem sC {s:Bs} (h:ah s=true):∃ u n,s=u++47 :: n∧47 ∉ n∧((u=[]∧al s=[47])∨(ah u=true∧al s=u)):=by
 obtain ⟨w,a,h1,hw,ha,hl,rfl⟩:=lR h;refine ⟨_,_,rfl,(ni ha).1,?_⟩;rw [jr hw ha hl];by_cases hn:w=[]
 · subst hn; exact .inl ⟨rfl,rfl⟩
 · rw [if_neg hn];exact .inr ⟨qK hw (List.length_pos_iff.2 hn) (by omega),rfl⟩
theorem DX {u n a r:Bs} (hn:47 ∉ n) (h:u++47 :: n=a++47 :: r):a=u∨∃ c,u=a++47 :: c:=by
 rcases List.append_eq_append_iff.1 h with ⟨c,h1,h2⟩|⟨c,h1,h2⟩
 · match c,h1,h2 with
   | [],h1,h2=>left; simpa using h1
   | x :: c,h1,h2=>
     exfalso;simp only [zAh,List.cons.injEq] at h2;apply hn;rw [h2.2]
     simp
 · match c,h1,h2 with
   | [],h1,h2=>left; simpa using h1.symm
   | x :: c,h1,h2=>
     right;simp only [zAh,List.cons.injEq] at h2;exact ⟨c,by rw [h1,← h2.1]⟩
theorem uc {a:Bs} (ha:ah a=true):bc [47] a=false:=by
 rw [← zAZ,gw (bw ha)];rintro ⟨r,h⟩;cases a with
 | nil=>rw [oD] at ha; cases ha
 | cons x a=>simp at h
theorem i5 {s a:Bs} (hs:ah s=true) (ha:ah a=true) (h:bc s a=true):ah (al s)=true∧(al s=a∨bc (al s) a=true):=by
 obtain ⟨u,n,h1,hn,hu⟩:=sC hs;obtain ⟨r,h2⟩:=(gw (bw ha)).1 h;rcases DX hn (h1.symm.trans h2) with h3|⟨c,h3⟩
 · rcases hu with ⟨hu,_⟩|⟨hu,hp⟩
   · rw [h3,hu,oD] at ha; cases ha
   · exact ⟨by rw [hp]; exact hu,.inl (by rw [hp,h3])⟩
 · rcases hu with ⟨hu,_⟩|⟨hu,hp⟩
   · rw [hu] at h3; simp at h3
   · exact ⟨by rw [hp]; exact hu,.inr (by rw [hp]; exact (gw (bw ha)).2 ⟨c,h3⟩)⟩
theorem lh {s a:Bs} (hs:ah s=true) (ha:ah a=true) (h:al s=a∨bc (al s) a=true):bc s a=true:=by
 obtain ⟨u,n,h1,hn,hu⟩:=sC hs;rcases hu with ⟨hu,hp⟩|⟨hu,hp⟩
 · exfalso;rw [hp] at h;rcases h with h|h
   · rw [← h,kZ] at ha; cases ha
   · rw [uc ha] at h; cases h
 · rw [hp] at h;rw [gw (bw ha)];rcases h with h|h
   · exact ⟨n,by rw [h1,h]⟩
   · obtain ⟨r,h2⟩:=(gw (bw ha)).1 h;exact ⟨r++47 :: n,by rw [h1,h2]; simp⟩
theorem Jy {x n:Bs} (h:ah (x++47 :: n)=true) (hn:47 ∉ n) (hx:x≠[]):al (x++47 :: n)=x:=by
 obtain ⟨u,k,h1,hk,hu⟩:=sC h;have hux:u=x:=by
  rcases DX hn h1 with h2|⟨c,h2⟩
  · exact h2
  · exfalso;rw [h2] at h1;simp only [zAl,zAh,List.append_cancel_left_eq,List.cons.injEq] at h1;apply hk;rw [← h1.2]
    simp
 rcases hu with ⟨h2,_⟩|⟨_,h2⟩
 · exact absurd (hux.symm.trans h2) hx
 · rw [h2,hux]
theorem lj {s a:Bs} (ha:ah a=true) (h:bc s a=true):a.length < s.length:=(qL h (bw ha)).1
theorem kr {s a b:Bs} (ha:ah a=true) (hb:ah b=true) (h1:bc s a=true) (h2:a=b∨bc a b=true):bc s b=true:=by
 obtain ⟨r,rfl⟩:=(gw (bw ha)).1 h1;rcases h2 with rfl|h2
 · exact h1
 · obtain ⟨q,rfl⟩:=(gw (bw hb)).1 h2;exact (gw (bw hb)).2 ⟨q++47 :: r,by simp⟩
def inP (s a:Bs):Bool:=decide (s=a) || bc s a
theorem cC {s a:Bs}:inP s a=true↔s=a∨bc s a=true:=by simp [inP]
theorem qO {s a:Bs} (ha:ah a=true):inP s a=true↔∃ x,s=a++x∧(x=[]∨∃ r,x=47 :: r):=by
 rw [cC,gw (bw ha)];constructor
 · rintro (rfl|⟨r,rfl⟩)
   · exact ⟨[],by simp,.inl rfl⟩
   · exact ⟨_,rfl,.inr ⟨r,rfl⟩⟩
 · rintro ⟨x,rfl,rfl|⟨r,rfl⟩⟩
   · left; simp
   · exact .inr ⟨r,rfl⟩
def mvP (a b s:Bs):Bs:=if inP s a then b++s.drop a.length else s
theorem CB {a b s:Bs} (h:inP s a=true):mvP a b s=b++s.drop a.length:=by rw [mvP,if_pos h]
theorem sD {a b s:Bs} (h:inP s a=false):mvP a b s=s:=by rw [mvP,h]; rfl
theorem ii {a b x:Bs} (ha:ah a=true) (hx:x=[]∨∃ r,x=47 :: r):inP (a++x) a=true∧mvP a b (a++x)=b++x:=by
 have h:inP (a++x) a=true:=(qO ha).2 ⟨x,rfl,hx⟩;exact ⟨h,by rw [CB h]; simp⟩
theorem rC {s a b:Bs} (hs:ah s=true) (ha:ah a=true) (hb:ah b=true):aX s a b=if ah (mvP a b s)=true then some (mvP a b s) else none:=by
 unfold aX;rw [hs,ha,hb];simp only [zBN,if_true];cases h:inP s a with
 | true=>
   have h2:=h;rw [cC] at h2;rw [CB h,if_neg];rintro ⟨h3,h4⟩;rcases h2 with h2|h2
   · exact h3 h2
   · rw [h2] at h4; cases h4
 | false=>
   have h2:¬ inP s a=true:=by rw [h]; simp
   rw [cC] at h2;rw [sD h,if_pos hs,if_pos ⟨fun e=>h2 (.inl e),by rw [← zAZ]; exact fun e=>h2 (.inr e)⟩]
theorem Jc {s a:Bs} (hs:ah s=true) (ha:ah a=true) (hne:s≠a):inP (al s) a=inP s a:=by
 rw [zAK,cC,cC];constructor
 · intro h; exact .inr (lh hs ha h)
 · rintro (h|h)
   · exact absurd h hne
   · exact (i5 hs ha h).2
theorem Jd {s a b:Bs} (hs:ah s=true) (ha:ah a=true) (hb:ah b=true) (h:bc s a=true) (ho:ah (mvP a b s)=true):al (mvP a b s)=mvP a b (al s):=by
 obtain ⟨hu,h2⟩:=i5 hs ha h;obtain ⟨u,n,h1,hn,h3⟩:=sC hs;have hus:al s=u:=by
  rcases h3 with ⟨_,h3⟩|⟨_,h3⟩
  · rw [h3,kZ] at hu; cases hu
  · exact h3
 rw [hus] at h2 ⊢;obtain ⟨x,hx1,hx2⟩:=(qO ha).1 (cC.2 h2);have e1:mvP a b u=b++x:=by rw [hx1]; exact (ii ha hx2).2
 have e2:mvP a b s=(b++x)++47 :: n:=by
  rw [CB (cC.2 (.inr h)),h1,hx1]
  simp
 rw [e2] at ho ⊢;rw [e1];refine Jy ho hn ?_;intro e;have hb2:b=[]:=(List.append_eq_nil_iff.1 e).1;rw [hb2,oD] at hb;cases hb
theorem gx {t:List Ent} (h:aq t=true) {e:Ent} (he:e∈t):fy e=true∧ah e.path=true∧(al e.path=[47]∨∃ d,ao t (al e.path)=some d∧d.dir=true):=by
 obtain ⟨_,_,h3⟩:=oH.1 h;obtain ⟨h4,h5⟩:=h3 e he;refine ⟨h4,?_,fU.1 h5⟩;simp only [fy,zAE] at h4;exact h4.1.1
theorem ft {t:List Ent} (h:aq t=true) {p:Bs} {e:Ent} (he:ao t p=some e):fy e=true∧e.path=p∧ah p=true∧(al p=[47]∨∃ d,ao t (al p)=some d∧d.dir=true):=by
 obtain ⟨h1,rfl⟩:=cW he;obtain ⟨h2,h3,h4⟩:=gx h h1;exact ⟨h2,rfl,h3,h4⟩
theorem mS {t:List Ent} (h:aq t=true) {a:Bs} (ha:ah a=true):∀ (n:Nat) {p:Bs} {e:Ent},p.length≤n→ao t p=some e→bc p a=true→∃ d,ao t a=some d∧d.dir=true
 | 0,p,e,hn,he,hu=>by
   have:=lj ha hu
   omega
 | n+1,p,e,hn,he,hu=>by
   obtain ⟨h2,h3,h4,h5⟩:=ft h he;obtain ⟨g1,g2⟩:=i5 h4 ha hu;have hne:al p≠[47]:=bw g1;obtain ⟨d,hd1,hd2⟩:=h5.resolve_left hne;rcases g2 with g2|g2
   · exact ⟨d,by rw [← g2]; exact hd1,hd2⟩
   · have:=fo h4 hne
     exact mS h ha n (by omega) hd1 g2
theorem GX {t:List Ent} (h:aq t=true) {a:Bs} (ha:ah a=true):∀ (n:Nat) {p:Bs} {e:Ent},p.length≤n→ao t p=some e→bc p a=true→∃ k∈t,al k.path=a
 | 0,p,e,hn,he,hu=>by
   have:=lj ha hu
   omega
 | n+1,p,e,hn,he,hu=>by
   obtain ⟨h2,h3,h4,h5⟩:=ft h he;obtain ⟨g1,g2⟩:=i5 h4 ha hu;have hne:al p≠[47]:=bw g1;rcases g2 with g2|g2
   · exact ⟨e,(cW he).1,by rw [h3]; exact g2⟩
   · obtain ⟨d,hd1,hd2⟩:=h5.resolve_left hne
     have:=fo h4 hne
     exact GX h ha n (by omega) hd1 g2
theorem np {t:List Ent} {p:Bs}:nB t p=[]↔∀ e∈t,al e.path≠p:=by
 unfold nB;rw [List.map_eq_nil_iff,List.filter_eq_nil_iff]
 simp
theorem pR {t:List Ent} (h:aq t=true) {p:Bs} (hp:ah p=true) (hn:∀ d,ao t p=some d→d.dir=false) {q:Bs} (hq:bc q p=true):ao t q=none:=by
 cases he:ao t q with
 | none=>rfl
 | some e=>
   exfalso;obtain ⟨d,h1,h2⟩:=mS h hp q.length (zAL _) he hq;rw [hn d h1] at h2;cases h2
theorem sE (t:List Ent) (p q:Bs):ao (js t p) q=if p=q then none else ao t q:=by
 induction t with
 | nil=>simp [js,ao]
 | cons e t ih=>
   unfold js at ih ⊢;rw [List.filter_cons];by_cases hp:e.path=p
   · rw [if_neg (by simpa using hp),ih,aT];by_cases hq:p=q
     · rw [if_pos hq,if_pos hq]
     · rw [if_neg hq,if_neg hq,if_neg (by rw [hp]; exact hq)]
   · rw [if_pos (by simpa using hp),aT,ih,aT];by_cases hq:p=q
     · rw [if_pos hq,if_pos hq,if_neg (by rw [← hq]; exact hp)]
     · rw [if_neg hq,if_neg hq]
theorem rD {t:List Ent} (h:ax (aC t)) (p:Bs):ax (aC (js t p)):=by
 unfold js;unfold ax aC at h ⊢;rw [zBS] at h ⊢;exact h.filter _
theorem qP:∀ {L X:List Ent},ax (aC X)→(aC L).Nodup→∀ q,ao (cF X L) q=(ao L q).or (ao X q)
 | [],X,_,_,q=>by simp [cF,ao]
 | e :: r,X,hs,hn,q=>by
   have hn2:=List.nodup_cons.1 hn;have ih:=qP (L:=r) (kq hs e) hn2.2 q
   have:cF X (e :: r)=cF (ea X e) r:=rfl
   rw [this,ih,ym hs,aT];by_cases he:e.path=q
   · rw [if_pos he,if_pos he]
     have:ao r q=none:=cw.2 (by rw [← he]; exact hn2.1)
     rw [this];rfl
   · rw [if_neg he,if_neg he]
theorem qQ {f:Ent→Ent} {q s:Bs}:∀ {t:List Ent},(∀ e∈t,(f e).path=q↔e.path=s)→ao (t.map f) q=(ao t s).map f
 | [],_=>rfl
 | e :: t,h=>by
   have ih:=qQ (t:=t) fun x hx=>h x (by simp [hx]);rw [List.map_cons,aT,aT,ih];by_cases he:e.path=s
   · rw [if_pos he,if_pos ((h e (by simp)).2 he)]; rfl
   · rw [if_neg he,if_neg fun hq=>he ((h e (by simp)).1 hq)]
theorem ug {f:Ent→Ent} {q:Bs} {t:List Ent} (h:∀ e∈t,(f e).path≠q):ao (t.map f) q=none:=by
 refine cw.2 fun hm=>?_;obtain ⟨x,hx,hq⟩:=List.mem_map.1 hm;obtain ⟨e,he,rfl⟩:=List.mem_map.1 hx;exact h e he hq
theorem wN {t:List Ent} (hl:t.length≤16) (hs:ax (aC t)) (h:∀ p e,ao t p=some e→fy e=true∧(al p=[47]∨∃ d,ao t (al p)=some d∧d.dir=true)):aq t=true:=by
 refine oH.2 ⟨hl,hs,fun e he=>?_⟩;have h1:=h e.path e (jV hs he);exact ⟨h1.1,fU.2 h1.2⟩
theorem rE:∀ {t:List Ent} {e:Ent},e.path∈aC t→ax (aC t)→(ea t e).length=t.length
 | [],_,h,_=>by simp at h
 | x :: r,e,h,hs=>by
   unfold ea;by_cases h1:lt x.path e.path=true
   · rw [if_pos h1];have hm:e.path∈aC r:=by
      rcases List.mem_cons.1 h with h|h
      · rw [h,gP] at h1; cases h1
      · exact h
     simp [rE hm (aP hs)]
   · rw [if_neg h1];by_cases h2:x.path=e.path
     · rw [if_pos h2]; simp
     · exfalso;rcases List.mem_cons.1 h with h|h
       · exact h2 h.symm
       · exact h1 (bg hs e.path h)
theorem jG {o:Opn} (h:iu o=true):ah o.path=true:=by
 simp only [iu,zAE] at h;exact h.1
theorem sF {o:Opn} (h:iu o=true) (hk:o.kind=5):ah o.tgt=true∧o.data=[]:=by
 simp only [iu,zAE,hk,if_true,decide_eq_true_eq] at h;exact h.2
theorem wO {o:Opn} (h:iu o=true):dD o.data=true∧(o.kind≠2→o.data=[])∧(o.kind≠5→o.tgt=[]):=by
 simp only [iu,zAE] at h;obtain ⟨_,h⟩:=h;split at h
 · rename_i hk;simp only [zAE,decide_eq_true_eq] at h;refine ⟨by rw [h.2]; rfl,fun _=>h.2,fun hn=>absurd hk hn⟩
 · split at h
   · rename_i hk;simp only [zAE,decide_eq_true_eq] at h;exact ⟨h.2,fun hn=>absurd hk hn,fun _=>h.1⟩
   · simp only [zAE,decide_eq_true_eq] at h;exact ⟨by rw [h.2]; rfl,fun _=>h.2,fun _=>h.1.2⟩
theorem pS {p d:Bs} {x:Bool} (hp:ah p=true) (hd:dD d=true) (hx:x=true→d=[]):fy ⟨p,x,d⟩=true:=by
 simp only [fy,hp,hd,zAx,zBO];cases x with
 | true=>simp [hx rfl]
 | false=>simp
theorem oI {e:Ent} (h:fy e=true):dD e.data=true∧(e.dir=true→e.data=[]):=by
 simp only [fy,zAE] at h;refine ⟨h.1.2,fun hd=>?_⟩
 have:=h.2
 rw [hd] at this;simpa using this
theorem lW {t:List Ent} {p:Bs} (hp:ah p=true):eF t p=0↔bC t p=0∧ao t p=none∧t.length < 16:=by
 unfold eF;rw [df (bw hp)];by_cases h1:bC t p=0
 · rw [if_neg (by simpa using h1)];cases h2:ao t p with
   | none=>
     simp only [Option.isSome_none,zAF,if_false,h1,true_and];by_cases h3:16≤t.length
     · rw [if_pos h3]; constructor
       · intro h; cases h
       · intro h; omega
     · rw [if_neg h3]; simp; omega
   | some e=>simp
 · rw [if_pos (by simpa using h1)];simp [h1]
theorem pT {t:List Ent} {p:Bs} (hp:ah p=true):eF t p=4↔bC t p=0∧∃ e,ao t p=some e:=by
 unfold eF;rw [df (bw hp)];by_cases h1:bC t p=0
 · rw [if_neg (by simpa using h1)];cases h2:ao t p with
   | none=>
     simp only [Option.isSome_none,zAF,if_false];split <;> simp
   | some e=>simp [h1]
 · rw [if_pos (by simpa using h1)]
   have:bC t p≠4:=by
    unfold bC;repeat' split
    all_goals decide
   simp [h1,this]
theorem pU {t:List Ent} {p:Bs} (hp:ah p=true):eP t p=0↔bC t p=0∧((∃ e,ao t p=some e∧e.dir=false)∨(ao t p=none∧t.length < 16)):=by
 unfold eP;have hg:aA t p=ao t p:=df (bw hp);by_cases h4:eF t p=4
 · obtain ⟨h5,e,h6⟩:=(pT hp).1 h4;rw [hg,h6];cases hd:e.dir with
   | true=>simp [h4,fm,hd,h5]
   | false=>simp [h4,fm,hd,h5]
 · rw [if_neg (fun h=>h4 h.1),if_neg h4,lW hp];constructor
   · rintro ⟨h1,h2,h3⟩;exact ⟨h1,.inr ⟨h2,h3⟩⟩
   · rintro ⟨h1,⟨e,h2,h3⟩|h2⟩
     · exact absurd ((pT hp).2 ⟨h1,e,h2⟩) h4
     · exact ⟨h1,h2.1,h2.2⟩
theorem yn {t:List Ent} {o:Opn} (hp:ah o.path=true):gb t o=0↔∃ e,ao t o.path=some e∧(o.kind=3→e.dir=false)∧(o.kind=4→e.dir=true)∧nB t o.path=[]:=by
 unfold gb;rw [df (bw hp)];cases h:ao t o.path with
 | none=>simp
 | some e=>
   simp only;by_cases h1:o.kind=3∧e.dir=true
   · rw [if_pos h1];constructor
     · intro h; cases h
     · rintro ⟨e',h2,h3,_⟩;cases h2;rw [h3 h1.1] at h1;cases h1.2
   · rw [if_neg h1];by_cases h2:o.kind=4∧e.dir=false
     · rw [if_pos h2];constructor
       · intro h; cases h
       · rintro ⟨e',h3,_,h4,_⟩;cases h3;rw [h4 h2.1] at h2;cases h2.2
     · rw [if_neg h2];by_cases h3:0 < (nB t o.path).length
       · rw [if_pos h3];constructor
         · intro h; cases h
         · rintro ⟨_,_,_,_,h4⟩;rw [h4] at h3;simp at h3
       · rw [if_neg h3];simp only [true_iff];refine ⟨e,rfl,fun hk=>?_,fun hk=>?_,List.length_eq_zero_iff.1 (by omega)⟩
         · cases hd:e.dir with
           | false=>rfl
           | true=>exact absurd ⟨hk,hd⟩ h1
         · cases hd:e.dir with
           | true=>rfl
           | false=>exact absurd ⟨hk,hd⟩ h2
theorem kI {t:List Ent} {o:Opn} (ht:aq t=true) (hp:ah o.path=true) (hq:ah o.tgt=true):dI t o=0↔(∃ e,ao t o.path=some e)∧bC t o.tgt=0∧ao t o.tgt=none∧bc o.tgt o.path=false∧∀ e∈t,ah (mvP o.path o.tgt e.path)=true:=by
 unfold dI;rw [df (bw hp),df (bw hq)];cases h1:ao t o.path with
 | none=>simp
 | some e1=>
   simp only [Option.isNone_some,zAF,if_false];by_cases h2:bC t o.tgt=0
   · rw [if_neg (by simpa using h2)];cases h3:ao t o.tgt with
     | some e2=>simp
     | none=>
       simp only [Option.isSome_none,zAF,if_false];cases h4:bc o.tgt o.path with
       | true=>simp
       | false=>
         simp only [zAF,if_false];have hall:t.all (fun e=>(aX e.path o.path o.tgt).isSome)=true↔∀ e∈t,ah (mvP o.path o.tgt e.path)=true:=by
          rw [zAs];refine forall_congr' fun e=>imp_congr_right fun he=>?_;rw [rC (gx ht he).2.1 hp hq];split <;> simp_all
         by_cases h5:t.all (fun e=>(aX e.path o.path o.tgt).isSome)=true
         · rw [if_pos h5];simp only [true_iff];exact ⟨⟨e1,rfl⟩,h2,trivial,trivial,hall.1 h5⟩
         · rw [if_neg h5];constructor
           · intro h; cases h
           · rintro ⟨_,_,_,_,h6⟩;exact absurd (hall.2 h6) h5
   · rw [if_pos (by simpa using h2)];simp [h2]
def HZ (t:List Ent) (o:Opn) (q:Bs):Option Ent:=
 if o.kind=1 then (if o.path=q then some ⟨o.path,true,[]⟩ else ao t q)
 else if o.kind=2 then (if o.path=q then some ⟨o.path,false,o.data⟩ else ao t q)
 else if o.kind=5 then (if inP q o.tgt=true then (ao t (mvP o.tgt o.path q)).map (fun e=>⟨q,e.dir,e.data⟩) else if inP q o.path=true then none else ao t q)
 else (if o.path=q then none else ao t q)
theorem GY {a b:Bs} {e:Ent} (hs:ah e.path=true) (ha:ah a=true) (hb:ah b=true) (ho:ah (mvP a b e.path)=true):gt a b e=⟨mvP a b e.path,e.dir,e.data⟩:=by
 unfold gt;rw [rC hs ha hb,if_pos ho];rfl
theorem DY {t:List Ent} {a b:Bs} (ht:aq t=true) (ha:ah a=true) (hb:ah b=true) (hn:∀ q,inP q b=true→ao t q=none) (hall:∀ e∈t,ah (mvP a b e.path)=true) :
   (aC (t.map (gt a b))).Nodup∧∀ q,ao (t.map (gt a b)) q=if inP q b=true then (ao t (mvP b a q)).map (fun e=>⟨q,e.dir,e.data⟩) else if inP q a=true then none else ao t q:=by
 have hf:∀ e∈t,gt a b e=⟨mvP a b e.path,e.dir,e.data⟩:=fun e he=>GY (gx ht he).2.1 ha hb (hall e he);have hnb:∀ e∈t,inP e.path b=false:=fun e he=>by
  rw [← zAZ];intro hi
  have:=hn e.path hi
  rw [jV (bE ht) he] at this;cases this
 have key:∀ e∈t,∀ q,mvP a b e.path=q→(inP q b=true∧e.path=mvP b a q)∨(inP q b=false∧inP q a=false∧e.path=q):=by
  intro e he q hq;cases hi:inP e.path a with
  | true=>
    obtain ⟨x,h1,h2⟩:=(qO ha).1 hi;rw [h1,(ii ha h2).2] at hq;left;rw [← hq];exact ⟨(ii (b:=a) hb h2).1,by rw [(ii hb h2).2]; exact h1⟩
  | false=>
    rw [sD hi] at hq;right;rw [← hq];exact ⟨hnb e he,hi,rfl⟩
 have back:∀ s,inP s b=true→∃ x,s=b++x∧mvP b a s=a++x∧mvP a b (mvP b a s)=s:=by
  intro s hs;obtain ⟨x,h1,h2⟩:=(qO hb).1 hs;refine ⟨x,h1,by rw [h1]; exact (ii hb h2).2,?_⟩;rw [h1,(ii hb h2).2,(ii ha h2).2]
 refine ⟨?_,fun q=>?_⟩
 · have e1:aC (t.map (gt a b))=(aC t).map (mvP a b):=by
     rw [aC,aC,zBE,zBE];exact List.map_congr_left fun e he=>by simp [hf e he]
   rw [e1];have hinj:∀ x∈aC t,∀ y∈aC t,mvP a b x=mvP a b y→x=y:=by
    intro x hx y hy hxy;obtain ⟨e,he,rfl⟩:=List.mem_map.1 hx;obtain ⟨d,hd,rfl⟩:=List.mem_map.1 hy;rcases key e he _ rfl with ⟨k1,k2⟩|⟨k1,k2,k3⟩
    · rcases key d hd _ hxy.symm with ⟨l1,l2⟩|⟨l1,l2,l3⟩
      · rw [k2,l2]
      · rw [k1] at l1; cases l1
    · rcases key d hd _ hxy.symm with ⟨l1,l2⟩|⟨l1,l2,l3⟩
      · rw [k1] at l1; cases l1
      · rw [k3,l3]
   have hnd:=cA (bE ht);rw [List.nodup_iff_pairwise_ne] at hnd ⊢;rw [zBS];exact hnd.imp_of_mem fun {x y} hx hy hne heq=>hne (hinj x hx y hy heq)
 · cases h1:inP q b with
   | true=>
     rw [if_pos rfl];obtain ⟨x,g1,g2,g3⟩:=back q h1;rw [qQ (s:=mvP b a q)]
     · cases he:ao t (mvP b a q) with
       | none=>rfl
       | some e=>
         obtain ⟨k1,k2⟩:=cW he;simp only [Option.map_some];rw [hf e k1,k2,g3]
     · intro e he;rw [hf e he];constructor
       · intro h;rcases key e he q h with ⟨_,k⟩|⟨k,_⟩
         · exact k
         · rw [h1] at k; cases k
       · intro h;simp only;rw [h,g3]
   | false=>
     rw [if_neg (by simp)];cases h2:inP q a with
     | true=>
       rw [if_pos rfl];refine ug fun e he h=>?_;rw [hf e he] at h;rcases key e he q h with ⟨k,_⟩|⟨_,k,_⟩
       · rw [h1] at k; cases k
       · rw [h2] at k; cases k
     | false=>
       rw [if_neg (by simp),qQ (s:=q)]
       · cases he:ao t q with
         | none=>rfl
         | some e=>
           obtain ⟨k1,k2⟩:=cW he;simp only [Option.map_some];rw [hf e k1,k2,sD h2,← k2]
       · intro e he;rw [hf e he];constructor
         · intro h;rcases key e he q h with ⟨k,_⟩|⟨_,_,k⟩
           · rw [h1] at k; cases k
           · exact k
         · intro h;simp only;rw [h,sD h2]
theorem yo {t:List Ent} {b:Bs} (ht:aq t=true) (hb:ah b=true) (h:ao t b=none):∀ q,inP q b=true→ao t q=none:=by
 intro q hq;rcases cC.1 hq with rfl|hq
 · exact h
 · exact pR ht hb (fun d hd=>by rw [h] at hd; cases hd) hq
theorem CC {t:List Ent} {o:Opn} (ht:aq t=true) (ho:iu o=true) (hc:dh t o=0) (q:Bs):ao (doT t o) q=HZ t o q:=by
 unfold doT HZ dh at *;have hp:=jG ho;split
 · exact ym (bE ht) _ _
 · split
   · exact ym (bE ht) _ _
   · split
     · rename_i h1 h2 h5;rw [if_neg h1,if_neg h2,if_pos h5] at hc;obtain ⟨hq,_⟩:=sF ho h5;obtain ⟨g1,g2,g3,g4,g5⟩:=(kI ht hp hq).1 hc;obtain ⟨m1,m2⟩:=DY ht hp hq (yo ht hq g3) g5;unfold ml;rw [qP (X:=[]) List.Pairwise.nil m1,m2];simp [ao]
     · exact sE t o.path q
theorem yp {t:List Ent} {p:Bs} (h:bC t p=0):al p=[47]∨∃ d,ao t (al p)=some d∧d.dir=true:=fU.1 h
theorem GZ {p:Bs} (hp:ah p=true):al p≠p:=by
 intro h;rcases iV hp with h1|⟨_,h1⟩
 · rw [h1] at h; rw [← h,kZ] at hp; cases hp
 · rw [h,gP] at h1; cases h1
theorem DZ {t:List Ent} (ht:aq t=true) (o:Opn):ax (aC (doT t o)):=by
 unfold doT;split
 · exact kq (bE ht) _
 · split
   · exact kq (bE ht) _
   · split
     · exact iN List.Pairwise.nil
     · exact rD (bE ht) _
theorem H0 {t:List Ent} {o:Opn} (ht:aq t=true) (ho:iu o=true) (hc:dh t o=0):(doT t o).length≤16:=by
 have hl:=aN ht;have hp:=jG ho;unfold doT dh at *;split
 · rename_i h1;rw [if_pos h1] at hc
   have:=(fR t ⟨o.path,true,[]⟩).2
   have:=((lW hp).1 hc).2.2
   omega
 · rename_i h1;rw [if_neg h1] at hc;split
   · rename_i h2;rw [if_pos h2] at hc;rcases ((pU hp).1 hc).2 with ⟨e,he,_⟩|⟨_,h3⟩
     · obtain ⟨k1,k2⟩:=cW he;rw [rE (e:=⟨o.path,false,o.data⟩) (List.mem_map.2 ⟨e,k1,k2⟩) (bE ht)];exact hl
     · have:=(fR t ⟨o.path,false,o.data⟩).2
       omega
   · split
     · have:=putAll_len (t.map (gt o.path o.tgt)) []
       simp only [zAA,List.length_nil] at this;unfold ml;omega
     · have:=zAa (fun e:Ent=>decide (e.path≠o.path)) t
       unfold js;omega
theorem Je {t:List Ent} {o:Opn} (ht:aq t=true) (ho:iu o=true) (hc:dh t o=0):aq (doT t o)=true:=by
 refine wN (H0 ht ho hc) (DZ ht o) fun p e he=>?_;rw [CC ht ho hc] at he;simp only [CC ht ho hc];have hp:=jG ho;have hdat:=wO ho;unfold HZ dh at *;by_cases h1:o.kind=1
 · simp only [if_pos h1] at hc he ⊢;obtain ⟨g1,g2,g3⟩:=(lW hp).1 hc;by_cases hq:o.path=p
   · rw [if_pos hq] at he;cases he;refine ⟨pS hp rfl fun _=>rfl,?_⟩;rw [← hq];refine (yp g1).imp id ?_;rintro ⟨d,d1,d2⟩;exact ⟨d,by rw [if_neg fun h=>GZ hp h.symm]; exact d1,d2⟩
   · rw [if_neg hq] at he;obtain ⟨k1,k2,k3,k4⟩:=ft ht he;refine ⟨k1,k4.imp id ?_⟩;rintro ⟨d,d1,d2⟩;exact ⟨d,by rw [if_neg fun h=>by rw [← h,g2] at d1; cases d1]; exact d1,d2⟩
 · simp only [if_neg h1] at hc he ⊢;by_cases h2:o.kind=2
   · simp only [if_pos h2] at hc he ⊢;obtain ⟨g1,g2⟩:=(pU hp).1 hc;have hnd:∀ d,ao t o.path=some d→d.dir=false:=by
      intro d hd;rcases g2 with ⟨e',h3,h4⟩|⟨h3,_⟩
      · rw [h3] at hd; cases hd; exact h4
      · rw [h3] at hd; cases hd
     by_cases hq:o.path=p
     · rw [if_pos hq] at he;cases he;refine ⟨pS hp hdat.1 (fun h=>by cases h),?_⟩;rw [← hq];refine (yp g1).imp id ?_;rintro ⟨d,d1,d2⟩;exact ⟨d,by rw [if_neg fun h=>GZ hp h.symm]; exact d1,d2⟩
     · rw [if_neg hq] at he;obtain ⟨k1,k2,k3,k4⟩:=ft ht he;refine ⟨k1,k4.imp id ?_⟩;rintro ⟨d,d1,d2⟩;exact ⟨d,by rw [if_neg fun h=>by rw [← h] at d1; rw [hnd d d1] at d2; cases d2]; exact d1,d2⟩
   · simp only [if_neg h2] at hc he ⊢;by_cases h5:o.kind=5
     · simp only [if_pos h5] at hc he ⊢;obtain ⟨hq,_⟩:=sF ho h5;obtain ⟨⟨e0,g1⟩,g2,g3,g4,g5⟩:=(kI ht hp hq).1 hc;have hfree:=yo ht hq g3;have hupto:al o.tgt=[47]∨(inP (al o.tgt) o.tgt=false∧inP (al o.tgt) o.path=false):=by
        by_cases hr:al o.tgt=[47]
        · exact .inl hr
        · right;constructor
          · rw [← zAZ,cC];rintro (h|h)
            · exact GZ hq h
            · have:=lj hq h
              have:=fo hq hr
              omega
          · rw [← zAZ,cC];intro h
            have:=lh hq hp h
            rw [g4] at this;cases this
       by_cases hb:inP p o.tgt=true
       · rw [if_pos hb] at he;cases hs:ao t (mvP o.tgt o.path p) with
         | none=>rw [hs] at he; cases he
         | some e'=>
           rw [hs] at he;cases he;obtain ⟨k1,k2,k3,k4⟩:=ft ht hs;obtain ⟨x,hx1,hx2⟩:=(qO hq).1 hb;have hsrc:mvP o.tgt o.path p=o.path++x:=by rw [hx1]; exact (ii hq hx2).2
           have hmv:mvP o.path o.tgt (o.path++x)=p:=by rw [(ii hp hx2).2,hx1]
           have hpok:ah p=true:=by
            have:=g5 e' (cW hs).1
            rw [k2,hsrc,hmv] at this;exact this
           obtain ⟨d1,d2⟩:=oI k1;refine ⟨pS hpok d1 d2,?_⟩;rcases hx2 with rfl|⟨r,hr⟩
           · -- the moved one itself
             have hpt:p=o.tgt:=by rw [hx1]; simp
             rw [hpt];rcases yp g2 with h|⟨d,h3,h4⟩
             · exact .inl h
             · rcases hupto with h|⟨h6,h7⟩
               · exact .inl h
               · right;refine ⟨d,?_,h4⟩;rw [h6,h7];simpa using h3
           · -- below it
             have hu:bc (o.path++x) o.path=true:=(gw (bw hp)).2 ⟨r,by rw [hr]⟩;rw [hsrc] at k3 k4;obtain ⟨u1,u2⟩:=i5 k3 hp hu;obtain ⟨d,h3,h4⟩:=k4.resolve_left (bw u1);have hup:al p=mvP o.path o.tgt (al (o.path++x)):=by
              have:=Jd k3 hp hq hu (by rw [hmv]; exact hpok)
              rw [hmv] at this;exact this
             obtain ⟨y,hy1,hy2⟩:=(qO hp).1 (cC.2 u2);have hup2:al p=o.tgt++y:=by rw [hup,hy1]; exact (ii hp hy2).2
             right;refine ⟨⟨al p,d.dir,d.data⟩,?_,h4⟩;obtain ⟨i1,i2⟩:=ii (b:=o.path) hq hy2;rw [hup2,if_pos i1,i2,← hy1,h3];rfl
       · have hb':inP p o.tgt=false:=by simpa using hb
         simp only [hb',zAF,if_false] at he;by_cases ha:inP p o.path=true
         · rw [if_pos ha] at he; cases he
         · have ha':inP p o.path=false:=by simpa using ha
           simp only [ha',zAF,if_false] at he;obtain ⟨k1,k2,k3,k4⟩:=ft ht he;refine ⟨k1,?_⟩;rcases k4 with k4|⟨d,h3,h4⟩
           · exact .inl k4
           · right;refine ⟨d,?_,h4⟩;have i1:inP (al p) o.tgt=false:=by
              rw [← zAZ];intro h;rw [hfree _ h] at h3;cases h3
             have i2:inP (al p) o.path=false:=by
              rw [Jc k3 hp]
              · exact ha'
              · rintro rfl;rw [cC.2 (.inl rfl)] at ha';cases ha'
             rw [i1,i2];simpa using h3
     · simp only [if_neg h5] at hc he ⊢;obtain ⟨e0,g1,g2,g3,g4⟩:=(yn hp).1 hc;by_cases hq:o.path=p
       · rw [if_pos hq] at he; cases he
       · rw [if_neg hq] at he;obtain ⟨k1,k2,k3,k4⟩:=ft ht he;refine ⟨k1,k4.imp id ?_⟩;rintro ⟨d,d1,d2⟩;refine ⟨d,?_,d2⟩;rw [if_neg]
         · exact d1
         · intro h
           have:=np.1 g4 e (cW he).1
           rw [k2] at this;exact this h.symm
theorem gS {t:List Ent} (ht:aq t=true) (o:Opn):aq (aJ t o).1=true:=by
 unfold aJ;split
 · rename_i h; rw [ht] at h; cases h
 · split
   · exact ht
   · split
     · exact ht
     · rename_i h1 h2 h3;exact Je ht (by simpa using h2) (by simpa using h3)
theorem kinds {o:Opn} (h:iu o=true):o.kind=1∨o.kind=2∨o.kind=3∨o.kind=4∨o.kind=5:=by
 have:=ER h
 omega
theorem CD {t u:List Ent} {p:Bs} (ht:aq t=true) (hu:aq u=true) (hp:ah p=true) (hn:∀ d,ao t p=some d→d.dir=false) (hq:∀ q,q≠p→ao u q=ao t q):nB u p=[]:=by
 refine np.2 fun e he h=>?_;obtain ⟨k1,k2,k3⟩:=gx hu he;have h1:=jV (bE hu) he;have h2:bc e.path p=true:=lh k2 hp (.inl h);have h3:e.path≠p:=fun h4=>by
  have:=lj hp h2
  rw [h4] at this;omega
 rw [hq _ h3,pR ht hp hn h2] at h1;cases h1
theorem D0 {e:Ent} {p:Bs} {d:Bool} {x:Bs} (h1:e.path=p) (h2:e.dir=d) (h3:e.data=x):e=⟨p,d,x⟩:=by
 cases e; simp_all
def logRun:List Ent→List Opn→List Ent × List Int
 | t,[]=>(t,[])
 | t,o :: r=>((logRun (aJ t o).1 r).1,(aJ t o).2 :: (logRun (aJ t o).1 r).2)
theorem JQ {t:List Ent} {o:Opn} (ht:aq t=true) (h:(aJ t o).2≠0):(aJ t o).1=t:=by
 unfold aJ at h ⊢;split
 · rename_i h1; rw [ht] at h1; cases h1
 · split
   · rfl
   · split
     · rfl
     · rename_i h1 h2 h3;rw [if_neg h1,if_neg h2,if_neg h3] at h;exact absurd rfl h
theorem wP {t:List Ent} (hn:(aC t).Nodup) {q:Bs} {e:Ent}:ao t q=some e↔e∈t∧e.path=q:=by
 constructor
 · exact cW
 · rintro ⟨h1,h2⟩
   induction t with
   | nil=>cases h1
   | cons x t ih=>
     have hn2:=List.nodup_cons.1 hn;rw [aT];rcases List.mem_cons.1 h1 with h1|h1
     · rw [← h1,if_pos h2]
     · rw [if_neg]
       · exact ih hn2.2 h1
       · intro h3;exact hn2.1 (by show x.path∈_; rw [h3,← h2]; exact List.mem_map.2 ⟨e,h1,rfl⟩)
theorem Ax {S L U:List Ent} (hp:S.Perm L) (hs:S.Pairwise fun a b=>lt b.path a.path=false) (hn:(aC L).Nodup) (hu:ax (aC U)) (hat:∀ q,ao L q=ao U q):S=U:=by
 have hn2:(aC S).Nodup:=(hp.map _).nodup_iff.2 hn;have hss:ax (aC S):=by
  unfold ax aC;rw [zBS];have h1:=zBS.1 (List.nodup_iff_pairwise_ne.1 hn2);refine (h1.and hs).imp ?_;rintro a b ⟨h2,h3⟩;rcases gp a.path b.path with h|h|h
  · exact h
  · exact absurd h h2
  · rw [h] at h3; cases h3
 refine yl hss hu fun q=>?_;rw [← hat];cases h:ao L q with
 | none=>
   refine cw.2 fun hm=>cw.1 h ?_;exact (hp.map _).mem_iff.1 hm
 | some e=>
   obtain ⟨h1,h2⟩:=(wP hn).1 h;exact (wP hn2).2 ⟨hp.mem_iff.2 h1,h2⟩
def pV (t:List Ent) (o:Opn):List Ent:=
 (if o.kind=5 then t.map (gt o.path o.tgt) else js t o.path)++(if o.kind=1∨o.kind=2 then [⟨o.path,decide (o.kind=1),o.data⟩] else [])
theorem wQ {t:List Ent} {o:Opn} (ht:aq t=true) (ho:iu o=true) (hc:dh t o=0):(aC (pV t o)).Nodup∧∀ q,ao (pV t o) q=ao (doT t o) q:=by
 have hp:=jG ho;have hoff:(aC (js t o.path)).Nodup:=cA (rD (bE ht) _);have hno:o.path ∉ aC (js t o.path):=by
  rw [← cw,sE,if_pos rfl]
 have hsnoc:∀ e:Ent,e.path=o.path→(aC (js t o.path++[e])).Nodup∧∀ q,ao (js t o.path++[e]) q=if o.path=q then some e else ao t q:=by
  intro e he;constructor
  · rw [aC,zAH,List.nodup_append];refine ⟨hoff,by simp,?_⟩;intro a ha b hb hab;simp at hb;rw [hab,hb,he] at ha;exact hno ha
  · intro q;have happ:∀ l:List Ent,ao (l++[e]) q=(ao l q).or (ao [e] q):=by
     intro l;simp [ao,zBR]
    rw [happ,sE];by_cases hq:o.path=q
    · rw [if_pos hq,if_pos hq];simp [ao,he,hq]
    · rw [if_neg hq,if_neg hq]
      have:ao [e] q=none:=by
       rw [aT,if_neg (by rw [he]; exact hq)];rfl
      rw [this]
      simp
 simp only [CC ht ho hc];unfold pV HZ;have hdat:=wO ho;by_cases h1:o.kind=1
 · have h5:¬ o.kind=5:=by omega
   rw [if_neg h5,if_pos (.inl h1)];simp only [if_pos h1];have hd:o.data=[]:=hdat.2.1 (by omega);have h:=hsnoc ⟨o.path,decide (o.kind=1),o.data⟩ rfl;refine ⟨h.1,fun q=>?_⟩;rw [h.2,hd,h1]
   simp
 · by_cases h2:o.kind=2
   · have h5:¬ o.kind=5:=by omega
     rw [if_neg h5,if_pos (.inr h2)];simp only [if_neg h1,if_pos h2];have h:=hsnoc ⟨o.path,decide (o.kind=1),o.data⟩ rfl;refine ⟨h.1,fun q=>?_⟩;rw [h.2];simp [h1]
   · rw [if_neg (show ¬ (o.kind=1∨o.kind=2) by omega),List.append_nil]
     simp only [if_neg h1,if_neg h2];by_cases h5:o.kind=5
     · simp only [if_pos h5];unfold dh at hc;rw [if_neg h1,if_neg h2,if_pos h5] at hc;obtain ⟨hq,_⟩:=sF ho h5;obtain ⟨g1,g2,g3,g4,g5⟩:=(kI ht hp hq).1 hc;exact DY ht hp hq (yo ht hq g3) g5
     · simp only [if_neg h5];exact ⟨hoff,fun q=>sE t o.path q⟩
theorem G1 {t S:List Ent} {o:Opn} (ht:aq t=true) (ho:iu o=true) (hc:dh t o=0) (hp:S.Perm (pV t o)) (hs:S.Pairwise fun a b=>lt b.path a.path=false):S=doT t o:=
 Ax hp hs (wQ ht ho hc).1 (DZ ht o) (wQ ht ho hc).2
theorem E9 {t:List Ent} {o:Opn} (ht:aq t=true):(pV t o).length≤17:=by
 have hl:=aN ht;unfold pV;rw [zAT];have h1:(if o.kind=5 then t.map (gt o.path o.tgt) else js t o.path).length≤16:=by
  split
  · simp; exact hl
  · have:=zAa (fun e:Ent=>decide (e.path≠o.path)) t
    unfold js;omega
 have h2:(if o.kind=1∨o.kind=2 then [(⟨o.path,decide (o.kind=1),o.data⟩:Ent)] else []).length≤1:=by
  split <;> simp
 omega
theorem wR {t:List Ent} {p:Bs} (hp:ah p=true):eF t p=if bC t p≠0 then bC t p else if (ao t p).isSome then 4 else if 16≤t.length then 8 else 0:=by
 unfold eF;rw [df (bw hp)]
theorem Fa {t:List Ent} {p:Bs} (hp:ah p=true):eP t p=if bC t p≠0 then bC t p else if (ao t p).isSome∧((ao t p).getD b9).dir=true then 5 else if (ao t p).isNone∧16≤t.length then 8 else 0:=by
 unfold eP;rw [wR hp,df (bw hp)];by_cases h1:bC t p=0
 · simp only [h1,ne_eq,not_true_eq_false,if_false];cases h2:ao t p with
   | none=>
     simp only [Option.isSome_none,zAF,if_false,false_and,Option.isNone_none,true_and];by_cases h3:16≤t.length
     · simp [h3]
     · simp [h3]
   | some e=>
     cases hd:e.dir <;> simp [fm,hd]
 · have h4:bC t p≠4:=by
     unfold bC;repeat' split
     all_goals decide
   simp [h1,h4]
theorem G2 {t:List Ent} {o:Opn} (ht:aq t=true) (hp:ah o.path=true) (hk:o.kind=3):gb t o=if (ao t o.path).isNone then 2 else if ((ao t o.path).getD b9).dir=true then 5 else 0:=by
 unfold gb;rw [df (bw hp)];cases h:ao t o.path with
 | none=>rfl
 | some e=>
   simp only [Option.isNone_some,zAF,if_false,Option.getD_some,hk,true_and];by_cases hd:e.dir=true
   · simp [hd]
   · have hd':e.dir=false:=by simpa using hd
     have hkid:nB t o.path=[]:=CD ht ht hp (fun d hd2=>by rw [h] at hd2; cases hd2; exact hd') (fun _ _=>rfl);simp [hkid,hd']
theorem G3 {t:List Ent} {p:Bs} (ht:aq t=true) (hp:ah p=true):decide (0 < (nB t p).length)=t.any (fun e=>bc e.path p):=by
 rw [zAK,decide_eq_true_eq,zAp];constructor
 · intro h;have hne:nB t p≠[]:=by intro h2; rw [h2] at h; simp at h
   rw [ne_eq,np] at hne;simp only [ne_eq,Classical.not_forall,Decidable.not_not] at hne;obtain ⟨e,he,h2⟩:=hne;exact ⟨e,he,lh (gx ht he).2.1 hp (.inl h2)⟩
 · rintro ⟨e,he,hu⟩;obtain ⟨k,h1,h2⟩:=GX ht hp e.path.length (zAL _) (jV (bE ht) he) hu;apply Nat.pos_of_ne_zero;intro h3;exact np.1 (List.length_eq_zero_iff.1 h3) k h1 h2
theorem Ay {t:List Ent} {o:Opn} (ht:aq t=true) (hp:ah o.path=true) (hk:o.kind=4):gb t o=if (ao t o.path).isNone then 2 else if ((ao t o.path).getD b9).dir=false then 3 else if t.any (fun e=>bc e.path o.path)=true then 6 else 0:=by
 unfold gb;rw [df (bw hp)];cases h:ao t o.path with
 | none=>rfl
 | some e=>
   have h3:¬ (o.kind=3∧e.dir=true):=by omega
   simp only [if_neg h3,hk,true_and,Option.isNone_some,zAF,if_false,Option.getD_some]
   have:=G3 ht hp
   by_cases hd:e.dir=true
   · rw [← this];simp [hd]
   · have hd':e.dir=false:=by simpa using hd
     simp [hd']
theorem CE {t:List Ent} {o:Opn} (hp:ah o.path=true) (hq:ah o.tgt=true):dI t o=if (ao t o.path).isNone then 2 else if bC t o.tgt≠0 then bC t o.tgt else if (ao t o.tgt).isSome then 4 else if bc o.tgt o.path=true then 7 else if t.all (fun e=>(aX e.path o.path o.tgt).isSome)=true then 0 else 8:=by
 unfold dI;rw [df (bw hp),df (bw hq)]
abbrev aV (l:List Mrk):List Bs:=l.map (·.path)
theorem aS (e:Mrk) (t:List Mrk) (p:Bs):am (e :: t) p=if e.path=p then some e else am t p:=by
 unfold am;rw [List.find?_cons];by_cases h:e.path=p <;> simp [h]
theorem qa0 {t:List Mrk} {p:Bs}:am t p=none↔p ∉ aV t:=by
 unfold am aV;rw [List.find?_eq_none];constructor
 · intro h hm;obtain ⟨e,he,rfl⟩:=List.mem_map.1 hm;exact absurd (h e he) (by simp)
 · intro h e he hp;exact h (List.mem_map.2 ⟨e,he,by simpa using hp⟩)
theorem CF {t:List Mrk} {p:Bs} (h:p∈aV t):∃ e,am t p=some e:=by
 cases he:am t p with
 | some e=>exact ⟨e,rfl⟩
 | none=>exact absurd h (qa0.1 he)
theorem fV:∀ {t:List Mrk} {e:Mrk},ax (aV t)→e∈t→am t e.path=some e
 | x :: t,e,hs,he=>by
   rw [aS];rcases List.mem_cons.1 he with rfl|he
   · rw [if_pos rfl]
   · have:x.path≠e.path:=nQ (bg hs _ (List.mem_map.2 ⟨e,he,rfl⟩))
     rw [if_neg this];exact fV (aP hs) he
theorem Az:∀ {t u:List Mrk},ax (aV t)→ax (aV u)→(∀ p,am t p=am u p)→t=u
 | [],[],_,_,_=>rfl
 | [],y :: s,_,_,h=>by have:=h y.path; rw [aS,if_pos rfl] at this; cases this
 | x :: r,[],_,_,h=>by have:=h x.path; rw [aS,if_pos rfl] at this; cases this
 | x :: r,y :: s,ht,hu,h=>by
   have hxy:x.path=y.path:=by
    have h1:=h x.path;have h2:=h y.path;rw [aS,if_pos rfl] at h1;rw [aS y,if_pos rfl] at h2;by_cases hp:x.path=y.path
    · exact hp
    · rw [aS,if_neg (Ne.symm hp)] at h1;rw [aS,if_neg hp] at h2;have g1:=cK h1.symm;have g2:=cK h2;have k1:=bg hu x.path (List.mem_map.2 ⟨x,g1.1,rfl⟩);have k2:=bg ht y.path (List.mem_map.2 ⟨y,g2.1,rfl⟩);rw [mH _ _ k1] at k2;cases k2
   have hxe:x=y:=by
    have h1:=h x.path;rw [aS,if_pos rfl,aS,if_pos hxy.symm] at h1;exact zAb h1
   subst hxe;congr 1
   refine Az (aP ht) (aP hu) fun p=>?_;by_cases hp:x.path=p
   · subst hp;rw [qa0.2 (eL ht),qa0.2 (eL hu)]
   · have:=h p
     rwa [aS,if_neg hp,aS,if_neg hp] at this
theorem yq {t:List Mrk} (hs:ax (aV t)) (e:Mrk) (p:Bs):am (dk t e) p=if e.path=p then some e else am t p:=by
 induction t with
 | nil=>rw [dk,aS]
 | cons x r ih=>
   have ih:=ih (aP hs);unfold dk;split
   · rename_i hl;rw [aS,ih,aS];by_cases h1:x.path=p
     · have:e.path≠p:=by rw [← h1]; exact fun h=>nQ hl h.symm
       rw [if_pos h1,if_neg this,if_pos h1]
     · rw [if_neg h1,if_neg h1]
   · split
     · rename_i hp;rw [aS,aS];by_cases h1:e.path=p
       · rw [if_pos h1,if_pos h1]
       · rw [if_neg h1,if_neg h1,if_neg (by rw [hp]; exact h1)]
     · rw [aS]
theorem CG {t:List Mrk} {e:Mrk} {p:Bs}:p∈aV (dk t e)↔p=e.path∨p∈aV t:=by
 induction t with
 | nil=>simp [dk,aV]
 | cons x r ih=>
   unfold dk;split
   · simp only [aV,List.map_cons,List.mem_cons] at ih ⊢;rw [ih];constructor
     · rintro (h|h|h) <;> simp [h]
     · rintro (h|h|h) <;> simp [h]
   · split
     · rename_i hp;simp only [aV,List.map_cons,List.mem_cons,hp];constructor
       · rintro (h|h) <;> simp [h]
       · rintro (h|h|h) <;> simp [h]
     · simp [aV]
theorem kt {t:List Mrk} (hs:ax (aV t)) (e:Mrk):ax (aV (dk t e)):=by
 induction t with
 | nil=>simp [dk,aV,ax]
 | cons x r ih=>
   have ih:=ih (aP hs);unfold dk;split
   · rename_i hl;refine List.pairwise_cons.2 ⟨fun b hb=>?_,ih⟩;rcases CG.1 hb with rfl|hb
     · exact hl
     · exact bg hs b hb
   · rename_i hl;split
     · rename_i hp;refine List.pairwise_cons.2 ⟨fun b hb=>?_,aP hs⟩;show lt e.path b=true
       rw [← hp];exact bg hs b hb
     · rename_i hp;have hlt:lt e.path x.path=true:=by
        rcases gp e.path x.path with h|h|h
        · exact h
        · exact absurd h.symm hp
        · exact absurd h hl
       refine List.pairwise_cons.2 ⟨fun b hb=>?_,hs⟩;rcases List.mem_cons.1 hb with rfl|hb
       · exact hlt
       · exact lt_trans _ _ _ hlt (bg hs b hb)
theorem oJ {t:List Mrk} (hn:(aV t).Nodup) {q:Bs} {e:Mrk}:am t q=some e↔e∈t∧e.path=q:=by
 constructor
 · exact cK
 · rintro ⟨h1,h2⟩
   induction t with
   | nil=>cases h1
   | cons x t ih=>
     have hn2:=List.nodup_cons.1 hn;rw [aS];rcases List.mem_cons.1 h1 with h1|h1
     · rw [← h1,if_pos h2]
     · rw [if_neg]
       · exact ih hn2.2 h1
       · intro h3;exact hn2.1 (by show x.path∈_; rw [h3,← h2]; exact List.mem_map.2 ⟨e,h1,rfl⟩)
theorem Fc {S L U:List Mrk} (hp:S.Perm L) (hs:S.Pairwise fun a b=>lt b.path a.path=false) (hn:(aV L).Nodup) (hu:ax (aV U)) (hat:∀ q,am L q=am U q):S=U:=by
 have hn2:(aV S).Nodup:=(hp.map _).nodup_iff.2 hn;have hss:ax (aV S):=by
  unfold ax aV;rw [zBS];have h1:=zBS.1 (List.nodup_iff_pairwise_ne.1 hn2);refine (h1.and hs).imp ?_;rintro a b ⟨h2,h3⟩;rcases gp a.path b.path with h|h|h
  · exact h
  · exact absurd h h2
  · rw [h] at h3; cases h3
 refine Az hss hu fun q=>?_;rw [← hat];cases h:am L q with
 | none=>
   refine qa0.2 fun hm=>qa0.1 h ?_;exact (hp.map _).mem_iff.1 hm
 | some e=>
   obtain ⟨h1,h2⟩:=(oJ hn).1 h;exact (oJ hn2).2 ⟨hp.mem_iff.2 h1,h2⟩
theorem yr {t:List Mrk} (h:ax (aV t)) {i:Nat} {e:Mrk} (hi:t[i]?=some e):kj t e i=true:=by
 unfold kj
 match i,hi with
 | 0,_=>rfl
 | j+1,hi=>
   simp only;cases hj:t[j]? with
   | none=>rfl
   | some e'=>
     simp only;exact qJ (i:=j) (j:=j+1) h (by simp [hj]) (by simp [hi]) (by omega)
theorem AA {l:List Mrk} (h:∀ m∈l,ah m.path=true) {p:Bs} (hp:ah p=true):lb l p=bare l p:=by
 unfold lb bare;rw [zAK,zAp,zAp];constructor
 · rintro ⟨m,hm,h1⟩;exact ⟨m,hm,by simpa [bW,hp,h m hm] using h1⟩
 · rintro ⟨m,hm,h1⟩;exact ⟨m,hm,by simpa [bW,hp,h m hm] using h1⟩
theorem D1 {l:List Mrk} {p:Bs}:inM l p=true↔al p=[47]∨∃ d,am l (al p)=some d∧dS d=true:=by
 unfold inM;rw [zAe,decide_eq_true_eq];refine or_congr Iff.rfl ?_;cases am l (al p) with
 | none=>simp [lT]
 | some d=>simp [lT]
theorem fW {l:List Mrk}:aR l=true↔l.length≤32∧ax (aV l)∧∀ m∈l,cX m=true∧(al m.path=[47]∨∃ d,am l (al m.path)=some d∧dS d=true)∧(2 < m.kind→bare l m.path=false):=by
 constructor
 · intro h;have hk:=x9 h;refine ⟨mO h,mP h,?_⟩;rw [← mN] at h;unfold mM at h;rw [zAE,cq] at h;intro e he;obtain ⟨i,hi⟩:=List.mem_iff_getElem?.1 he
   have:=h.2 i (List.getElem?_eq_some_iff.1 hi).1
   simp only [oE,hi,zAE] at this;obtain ⟨⟨⟨h1,h2⟩,h3⟩,h4⟩:=this;refine ⟨h1,D1.1 h3,fun h5=>?_⟩;rw [AA (fun m hm=>qa1 (hk m hm)) (qa1 h1)] at h4;simpa [h5] using h4
 · rintro ⟨h1,h2,h3⟩;refine nS h1 fun i hi=>?_;have he:l[i]?=some l[i]:=zAB hi;obtain ⟨g1,g2,g3⟩:=h3 l[i] (zAX hi);simp only [oE,he,zAE];refine ⟨⟨⟨g1,yr h2 he⟩,D1.2 g2⟩,?_⟩;rw [AA (fun m hm=>qa1 (h3 m hm).1) (qa1 g1)];by_cases h5:2 < l[i].kind
   · rw [g3 h5]; simp
   · simp [h5]
theorem ku {l:List Mrk} (h:aR l=true) {p:Bs} {m:Mrk} (hm:am l p=some m):cX m=true∧m.path=p∧ah p=true∧(al p=[47]∨∃ d,am l (al p)=some d∧dS d=true)∧(2 < m.kind→bare l p=false):=by
 obtain ⟨h1,rfl⟩:=cK hm;obtain ⟨_,_,h3⟩:=fW.1 h;obtain ⟨g1,g2,g3⟩:=h3 m h1;exact ⟨g1,rfl,qa1 g1,g2,g3⟩
theorem fu {m:Mrk} (h:cX m=true):(m.kind=1∨m.kind=2∨m.kind=3∨m.kind=4)∧ah m.path=true∧dD m.data=true∧(m.kind≠1→m.data=[]):=by
 simp only [cX,zAE,decide_eq_true_eq] at h;obtain ⟨⟨⟨h1,h2⟩,h3⟩,h4⟩:=h;refine ⟨by omega,h3,?_,fun hk=>?_⟩
 · split at h4
   · exact h4
   · rw [of_decide_eq_true h4]; rfl
 · rw [if_neg hk] at h4;exact of_decide_eq_true h4
theorem lm {p d:Bs} {k:Int} (hk:k=1∨k=2∨k=3∨k=4) (hp:ah p=true) (hd:dD d=true) (hd2:k≠1→d=[]):cX ⟨p,k,d⟩=true:=by
 rcases hk with rfl|rfl|rfl|rfl
 · simp [cX,hp,hd]
 all_goals simp [cX,hp,hd2 (by decide)]
theorem cr {l:List Mrk} (h:aR l=true):ax (aV l):=mP h
theorem jW {m:Mrk}:dS m=true↔m.kind=2∨m.kind=4:=by simp [dS]
def cg (l:List Mrk) (p:Bs):Bool:=l.any fun m=>decide (m.kind≠2) && inP p m.path
theorem hIf {l:List Mrk} {p:Bs}:cg l p=true↔∃ m∈l,m.kind≠2∧inP p m.path=true:=by
 unfold cg;rw [zAp]
 simp
theorem dT {l:List Mrk} (hs:ax (aV l)) {p:Bs}:cg l p=true↔∃ q m,am l q=some m∧m.kind≠2∧inP p q=true:=by
 rw [hIf];constructor
 · rintro ⟨m,h1,h2,h3⟩;exact ⟨m.path,m,fV hs h1,h2,h3⟩
 · rintro ⟨q,m,h1,h2,h3⟩;obtain ⟨h4,rfl⟩:=cK h1;exact ⟨m,h4,h2,h3⟩
theorem AB {p a q:Bs} (ha:ah a=true) (hq:ah q=true) (h1:inP a q=true) (h2:bc p a=true):bc p q=true:=by
 rcases cC.1 h1 with rfl|h
 · exact h2
 · exact kr ha hq h2 (.inr h)
theorem oK {l:List Mrk} (h:aR l=true) {p a:Bs} (ha:ah a=true) (hu:bc p a=true) (hh:cg l a=true):cg l p=true:=by
 rw [dT (cr h)] at hh ⊢;obtain ⟨q,m,h1,h2,h3⟩:=hh;exact ⟨q,m,h1,h2,cC.2 (.inr (AB ha (ku h h1).2.2.1 h3 hu))⟩
theorem i6 {p:Bs} (hp:ah p=true) (hr:al p≠[47]):ah (al p)=true∧bc p (al p)=true:=by
 have h1:=((iV hp).resolve_left hr).1;exact ⟨h1,lh hp h1 (.inl rfl)⟩
def bD (m:Mrk):Option Ent:=if m.kind=3 then none else some ⟨m.path,dS m,m.data⟩
def onL (l:List Mrk) (t:List Ent):List Ent:=cF (t.filter fun e=>!cg l e.path) (l.filterMap bD)
def mT (l:List Mrk) (t:List Ent) (p:Bs):Option Ent:=match am l p with
 | some m=>bD m
 | none=>if cg l p then none else ao t p
def bj (l:List Mrk) (t:List Ent):Option (List Ent):=if aR l=true∧aq t=true∧(onL l t).length≤16 then some (onL l t) else none
theorem oM (f:Bs→Bool) (q:Bs):∀ t:List Ent,ao (t.filter fun e=>f e.path) q=if f q=true then ao t q else none
 | []=>by simp [ao]
 | e :: t=>by
   have ih:=oM f q t;rw [List.filter_cons];by_cases hq:e.path=q
   · subst hq;by_cases hf:f e.path=true
     · rw [if_pos hf,if_pos hf,aT,aT,if_pos rfl,if_pos rfl]
     · rw [if_neg hf,if_neg hf,ih,if_neg hf]
   · by_cases hf:f e.path=true
     · rw [if_pos hf,aT,if_neg hq,ih,aT,if_neg hq]
     · rw [if_neg hf,ih,aT,if_neg hq]
theorem ij {m:Mrk} {e:Ent} (h:bD m=some e):e.path=m.path:=by
 unfold bD at h;split at h
 · cases h
 · cases h; rfl
theorem qR:∀ {l:List Mrk},ax (aV l)→∀ q,ao (l.filterMap bD) q=(am l q).bind bD
 | [],_,q=>rfl
 | m :: r,hs,q=>by
   have ih:=qR (l:=r) (aP hs) q;rw [List.filterMap_cons,aS];by_cases hq:m.path=q
   · rw [if_pos hq,Option.bind_some];cases hm:bD m with
     | none=>
       simp only;rw [ih,qa0.2 (by rw [← hq]; exact eL hs)];rfl
     | some e=>
       simp only;rw [aT,if_pos (by rw [ij hm]; exact hq)]
   · rw [if_neg hq];cases hm:bD m with
     | none=>exact ih
     | some e=>
       simp only;rw [aT,if_neg (by rw [ij hm]; exact hq)];exact ih
theorem mm {l:List Mrk} (hs:ax (aV l)):(aC (l.filterMap bD)).Nodup:=by
 induction l with
 | nil=>simp
 | cons m r ih=>
   have ih:=ih (aP hs);rw [List.filterMap_cons];cases hm:bD m with
   | none=>exact ih
   | some e=>
     simp only;refine List.nodup_cons.2 ⟨fun hmem=>?_,ih⟩;obtain ⟨x,hx,h1⟩:=List.mem_map.1 hmem;obtain ⟨y,hy,h2⟩:=List.mem_filterMap.1 hx;have h3:=bg hs y.path (List.mem_map.2 ⟨y,hy,rfl⟩);have h4:m.path=y.path:=(ij hm).symm.trans (h1.symm.trans (ij h2));exact absurd h4 (nQ h3)
theorem oN {t:List Ent} (h:ax (aC t)) (f:Ent→Bool):ax (aC (t.filter f)):=by
 unfold ax aC at h ⊢;rw [zBS] at h ⊢;exact h.filter _
theorem yu {l:List Mrk} {t:List Ent} (ht:ax (aC t)):ax (aC (onL l t)):=iN (oN ht _)
theorem yv {l:List Mrk} {t:List Ent} (hl:ax (aV l)) (ht:ax (aC t)) (p:Bs):ao (onL l t) p=mT l t p:=by
 unfold onL mT;rw [qP (oN ht _) (mm hl),qR hl,oM (fun q=>!cg l q)];cases hm:am l p with
 | none=>
   simp only [Option.bind_none,zBG];cases cg l p <;> simp
 | some m=>
   simp only [Option.bind_some];cases he:bD m with
   | some e=>rfl
   | none=>
     have hk:m.kind=3:=by
      unfold bD at he;split at he
      · assumption
      · cases he
     have hh:cg l p=true:=(dT hl).2 ⟨p,m,hm,by omega,cC.2 (.inl rfl)⟩;simp [hh]
theorem CH {m:Mrk} {e:Ent} (hm:cX m=true) (he:bD m=some e):fy e=true∧e.dir=dS m:=by
 obtain ⟨h1,h2,h3,h4⟩:=fu hm;unfold bD at he;split at he
 · cases he
 · cases he;refine ⟨pS h2 h3 fun hd=>h4 ?_,rfl⟩;rcases jW.1 hd with h|h <;> omega
theorem kv {d:Mrk} (hd:dS d=true):bD d=some ⟨d.path,true,d.data⟩:=by
 have:d.kind≠3:=by rcases jW.1 hd with h|h <;> omega
 rw [bD,if_neg this,hd]
theorem Jf {l:List Mrk} {t:List Ent} (hl:aR l=true) (ht:aq t=true) (hn:(onL l t).length≤16):aq (onL l t)=true:=by
 refine wN hn (yu (bE ht)) fun p e he=>?_;simp only [yv (cr hl) (bE ht)] at he ⊢;unfold mT at he;cases hm:am l p with
 | some m=>
   rw [hm] at he;obtain ⟨h1,h2,h3,h4,_⟩:=ku hl hm;refine ⟨(CH h1 he).1,h4.imp id ?_⟩;rintro ⟨d,d1,d2⟩;refine ⟨⟨d.path,true,d.data⟩,?_,rfl⟩;unfold mT;rw [d1];exact kv d2
 | none=>
   rw [hm] at he;simp only at he;cases hh:cg l p with
   | true=>rw [hh] at he; cases he
   | false=>
     rw [hh] at he;simp only [zAF,if_false] at he;obtain ⟨h1,h2,h3,h4⟩:=ft ht he;refine ⟨h1,?_⟩;by_cases hr:al p=[47]
     · exact .inl hr
     · right;obtain ⟨d,d1,d2⟩:=h4.resolve_left hr;obtain ⟨u1,u2⟩:=i6 h3 hr;unfold mT;cases hmu:am l (al p) with
       | some m=>
         have hk:m.kind=2:=by
          apply Decidable.byContradiction;intro hk
          have:cg l p=true:=(dT (cr hl)).2 ⟨al p,m,hmu,hk,cC.2 (.inr u2)⟩
          rw [hh] at this;cases this
         exact ⟨_,kv (jW.2 (.inl hk)),rfl⟩
       | none=>
         have:cg l (al p)=false:=by
          rw [← zAZ];intro h5;rw [oK hl u1 u2 h5] at hh;cases hh
         simp only [this];exact ⟨d,by simpa using d1,d2⟩
theorem dP {l:List Mrk} {t u:List Ent} (h:bj l t=some u):aR l=true∧aq t=true∧aq u=true∧∀ p,ao u p=mT l t p:=by
 unfold bj at h;split at h
 · rename_i hc;cases h;exact ⟨hc.1,hc.2.1,Jf hc.1 hc.2.1 hc.2.2,yv (cr hc.1) (bE hc.2.1)⟩
 · cases h
theorem uh {l:List Mrk} {t u:List Ent} (hl:aR l=true) (ht:aq t=true) (hu:aq u=true) (h:∀ p,mT l t p=ao u p):bj l t=some u:=by
 have e:onL l t=u:=yl (yu (bE ht)) (bE hu) fun p=>by rw [yv (cr hl) (bE ht)]; exact h p
 unfold bj;rw [e,if_pos ⟨hl,ht,aN hu⟩]
end Go.Par
namespace Go.Par
open Go Go.RowKit Go.Ab Go.Proofs Go.Sort
instance:Inhabited Ent:=⟨b9⟩
instance:Inhabited Mrk:=⟨⟨[],0,[]⟩⟩
abbrev vS (l:Bs):Value:=.string ⟨l.toArray⟩
def Ent.v (e:Ent):List Value:=[vS e.path,.bool e.dir,vS e.data]
def Mrk.v (m:Mrk):List Value:=[vS m.path,.int .i64 m.kind,vS m.data]
theorem CJ:wv Ent.v Ent.c 3 where
 len _:=rfl
 lenD _:=rfl
 one x u hu:=by
  simp only [Ent.v,List.mem_cons,List.not_mem_nil,or_false] at hu;rcases hu with rfl|rfl|rfl <;> rfl
 rel w Av x j d hd:=by
  match j,hd with
  | 0,hd=>cases hd; exact ⟨_,rfl,.s _⟩
  | 1,hd=>cases hd; exact ⟨_,rfl,.b _⟩
  | 2,hd=>cases hd; exact ⟨_,rfl,.s _⟩
  | n+3,hd=>cases hd
 inv w Av x j d u hd hu:=by
  match j,hd with
  | 0,hd=>cases hd; cases hu; rfl
  | 1,hd=>cases hd; cases hu; rfl
  | 2,hd=>cases hd; cases hu; rfl
  | n+3,hd=>cases hd
theorem CK:wv Mrk.v Mrk.c 3 where
 len _:=rfl
 lenD _:=rfl
 one x u hu:=by
  simp only [Mrk.v,List.mem_cons,List.not_mem_nil,or_false] at hu;rcases hu with rfl|rfl|rfl <;> rfl
 rel w Av x j d hd:=by
  match j,hd with
  | 0,hd=>cases hd; exact ⟨_,rfl,.s _⟩
  | 1,hd=>cases hd; exact ⟨_,rfl,.k _ _⟩
  | 2,hd=>cases hd; exact ⟨_,rfl,.s _⟩
  | n+3,hd=>cases hd
 inv w Av x j d u hd hu:=by
  match j,hd with
  | 0,hd=>cases hd; cases hu; rfl
  | 1,hd=>cases hd; cases hu; rfl
  | 2,hd=>cases hd; cases hu; rfl
  | n+3,hd=>cases hd
def qS (a b:Bs):Int:=if lt a b then -1 else if lt b a then 1 else 0
theorem lX (a b:Bs):decide (qS a b < 0)=lt a b:=by
 unfold qS;cases lt a b
 · cases lt b a <;> simp
 · simp
theorem qT {a b c:Bs} (h1:lt a b=false) (h2:lt b c=false):lt a c=false:=by
 rw [← zAZ];intro h;rcases gp a b with k|k|k
 · rw [h1] at k; cases k
 · rw [k,h2] at h; cases h
 · have:=lt_trans _ _ _ k h
   rw [h2] at this;cases this
theorem JR:SWO (ltOf fun x y:Ent=>qS x.path y.path) where
 irrefl x:=by rw [ltOf,lX]; exact gP _
 trans x y z h1 h2:=by
  rw [ltOf,lX] at *;exact lt_trans _ _ _ h1 h2
 ntrans x y z h1 h2:=by
  rw [ltOf,lX] at *;exact qT h1 h2
theorem JS:SWO (ltOf fun x y:Mrk=>qS x.path y.path) where
 irrefl x:=by rw [ltOf,lX]; exact gP _
 trans x y z h1 h2:=by
  rw [ltOf,lX] at *;exact lt_trans _ _ _ h1 h2
 ntrans x y z h1 h2:=by
  rw [ltOf,lX] at *;exact qT h1 h2
section
variable {α:Type} [Inhabited α] {pa:α→Bs}
theorem wW {L:List α} {d:Array α} (h:PermIn 0 L.toArray.size L.toArray d):d.toList.Perm L:=by
 obtain ⟨h1,_,h3⟩:=h;have e1:d.extract 0 L.toArray.size=d:=by rw [← h1]; simp
 have e2:L.toArray.extract 0 L.toArray.size=L.toArray:=by simp
 rw [e1,e2] at h3;exact h3
theorem rK {L:List α} {d:Array α} (h1:d.size=L.toArray.size) (h:SortedIn (ltOf fun x y:α=>qS (pa x) (pa y)) 0 L.toArray.size d):d.toList.Pairwise fun a b=>lt (pa b) (pa a)=false:=by
 rw [zBF];intro i j hi hj hij;have h2:=h i j (zAG _) hij (by rw [← h1]; simpa using hj);rw [ltOf,lX,getElem!_pos _ i (by simpa using hi),getElem!_pos _ j (by simpa using hj)] at h2;exact h2
end
theorem qU {α:Type} {pa:α→Bs} {L U:List α} (hU:∀ S:List α,S.Perm L→(S.Pairwise fun a b=>lt (pa b) (pa a)=false)→S=U):U.length=L.length:=by
 have hp:(L.mergeSort fun x y=>!lt (pa y) (pa x)).Perm L:=List.mergeSort_perm _ _;have hs:(L.mergeSort fun x y=>!lt (pa y) (pa x)).Pairwise fun x y=>(!lt (pa y) (pa x))=true:=by
  refine List.pairwise_mergeSort (fun a b c h1 h2=>?_) (fun a b=>?_) _
  · simp only [zAJ] at *;exact qT h2 h1
  · cases h:lt (pa b) (pa a) with
    | false=>simp
    | true=>simp [mH _ _ h]
 rw [← hU _ hp (hs.imp fun h=>by simpa using h),hp.length_eq]
end Go.Par
