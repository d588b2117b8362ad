/- Texts of this claim, set close: lemmas and contracts. -/
import Derived.Test.YtagejnomlkfndaaGreatDoorYY12
import Derived.Test.YtagejnomlkfndaaGreatDoorYY13
import Derived.Test.YtagejnomlkfndaaGreatDoorYY17
set_option linter.unusedSimpArgs false
set_option linter.unusedVariables false
namespace Go.Par
open Go.Ab
theorem zN (l r:List Mrk) (q:Bs):aA (l++r) q=(aA l q).or (aA r q):=by simp [aA,zBS]
theorem f9 {p q:Bs} (hp:ae p=true) (hr:ag p=[47]) (hq:ae q=true):under p q=false:=by
 rw [← zAa];intro h;have h1:=(gM hp hq h).1;rw [hr,jE] at h1;cases h1
theorem vQ {p q:Bs} (hp:ae p=true) (hq:ae q=true):under p q=true↔ag p=q∨under (ag p) q=true:=⟨fun h=>(gM hp hq h).2,jJ hp hq⟩
def s0 (p q:Bs):Option Mrk:=if ae q=true∧under p q=true then some ⟨q,2,[]⟩ else none
theorem uw {p:Bs} (hp:ae p=true) (hr:ag p=[47]) (q:Bs):s0 p q=none:=by
 unfold s0;rw [if_neg];rintro ⟨h1,h2⟩;rw [f9 hp hr h1] at h2;cases h2
theorem qD {p:Bs} (hp:ae p=true) (hr:ag p≠[47]) (q:Bs):s0 p q=(if ag p=q then some ⟨ag p,2,[]⟩ else none:Option Mrk).or (s0 (ag p) q):=by
 obtain ⟨u1,u2⟩:=iL hp hr;by_cases hq:ag p=q
 · subst hq;unfold s0;rw [if_pos ⟨u1,u2⟩,if_pos rfl];rfl
 · rw [if_neg hq,zBD];unfold s0;by_cases hk:ae q=true
   · have:=vQ hp hk
     simp only [hq,false_or] at this;by_cases h:under p q=true
     · rw [if_pos ⟨hk,h⟩,if_pos ⟨hk,this.1 h⟩]
     · rw [if_neg fun x=>h x.2,if_neg fun x=>h (this.2 x.2)]
   · rw [if_neg fun x=>hk x.1,if_neg fun x=>hk x.1]
theorem pR {l:List Mrk} (h:∀ m∈l,m.kind≠0) {q:Bs}:gg l q=0↔aA l q=none:=by
 unfold gg;cases hm:aA l q with
 | none=>simp
 | some m=>simp [h m (fv hm).1]
theorem zO:∀ (n:Nat) {l:List Mrk} {p:Bs},p.length≤n→ae p=true→aD (bx l)→(∀ m∈l,m.kind≠0) →
   aD (bx (jH n l p))∧(∀ m∈jH n l p,m.kind≠0)∧∀ q,aA (jH n l p) q=(aA l q).or (s0 p q)
 | 0,l,p,hn,hp,_,_=>by have:=(aM hp).1; omega
 | n+1,l,p,hn,hp,hs,hk=>by
   unfold jH;by_cases hr:ag p=[47]
   · rw [if_pos hr];exact ⟨hs,hk,fun q=>by rw [uw hp hr,Option.or_none]⟩
   · rw [if_neg hr];obtain ⟨u1,u2⟩:=iL hp hr
     have:=ef hp hr
     by_cases h0:gg l (ag p)=0
     · rw [if_pos h0];obtain ⟨i1,i2,i3⟩:=zO n (l:=dL l ⟨ag p,2,[]⟩) (p:=ag p) (by omega) u1 (pK hs _) (fun m hm=>by
        rcases xE hm with rfl|hm
        · simp
        · exact hk m hm)
       refine ⟨i1,i2,fun q=>?_⟩;rw [i3,A5 hs,qD hp hr];have h1:=(pR hk).1 h0;by_cases hq:ag p=q
       · rw [if_pos hq,if_pos hq,← hq,h1];rfl
       · rw [if_neg hq,if_neg hq,zBD]
     · rw [if_neg h0];obtain ⟨i1,i2,i3⟩:=zO n (l:=l) (p:=ag p) (by omega) u1 hs hk;refine ⟨i1,i2,fun q=>?_⟩;rw [i3,qD hp hr];have h1:aA l (ag p)≠none:=fun h=>h0 ((pR hk).2 h);by_cases hq:ag p=q
       · rw [if_pos hq,← hq];cases hm:aA l (ag p) with
         | none=>exact absurd hm h1
         | some m=>rfl
       · rw [if_neg hq,zBD]
def s5:Nat→List Mrk→Bs→List Mrk
 | 0,l,_=>l
 | n+1,l,p=>if ag p=[47] then l else s5 n (if (aA l (ag p)).isNone then l++[⟨ag p,2,[]⟩] else l) (ag p)
theorem zP {l:List Mrk} {m:Mrk} (h:(bx l).Nodup) (hm:aA l m.path=none):(bx (l++[m])).Nodup:=by
 rw [bx,zAM,List.nodup_append];refine ⟨h,by simp,?_⟩;intro a ha b hb hab;simp at hb;rw [hab,hb] at ha;exact d7.1 hm ha
theorem zQ (m:Mrk) (q:Bs):aA [m] q=if m.path=q then some m else none:=by
 rw [bi];rfl
theorem vR:∀ (n:Nat) {l:List Mrk} {p:Bs},p.length≤n→ae p=true→(bx l).Nodup →
   (bx (s5 n l p)).Nodup∧(∃ X,s5 n l p=l++X∧X.length≤n)∧∀ q,aA (s5 n l p) q=(aA l q).or (s0 p q)
 | 0,l,p,hn,hp,_=>by have:=(aM hp).1; omega
 | n+1,l,p,hn,hp,hs=>by
   unfold s5;by_cases hr:ag p=[47]
   · rw [if_pos hr];exact ⟨hs,⟨[],by simp,by simp⟩,fun q=>by rw [uw hp hr,Option.or_none]⟩
   · rw [if_neg hr];obtain ⟨u1,u2⟩:=iL hp hr
     have:=ef hp hr
     cases h0:aA l (ag p) with
     | none=>
       rw [Option.isNone_none,if_pos rfl];obtain ⟨i1,⟨X,i2,i4⟩,i3⟩:=vR n (l:=l++[⟨ag p,2,[]⟩]) (p:=ag p) (by omega) u1 (zP hs h0);refine ⟨i1,⟨⟨ag p,2,[]⟩ :: X,by rw [i2]; simp,by simp; omega⟩,fun q=>?_⟩;rw [i3,zN,zQ,qD hp hr,Option.or_assoc]
     | some m=>
       rw [Option.isNone_some,if_neg (by simp)];obtain ⟨i1,⟨X,i2,i4⟩,i3⟩:=vR n (l:=l) (p:=ag p) (by omega) u1 hs;refine ⟨i1,⟨X,i2,by omega⟩,fun q=>?_⟩;rw [i3,qD hp hr];by_cases hq:ag p=q
       · rw [if_pos hq,← hq,h0];rfl
       · rw [if_neg hq,zBD]
def cl (a b:List Ent) (p:Bs):Option Mrk:=if ah a p=ah b p then none else match ah b p with
 | some e=>some (if e.dir then ⟨p,2,[]⟩ else ⟨p,1,e.data⟩)
 | none=>if bc b p=0 then some ⟨p,3,[]⟩ else none
theorem fj {a b:List Ent} {p:Bs} {m:Mrk} (h:cl a b p=some m):m.path=p∧ah a p≠ah b p ∧
   ((∃ e,ah b p=some e∧e.dir=true∧m=⟨p,2,[]⟩)∨(∃ e,ah b p=some e∧e.dir=false∧m=⟨p,1,e.data⟩)∨(ah b p=none∧bc b p=0∧m=⟨p,3,[]⟩)):=by
 unfold cl at h;split at h
 · cases h
 · rename_i hne;split at h
   · rename_i e he;cases h;cases hd:e.dir with
     | true=>exact ⟨rfl,hne,.inl ⟨e,he,hd,rfl⟩⟩
     | false=>exact ⟨rfl,hne,.inr (.inl ⟨e,he,hd,rfl⟩)⟩
   · rename_i he;split at h
     · rename_i hu;cases h;exact ⟨rfl,hne,.inr (.inr ⟨he,hu,rfl⟩)⟩
     · cases h
theorem zR {a b:List Ent} {p:Bs} {m:Mrk} (h:cl a b p=some m):m.kind≠0:=by
 obtain ⟨_,_,⟨e,_,_,rfl⟩|⟨e,_,_,rfl⟩|⟨_,_,rfl⟩⟩:=fj h <;> simp
def jL (a b:List Ent) (T:List Bs) (q:Bs):Bool:=ae q && T.any fun p=>(cl a b p).isSome && under p q
def gj (a b:List Ent) (T:List Bs) (q:Bs):Option Mrk:=(if q∈T then cl a b q else none).or (if jL a b T q=true then some ⟨q,2,[]⟩ else none)
def gX (a b:List Ent) (out:List Mrk) (p:Bs):List Mrk:=match cl a b p with
 | some m=>jH 12 (dL out m) p
 | none=>out
def dE (a b:List Ent):List Mrk:=(aY a b).foldl (gX a b) []
theorem rY (a b:List Ent) (T:List Bs) (p q:Bs):jL a b (T++[p]) q=(jL a b T q || (ae q && ((cl a b p).isSome && under p q))):=by
 unfold jL;rw [List.any_append];cases ae q <;> simp
theorem FE {c:Prop} [Decidable c] {d:Prop} [Decidable d] {m:Mrk}:(if c then some m else none:Option Mrk).or (if d then some m else none)=if c∨d then some m else none:=by
 by_cases hc:c <;> by_cases hd:d <;> simp [hc,hd]
theorem Cp {a b:List Ent} {T:List Bs} {out:List Mrk} {p:Bs} (hp:ae p=true) (h1:aD (bx out)) (h2:∀ m∈out,m.kind≠0) (h3:∀ q,aA out q=gj a b T q) :
   aD (bx (gX a b out p))∧(∀ m∈gX a b out p,m.kind≠0)∧∀ q,aA (gX a b out p) q=gj a b (T++[p]) q:=by
 unfold gX;cases hb:cl a b p with
 | none=>
   refine ⟨h1,h2,fun q=>?_⟩;simp only;rw [h3];unfold gj;rw [rY,hb];simp only [Option.isSome_none,zAi,zBZ,Bool.or_false];congr 1
   by_cases hq:q=p
   · subst hq;rw [hb]
     simp
   · simp [hq]
 | some m=>
   simp only;obtain ⟨b1,_,_⟩:=fj hb;have hk:∀ x∈dL out m,x.kind≠0:=fun x hx=>by
    rcases xE hx with rfl|hx
    · exact zR hb
    · exact h2 x hx
   obtain ⟨i1,i2,i3⟩:=zO 12 (l:=dL out m) (p:=p) (aM hp).2 hp (pK h1 _) hk;refine ⟨i1,i2,fun q=>?_⟩;rw [i3,A5 h1,h3,b1];unfold gj;rw [rY,hb];by_cases hq:p=q
   · subst hq;rw [if_pos rfl,if_pos (by simp),hb];rfl
   · rw [if_neg hq,Option.or_assoc];congr 1
     · simp [Ne.symm hq]
     · unfold s0;rw [FE]
       simp
theorem ux {a b:List Ent}:∀ (T2 T:List Bs) (out:List Mrk),(∀ p∈T2,ae p=true)→aD (bx out)→(∀ m∈out,m.kind≠0)→(∀ q,aA out q=gj a b T q) →
   aD (bx (T2.foldl (gX a b) out))∧∀ q,aA (T2.foldl (gX a b) out) q=gj a b (T++T2) q
 | [],T,out,_,h1,_,h3=>⟨h1,fun q=>by rw [List.append_nil]; exact h3 q⟩
 | p :: T2,T,out,hp,h1,h2,h3=>by
   obtain ⟨i1,i2,i3⟩:=Cp (hp p (by simp)) h1 h2 h3
   have:=ux T2 (T++[p]) _ (fun q hq=>hp q (by simp [hq])) i1 i2 i3
   simpa using this
theorem iu {a b:List Ent} (ha:ai a=true) (hb:ai b=true) {p:Bs} (hp:p∈aY a b):ae p=true:=by
 rw [gh ha hb] at hp;cases he:ah a p with
 | some e=>exact (en ha he).2.2.1
 | none=>
   cases hf:ah b p with
   | some f=>exact (en hb hf).2.2.1
   | none=>rw [he,hf] at hp; exact absurd rfl hp
theorem fX {a b:List Ent} (ha:ai a=true) (hb:ai b=true):aD (bx (dE a b))∧∀ q,aA (dE a b) q=gj a b (aY a b) q:=by
 have h0:aD (bx ([]:List Mrk)):=List.Pairwise.nil
 have:=ux (a:=a) (b:=b) (aY a b) [] [] (fun p hp=>iu ha hb hp) h0 (by simp) (fun q=>by simp [gj,jL,aA])
 rw [zAw] at this;exact this
theorem o7 {a b:List Ent} (ha:ai a=true) (hb:ai b=true) {q:Bs} (h:jL a b (aY a b) q=true):ae q=true∧∃ e,ah b q=some e∧e.dir=true:=by
 unfold jL at h;rw [zAE,zAr] at h;obtain ⟨hq,p,hp,h⟩:=h;rw [zAE] at h;obtain ⟨h1,h2⟩:=h;refine ⟨hq,?_⟩;obtain ⟨m,hm⟩:=Option.isSome_iff_exists.1 h1;have hpk:=iu ha hb hp;obtain ⟨_,_,h3⟩:=fj hm;rcases h3 with ⟨e,he,_,_⟩|⟨e,he,_,_⟩|⟨he,hu,_⟩
 · exact lb hb hq p.length (zAJ _) he h2
 · exact lb hb hq p.length (zAJ _) he h2
 · rcases eH.1 hu with hr|⟨d,d1,d2⟩
   · rw [f9 hpk hr hq] at h2; cases h2
   · rcases (gM hpk hq h2).2 with h4|h4
     · exact ⟨d,by rw [← h4]; exact d1,d2⟩
     · exact lb hb hq (ag p).length (zAJ _) d1 h4
theorem fk {a b:List Ent} (ha:ai a=true) (hb:ai b=true) {q:Bs} {m:Mrk} (h:aA (dE a b) q=some m):ae q=true∧m.path=q ∧
   ((∃ e,ah b q=some e∧e.dir=true∧m=⟨q,2,[]⟩)∨(∃ e,ah b q=some e∧e.dir=false∧m=⟨q,1,e.data⟩∧ah a q≠ah b q)∨(ah b q=none∧bc b q=0∧m=⟨q,3,[]⟩∧ah a q≠ah b q)):=by
 rw [(fX ha hb).2] at h;unfold gj at h;by_cases hT:q∈aY a b
 · rw [if_pos hT] at h;cases hm:cl a b q with
   | some x=>
     rw [hm,Option.some_or] at h;cases h;obtain ⟨h1,h2,h3⟩:=fj hm;refine ⟨iu ha hb hT,h1,?_⟩;rcases h3 with ⟨e,he,hd,rfl⟩|⟨e,he,hd,rfl⟩|⟨he,hu,rfl⟩
     · exact .inl ⟨e,he,hd,rfl⟩
     · exact .inr (.inl ⟨e,he,hd,rfl,h2⟩)
     · exact .inr (.inr ⟨he,hu,rfl,h2⟩)
   | none=>
     rw [hm,zBD] at h;split at h
     · rename_i hab;cases h;obtain ⟨h1,e,he,hd⟩:=o7 ha hb hab;exact ⟨h1,rfl,.inl ⟨e,he,hd,rfl⟩⟩
     · cases h
 · rw [if_neg hT,zBD] at h;split at h
   · rename_i hab;cases h;obtain ⟨h1,e,he,hd⟩:=o7 ha hb hab;exact ⟨h1,rfl,.inl ⟨e,he,hd,rfl⟩⟩
   · cases h
theorem uy {a b:List Ent} (ha:ai a=true) (hb:ai b=true) {q:Bs} {m:Mrk} (h:cl a b q=some m):aA (dE a b) q=some m:=by
 rw [(fX ha hb).2];unfold gj;rw [if_pos ((gh ha hb).2 (fj h).2.1),h];rfl
theorem zS {a b:List Ent} (ha:ai a=true) (hb:ai b=true) {q:Bs} {m:Mrk} (h:aA (dE a b) q=some m) {u:Bs} (hu:ae u=true) (hq:under q u=true):jL a b (aY a b) u=true:=by
 have hqk:=(fk ha hb h).1;rw [(fX ha hb).2] at h;unfold jL;rw [hu,zAv,zAr];unfold gj at h;by_cases hT:q∈aY a b∧(cl a b q).isSome=true
 · exact ⟨q,hT.1,by rw [hT.2,hq]; rfl⟩
 · have h0:(if q∈aY a b then cl a b q else none)=none:=by
     split
     · rename_i h1;cases hm:cl a b q with
       | none=>rfl
       | some x=>exact absurd ⟨h1,by rw [hm]; rfl⟩ hT
     · rfl
   rw [h0,zBD] at h;split at h
   · rename_i hab;unfold jL at hab;rw [zAE,zAr] at hab;obtain ⟨_,p,hp,h1⟩:=hab;rw [zAE] at h1;exact ⟨p,hp,by rw [h1.1,pG hqk hu h1.2 (.inr hq)]; rfl⟩
   · cases h
theorem nX {a b:List Ent} (ha:ai a=true) (hb:ai b=true):aX (dE a b)=true:=by
 have hs:=(fX ha hb).1;refine fA.2 ⟨?_,hs,fun m hm=>?_⟩
 · have h1:=uj (v:=ay a++ay b) (eQ hs) (fun p hp=>by
     obtain ⟨m,hm⟩:=zF hp;rw [zAs];obtain ⟨_,_,⟨e,he,_⟩|⟨e,he,_⟩|⟨he,_,_,hne⟩⟩:=fk ha hb hm
     · exact .inr (List.mem_map.2 ⟨e,(ci he).1,(ci he).2⟩)
     · exact .inr (List.mem_map.2 ⟨e,(ci he).1,(ci he).2⟩)
     · left;cases hf:ah a p with
       | none=>rw [hf,he] at hne; exact absurd rfl hne
       | some f=>exact List.mem_map.2 ⟨f,(ci hf).1,(ci hf).2⟩)
   have:=aI ha
   have:=aI hb
   simp only [zAV,zAA] at h1;omega
 · have hmm:=ja hs hm;obtain ⟨h1,h2,h3⟩:=fk ha hb hmm;refine ⟨?_,?_,fun hk=>?_⟩
   · rcases h3 with ⟨e,he,hd,hx⟩|⟨e,he,hd,hx,_⟩|⟨he,hu,hx,_⟩
     · rw [hx]; exact oW (by simp) h1 rfl (fun _=>rfl)
     · rw [hx]; exact oW (by simp) h1 (mO (en hb he).1).1 (fun h=>absurd rfl h)
     · rw [hx]; exact oW (by simp) h1 rfl (fun _=>rfl)
   · by_cases hr:ag m.path=[47]
     · exact .inl hr
     · right;obtain ⟨u1,u2⟩:=iL h1 hr;have hab:=zS ha hb hmm u1 u2;have hex:∃ d,aA (dE a b) (ag m.path)=some d:=by
        rw [(fX ha hb).2];unfold gj;rw [hab,if_pos rfl];cases (if ag m.path∈aY a b then cl a b (ag m.path) else none) <;> exact ⟨_,rfl⟩
       obtain ⟨d,hd⟩:=hex;refine ⟨d,hd,?_⟩;obtain ⟨_,e,he,hdir⟩:=o7 ha hb hab;obtain ⟨_,_,⟨f,hf,_,hx⟩|⟨f,hf,hnd,hx,_⟩|⟨hf,_⟩⟩:=fk ha hb hd
       · rw [hx]; rfl
       · rw [he] at hf; cases hf; rw [hdir] at hnd; cases hnd
       · rw [he] at hf; cases hf
   · unfold bare;rw [List.any_eq_false];intro x hx;obtain ⟨_,_,⟨f,_,_,hy⟩|⟨f,_,_,hy,_⟩|⟨_,_,hy,_⟩⟩:=fk ha hb (ja hs hx) <;> rw [hy] <;> simp
theorem rZ {a b:List Ent} (ha:ai a=true) (hb:ai b=true):∀ (n:Nat) {p:Bs} {e:Ent},p.length≤n→ah a p=some e→ah b p=none→∃ q m,cl a b q=some m∧m.kind≠2∧inP p q=true∧ae q=true
 | 0,p,e,hn,he,_=>by
   have:=(aM (en ha he).2.2.1).1
   omega
 | n+1,p,e,hn,he,hf=>by
   obtain ⟨_,_,hp,h4⟩:=en ha he;by_cases hu:bc b p=0
   · refine ⟨p,⟨p,3,[]⟩,?_,by simp,cM.2 (.inl rfl),hp⟩;unfold cl;rw [he,hf,if_neg (by simp),if_pos hu]
   · have hr:ag p≠[47]:=fun h=>hu (eH.2 (.inl h));obtain ⟨u1,u2⟩:=iL hp hr;obtain ⟨d,d1,d2⟩:=h4.resolve_left hr;cases hg:ah b (ag p) with
     | some f=>
       have hfd:f.dir=false:=by
        cases h:f.dir with
        | false=>rfl
        | true=>exact absurd (eH.2 (.inr ⟨f,hg,h⟩)) hu
       refine ⟨ag p,⟨ag p,1,f.data⟩,?_,by simp,cM.2 (.inr u2),u1⟩;unfold cl;rw [d1,hg,if_neg]
       · simp [hfd]
       · intro h;cases h;rw [d2] at hfd;cases hfd
     | none=>
       have:=ef hp hr
       obtain ⟨q,m,h1,h2,h3,h5⟩:=rZ ha hb n (by omega) d1 hg;exact ⟨q,m,h1,h2,cM.2 (.inr (xT u1 h5 h3 u2)),h5⟩
theorem Ba {b:List Ent} (hb:ai b=true) {q:Bs} {e:Ent} (he:ah b q=some e) (hd:e.dir=true):e=⟨q,true,[]⟩:=by
 obtain ⟨h1,h2,_⟩:=en hb he;exact A4 h2 hd ((mO h1).2 hd)
theorem E2 {a b:List Ent} (ha:ai a=true) (hb:ai b=true):bC (dE a b) a=some b:=by
 refine zJ (nX ha hb) ha hb fun p=>?_;unfold vK;cases hm:aA (dE a b) p with
 | some m=>
   simp only;obtain ⟨h1,h2,⟨e,he,hd,rfl⟩|⟨e,he,hd,rfl,_⟩|⟨he,_,rfl,_⟩⟩:=fk ha hb hm
   · rw [he,Ba hb he hd]; rfl
   · rw [he];have h5:=A4 (en hb he).2.1 hd rfl;show some (⟨p,false,e.data⟩:Ent)=some e
     exact congrArg some h5.symm
   · rw [he]; rfl
 | none=>
   simp only;cases hh:cQ (dE a b) p with
   | true=>
     rw [if_pos rfl];obtain ⟨q,m,h1,h2,h3⟩:=(lc (fX ha hb).1).1 hh;have hu:under p q=true:=by
      rcases cM.1 h3 with h|h
      · rw [h,h1] at hm; cases hm
      · exact h
     obtain ⟨k1,k2,k3⟩:=fk ha hb h1
     symm
     rcases k3 with ⟨e,he,hd,rfl⟩|⟨e,he,hd,_,_⟩|⟨he,_⟩
     · exact absurd rfl h2
     · exact nR hb k1 (fun d hd2=>by rw [he] at hd2; cases hd2; exact hd) hu
     · exact nR hb k1 (fun d hd2=>by rw [he] at hd2; cases hd2) hu
   | false=>
     simp only [zAF,if_false];apply Decidable.byContradiction;intro hne;have hno:cl a b p=none:=by
      cases hx:cl a b p with
      | none=>rfl
      | some m=>rw [uy ha hb hx] at hm; cases hm
     cases hf:ah b p with
     | some f=>
       unfold cl at hno;rw [if_neg hne,hf] at hno;cases hno
     | none=>
       cases he:ah a p with
       | none=>rw [he,hf] at hne; exact hne rfl
       | some e=>
         obtain ⟨q,m,h1,h2,h3,_⟩:=rZ ha hb p.length (zAJ _) he hf
         have:=(lc (fX ha hb).1).2 ⟨q,m,uy ha hb h1,h2,h3⟩
         rw [hh] at this;cases this
def fd (a b:List Ent):List Mrk:=(aY a b).filterMap (cl a b)
theorem r7 {f:Bs→Option Mrk}:∀ {w:List Bs},(∀ p m,f p=some m→m.path=p)→∀ q,aA (w.filterMap f) q=if q∈w then f q else none
 | [],_,q=>by simp [aA]
 | p :: w,h,q=>by
   have ih:=r7 (w:=w) h q;rw [List.filterMap_cons];cases hp:f p with
   | none=>
     simp only;rw [ih];by_cases hq:q=p
     · subst hq; simp [hp]
     · simp [hq]
   | some m=>
     simp only;rw [bi,ih,h p m hp];by_cases hq:p=q
     · subst hq; simp [hp]
     · simp [hq,Ne.symm hq]
theorem md {f:Bs→Option Mrk}:∀ {w:List Bs},w.Nodup→(∀ p m,f p=some m→m.path=p)→(bx (w.filterMap f)).Nodup
 | [],_,_=>by simp
 | p :: w,hn,h=>by
   have hn2:=List.nodup_cons.1 hn;have ih:=md (w:=w) hn2.2 h;rw [List.filterMap_cons];cases hp:f p with
   | none=>exact ih
   | some m=>
     simp only;refine List.nodup_cons.2 ⟨fun hm=>?_,ih⟩;obtain ⟨x,hx,h1⟩:=List.mem_map.1 hm;obtain ⟨y,hy,h2⟩:=List.mem_filterMap.1 hx;have h3:y=p:=(h y x h2).symm.trans (h1.trans (h p m hp));rw [h3] at hy;exact hn2.1 hy
theorem iM {a b:List Ent} (p:Bs) (m:Mrk) (h:cl a b p=some m):m.path=p:=(fj h).1
def gY (a b:List Ent) (i:Nat):List Mrk:=((fd a b).take i).foldl (fun D m=>s5 12 D m.path) (fd a b)
theorem r8 {a b:List Ent} {i:Nat} {m:Mrk} (h:(fd a b)[i]?=some m):gY a b (i+1)=s5 12 (gY a b i) m.path:=by
 unfold gY;rw [zAX,h,List.foldl_append];rfl
theorem o8 {a b:List Ent} (ha:ai a=true) (hb:ai b=true):∀ i,i≤(fd a b).length→(bx (gY a b i)).Nodup∧(∃ X,gY a b i=fd a b++X∧X.length≤12 * i) ∧
   ∀ q,aA (gY a b i) q=(aA (fd a b) q).or (if ae q=true∧((fd a b).take i).any (fun m=>under m.path q)=true then some ⟨q,2,[]⟩ else none)
 | 0,_=>⟨md (eQ mb) iM,⟨[],by simp [gY],by simp⟩,fun q=>by simp [gY]⟩
 | i+1,hi=>by
   obtain ⟨i1,⟨X,i2,i4⟩,i3⟩:=o8 ha hb i (by omega);obtain ⟨m,hm⟩:∃ m,(fd a b)[i]?=some m:=⟨_,zAB (by omega)⟩;obtain ⟨p,hp,hpm⟩:=List.mem_filterMap.1 (zAD hm);have hmp:ae m.path=true:=by rw [iM p m hpm]; exact iu ha hb hp
   rw [r8 hm];obtain ⟨j1,⟨Y,j2,j4⟩,j3⟩:=vR 12 (l:=gY a b i) (p:=m.path) (aM hmp).2 hmp i1;refine ⟨j1,⟨X++Y,by rw [j2,i2]; simp,by simp; omega⟩,fun q=>?_⟩;rw [j3,i3,Option.or_assoc];congr 1
   unfold s0;rw [FE,zAX,hm,List.any_append];simp only [Option.toList_some,List.any_cons,List.any_nil,Bool.or_false,zAh];by_cases hq:ae q=true <;> simp [hq]
theorem uz {a b:List Ent} (ha:ai a=true) (hb:ai b=true):(bx (gY a b (fd a b).length)).Nodup∧∀ q,aA (gY a b (fd a b).length) q=aA (dE a b) q:=by
 obtain ⟨i1,_,i3⟩:=o8 ha hb _ (zAJ _);refine ⟨i1,fun q=>?_⟩;rw [i3,(fX ha hb).2,zAP];unfold gj;rw [show aA (fd a b) q=if q∈aY a b then cl a b q else none from r7 iM q]
 congr 1
 have:(ae q=true∧(fd a b).any (fun m=>under m.path q)=true)↔jL a b (aY a b) q=true:=by
  unfold jL;rw [zAE,zAr,zAr];refine and_congr Iff.rfl ?_;constructor
  · rintro ⟨m,hm,h⟩;obtain ⟨p,hp,hpm⟩:=List.mem_filterMap.1 hm;exact ⟨p,hp,by rw [hpm,← iM p m hpm,h]; rfl⟩
  · rintro ⟨p,hp,h⟩;rw [zAE] at h;obtain ⟨m,hm⟩:=Option.isSome_iff_exists.1 h.1;exact ⟨m,List.mem_filterMap.2 ⟨p,hp,hm⟩,by rw [iM p m hm]; exact h.2⟩
 by_cases h:jL a b (aY a b) q=true
 · rw [if_pos h,if_pos (this.2 h)]
 · rw [if_neg h,if_neg fun x=>h (this.1 x)]
theorem D6 {a b:List Ent} (ha:ai a=true) (hb:ai b=true) {S:List Mrk} (hp:S.Perm (gY a b (fd a b).length)) (hs:S.Pairwise fun a b=>lt b.path a.path=false):S=dE a b:=
 Ck hp hs (uz ha hb).1 (fX ha hb).1 (uz ha hb).2
theorem Cq {a b:List Ent}:(fd a b).length≤32:=by
 have:=eJ a b
 have:=List.length_filterMap_le (cl a b) (aY a b)
 unfold fd;omega
structure Ovr where
 base:List Ent
 layers:List (List Mrk)
 upper:List Mrk
 deriving DecidableEq
def ov0:Ovr:=⟨[],[],[]⟩
def eK:List Ent→List (List Mrk)→Option (List Ent)
 | t,[]=>some t
 | t,l :: r=>match bC l t with
   | some u=>eK u r
   | none=>none
def dU (o:Ovr):Option (List Ent):=if ai o.base=true∧o.layers.length≤4 then eK o.base o.layers else none
def iO (o:Ovr):Option (List Ent):=match dU o with
 | some t=>bC o.upper t
 | none=>none
def bo (o:Ovr):Option (List Ent × List Ent):=match dU o with
 | some t=>match bC o.upper t with
   | some v=>if o.upper=dE t v then some (t,v) else none
   | none=>none
 | none=>none
def cu (o:Ovr):Bool:=(bo o).isSome
def cf (o:Ovr) (p:Opn):Ovr × Int:=match bo o with
 | some (t,v)=>(if (aC v p).2=0 then ⟨o.base,o.layers,dE t (aC v p).1⟩ else o,(aC v p).2)
 | none=>(ov0,1)
theorem xY:∀ (ls:List (List Mrk)) {t u:List Ent},ai t=true→eK t ls=some u→ai u=true
 | [],t,u,ht,h=>by cases h; exact ht
 | l :: r,t,u,ht,h=>by
   unfold eK at h;cases hl:bC l t with
   | none=>rw [hl] at h; cases h
   | some x=>
     rw [hl] at h;exact xY r (eo hl).2.2.1 h
theorem iP {o:Ovr} {t:List Ent} (h:dU o=some t):ai o.base=true∧o.layers.length≤4∧eK o.base o.layers=some t∧ai t=true:=by
 unfold dU at h;split at h
 · rename_i hc;exact ⟨hc.1,hc.2,h,xY _ hc.1 h⟩
 · cases h
theorem dV {o:Ovr} {t v:List Ent}:bo o=some (t,v)↔dU o=some t∧bC o.upper t=some v∧o.upper=dE t v:=by
 unfold bo;constructor
 · intro h;cases hl:dU o with
   | none=>rw [hl] at h; cases h
   | some x=>
     rw [hl] at h;simp only at h;cases hv:bC o.upper x with
     | none=>rw [hv] at h; cases h
     | some y=>
       rw [hv] at h;simp only at h;split at h
       · rename_i hd;cases h;exact ⟨rfl,hv,hd⟩
       · cases h
 · rintro ⟨h1,h2,h3⟩;rw [h1];simp only;rw [h2];simp only;rw [if_pos h3]
theorem cm {o:Ovr} {t v:List Ent} (h:bo o=some (t,v)):ai o.base=true∧o.layers.length≤4∧ai t=true∧ai v=true:=by
 obtain ⟨h1,h2,_⟩:=dV.1 h;obtain ⟨g1,g2,_,g4⟩:=iP h1;exact ⟨g1,g2,g4,(eo h2).2.2.1⟩
theorem D8 {o:Ovr} {t v:List Ent} (h1:dU o=some t) (hv:ai v=true) (h2:o.upper=dE t v):bo o=some (t,v):=
 dV.2 ⟨h1,by rw [h2]; exact E2 (iP h1).2.2.2 hv,h2⟩
theorem lN {o:Ovr} {t v:List Ent} (h:bo o=some (t,v)) (p:Opn):bo (cf o p).1=some (t,(aC v p).1)∧(cf o p).2=(aC v p).2∧(cf o p).1.base=o.base∧(cf o p).1.layers=o.layers:=by
 obtain ⟨_,_,h3,h4⟩:=cm h;obtain ⟨h1,_,_⟩:=dV.1 h;unfold cf;rw [h];simp only;by_cases hc:(aC v p).2=0
 · rw [if_pos hc];exact ⟨D8 (o:=⟨o.base,o.layers,dE t (aC v p).1⟩) h1 (fy h4 p) rfl,by simp⟩
 · rw [if_neg hc,GQ h4 hc];exact ⟨h,by simp⟩
def bJ:Ovr→List Opn→Ovr × List Int
 | o,[]=>(o,[])
 | o,p :: r=>((bJ (cf o p).1 r).1,(cf o p).2 :: (bJ (cf o p).1 r).2)
def qE (o:Ovr) (ops:List Opn):Bool:=!cu o || decide (30 < ops.length)
def bO (o:Ovr) (ops:List Opn):Ovr × List Int:=if qE o ops then (ov0,[]) else bJ o ops
theorem xZ:∀ (ops:List Opn) {o:Ovr} {t v:List Ent},bo o=some (t,v)→bo (bJ o ops).1=some (t,(vI v ops).1)∧(bJ o ops).2=(vI v ops).2∧(bJ o ops).1.base=o.base∧(bJ o ops).1.layers=o.layers
 | [],o,t,v,h=>⟨h,rfl,rfl,rfl⟩
 | p :: r,o,t,v,h=>by
   obtain ⟨d1,d2,d3,d4⟩:=lN h p;obtain ⟨i1,i2,i3,i4⟩:=xZ r d1;refine ⟨i1,?_,i3.trans d3,i4.trans d4⟩;show (cf o p).2 :: (bJ (cf o p).1 r).2=(aC v p).2 :: _
   rw [i2,d2]
structure Lse where
 who:Int
 path:Bs
 num:Int
 til:Int
 deriving DecidableEq
structure Hld where
 path:Bs
 has:Bool
 ent:Ent
 num:Int
 til:Int
 deriving DecidableEq
structure Mes where
 kind:Int
 who:Int
 hold:Hld
 deriving DecidableEq
structure Wld where
 over:Ovr
 clock:Int
 count:Int
 leases:List Lse
 holds:List (List Hld)
 floors:List Int
 net:List Mes
 waits:Bool
 op:Opn
 deriving DecidableEq
structure Evn where
 kind:Int
 who:Int
 path:Bs
 op:Opn
 pos:Int
 deriving DecidableEq
def w0:Wld:=⟨ov0,0,0,[],[],[],[],false,op0⟩
def aG (o:Ovr):Wld:=⟨o,0,0,[],[[],[],[]],[0,0,0],[],false,op0⟩
def dt (n:Int):Bool:=decide (0≤n) && decide (n≤2)
def aL (who:Int) (p:Bs) (l:Lse):Bool:=decide (l.who=who) && decide (l.path=p)
def dz (ls:List Lse) (who:Int) (p:Bs):Option Lse:=ls.find? (aL who p)
def ba (p:Bs) (n:Int):Hld:=⟨p,false,fG,n,0⟩
def aV (fl:List Int) (who:Int):Int:=fl.getD who.toNat 0
def aK (hs:List (List Hld)) (who:Int):List Hld:=hs.getD who.toNat []
def lf (clk:Int) (ls:List Lse) (who:Int) (h:Hld):Bool:=match dz ls who h.path with
 | some l=>decide (clk < l.til) && decide (h.num≤l.num) && decide (h.til≤l.til)
 | none=>false
def fZ (v:List Ent) (h:Hld):Bool:=decide ((az v h.path).isSome=h.has) && decide ((az v h.path).getD fG=h.ent)
def soV (v:List Ent) (clk:Int) (ls:List Lse) (who:Int) (h:Hld):Bool:=decide (h.til≤clk) || (fZ v h && lf clk ls who h)
def lg (cnt clk:Int) (ls:List Lse) (i:Nat):Bool:=match ls[i]? with
 | some l=>dt l.who && ae l.path && decide (1≤l.num) && decide (l.num≤cnt) && decide (l.til≤clk+5) && (ls.take i).all fun k=>!aL l.who l.path k
 | none=>true
def s9 (cnt clk:Int) (ls:List Lse):Bool:=(List.range ls.length).all (lg cnt clk ls)
def th (cnt:Int) (hs:List Hld) (i:Nat):Bool:=match hs[i]? with
 | some h=>ae h.path && decide (0≤h.num) && decide (h.num≤cnt) && (hs.take i).all fun k=>!decide (k.path=h.path)
 | none=>true
def mU (cnt:Int) (hs:List Hld):Bool:=(List.range hs.length).all (th cnt hs)
def d8 (cnt:Int) (m:Mes):Bool:=decide (1≤m.kind) && decide (m.kind≤4) && dt m.who && ae m.hold.path && decide (0≤m.hold.num) && decide (m.hold.num≤cnt) && (decide (m.kind=2) || decide (m.hold=ba m.hold.path m.hold.num))
def ic (v:List Ent) (w:Wld) (m:Mes):Bool:=!decide (m.kind=2) || decide (m.hold.num≤aV w.floors m.who) || soV v w.clock w.leases m.who m.hold
def kD (w:Wld) (m:Mes):Bool:=!decide (m.kind=4) || (decide (m.hold.num≤aV w.floors m.who) && (aK w.holds m.who).all fun h=>!(decide (h.path=m.hold.path) && decide (h.num≤m.hold.num)))
def gU (w:Wld):Bool:=decide (0≤w.clock) && decide (w.clock≤10000) && decide (0≤w.count) && decide (w.count≤10000) && decide (w.holds.length=3) && decide (w.floors.length=3) && decide (w.net.length≤12) &&
 w.floors.all fun f=>decide (0≤f) && decide (f≤w.count)
def jl (v:List Ent) (w:Wld):Bool:=if w.waits then decide ((aC v w.op).2=0) else decide (w.op=op0)
def kA (v:List Ent) (w:Wld) (i:Nat):Bool:=mU w.count (aK w.holds i) && (aK w.holds i).all (soV v w.clock w.leases i)
def de (v:List Ent) (w:Wld):Bool:=gU w && s9 w.count w.clock w.leases && jl v w && (List.range 3).all (kA v w) && w.net.all fun m=>d8 w.count m && ic v w m && kD w m
def aP (w:Wld):Bool:=match bo w.over with
 | some x=>de x.2 w
 | none=>false
def seen (o:Ovr):List Ent:=match bo o with
 | some x=>x.2
 | none=>[]
def bX (net:List Mes) (m:Mes):List Mes:=if net.length < 12 then net++[m] else net
def dg (net:List Mes) (cnt:Int) (bars:List Lse):List Mes:=bars.foldl (fun n l=>bX n ⟨3,l.who,ba l.path cnt⟩) net
def bI (v:List Ent) (p:Opn):List Bs:=if (aC v p).2=0 then aY v (aC v p).1 else []
def cw (v:List Ent) (clk:Int) (ls:List Lse) (p:Opn):List Lse:=ls.filter fun l=>decide (clk < l.til) && decide (l.path∈bI v p)
def iV (ls:List Lse) (who:Int) (p:Bs) (num:Int):List Lse:=ls.filter fun l=>!(aL who p l && decide (l.num≤num))
def cg (l:List Hld) (h:Hld):List Hld:=if l.any (fun x=>decide (x.path=h.path) && decide (h.num≤x.num)) then l else l.filter (fun x=>!decide (x.path=h.path))++[h]
def bz (l:List Hld) (p:Bs) (n:Int):List Hld:=l.filter fun x=>!(decide (x.path=p) && decide (x.num≤n))
def bA (w:Wld) (p:Opn):Wld × Int:=
 if w.waits then (w,21) else if (aC (seen w.over) p).2≠0 then (w,(aC (seen w.over) p).2)
 else if cw (seen w.over) w.clock w.leases p=[] then ({ w with over:=(cf w.over p).1 },0)
 else ({ w with net:=dg w.net w.count (cw (seen w.over) w.clock w.leases p),waits:=true,op:=p },20)
def dF (w:Wld):Wld × Int:=
 if w.waits=false then (w,22)
 else if cw (seen w.over) w.clock w.leases w.op=[] then ({ w with over:=(cf w.over w.op).1,waits:=false,op:=op0 },0)
 else ({ w with net:=dg w.net w.count (cw (seen w.over) w.clock w.leases w.op) },20)
def dW (c:Int):Int:=if c < 10000 then c+1 else c
def gN (w:Wld):Wld:={ w with clock:=dW w.clock,leases:=w.leases.filter (fun l=>decide (dW w.clock < l.til)) }
def ie (w:Wld) (who:Int) (p:Bs):Wld:=
 if (w.waits=true∧p∈bI (seen w.over) w.op)∨10000≤w.count then w
 else { w with count:=w.count+1,leases:=iV w.leases who p (w.count+1)++[⟨who,p,w.count+1,w.clock+5⟩],net:=bX w.net ⟨2,who,⟨p,(az (seen w.over) p).isSome,(az (seen w.over) p).getD fG,w.count+1,w.clock+5⟩⟩ }
def eC (w:Wld) (who:Int) (h:Hld):Wld:=
 if w.clock < h.til∧aV w.floors who < h.num then { w with holds:=w.holds.set who.toNat (cg (aK w.holds who) h) } else w
def dA (w:Wld) (who:Int) (p:Bs) (n:Int):Wld:=
 { w with holds:=w.holds.set who.toNat (bz (aK w.holds who) p n),floors:=w.floors.set who.toNat (max (aV w.floors who) n),net:=bX w.net ⟨4,who,ba p n⟩ }
def gO (w:Wld) (who:Int) (p:Bs) (n:Int):Wld:={ w with leases:=iV w.leases who p n }
def cT (w:Wld) (m:Mes):Wld:=
 if m.kind=1 then ie w m.who m.hold.path else if m.kind=2 then eC w m.who m.hold else if m.kind=3 then dA w m.who m.hold.path m.hold.num
 else if m.kind=4 then gO w m.who m.hold.path m.hold.num else w
def ig (w:Wld) (k pos:Int):Wld × Int:=if pos < 0 then (w,22) else match w.net[pos.toNat]? with
 | none=>(w,22)
 | some m=>if k=7 then ({ w with net:=bX w.net m },0) else if k=5 then (cT { w with net:=w.net.eraseIdx pos.toNat } m,0) else ({ w with net:=w.net.eraseIdx pos.toNat },0)
def wDo (w:Wld) (e:Evn):Wld × Int:=
 if e.kind=1 then (if dt e.who && ae e.path then ({ w with net:=bX w.net ⟨1,e.who,ba e.path 0⟩ },0) else (w,1))
 else if e.kind=2 then bA w e.op else if e.kind=3 then dF w else if e.kind=4 then (gN w,0)
 else if e.kind=5∨e.kind=6∨e.kind=7 then ig w e.kind e.pos else (w,1)
def bP (w:Wld) (e:Evn):Wld × Int:=if aP w then wDo w e else (w0,1)
def dX (w:Wld) (p:Opn):List Lse:=if aP w then cw (seen w.over) w.clock w.leases p else []
def bZ:Wld→List Evn→Wld × List Int
 | w,[]=>(w,[])
 | w,e :: r=>((bZ (wDo w e).1 r).1,(wDo w e).2 :: (bZ (wDo w e).1 r).2)
def aR (o:Ovr) (es:List Evn):Wld × List Int:=if cu o=false∨80 < es.length then (w0,[]) else bZ (aG o) es
def So (v:List Ent) (w:Wld) (who:Int) (h:Hld):Prop:=h.til≤w.clock∨((az v h.path).isSome=h.has∧(az v h.path).getD fG=h.ent∧∃ l∈w.leases,l.who=who∧l.path=h.path∧w.clock < l.til∧h.num≤l.num∧h.til≤l.til)
structure OkW (v:List Ent) (w:Wld):Prop where
 clk:0≤w.clock∧w.clock≤10000
 cnt:0≤w.count∧w.count≤10000
 hl:w.holds.length=3
 fl:w.floors.length=3
 nl:w.net.length≤12
 fb:∀ f∈w.floors,0≤f∧f≤w.count
 ls:∀ l∈w.leases,(0≤l.who∧l.who≤2)∧ae l.path=true∧1≤l.num∧l.num≤w.count∧l.til≤w.clock+5
 lu:w.leases.Pairwise fun a b=>¬ (a.who=b.who∧a.path=b.path)
 hs:∀ l∈w.holds,∀ h∈l,ae h.path=true∧0≤h.num∧h.num≤w.count
 hu:∀ l∈w.holds,l.Pairwise fun a b=>a.path≠b.path
 so:∀ (i:Nat) l,w.holds[i]?=some l→∀ h∈l,So v w i h
 nt:∀ m∈w.net,(1≤m.kind∧m.kind≤4)∧(0≤m.who∧m.who≤2)∧ae m.hold.path=true∧0≤m.hold.num∧m.hold.num≤w.count∧(m.kind=2∨m.hold=ba m.hold.path m.hold.num)
 gr:∀ m∈w.net,m.kind=2→aV w.floors m.who < m.hold.num→So v w m.who m.hold
 bk:∀ m∈w.net,m.kind=4→m.hold.num≤aV w.floors m.who∧∀ h∈aK w.holds m.who,h.path=m.hold.path→m.hold.num < h.num
 wt:if w.waits=true then (aC v w.op).2=0 else w.op=op0
theorem uA {α:Type} {R:α→α→Prop} {l:List α}:(∀ (i:Nat) x,l[i]?=some x→∀ y∈l.take i,R y x)↔l.Pairwise R:=by
 rw [zBB];constructor
 · intro h i j hi hj hij;exact h j l[j] (zAB hj) l[i] (List.mem_take_iff_getElem.2 ⟨i,by omega,rfl⟩)
 · intro h i x hx y hy;obtain ⟨hi,rfl⟩:=List.getElem?_eq_some_iff.1 hx;obtain ⟨j,hj,rfl⟩:=List.mem_take_iff_getElem.1 hy;exact h j i (by omega) hi (by omega)
theorem D9 {cnt clk:Int} {ls:List Lse}:s9 cnt clk ls=true↔(∀ l∈ls,(0≤l.who∧l.who≤2)∧ae l.path=true∧1≤l.num∧l.num≤cnt∧l.til≤clk+5)∧ls.Pairwise fun a b=>¬ (a.who=b.who∧a.path=b.path):=by
 rw [← uA];unfold s9;rw [bU];constructor
 · intro h;have key:∀ (i:Nat) x,ls[i]?=some x→_:=fun i x hx=>by
    have:=h i (List.getElem?_eq_some_iff.1 hx).1
    rw [lg,hx] at this;exact this
   refine ⟨fun l hl=>?_,fun i x hx y hy=>?_⟩
   · obtain ⟨i,hi⟩:=List.mem_iff_getElem?.1 hl
     have:=key i l hi
     simp only [dt,zAE,decide_eq_true_eq] at this;exact ⟨this.1.1.1.1.1,this.1.1.1.1.2,this.1.1.1.2,this.1.1.2,this.1.2⟩
   · have:=key i x hx
     simp only [zAE] at this
     have:=zAq.1 this.2 y hy
     simp only [aL,zAI,zAp,decide_eq_false_iff_not] at this;rintro ⟨h1,h2⟩;rcases this with h|h
     · exact h h1
     · exact h h2
 · rintro ⟨h1,h2⟩ i hi;have hx:ls[i]?=some ls[i]:=zAB hi;rw [lg,hx];obtain ⟨a,b,c,d,e⟩:=h1 _ (zAc hi);simp only [dt,zAE,decide_eq_true_eq];refine ⟨⟨⟨⟨⟨a,b⟩,c⟩,d⟩,e⟩,zAq.2 fun y hy=>?_⟩
   have:=h2 i _ hx y hy
   simp only [aL,zAI,zAp,decide_eq_false_iff_not];by_cases h3:y.who=ls[i].who
   · exact .inr fun h4=>this ⟨h3,h4⟩
   · exact .inl h3
theorem nZ {cnt:Int} {hs:List Hld}:mU cnt hs=true↔(∀ h∈hs,ae h.path=true∧0≤h.num∧h.num≤cnt)∧hs.Pairwise fun a b=>a.path≠b.path:=by
 rw [← uA];unfold mU;rw [bU];constructor
 · intro h;have key:∀ (i:Nat) x,hs[i]?=some x→_:=fun i x hx=>by
    have:=h i (List.getElem?_eq_some_iff.1 hx).1
    rw [th,hx] at this;exact this
   refine ⟨fun l hl=>?_,fun i x hx y hy=>?_⟩
   · obtain ⟨i,hi⟩:=List.mem_iff_getElem?.1 hl
     have:=key i l hi
     simp only [zAE,decide_eq_true_eq] at this;exact ⟨this.1.1.1,this.1.1.2,this.1.2⟩
   · have:=key i x hx
     simp only [zAE] at this
     have:=zAq.1 this.2 y hy
     simpa using this
 · rintro ⟨h1,h2⟩ i hi;have hx:hs[i]?=some hs[i]:=zAB hi;rw [th,hx];obtain ⟨a,b,c⟩:=h1 _ (zAc hi);simp only [zAE,decide_eq_true_eq];refine ⟨⟨⟨a,b⟩,c⟩,zAq.2 fun y hy=>?_⟩
   have:=h2 i _ hx y hy
   simpa using this
theorem vU {ls:List Lse} {who:Int} {p:Bs} {l:Lse} (h:dz ls who p=some l):l∈ls∧l.who=who∧l.path=p:=by
 have h1:=List.mem_of_find?_eq_some h;have h2:=List.find?_some h;simp only [aL,zAE,decide_eq_true_eq] at h2;exact ⟨h1,h2⟩
theorem zW {ls:List Lse} {who:Int} {p:Bs} {l:Lse} (hu:ls.Pairwise fun a b=>¬ (a.who=b.who∧a.path=b.path)) (h:l∈ls) (h1:l.who=who) (h2:l.path=p):dz ls who p=some l:=by
 induction ls with
 | nil=>cases h
 | cons x r ih=>
   rw [List.pairwise_cons] at hu;unfold dz;rw [List.find?_cons];rcases List.mem_cons.1 h with rfl|h
   · have:aL who p l=true:=by simp [aL,h1,h2]
     rw [this]
   · have:aL who p x=false:=by
       have:=hu.1 l h
       rw [h1,h2] at this;simp only [aL,zAp,decide_eq_false_iff_not];by_cases hx:x.who=who
       · exact .inr fun h=>this ⟨hx,h⟩
       · exact .inl hx
     rw [this];exact ih hu.2 h
theorem qF {v:List Ent} {w:Wld} (hu:w.leases.Pairwise fun a b=>¬ (a.who=b.who∧a.path=b.path)) {who:Int} {h:Hld}:soV v w.clock w.leases who h=true↔So v w who h:=by
 unfold soV So fZ lf;simp only [zAh,zAE,decide_eq_true_eq,and_assoc];refine or_congr Iff.rfl (and_congr Iff.rfl (and_congr Iff.rfl ?_));constructor
 · intro h1;cases hl:dz w.leases who h.path with
   | none=>rw [hl] at h1; cases h1
   | some l=>
     rw [hl] at h1;obtain ⟨g1,g2,g3⟩:=vU hl;simp only [zAE,decide_eq_true_eq] at h1;exact ⟨l,g1,g2,g3,h1.1.1,h1.1.2,h1.2⟩
 · rintro ⟨l,g1,g2,g3,g4,g5,g6⟩;rw [zW hu g1 g2 g3];simp only [zAE,decide_eq_true_eq];exact ⟨⟨g4,g5⟩,g6⟩
theorem pT {hs:List (List Hld)} {i:Nat} (h:i < hs.length):hs[i]?=some (aK hs i):=by
 simp [aK,List.getD,zAB h]
theorem vV {v:List Ent} {w:Wld}:de v w=true↔OkW v w:=by
 unfold de;simp only [zAE,D9,bU,zAq];constructor
 · rintro ⟨⟨⟨⟨h1,h2,h3⟩,h4⟩,h5⟩,h6⟩;simp only [gU,zAE,decide_eq_true_eq,zAq] at h1;obtain ⟨⟨⟨⟨⟨⟨⟨a1,a2⟩,a3⟩,a4⟩,a5⟩,a6⟩,a7⟩,a8⟩:=h1;have hh:∀ (i:Nat) l,w.holds[i]?=some l→mU w.count l=true∧l.all (soV v w.clock w.leases i)=true:=by
    intro i l hl;have hi:=(List.getElem?_eq_some_iff.1 hl).1
    have:=h5 i (by rw [List.mem_range]; omega)
    have e:=pT hi;rw [hl] at e;cases e;simpa only [kA,zAE] using this
   have hm:∀ l∈w.holds,mU w.count l=true:=fun l hl=>by
    obtain ⟨i,hi⟩:=List.mem_iff_getElem?.1 hl;exact (hh i l hi).1
   refine ⟨⟨a1,a2⟩,⟨a3,a4⟩,a5,a6,a7,a8,h2,h3,fun l hl=>(nZ.1 (hm l hl)).1,fun l hl=>(nZ.1 (hm l hl)).2,fun i l hl h hx=>?_,fun m hmm=>?_,fun m hmm hk hf=>?_,fun m hmm hk=>?_,?_⟩
   · exact (qF h3).1 (zAq.1 (hh i l hl).2 h hx)
   · have:=(h6 m hmm).1.1
     simp only [d8,dt,zAE,zAh,decide_eq_true_eq] at this;obtain ⟨⟨⟨⟨⟨⟨b1,b2⟩,b3⟩,b4⟩,b5⟩,b6⟩,b7⟩:=this;exact ⟨⟨b1,b2⟩,b3,b4,b5,b6,b7⟩
   · have:=(h6 m hmm).1.2
     simp only [ic,hk,zAh,decide_eq_true_eq,zAI,decide_true,zAL,false_or] at this;rcases this with h|h
     · omega
     · exact (qF h3).1 h
   · have:=(h6 m hmm).2
     simp only [kD,hk,zAh,zAE,decide_eq_true_eq,zAI,decide_true,zAL,false_or,zAq] at this;refine ⟨this.1,fun h hx hp=>?_⟩
     have:=this.2 h hx
     simp only [hp,decide_true,zAv,decide_eq_false_iff_not] at this;omega
   · unfold jl at h4;split at h4
     · rename_i hw; rw [if_pos hw]; simpa using h4
     · rename_i hw; rw [if_neg hw]; simpa using h4
 · intro h;refine ⟨⟨⟨⟨?_,h.ls,h.lu⟩,?_⟩,fun i hi=>?_⟩,fun m hm=>⟨⟨?_,?_⟩,?_⟩⟩
   · simp only [gU,zAE,decide_eq_true_eq,zAq];exact ⟨⟨⟨⟨⟨⟨⟨h.clk.1,h.clk.2⟩,h.cnt.1⟩,h.cnt.2⟩,h.hl⟩,h.fl⟩,h.nl⟩,h.fb⟩
   · have:=h.wt
     unfold jl;split at this
     · rename_i hw; rw [if_pos hw]; simpa using this
     · rename_i hw; rw [if_neg hw]; simpa using this
   · have hg:=pT (hs:=w.holds) (i:=i) (by rw [h.hl]; exact List.mem_range.1 hi);have hmem:=zAD hg;simp only [kA,zAE,nZ,zAq];exact ⟨⟨h.hs _ hmem,h.hu _ hmem⟩,fun x hx=>(qF h.lu).2 (h.so i _ hg x hx)⟩
   · obtain ⟨⟨b1,b2⟩,b3,b4,b5,b6,b7⟩:=h.nt m hm;simp only [d8,dt,zAE,zAh,decide_eq_true_eq];exact ⟨⟨⟨⟨⟨⟨b1,b2⟩,b3⟩,b4⟩,b5⟩,b6⟩,b7⟩
   · simp only [ic,zAh,zAI,decide_eq_false_iff_not,decide_eq_true_eq];by_cases hk:m.kind=2
     · by_cases hf:m.hold.num≤aV w.floors m.who
       · exact .inl (.inr hf)
       · exact .inr ((qF h.lu).2 (h.gr m hm hk (by omega)))
     · exact .inl (.inl hk)
   · simp only [kD,zAh,zAE,zAI,decide_eq_false_iff_not,decide_eq_true_eq,zAq];by_cases hk:m.kind=4
     · obtain ⟨c1,c2⟩:=h.bk m hm hk;refine .inr ⟨c1,fun x hx=>?_⟩;by_cases hp:x.path=m.hold.path
       · have:=c2 x hx hp
         simp [hp]; omega
       · simp [hp]
     · exact .inl hk
theorem br {w:Wld} (h:aP w=true):∃ t v,bo w.over=some (t,v)∧OkW v w∧seen w.over=v:=by
 unfold aP at h;cases ho:bo w.over with
 | none=>rw [ho] at h; cases h
 | some x=>
   rw [ho] at h;exact ⟨x.1,x.2,rfl,vV.1 h,by rw [seen,ho]⟩
theorem iR {w:Wld} {t v:List Ent} (ho:bo w.over=some (t,v)) (h:OkW v w):aP w=true:=by
 rw [aP,ho];exact vV.2 h
theorem gk {net:List Mes} {x m:Mes} (h:m∈bX net x):m∈net∨m=x:=by
 unfold bX at h;split at h
 · rcases zAs.1 h with h|h
   · exact .inl h
   · exact .inr (List.mem_singleton.1 h)
 · exact .inl h
theorem jM {net:List Mes} {x:Mes} (h:net.length≤12):(bX net x).length≤12:=by
 unfold bX;split
 · rw [zAV,List.length_singleton]; omega
 · exact h
theorem pU {cnt:Int}:∀ {bars:List Lse} {net:List Mes} {m:Mes},m∈dg net cnt bars→m∈net∨∃ l∈bars,m=⟨3,l.who,ba l.path cnt⟩
 | [],net,m,h=>.inl h
 | l :: r,net,m,h=>by
   rcases pU (bars:=r) (net:=bX net ⟨3,l.who,ba l.path cnt⟩) h with h|⟨k,hk,e⟩
   · rcases gk h with h|h
     · exact .inl h
     · exact .inr ⟨l,by simp,h⟩
   · exact .inr ⟨k,by simp [hk],e⟩
theorem lh {cnt:Int}:∀ {bars:List Lse} {net:List Mes},net.length≤12→(dg net cnt bars).length≤12
 | [],net,h=>h
 | l :: r,net,h=>lh (bars:=r) (jM h)
theorem x3 {fl:List Int} {who:Int} (h:who.toNat < fl.length):aV fl who=fl[who.toNat]:=by
 simp [aV,List.getD,zAB h]
theorem pV {fl:List Int} {i who:Int} {x:Int} (hi:0≤i∧i.toNat < fl.length) (hw:0≤who):aV (fl.set i.toNat x) who=if who=i then x else aV fl who:=by
 unfold aV List.getD;rw [zAn];by_cases h:who=i
 · subst h; simp [hi.2]
 · have:¬ i.toNat=who.toNat:=by omega
   simp [this,h]
theorem pW {hs:List (List Hld)} {i who:Int} {x:List Hld} (hi:0≤i∧i.toNat < hs.length) (hw:0≤who):aK (hs.set i.toNat x) who=if who=i then x else aK hs who:=by
 unfold aK List.getD;rw [zAn];by_cases h:who=i
 · subst h; simp [hi.2]
 · have:¬ i.toNat=who.toNat:=by omega
   simp [this,h]
theorem holdsOf_mem {hs:List (List Hld)} {who:Int} (h:who.toNat < hs.length):hs[who.toNat]?=some (aK hs who):=by
 simp [aK,List.getD,zAB h]
section
variable {v:List Ent} {w:Wld}
theorem OkW.net (h:OkW v w) {net:List Mes} (hl:net.length≤12) (hm:∀ m∈net,m∈w.net∨((m.kind=1∨m.kind=3)∧(0≤m.who∧m.who≤2)∧ae m.hold.path=true∧0≤m.hold.num∧m.hold.num≤w.count∧m.hold=ba m.hold.path m.hold.num)):OkW v { w with net:=net }:=
 ⟨h.clk,h.cnt,h.hl,h.fl,hl,h.fb,h.ls,h.lu,h.hs,h.hu,h.so,fun m hmm=>by
  rcases hm m hmm with h1|⟨a,b,c,d,e,f⟩
  · exact h.nt m h1
  · exact ⟨by omega,b,c,d,e,.inr f⟩,fun m hmm hk=>by
  rcases hm m hmm with h1|⟨a,_⟩
  · exact h.gr m h1 hk
  · omega,fun m hmm hk=>by
  rcases hm m hmm with h1|⟨a,_⟩
  · exact h.bk m h1 hk
  · omega,h.wt⟩
theorem OkW.less (h:OkW v w) {net:List Mes} (hl:net.length≤12) (hm:∀ m∈net,m∈w.net):OkW v { w with net:=net }:=h.net hl fun m hmm=>.inl (hm m hmm)
theorem So.view {v':List Ent} (hv:∀ l∈w.leases,w.clock < l.til→az v' l.path=az v l.path) {who:Int} {h:Hld} (k:So v w who h):So v' w who h:=by
 rcases k with k|⟨a,b,l,c,d,e,f,g⟩
 · exact .inl k
 · have:=hv l c f
   rw [e] at this;rw [← this] at a b;exact .inr ⟨a,b,l,c,d,e,f,g⟩
theorem OkW.turn (h:OkW v w) {v':List Ent} (hv:∀ l∈w.leases,w.clock < l.til→az v' l.path=az v l.path) (o:Ovr):OkW v' { w with over:=o,waits:=false,op:=op0 }:=
 ⟨h.clk,h.cnt,h.hl,h.fl,h.nl,h.fb,h.ls,h.lu,h.hs,h.hu,fun i l hl x hx=>(h.so i l hl x hx).view hv,h.nt,fun m hm hk hf=>(h.gr m hm hk hf).view hv,h.bk,rfl⟩
theorem Be {ls:List Lse} {clk:Int} {p:Opn} (hv:ai v=true) (hc:(aC v p).2=0) (hb:cw v clk ls p=[]):∀ l∈ls,clk < l.til→az (aC v p).1 l.path=az v l.path:=by
 intro l hl ht;have h1:=List.filter_eq_nil_iff.1 hb l hl;simp only [bI,if_pos hc,ht,decide_true,zAv,decide_eq_true_eq] at h1;rw [gh hv (fy hv p)] at h1;have h2:=Decidable.not_not.1 h1;unfold az;rw [h2]
theorem OkW.waitsOn (h:OkW v w) {p:Opn} (hp:(aC v p).2=0) {net:List Mes} (hl:net.length≤12) (hm:∀ m∈net,m∈w.net∨∃ l∈w.leases,m=⟨3,l.who,ba l.path w.count⟩):OkW v { w with net:=net,waits:=true,op:=p }:=by
 have k:=h.net hl fun m hmm=>by
  rcases hm m hmm with h1|⟨l,h1,rfl⟩
  · exact .inl h1
  · obtain ⟨a,b,c,d,_⟩:=h.ls l h1;refine .inr ⟨.inr rfl,a,b,?_,?_,rfl⟩
    · show 0≤w.count
      omega
    · show w.count≤w.count
      omega
 exact ⟨k.clk,k.cnt,k.hl,k.fl,k.nl,k.fb,k.ls,k.lu,k.hs,k.hu,k.so,k.nt,k.gr,k.bk,hp⟩
theorem x4 {ls:List Lse} {clk:Int} {p:Opn} {l:Lse} (h:l∈cw v clk ls p):l∈ls:=(List.mem_filter.1 h).1
theorem r9 {bars:List Lse} (hb:∀ l∈bars,l∈w.leases):∀ m∈dg w.net w.count bars,m∈w.net∨∃ l∈w.leases,m=⟨3,l.who,ba l.path w.count⟩:=fun m hm=>by
 rcases pU hm with h|⟨l,h1,h2⟩
 · exact .inl h
 · exact .inr ⟨l,hb l h1,h2⟩
theorem OkW.write {t:List Ent} (ho:bo w.over=some (t,v)) (h:OkW v w) (p:Opn):∃ v',bo (bA w p).1.over=some (t,v')∧OkW v' (bA w p).1:=by
 have hs:seen w.over=v:=by rw [seen,ho]
 obtain ⟨_,_,_,hv⟩:=cm ho;unfold bA;rw [hs];split
 · exact ⟨v,ho,h⟩
 · rename_i hw;split
   · exact ⟨v,ho,h⟩
   · rename_i hc;have hc:(aC v p).2=0:=Decidable.not_not.1 hc;split
     · rename_i hb;have hop:w.op=op0:=by have:=h.wt; rwa [if_neg hw] at this
       have hwf:w.waits=false:=by simpa using hw
       have k:=h.turn (Be hv hc hb) (cf w.over p).1;refine ⟨_,(lN ho p).1,?_⟩;have e:({ w with over:=(cf w.over p).1 }:Wld)={ w with over:=(cf w.over p).1,waits:=false,op:=op0 }:=by rw [← hop,← hwf]
       rw [e];exact k
     · exact ⟨v,ho,h.waitsOn hc (lh h.nl) (r9 fun l hl=>x4 hl)⟩
theorem OkW.try_ {t:List Ent} (ho:bo w.over=some (t,v)) (h:OkW v w):∃ v',bo (dF w).1.over=some (t,v')∧OkW v' (dF w).1:=by
 have hs:seen w.over=v:=by rw [seen,ho]
 obtain ⟨_,_,_,hv⟩:=cm ho;unfold dF;rw [hs];split
 · exact ⟨v,ho,h⟩
 · rename_i hw;have hw:w.waits=true:=by simpa using hw
   have hc:(aC v w.op).2=0:=by have:=h.wt; rwa [if_pos hw] at this
   split
   · rename_i hb;exact ⟨_,(lN ho w.op).1,h.turn (Be hv hc hb) (cf w.over w.op).1⟩
   · refine ⟨v,ho,?_⟩;have k:=h.waitsOn hc (lh h.nl) (r9 (bars:=cw v w.clock w.leases w.op) fun l hl=>x4 hl);rw [← hw] at k;exact k
theorem OkW.tick (h:OkW v w):OkW v (gN w):=by
 have hc:=h.clk;have ht:0≤dW w.clock∧dW w.clock≤10000∧w.clock≤dW w.clock:=by unfold dW; split <;> omega
 have so:∀ {who:Int} {x:Hld},So v w who x→So v (gN w) who x:=by
  intro who x k;by_cases hx:x.til≤dW w.clock
  · exact .inl hx
  · rcases k with k|⟨a,b,l,c,d,e,f,g,i⟩
    · omega
    · refine .inr ⟨a,b,l,List.mem_filter.2 ⟨c,?_⟩,d,e,?_,g,i⟩
      · simp only [decide_eq_true_eq]; omega
      · show dW w.clock < l.til
        omega
 exact ⟨⟨ht.1,ht.2.1⟩,h.cnt,h.hl,h.fl,h.nl,h.fb,fun l hl=>by
  obtain ⟨a,b,c,d,e⟩:=h.ls l (List.mem_filter.1 hl).1;refine ⟨a,b,c,d,?_⟩;show l.til≤dW w.clock+5
  omega,h.lu.sublist zBM,h.hs,h.hu,fun i l hl x hx=>so (h.so i l hl x hx),h.nt,fun m hm hk hf=>so (h.gr m hm hk hf),h.bk,h.wt⟩
theorem OkW.ask (h:OkW v w) (hs:seen w.over=v) {who:Int} {p:Bs} (hw:0≤who∧who≤2) (hp:ae p=true):OkW v (ie w who p):=by
 unfold ie;rw [hs];split
 · exact h
 · rename_i hn;have hcn:w.count < 10000:=by
    have:=fun h=>hn (.inr h)
    omega
   have hc:=h.cnt;have lse:∀ l∈iV w.leases who p (w.count+1)++[(⟨who,p,w.count+1,w.clock+5⟩:Lse)],(l∈w.leases∧¬ (l.who=who∧l.path=p))∨l=⟨who,p,w.count+1,w.clock+5⟩:=by
    intro l hl;rcases zAs.1 hl with hl|hl
    · obtain ⟨h1,h2⟩:=List.mem_filter.1 hl;have hln:=(h.ls l h1).2.2.2.1;have h3:decide (l.num≤w.count+1)=true:=decide_eq_true (by omega);refine .inl ⟨h1,fun hx=>?_⟩;simp [aL,hx.1,hx.2,h3] at h2
    · exact .inr (List.mem_singleton.1 hl)
   have so:∀ {i:Int} {x:Hld},x.num≤w.count→So v w i x→So v { w with count:=w.count+1,leases:=iV w.leases who p (w.count+1)++[(⟨who,p,w.count+1,w.clock+5⟩:Lse)],net:=bX w.net ⟨2,who,⟨p,(az v p).isSome,(az v p).getD fG,w.count+1,w.clock+5⟩⟩ } i x:=by
    intro i x hxn k;rcases k with k|⟨a,b,l,c,d,e,f,g,j⟩
    · exact .inl k
    · by_cases hx:l.who=who∧l.path=p
      · have:=(h.ls l c).2.2.2.2
        refine .inr ⟨a,b,⟨who,p,w.count+1,w.clock+5⟩,by simp,by rw [← d]; exact hx.1.symm,by rw [← e]; exact hx.2.symm,?_,?_,?_⟩
        · show w.clock < w.clock+5
          omega
        · show x.num≤w.count+1
          omega
        · show x.til≤w.clock+5
          omega
      · refine .inr ⟨a,b,l,List.mem_append_left _ (List.mem_filter.2 ⟨c,?_⟩),d,e,f,g,j⟩
        have:aL who p l=false:=by
         simp only [aL,zAp,decide_eq_false_iff_not];by_cases h1:l.who=who
         · exact .inr fun h2=>hx ⟨h1,h2⟩
         · exact .inl h1
        simp [this]
   refine ⟨h.clk,⟨by show 0≤w.count+1; omega,by show w.count+1≤10000; omega⟩,h.hl,h.fl,jM h.nl,fun f hf=>?_,fun l hl=>?_,?_,fun l hl x hx=>?_,h.hu,fun i l hl x hx=>so (h.hs l (zAD hl) x hx).2.2 (h.so i l hl x hx),fun m hm=>?_,fun m hm hk hf=>?_,fun m hm hk=>?_,h.wt⟩
   · have:=h.fb f hf
     refine ⟨this.1,?_⟩;show f≤w.count+1
     omega
   · rcases lse l hl with ⟨h1,_⟩|rfl
     · obtain ⟨a,b,c,d,e⟩:=h.ls l h1;refine ⟨a,b,c,?_,e⟩;show l.num≤w.count+1
       omega
     · refine ⟨hw,hp,?_,?_,?_⟩
       · show 1≤w.count+1
         omega
       · show w.count+1≤w.count+1
         omega
       · show w.clock+5≤w.clock+5
         omega
   · rw [List.pairwise_append];refine ⟨h.lu.sublist zBM,by simp,fun a ha b hb=>?_⟩;rw [List.mem_singleton] at hb;subst hb;rcases lse a (List.mem_append_left _ ha) with ⟨_,h2⟩|h2
     · exact h2
     · subst h2
       have:=(h.ls _ (List.mem_filter.1 ha).1).2.2.2.1
       simp only at this;omega
   · obtain ⟨a,b,c⟩:=h.hs l hl x hx;refine ⟨a,b,?_⟩;show x.num≤w.count+1
     omega
   · rcases gk hm with h1|rfl
     · obtain ⟨a,b,c,d,e,f⟩:=h.nt m h1;refine ⟨a,b,c,d,?_,f⟩;show m.hold.num≤w.count+1
       omega
     · refine ⟨by simp,hw,hp,?_,?_,.inl rfl⟩
       · show 0≤w.count+1
         omega
       · show w.count+1≤w.count+1
         omega
   · rcases gk hm with h1|rfl
     · exact so (h.nt m h1).2.2.2.2.1 (h.gr m h1 hk hf)
     · refine .inr ⟨rfl,rfl,⟨who,p,w.count+1,w.clock+5⟩,by simp,rfl,rfl,?_,?_,?_⟩
       · show w.clock < w.clock+5
         omega
       · show w.count+1≤w.count+1
         omega
       · show w.clock+5≤w.clock+5
         omega
   · rcases gk hm with h1|rfl
     · exact h.bk m h1 hk
     · simp at hk
theorem n4 {α:Type} {l:List α} {i:Nat} {x y:α} (h:y∈l.set i x):y=x∨y∈l:=by
 rcases zBL h with h|h
 · exact .inr h
 · exact .inl h
theorem takeH_mem {l:List Hld} {h x:Hld} (k:x∈cg l h):x∈l∨(x=h∧l.any (fun y=>decide (y.path=h.path) && decide (h.num≤y.num))=false):=by
 unfold cg at k;split at k
 · exact .inl k
 · rename_i hn;rcases zAs.1 k with k|k
   · exact .inl (List.mem_filter.1 k).1
   · exact .inr ⟨List.mem_singleton.1 k,by simpa using hn⟩
theorem zX {l:List Hld} {h:Hld} (k:l.Pairwise fun a b=>a.path≠b.path):(cg l h).Pairwise fun a b=>a.path≠b.path:=by
 unfold cg;split
 · exact k
 · rw [List.pairwise_append];refine ⟨k.sublist zBM,by simp,fun a ha b hb=>?_⟩;rw [List.mem_singleton] at hb;subst hb
   have:=(List.mem_filter.1 ha).2
   simpa using this
theorem OkW.grant (h:OkW v w) {m:Mes} (hm:m∈w.net) (hk:m.kind=2) {net:List Mes} (hl:net.length≤12) (hn:∀ x∈net,x∈w.net):OkW v (eC { w with net:=net } m.who m.hold):=by
 unfold eC;split
 · rename_i hc;obtain ⟨_,hw,hp,h0,h1,_⟩:=h.nt m hm;have hlt:m.who.toNat < w.holds.length:=by rw [h.hl]; omega
   have hget:=holdsOf_mem (hs:=w.holds) hlt;have hmem:=zAD hget;have hS:=h.gr m hm hk hc.2;refine ⟨h.clk,h.cnt,by show (w.holds.set _ _).length=3; rw [zAW]; exact h.hl,h.fl,hl,h.fb,h.ls,h.lu,fun l hl x hx=>?_,fun l hl=>?_,fun i l hl x hx=>?_,fun x hx=>h.nt x (hn x hx),fun x hx=>h.gr x (hn x hx),fun x hx hk4=>?_,h.wt⟩
   · rcases n4 hl with rfl|hl
     · rcases takeH_mem hx with hx|⟨rfl,_⟩
       · exact h.hs _ hmem x hx
       · exact ⟨hp,h0,h1⟩
     · exact h.hs l hl x hx
   · rcases n4 hl with rfl|hl
     · exact zX (h.hu _ hmem)
     · exact h.hu l hl
   · have hl':(w.holds.set m.who.toNat (cg (aK w.holds m.who) m.hold))[i]?=some l:=hl;rw [zAn] at hl';split at hl'
     · rename_i hi;subst hi;simp only [hlt,if_true,zAT] at hl';subst hl';have e:((m.who.toNat:Nat):Int)=m.who:=Int.toNat_of_nonneg hw.1;rcases takeH_mem hx with hx|⟨rfl,_⟩
       · exact h.so _ _ hget x hx
       · rw [e]; exact hS
     · exact h.so i l hl' x hx
   · obtain ⟨c1,c2⟩:=h.bk x (hn x hx) hk4;have hxw:=(h.nt x (hn x hx)).2.1;refine ⟨c1,fun y hy hyp=>?_⟩;have hy':y∈aK (w.holds.set m.who.toNat (cg (aK w.holds m.who) m.hold)) x.who:=hy;rw [pW ⟨hw.1,hlt⟩ hxw.1] at hy';split at hy'
     · rename_i he;rcases takeH_mem hy' with hy'|⟨rfl,_⟩
       · rw [← he] at hy';exact c2 y hy' hyp
       · have hc2:aV w.floors m.who < m.hold.num:=hc.2;rw [he] at c1;omega
     · exact c2 y hy' hyp
 · exact h.less hl hn
theorem OkW.recall (h:OkW v w) {m:Mes} (hm:m∈w.net) {net:List Mes} (hl:net.length≤12) (hn:∀ x∈net,x∈w.net):OkW v (dA { w with net:=net } m.who m.hold.path m.hold.num):=by
 obtain ⟨_,hw,hp,h0,h1,_⟩:=h.nt m hm;have hlt:m.who.toNat < w.holds.length:=by rw [h.hl]; omega
 have hlf:m.who.toNat < w.floors.length:=by rw [h.fl]; omega
 have hget:=holdsOf_mem (hs:=w.holds) hlt;have hmem:=zAD hget;have hf0:aV w.floors m.who∈w.floors:=by rw [x3 hlf]; exact zAc _
 have lv:∀ {x:Hld},x∈bz (aK w.holds m.who) m.hold.path m.hold.num→x∈aK w.holds m.who∧(x.path=m.hold.path→m.hold.num < x.num):=by
  intro x hx;obtain ⟨a,b⟩:=List.mem_filter.1 hx;refine ⟨a,fun e=>?_⟩;simp [e] at b;exact b
 have fl2:∀ {i:Int},0≤i→aV w.floors i≤aV (w.floors.set m.who.toNat (max (aV w.floors m.who) m.hold.num)) i:=by
  intro i hi;rw [pV ⟨hw.1,hlf⟩ hi];split
  · rename_i e; subst e; omega
  · omega
 have nm:∀ {x:Mes},x∈(dA { w with net:=net } m.who m.hold.path m.hold.num).net→x∈w.net∨x=⟨4,m.who,ba m.hold.path m.hold.num⟩:=by
  intro x hx;rcases gk hx with hx|hx
  · exact .inl (hn x hx)
  · exact .inr hx
 refine ⟨h.clk,h.cnt,by show (w.holds.set _ _).length=3; rw [zAW]; exact h.hl,by show (w.floors.set _ _).length=3; rw [zAW]; exact h.fl,jM hl,fun f hf=>?_,h.ls,h.lu,fun l hl x hx=>?_,fun l hl=>?_,fun i l hl x hx=>?_,fun x hx=>?_,fun x hx hk hf=>?_,fun x hx hk=>?_,h.wt⟩
 · have hf':f∈w.floors.set m.who.toNat (max (aV w.floors m.who) m.hold.num):=hf
   have:=h.fb _ hf0
   rcases n4 hf' with rfl|hf'
   · show 0≤max (aV w.floors m.who) m.hold.num∧max (aV w.floors m.who) m.hold.num≤w.count
     omega
   · exact h.fb f hf'
 · rcases n4 hl with rfl|hl
   · exact h.hs _ hmem x (lv hx).1
   · exact h.hs l hl x hx
 · rcases n4 hl with rfl|hl
   · exact (h.hu _ hmem).sublist zBM
   · exact h.hu l hl
 · have hl':(w.holds.set m.who.toNat (bz (aK w.holds m.who) m.hold.path m.hold.num))[i]?=some l:=hl;rw [zAn] at hl';split at hl'
   · rename_i hi;subst hi;simp only [hlt,if_true,zAT] at hl';subst hl';exact h.so _ _ hget x (lv hx).1
   · exact h.so i l hl' x hx
 · rcases nm hx with hx|rfl
   · exact h.nt x hx
   · exact ⟨by simp,hw,hp,h0,h1,.inr rfl⟩
 · rcases nm hx with hx|rfl
   · exact h.gr x hx hk (Int.lt_of_le_of_lt (fl2 (h.nt x hx).2.1.1) hf)
   · simp at hk
 · have set:aK (dA { w with net:=net } m.who m.hold.path m.hold.num).holds x.who=if x.who=m.who then bz (aK w.holds m.who) m.hold.path m.hold.num else aK w.holds x.who:=by
     refine pW ⟨hw.1,hlt⟩ ?_;rcases nm hx with hx|rfl
     · exact (h.nt x hx).2.1.1
     · exact hw.1
   rw [set];rcases nm hx with hx|rfl
   · obtain ⟨c1,c2⟩:=h.bk x hx hk;refine ⟨Int.le_trans c1 (fl2 (h.nt x hx).2.1.1),fun y hy hyp=>?_⟩;split at hy
     · rename_i e;refine c2 y ?_ hyp;rw [e];exact (lv hy).1
     · exact c2 y hy hyp
   · refine ⟨?_,fun y hy hyp=>?_⟩
     · show m.hold.num≤aV (w.floors.set m.who.toNat (max (aV w.floors m.who) m.hold.num)) m.who
       rw [pV ⟨hw.1,hlf⟩ hw.1,if_pos rfl];omega
     · simp only [if_true] at hy;exact (lv hy).2 hyp
theorem OkW.back (h:OkW v w) {m:Mes} (hm:m∈w.net) (hk:m.kind=4) {net:List Mes} (hl:net.length≤12) (hn:∀ x∈net,x∈w.net):OkW v (gO { w with net:=net } m.who m.hold.path m.hold.num):=by
 obtain ⟨_,hw,_⟩:=h.nt m hm;obtain ⟨c1,c2⟩:=h.bk m hm hk;have so:∀ {i:Int} {x:Hld},(i=m.who→x.path=m.hold.path→m.hold.num < x.num)→So v w i x→So v (gO { w with net:=net } m.who m.hold.path m.hold.num) i x:=by
  intro i x hx k;rcases k with k|⟨a,b,l,c,d,e,f,g,j⟩
  · exact .inl k
  · refine .inr ⟨a,b,l,List.mem_filter.2 ⟨c,?_⟩,d,e,f,g,j⟩;by_cases hq:l.who=m.who∧l.path=m.hold.path
    · have:=hx (by rw [← d]; exact hq.1) (by rw [← e]; exact hq.2)
      have h2:¬ l.num≤m.hold.num:=by omega
      simp [h2]
    · have:aL m.who m.hold.path l=false:=by
        simp only [aL,zAp,decide_eq_false_iff_not];by_cases h1:l.who=m.who
        · exact .inr fun h2=>hq ⟨h1,h2⟩
        · exact .inl h1
      simp [this]
 refine ⟨h.clk,h.cnt,h.hl,h.fl,hl,h.fb,fun l hl=>h.ls l (List.mem_filter.1 hl).1,h.lu.sublist zBM,h.hs,h.hu,fun i l hl x hx=>?_,fun x hx=>h.nt x (hn x hx),fun x hx hk2 hf=>?_,fun x hx=>h.bk x (hn x hx),h.wt⟩
 · refine so (fun hi hp=>?_) (h.so i l hl x hx);refine c2 x ?_ hp
   have:m.who.toNat=i:=by omega
   have hget:=holdsOf_mem (hs:=w.holds) (who:=m.who) (by rw [h.hl]; omega);rw [this] at hget
   have:=zAZ (hget.symm.trans hl)
   rw [this];exact hx
 · refine so (fun hi hp=>?_) (h.gr x (hn x hx) hk2 hf);have hf':aV w.floors x.who < x.hold.num:=hf;rw [hi] at hf';omega
theorem OkW.copy (h:OkW v w) {m:Mes} (hm:m∈w.net):OkW v { w with net:=bX w.net m }:=h.less (jM h.nl) fun x hx=>by
 rcases gk hx with hx|rfl
 · exact hx
 · exact hm
theorem OkW.come {t:List Ent} (ho:bo w.over=some (t,v)) (h:OkW v w) {m:Mes} (hm:m∈w.net) {net:List Mes} (hl:net.length≤12) (hn:∀ x∈net,x∈w.net) :
   (cT { w with net:=net } m).over=w.over∧OkW v (cT { w with net:=net } m):=by
 have k:=h.less hl hn;have hs:seen w.over=v:=by rw [seen,ho]
 obtain ⟨_,hw,hp,_⟩:=h.nt m hm;unfold cT;split
 · refine ⟨?_,k.ask hs hw hp⟩;unfold ie;split <;> rfl
 · split
   · rename_i hk;refine ⟨?_,h.grant hm hk hl hn⟩;unfold eC;split <;> rfl
   · split
     · exact ⟨rfl,h.recall hm hl hn⟩
     · split
       · rename_i hk;exact ⟨rfl,h.back hm hk hl hn⟩
       · exact ⟨rfl,k⟩
theorem OkW.netD {t:List Ent} (ho:bo w.over=some (t,v)) (h:OkW v w) (k pos:Int):(ig w k pos).1.over=w.over∧OkW v (ig w k pos).1:=by
 unfold ig;split
 · exact ⟨rfl,h⟩
 · split
   · exact ⟨rfl,h⟩
   · rename_i m hm;have hmem:=zAD hm;have hl:(w.net.eraseIdx pos.toNat).length≤12:=by
      have:=h.nl
      rw [zAm];split <;> omega
     have hn:∀ x∈w.net.eraseIdx pos.toNat,x∈w.net:=fun x hx=>List.mem_of_mem_eraseIdx hx;split
     · exact ⟨rfl,h.copy hmem⟩
     · split
       · exact h.come ho hmem hl hn
       · exact ⟨rfl,h.less hl hn⟩
theorem OkW.do_ {t:List Ent} (ho:bo w.over=some (t,v)) (h:OkW v w) (e:Evn):∃ v',bo (wDo w e).1.over=some (t,v')∧OkW v' (wDo w e).1:=by
 unfold wDo;split
 · split
   · rename_i hb;simp only [dt,zAE,decide_eq_true_eq] at hb;refine ⟨v,ho,h.net (jM h.nl) fun m hm=>?_⟩;rcases gk hm with hm|rfl
     · exact .inl hm
     · refine .inr ⟨.inl rfl,hb.1,hb.2,?_,?_,rfl⟩
       · exact Int.le_refl _
       · exact h.cnt.1
   · exact ⟨v,ho,h⟩
 · split
   · exact h.write ho e.op
   · split
     · exact h.try_ ho
     · split
       · exact ⟨v,ho,h.tick⟩
       · split
         · obtain ⟨a,b⟩:=h.netD ho e.kind e.pos;exact ⟨v,by rw [a]; exact ho,b⟩
         · exact ⟨v,ho,h⟩
end
theorem E5 {o:Ovr} {t v:List Ent} (ho:bo o=some (t,v)):OkW v (aG o):=by
 refine ⟨by simp [aG],by simp [aG],rfl,rfl,by simp [aG],?_,by simp [aG],by simp [aG],?_,?_,?_,by simp [aG],by simp [aG],by simp [aG],rfl⟩
 · intro f hf;simp [aG] at hf;subst hf;simp [aG]
 · intro l hl;simp [aG] at hl;subst hl
   simp
 · intro l hl;simp [aG] at hl;subst hl
   simp
 · intro i l hl x hx
   have:l∈(aG o).holds:=zAD hl
   simp [aG] at this;subst this;simp at hx
theorem iS {w:Wld} (h:aP w=true) (e:Evn):aP (wDo w e).1=true:=by
 obtain ⟨t,v,h1,h2,_⟩:=br h;obtain ⟨v',h3,h4⟩:=h2.do_ h1 e;exact iR h3 h4
theorem jb {o:Ovr} (h:cu o=true):aP (aG o)=true:=by
 unfold cu at h;cases ho:bo o with
 | none=>rw [ho] at h; cases h
 | some x=>exact iR (t:=x.1) (v:=x.2) ho (E5 ho)
end Go.Par
