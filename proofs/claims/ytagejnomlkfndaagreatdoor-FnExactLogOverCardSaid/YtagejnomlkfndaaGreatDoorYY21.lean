/- Texts of this claim, set close: lemmas and contracts. -/
import Derived.Test.YtagejnomlkfndaaGreatDoorYY12
import Derived.Test.YtagejnomlkfndaaGreatDoorYY13
set_option linter.unusedSimpArgs false
set_option linter.unusedVariables false
namespace Go.Par
open Go.Ab
theorem CM (l r:List Mrk) (q:Bs):am (l++r) q=(am l q).or (am r q):=by simp [am,zBR]
theorem iv {p q:Bs} (hp:ah p=true) (hr:al p=[47]) (hq:ah q=true):bc p q=false:=by
 rw [← zAZ];intro h;have h1:=(i5 hp hq h).1;rw [hr,kZ] at h1;cases h1
theorem yz {p q:Bs} (hp:ah p=true) (hq:ah q=true):bc p q=true↔al p=q∨bc (al p) q=true:=⟨fun h=>(i5 hp hq h).2,lh hp hq⟩
def vt (p q:Bs):Option Mrk:=if ah q=true∧bc p q=true then some ⟨q,2,[]⟩ else none
theorem wY {p:Bs} (hp:ah p=true) (hr:al p=[47]) (q:Bs):vt p q=none:=by
 unfold vt;rw [if_neg];rintro ⟨h1,h2⟩;rw [iv hp hr h1] at h2;cases h2
theorem sG {p:Bs} (hp:ah p=true) (hr:al p≠[47]) (q:Bs):vt p q=(if al p=q then some ⟨al p,2,[]⟩ else none:Option Mrk).or (vt (al p) q):=by
 obtain ⟨u1,u2⟩:=i6 hp hr;by_cases hq:al p=q
 · subst hq;unfold vt;rw [if_pos ⟨u1,u2⟩,if_pos rfl];rfl
 · rw [if_neg hq,zBG];unfold vt;by_cases hk:ah q=true
   · have:=yz hp hk
     simp only [hq,false_or] at this;by_cases h:bc p q=true
     · rw [if_pos ⟨hk,h⟩,if_pos ⟨hk,this.1 h⟩]
     · rw [if_neg fun x=>h x.2,if_neg fun x=>h (this.2 x.2)]
   · rw [if_neg fun x=>hk x.1,if_neg fun x=>hk x.1]
theorem rM {l:List Mrk} (h:∀ m∈l,m.kind≠0) {q:Bs}:cZ l q=0↔am l q=none:=by
 unfold cZ;cases hm:am l q with
 | none=>simp
 | some m=>simp [h m (cK hm).1]
theorem CN:∀ (n:Nat) {l:List Mrk} {p:Bs},p.length≤n→ah p=true→ax (aV l)→(∀ m∈l,m.kind≠0) →
   ax (aV (jg n l p))∧(∀ m∈jg n l p,m.kind≠0)∧∀ q,am (jg n l p) q=(am l q).or (vt p q)
 | 0,l,p,hn,hp,_,_=>by have:=(aQ hp).1; omega
 | n+1,l,p,hn,hp,hs,hk=>by
   unfold jg;by_cases hr:al p=[47]
   · rw [if_pos hr];exact ⟨hs,hk,fun q=>by rw [wY hp hr,Option.or_none]⟩
   · rw [if_neg hr];obtain ⟨u1,u2⟩:=i6 hp hr
     have:=fo hp hr
     by_cases h0:cZ l (al p)=0
     · rw [if_pos h0];obtain ⟨i1,i2,i3⟩:=CN n (l:=dk l ⟨al p,2,[]⟩) (p:=al p) (by omega) u1 (kt hs _) (fun m hm=>by
        rcases tQ hm with rfl|hm
        · simp
        · exact hk m hm)
       refine ⟨i1,i2,fun q=>?_⟩;rw [i3,yq hs,sG hp hr];have h1:=(rM hk).1 h0;by_cases hq:al p=q
       · rw [if_pos hq,if_pos hq,← hq,h1];rfl
       · rw [if_neg hq,if_neg hq,zBG]
     · rw [if_neg h0];obtain ⟨i1,i2,i3⟩:=CN n (l:=l) (p:=al p) (by omega) u1 hs hk;refine ⟨i1,i2,fun q=>?_⟩;rw [i3,sG hp hr];have h1:am l (al p)≠none:=fun h=>h0 ((rM hk).2 h);by_cases hq:al p=q
       · rw [if_pos hq,← hq];cases hm:am l (al p) with
         | none=>exact absurd hm h1
         | some m=>rfl
       · rw [if_neg hq,zBG]
def vu:Nat→List Mrk→Bs→List Mrk
 | 0,l,_=>l
 | n+1,l,p=>if al p=[47] then l else vu n (if (am l (al p)).isNone then l++[⟨al p,2,[]⟩] else l) (al p)
theorem CP {l:List Mrk} {m:Mrk} (h:(aV l).Nodup) (hm:am l m.path=none):(aV (l++[m])).Nodup:=by
 rw [aV,zAH,List.nodup_append];refine ⟨h,by simp,?_⟩;intro a ha b hb hab;simp at hb;rw [hab,hb] at ha;exact qa0.1 hm ha
theorem CQ (m:Mrk) (q:Bs):am [m] q=if m.path=q then some m else none:=by
 rw [aS];rfl
theorem yA:∀ (n:Nat) {l:List Mrk} {p:Bs},p.length≤n→ah p=true→(aV l).Nodup →
   (aV (vu n l p)).Nodup∧(∃ X,vu n l p=l++X∧X.length≤n)∧∀ q,am (vu n l p) q=(am l q).or (vt p q)
 | 0,l,p,hn,hp,_=>by have:=(aQ hp).1; omega
 | n+1,l,p,hn,hp,hs=>by
   unfold vu;by_cases hr:al p=[47]
   · rw [if_pos hr];exact ⟨hs,⟨[],by simp,by simp⟩,fun q=>by rw [wY hp hr,Option.or_none]⟩
   · rw [if_neg hr];obtain ⟨u1,u2⟩:=i6 hp hr
     have:=fo hp hr
     cases h0:am l (al p) with
     | none=>
       rw [Option.isNone_none,if_pos rfl];obtain ⟨i1,⟨X,i2,i4⟩,i3⟩:=yA n (l:=l++[⟨al p,2,[]⟩]) (p:=al p) (by omega) u1 (CP hs h0);refine ⟨i1,⟨⟨al p,2,[]⟩ :: X,by rw [i2]; simp,by simp; omega⟩,fun q=>?_⟩;rw [i3,CM,CQ,sG hp hr,Option.or_assoc]
     | some m=>
       rw [Option.isNone_some,if_neg (by simp)];obtain ⟨i1,⟨X,i2,i4⟩,i3⟩:=yA n (l:=l) (p:=al p) (by omega) u1 hs;refine ⟨i1,⟨X,i2,by omega⟩,fun q=>?_⟩;rw [i3,sG hp hr];by_cases hq:al p=q
       · rw [if_pos hq,← hq,h0];rfl
       · rw [if_neg hq,zBG]
def db (a b:List Ent) (p:Bs):Option Mrk:=if ao a p=ao b p then none else match ao b p with
 | some e=>some (if e.dir then ⟨p,2,[]⟩ else ⟨p,1,e.data⟩)
 | none=>if bC b p=0 then some ⟨p,3,[]⟩ else none
theorem gJ {a b:List Ent} {p:Bs} {m:Mrk} (h:db a b p=some m):m.path=p∧ao a p≠ao b p ∧
   ((∃ e,ao b p=some e∧e.dir=true∧m=⟨p,2,[]⟩)∨(∃ e,ao b p=some e∧e.dir=false∧m=⟨p,1,e.data⟩)∨(ao b p=none∧bC b p=0∧m=⟨p,3,[]⟩)):=by
 unfold db at h;split at h
 · cases h
 · rename_i hne;split at h
   · rename_i e he;cases h;cases hd:e.dir with
     | true=>exact ⟨rfl,hne,.inl ⟨e,he,hd,rfl⟩⟩
     | false=>exact ⟨rfl,hne,.inr (.inl ⟨e,he,hd,rfl⟩)⟩
   · rename_i he;split at h
     · rename_i hu;cases h;exact ⟨rfl,hne,.inr (.inr ⟨he,hu,rfl⟩)⟩
     · cases h
theorem CR {a b:List Ent} {p:Bs} {m:Mrk} (h:db a b p=some m):m.kind≠0:=by
 obtain ⟨_,_,⟨e,_,_,rfl⟩|⟨e,_,_,rfl⟩|⟨_,_,rfl⟩⟩:=gJ h <;> simp
def lp (a b:List Ent) (T:List Bs) (q:Bs):Bool:=ah q && T.any fun p=>(db a b p).isSome && bc p q
def iF (a b:List Ent) (T:List Bs) (q:Bs):Option Mrk:=(if q∈T then db a b q else none).or (if lp a b T q=true then some ⟨q,2,[]⟩ else none)
def jl (a b:List Ent) (out:List Mrk) (p:Bs):List Mrk:=match db a b p with
 | some m=>jg 12 (dk out m) p
 | none=>out
def eA (a b:List Ent):List Mrk:=(bo a b).foldl (jl a b) []
theorem uo (a b:List Ent) (T:List Bs) (p q:Bs):lp a b (T++[p]) q=(lp a b T q || (ah q && ((db a b p).isSome && bc p q))):=by
 unfold lp;rw [List.any_append];cases ah q <;> simp
theorem IC {c:Prop} [Decidable c] {d:Prop} [Decidable d] {m:Mrk}:(if c then some m else none:Option Mrk).or (if d then some m else none)=if c∨d then some m else none:=by
 by_cases hc:c <;> by_cases hd:d <;> simp [hc,hd]
theorem Fg {a b:List Ent} {T:List Bs} {out:List Mrk} {p:Bs} (hp:ah p=true) (h1:ax (aV out)) (h2:∀ m∈out,m.kind≠0) (h3:∀ q,am out q=iF a b T q) :
   ax (aV (jl a b out p))∧(∀ m∈jl a b out p,m.kind≠0)∧∀ q,am (jl a b out p) q=iF a b (T++[p]) q:=by
 unfold jl;cases hb:db a b p with
 | none=>
   refine ⟨h1,h2,fun q=>?_⟩;simp only;rw [h3];unfold iF;rw [uo,hb];simp only [Option.isSome_none,zAg,zBH,Bool.or_false];congr 1
   by_cases hq:q=p
   · subst hq;rw [hb]
     simp
   · simp [hq]
 | some m=>
   simp only;obtain ⟨b1,_,_⟩:=gJ hb;have hk:∀ x∈dk out m,x.kind≠0:=fun x hx=>by
    rcases tQ hx with rfl|hx
    · exact CR hb
    · exact h2 x hx
   obtain ⟨i1,i2,i3⟩:=CN 12 (l:=dk out m) (p:=p) (aQ hp).2 hp (kt h1 _) hk;refine ⟨i1,i2,fun q=>?_⟩;rw [i3,yq h1,h3,b1];unfold iF;rw [uo,hb];by_cases hq:p=q
   · subst hq;rw [if_pos rfl,if_pos (by simp),hb];rfl
   · rw [if_neg hq,Option.or_assoc];congr 1
     · simp [Ne.symm hq]
     · unfold vt;rw [IC]
       simp
theorem wZ {a b:List Ent}:∀ (T2 T:List Bs) (out:List Mrk),(∀ p∈T2,ah p=true)→ax (aV out)→(∀ m∈out,m.kind≠0)→(∀ q,am out q=iF a b T q) →
   ax (aV (T2.foldl (jl a b) out))∧∀ q,am (T2.foldl (jl a b) out) q=iF a b (T++T2) q
 | [],T,out,_,h1,_,h3=>⟨h1,fun q=>by rw [List.append_nil]; exact h3 q⟩
 | p :: T2,T,out,hp,h1,h2,h3=>by
   obtain ⟨i1,i2,i3⟩:=Fg (hp p (by simp)) h1 h2 h3
   have:=wZ T2 (T++[p]) _ (fun q hq=>hp q (by simp [hq])) i1 i2 i3
   simpa using this
theorem jH {a b:List Ent} (ha:aq a=true) (hb:aq b=true) {p:Bs} (hp:p∈bo a b):ah p=true:=by
 rw [gI ha hb] at hp;cases he:ao a p with
 | some e=>exact (ft ha he).2.2.1
 | none=>
   cases hf:ao b p with
   | some f=>exact (ft hb hf).2.2.1
   | none=>rw [he,hf] at hp; exact absurd rfl hp
theorem il {a b:List Ent} (ha:aq a=true) (hb:aq b=true):ax (aV (eA a b))∧∀ q,am (eA a b) q=iF a b (bo a b) q:=by
 have h0:ax (aV ([]:List Mrk)):=List.Pairwise.nil
 have:=wZ (a:=a) (b:=b) (bo a b) [] [] (fun p hp=>jH ha hb hp) h0 (by simp) (fun q=>by simp [iF,lp,am])
 rw [zBB] at this;exact this
theorem qV {a b:List Ent} (ha:aq a=true) (hb:aq b=true) {q:Bs} (h:lp a b (bo a b) q=true):ah q=true∧∃ e,ao b q=some e∧e.dir=true:=by
 unfold lp at h;rw [zAE,zAp] at h;obtain ⟨hq,p,hp,h⟩:=h;rw [zAE] at h;obtain ⟨h1,h2⟩:=h;refine ⟨hq,?_⟩;obtain ⟨m,hm⟩:=Option.isSome_iff_exists.1 h1;have hpk:=jH ha hb hp;obtain ⟨_,_,h3⟩:=gJ hm;rcases h3 with ⟨e,he,_,_⟩|⟨e,he,_,_⟩|⟨he,hu,_⟩
 · exact mS hb hq p.length (zAL _) he h2
 · exact mS hb hq p.length (zAL _) he h2
 · rcases fU.1 hu with hr|⟨d,d1,d2⟩
   · rw [iv hpk hr hq] at h2; cases h2
   · rcases (i5 hpk hq h2).2 with h4|h4
     · exact ⟨d,by rw [← h4]; exact d1,d2⟩
     · exact mS hb hq (al p).length (zAL _) d1 h4
theorem gK {a b:List Ent} (ha:aq a=true) (hb:aq b=true) {q:Bs} {m:Mrk} (h:am (eA a b) q=some m):ah q=true∧m.path=q ∧
   ((∃ e,ao b q=some e∧e.dir=true∧m=⟨q,2,[]⟩)∨(∃ e,ao b q=some e∧e.dir=false∧m=⟨q,1,e.data⟩∧ao a q≠ao b q)∨(ao b q=none∧bC b q=0∧m=⟨q,3,[]⟩∧ao a q≠ao b q)):=by
 rw [(il ha hb).2] at h;unfold iF at h;by_cases hT:q∈bo a b
 · rw [if_pos hT] at h;cases hm:db a b q with
   | some x=>
     rw [hm,Option.some_or] at h;cases h;obtain ⟨h1,h2,h3⟩:=gJ hm;refine ⟨jH ha hb hT,h1,?_⟩;rcases h3 with ⟨e,he,hd,rfl⟩|⟨e,he,hd,rfl⟩|⟨he,hu,rfl⟩
     · exact .inl ⟨e,he,hd,rfl⟩
     · exact .inr (.inl ⟨e,he,hd,rfl,h2⟩)
     · exact .inr (.inr ⟨he,hu,rfl,h2⟩)
   | none=>
     rw [hm,zBG] at h;split at h
     · rename_i hab;cases h;obtain ⟨h1,e,he,hd⟩:=qV ha hb hab;exact ⟨h1,rfl,.inl ⟨e,he,hd,rfl⟩⟩
     · cases h
 · rw [if_neg hT,zBG] at h;split at h
   · rename_i hab;cases h;obtain ⟨h1,e,he,hd⟩:=qV ha hb hab;exact ⟨h1,rfl,.inl ⟨e,he,hd,rfl⟩⟩
   · cases h
theorem w5 {a b:List Ent} (ha:aq a=true) (hb:aq b=true) {q:Bs} {m:Mrk} (h:db a b q=some m):am (eA a b) q=some m:=by
 rw [(il ha hb).2];unfold iF;rw [if_pos ((gI ha hb).2 (gJ h).2.1),h];rfl
theorem CS {a b:List Ent} (ha:aq a=true) (hb:aq b=true) {q:Bs} {m:Mrk} (h:am (eA a b) q=some m) {u:Bs} (hu:ah u=true) (hq:bc q u=true):lp a b (bo a b) u=true:=by
 have hqk:=(gK ha hb h).1;rw [(il ha hb).2] at h;unfold lp;rw [hu,zAx,zAp];unfold iF at h;by_cases hT:q∈bo a b∧(db a b q).isSome=true
 · exact ⟨q,hT.1,by rw [hT.2,hq]; rfl⟩
 · have h0:(if q∈bo a b then db a b q else none)=none:=by
     split
     · rename_i h1;cases hm:db a b q with
       | none=>rfl
       | some x=>exact absurd ⟨h1,by rw [hm]; rfl⟩ hT
     · rfl
   rw [h0,zBG] at h;split at h
   · rename_i hab;unfold lp at hab;rw [zAE,zAp] at hab;obtain ⟨_,p,hp,h1⟩:=hab;rw [zAE] at h1;exact ⟨p,hp,by rw [h1.1,kr hqk hu h1.2 (.inr hq)]; rfl⟩
   · cases h
theorem nq {a b:List Ent} (ha:aq a=true) (hb:aq b=true):aR (eA a b)=true:=by
 have hs:=(il ha hb).1;refine fW.2 ⟨?_,hs,fun m hm=>?_⟩
 · have h1:=wK (v:=aC a++aC b) (cA hs) (fun p hp=>by
     obtain ⟨m,hm⟩:=CF hp;rw [zAu];obtain ⟨_,_,⟨e,he,_⟩|⟨e,he,_⟩|⟨he,_,_,hne⟩⟩:=gK ha hb hm
     · exact .inr (List.mem_map.2 ⟨e,(cW he).1,(cW he).2⟩)
     · exact .inr (List.mem_map.2 ⟨e,(cW he).1,(cW he).2⟩)
     · left;cases hf:ao a p with
       | none=>rw [hf,he] at hne; exact absurd rfl hne
       | some f=>exact List.mem_map.2 ⟨f,(cW hf).1,(cW hf).2⟩)
   have:=aN ha
   have:=aN hb
   simp only [zAT,zAA] at h1;omega
 · have hmm:=fV hs hm;obtain ⟨h1,h2,h3⟩:=gK ha hb hmm;refine ⟨?_,?_,fun hk=>?_⟩
   · rcases h3 with ⟨e,he,hd,hx⟩|⟨e,he,hd,hx,_⟩|⟨he,hu,hx,_⟩
     · rw [hx]; exact lm (by simp) h1 rfl (fun _=>rfl)
     · rw [hx]; exact lm (by simp) h1 (oI (ft hb he).1).1 (fun h=>absurd rfl h)
     · rw [hx]; exact lm (by simp) h1 rfl (fun _=>rfl)
   · by_cases hr:al m.path=[47]
     · exact .inl hr
     · right;obtain ⟨u1,u2⟩:=i6 h1 hr;have hab:=CS ha hb hmm u1 u2;have hex:∃ d,am (eA a b) (al m.path)=some d:=by
        rw [(il ha hb).2];unfold iF;rw [hab,if_pos rfl];cases (if al m.path∈bo a b then db a b (al m.path) else none) <;> exact ⟨_,rfl⟩
       obtain ⟨d,hd⟩:=hex;refine ⟨d,hd,?_⟩;obtain ⟨_,e,he,hdir⟩:=qV ha hb hab;obtain ⟨_,_,⟨f,hf,_,hx⟩|⟨f,hf,hnd,hx,_⟩|⟨hf,_⟩⟩:=gK ha hb hd
       · rw [hx]; rfl
       · rw [he] at hf; cases hf; rw [hdir] at hnd; cases hnd
       · rw [he] at hf; cases hf
   · unfold bare;rw [List.any_eq_false];intro x hx;obtain ⟨_,_,⟨f,_,_,hy⟩|⟨f,_,_,hy,_⟩|⟨_,_,hy,_⟩⟩:=gK ha hb (fV hs hx) <;> rw [hy] <;> simp
theorem uq {a b:List Ent} (ha:aq a=true) (hb:aq b=true):∀ (n:Nat) {p:Bs} {e:Ent},p.length≤n→ao a p=some e→ao b p=none→∃ q m,db a b q=some m∧m.kind≠2∧inP p q=true∧ah q=true
 | 0,p,e,hn,he,_=>by
   have:=(aQ (ft ha he).2.2.1).1
   omega
 | n+1,p,e,hn,he,hf=>by
   obtain ⟨_,_,hp,h4⟩:=ft ha he;by_cases hu:bC b p=0
   · refine ⟨p,⟨p,3,[]⟩,?_,by simp,cC.2 (.inl rfl),hp⟩;unfold db;rw [he,hf,if_neg (by simp),if_pos hu]
   · have hr:al p≠[47]:=fun h=>hu (fU.2 (.inl h));obtain ⟨u1,u2⟩:=i6 hp hr;obtain ⟨d,d1,d2⟩:=h4.resolve_left hr;cases hg:ao b (al p) with
     | some f=>
       have hfd:f.dir=false:=by
        cases h:f.dir with
        | false=>rfl
        | true=>exact absurd (fU.2 (.inr ⟨f,hg,h⟩)) hu
       refine ⟨al p,⟨al p,1,f.data⟩,?_,by simp,cC.2 (.inr u2),u1⟩;unfold db;rw [d1,hg,if_neg]
       · simp [hfd]
       · intro h;cases h;rw [d2] at hfd;cases hfd
     | none=>
       have:=fo hp hr
       obtain ⟨q,m,h1,h2,h3,h5⟩:=uq ha hb n (by omega) d1 hg;exact ⟨q,m,h1,h2,cC.2 (.inr (AB u1 h5 h3 u2)),h5⟩
theorem Ea {b:List Ent} (hb:aq b=true) {q:Bs} {e:Ent} (he:ao b q=some e) (hd:e.dir=true):e=⟨q,true,[]⟩:=by
 obtain ⟨h1,h2,_⟩:=ft hb he;exact D0 h2 hd ((oI h1).2 hd)
theorem H4 {a b:List Ent} (ha:aq a=true) (hb:aq b=true):bj (eA a b) a=some b:=by
 refine uh (nq ha hb) ha hb fun p=>?_;unfold mT;cases hm:am (eA a b) p with
 | some m=>
   simp only;obtain ⟨h1,h2,⟨e,he,hd,rfl⟩|⟨e,he,hd,rfl,_⟩|⟨he,_,rfl,_⟩⟩:=gK ha hb hm
   · rw [he,Ea hb he hd]; rfl
   · rw [he];have h5:=D0 (ft hb he).2.1 hd rfl;show some (⟨p,false,e.data⟩:Ent)=some e
     exact congrArg some h5.symm
   · rw [he]; rfl
 | none=>
   simp only;cases hh:cg (eA a b) p with
   | true=>
     rw [if_pos rfl];obtain ⟨q,m,h1,h2,h3⟩:=(dT (il ha hb).1).1 hh;have hu:bc p q=true:=by
      rcases cC.1 h3 with h|h
      · rw [h,h1] at hm; cases hm
      · exact h
     obtain ⟨k1,k2,k3⟩:=gK ha hb h1
     symm
     rcases k3 with ⟨e,he,hd,rfl⟩|⟨e,he,hd,_,_⟩|⟨he,_⟩
     · exact absurd rfl h2
     · exact pR hb k1 (fun d hd2=>by rw [he] at hd2; cases hd2; exact hd) hu
     · exact pR hb k1 (fun d hd2=>by rw [he] at hd2; cases hd2) hu
   | false=>
     simp only [zAF,if_false];apply Decidable.byContradiction;intro hne;have hno:db a b p=none:=by
      cases hx:db a b p with
      | none=>rfl
      | some m=>rw [w5 ha hb hx] at hm; cases hm
     cases hf:ao b p with
     | some f=>
       unfold db at hno;rw [if_neg hne,hf] at hno;cases hno
     | none=>
       cases he:ao a p with
       | none=>rw [he,hf] at hne; exact hne rfl
       | some e=>
         obtain ⟨q,m,h1,h2,h3,_⟩:=uq ha hb p.length (zAL _) he hf
         have:=(dT (il ha hb).1).2 ⟨q,m,w5 ha hb h1,h2,h3⟩
         rw [hh] at this;cases this
def gy (a b:List Ent):List Mrk:=(bo a b).filterMap (db a b)
theorem ur {f:Bs→Option Mrk}:∀ {w:List Bs},(∀ p m,f p=some m→m.path=p)→∀ q,am (w.filterMap f) q=if q∈w then f q else none
 | [],_,q=>by simp [am]
 | p :: w,h,q=>by
   have ih:=ur (w:=w) h q;rw [List.filterMap_cons];cases hp:f p with
   | none=>
     simp only;rw [ih];by_cases hq:q=p
     · subst hq; simp [hp]
     · simp [hq]
   | some m=>
     simp only;rw [aS,ih,h p m hp];by_cases hq:p=q
     · subst hq; simp [hp]
     · simp [hq,Ne.symm hq]
theorem nZ {f:Bs→Option Mrk}:∀ {w:List Bs},w.Nodup→(∀ p m,f p=some m→m.path=p)→(aV (w.filterMap f)).Nodup
 | [],_,_=>by simp
 | p :: w,hn,h=>by
   have hn2:=List.nodup_cons.1 hn;have ih:=nZ (w:=w) hn2.2 h;rw [List.filterMap_cons];cases hp:f p with
   | none=>exact ih
   | some m=>
     simp only;refine List.nodup_cons.2 ⟨fun hm=>?_,ih⟩;obtain ⟨x,hx,h1⟩:=List.mem_map.1 hm;obtain ⟨y,hy,h2⟩:=List.mem_filterMap.1 hx;have h3:y=p:=(h y x h2).symm.trans (h1.trans (h p m hp));rw [h3] at hy;exact hn2.1 hy
theorem jX {a b:List Ent} (p:Bs) (m:Mrk) (h:db a b p=some m):m.path=p:=(gJ h).1
def jm (a b:List Ent) (i:Nat):List Mrk:=((gy a b).take i).foldl (fun D m=>vu 12 D m.path) (gy a b)
theorem ut {a b:List Ent} {i:Nat} {m:Mrk} (h:(gy a b)[i]?=some m):jm a b (i+1)=vu 12 (jm a b i) m.path:=by
 unfold jm;rw [zAY,h,List.foldl_append];rfl
theorem qW {a b:List Ent} (ha:aq a=true) (hb:aq b=true):∀ i,i≤(gy a b).length→(aV (jm a b i)).Nodup∧(∃ X,jm a b i=gy a b++X∧X.length≤12 * i) ∧
   ∀ q,am (jm a b i) q=(am (gy a b) q).or (if ah q=true∧((gy a b).take i).any (fun m=>bc m.path q)=true then some ⟨q,2,[]⟩ else none)
 | 0,_=>⟨nZ (cA nW) jX,⟨[],by simp [jm],by simp⟩,fun q=>by simp [jm]⟩
 | i+1,hi=>by
   obtain ⟨i1,⟨X,i2,i4⟩,i3⟩:=qW ha hb i (by omega);obtain ⟨m,hm⟩:∃ m,(gy a b)[i]?=some m:=⟨_,zAB (by omega)⟩;obtain ⟨p,hp,hpm⟩:=List.mem_filterMap.1 (zAD hm);have hmp:ah m.path=true:=by rw [jX p m hpm]; exact jH ha hb hp
   rw [ut hm];obtain ⟨j1,⟨Y,j2,j4⟩,j3⟩:=yA 12 (l:=jm a b i) (p:=m.path) (aQ hmp).2 hmp i1;refine ⟨j1,⟨X++Y,by rw [j2,i2]; simp,by simp; omega⟩,fun q=>?_⟩;rw [j3,i3,Option.or_assoc];congr 1
   unfold vt;rw [IC,zAY,hm,List.any_append];simp only [Option.toList_some,List.any_cons,List.any_nil,Bool.or_false,zAe];by_cases hq:ah q=true <;> simp [hq]
theorem w6 {a b:List Ent} (ha:aq a=true) (hb:aq b=true):(aV (jm a b (gy a b).length)).Nodup∧∀ q,am (jm a b (gy a b).length) q=am (eA a b) q:=by
 obtain ⟨i1,_,i3⟩:=qW ha hb _ (zAL _);refine ⟨i1,fun q=>?_⟩;rw [i3,(il ha hb).2,zAP];unfold iF;rw [show am (gy a b) q=if q∈bo a b then db a b q else none from ur jX q]
 congr 1
 have:(ah q=true∧(gy a b).any (fun m=>bc m.path q)=true)↔lp a b (bo a b) q=true:=by
  unfold lp;rw [zAE,zAp,zAp];refine and_congr Iff.rfl ?_;constructor
  · rintro ⟨m,hm,h⟩;obtain ⟨p,hp,hpm⟩:=List.mem_filterMap.1 hm;exact ⟨p,hp,by rw [hpm,← jX p m hpm,h]; rfl⟩
  · rintro ⟨p,hp,h⟩;rw [zAE] at h;obtain ⟨m,hm⟩:=Option.isSome_iff_exists.1 h.1;exact ⟨m,List.mem_filterMap.2 ⟨p,hp,hm⟩,by rw [jX p m hm]; exact h.2⟩
 by_cases h:lp a b (bo a b) q=true
 · rw [if_pos h,if_pos (this.2 h)]
 · rw [if_neg h,if_neg fun x=>h (this.1 x)]
theorem G5 {a b:List Ent} (ha:aq a=true) (hb:aq b=true) {S:List Mrk} (hp:S.Perm (jm a b (gy a b).length)) (hs:S.Pairwise fun a b=>lt b.path a.path=false):S=eA a b:=
 Fc hp hs (w6 ha hb).1 (il ha hb).1 (w6 ha hb).2
theorem Fi {a b:List Ent}:(gy a b).length≤32:=by
 have:=fX a b
 have:=List.length_filterMap_le (db a b) (bo a b)
 unfold gy;omega
theorem pY {l:List Mrk} (hn:(aV l).Nodup) {p:Bs}:bare l p=true↔∃ q m,am l q=some m∧m.kind=4∧bc p q=true:=by
 unfold bare;rw [zAp];constructor
 · rintro ⟨m,hm,h⟩;simp only [zAE,decide_eq_true_eq] at h;exact ⟨m.path,m,(oJ hn).2 ⟨hm,rfl⟩,h.1,h.2⟩
 · rintro ⟨q,m,h1,h2,h3⟩;obtain ⟨h4,rfl⟩:=cK h1;exact ⟨m,h4,by simp [h2,h3]⟩
theorem rN (f:Bs→Bool) (q:Bs):∀ t:List Mrk,am (t.filter fun e=>f e.path) q=if f q=true then am t q else none
 | []=>by simp [am]
 | e :: t=>by
   have ih:=rN f q t;rw [List.filter_cons];by_cases hq:e.path=q
   · subst hq;by_cases hf:f e.path=true
     · rw [if_pos hf,if_pos hf,aS,aS,if_pos rfl,if_pos rfl]
     · rw [if_neg hf,if_neg hf,ih,if_neg hf]
   · by_cases hf:f e.path=true
     · rw [if_pos hf,aS,if_neg hq,ih,aS,if_neg hq]
     · rw [if_neg hf,ih,aS,if_neg hq]
theorem AG {f:Mrk→Mrk} (h:∀ m,(f m).path=m.path) (q:Bs):∀ t:List Mrk,am (t.map f) q=(am t q).map f
 | []=>rfl
 | m :: t=>by
   have ih:=AG h q t;rw [List.map_cons,aS,aS,ih,h];by_cases hq:m.path=q
   · rw [if_pos hq,if_pos hq]; rfl
   · rw [if_neg hq,if_neg hq]
theorem w7 {f:Mrk→Option Mrk} (h:∀ m e,f m=some e→e.path=m.path) (q:Bs):∀ {t:List Mrk},(aV t).Nodup→am (t.filterMap f) q=(am t q).bind f
 | [],_=>rfl
 | m :: t,hn=>by
   have hn2:=List.nodup_cons.1 hn;have ih:=w7 h q (t:=t) hn2.2;rw [List.filterMap_cons,aS];by_cases hq:m.path=q
   · rw [if_pos hq,Option.bind_some];cases hm:f m with
     | none=>
       simp only;rw [ih,qa0.2 (by rw [← hq]; exact hn2.1)];rfl
     | some e=>
       simp only;rw [aS,if_pos (by rw [h m e hm]; exact hq)]
   · rw [if_neg hq];cases hm:f m with
     | none=>exact ih
     | some e=>
       simp only;rw [aS,if_neg (by rw [h m e hm]; exact hq)];exact ih
theorem CT {f:Mrk→Option Mrk} (h:∀ m e,f m=some e→e.path=m.path):∀ {t:List Mrk} {q:Bs},q∈aV (t.filterMap f)→q∈aV t:=by
 intro t q hq;obtain ⟨x,hx,rfl⟩:=List.mem_map.1 hq;obtain ⟨y,hy,h2⟩:=List.mem_filterMap.1 hx;rw [h y x h2];exact List.mem_map.2 ⟨y,hy,rfl⟩
theorem rO {f:Mrk→Option Mrk} (h:∀ m e,f m=some e→e.path=m.path):∀ {t:List Mrk},ax (aV t)→ax (aV (t.filterMap f))
 | [],_=>List.Pairwise.nil
 | m :: t,hs=>by
   have ih:=rO h (t:=t) (aP hs);rw [List.filterMap_cons];cases hm:f m with
   | none=>exact ih
   | some e=>
     simp only;refine List.pairwise_cons.2 ⟨fun b hb=>?_,ih⟩;show lt e.path b=true
     rw [h m e hm];exact bg hs b (CT h hb)
def dG (t:List Mrk) (es:List Mrk):List Mrk:=es.foldl dk t
theorem io:∀ {es t:List Mrk},ax (aV t)→ax (aV (dG t es))
 | [],t,h=>h
 | e :: es,t,h=>io (es:=es) (kt h e)
theorem oO:∀ {L X:List Mrk},ax (aV X)→(aV L).Nodup→∀ q,am (dG X L) q=(am L q).or (am X q)
 | [],X,_,_,q=>by simp [dG,am]
 | e :: r,X,hs,hn,q=>by
   have hn2:=List.nodup_cons.1 hn;have ih:=oO (L:=r) (kt hs e) hn2.2 q
   have:dG X (e :: r)=dG (dk X e) r:=rfl
   rw [this,ih,yq hs,aS];by_cases he:e.path=q
   · rw [if_pos he,if_pos he]
     have:am r q=none:=qa0.2 (by rw [← he]; exact hn2.1)
     rw [this];rfl
   · rw [if_neg he,if_neg he]
theorem mV:∀ (es t:List Mrk),(dG t es).length≤t.length+es.length
 | [],t=>by simp [dG]
 | e :: es,t=>by
   have h:=mV es (dk t e);have h2:=(iW t e).2;show (dG (dk t e) es).length≤_
   simp
   omega
theorem pZ (t es:List Mrk) (e:Mrk):dG t (es++[e])=dk (dG t es) e:=by simp [dG]
theorem nr {l:List Mrk} (h:aR l=true) {q:Bs}:cZ l q=0↔am l q=none:=by
 unfold cZ;cases hm:am l q with
 | none=>simp
 | some m=>
   have:=(fu (ku h hm).1).1
   simp only [reduceCtorEq,iff_false];omega
def gT (ka kb:Int):Int:=if ka=2∧kb≠0∧kb≠2 then 4 else ka
def onK (b:List Mrk) (m:Mrk):Mrk:=⟨m.path,gT m.kind (cZ b m.path),m.data⟩
def iw (a:List Mrk) (p:Bs):Bool:=(am a p).isNone && !cg a p
def Eb (a b:List Mrk):List Mrk:=(b.filter fun m=>iw a m.path)++a.map (onK b)
def fZ (a b:List Mrk):List Mrk:=dG (dG [] (b.filter fun m=>iw a m.path)) (a.map (onK b))
def fd (a b:List Mrk) (q:Bs):Option Mrk:=match am a q with
 | some m=>some (onK b m)
 | none=>if cg a q then none else am b q
theorem Fj (a b:List Mrk):aV (a.map (onK b))=aV a:=by
 rw [aV,aV,zBE];rfl
theorem yB {t:List Mrk} (h:ax (aV t)) (f:Mrk→Bool):(aV (t.filter f)).Nodup:=by
 refine cA ?_;unfold ax aV at h ⊢;rw [zBS] at h ⊢;exact h.filter _
theorem G6 {a b:List Mrk} (q:Bs):(am (a.map (onK b)) q).or (am (b.filter fun m=>iw a m.path) q)=fd a b q∧(am (b.filter fun m=>iw a m.path) q).or (am (a.map (onK b)) q)=fd a b q:=by
 rw [rN (iw a),AG (f:=onK b) (fun _=>rfl)];unfold fd iw;cases hm:am a q with
 | some m=>simp
 | none=>cases cg a q <;> simp
theorem AH {a b:List Mrk} (q:Bs):am (Eb a b) q=fd a b q:=by
 unfold Eb
 have:∀ l r:List Mrk,am (l++r) q=(am l q).or (am r q):=fun l r=>by simp [am,zBR]
 rw [this];exact (G6 q).2
theorem fv {a b:List Mrk}:ax (aV (fZ a b)):=io (io List.Pairwise.nil)
theorem lr {a b:List Mrk} (ha:ax (aV a)) (hb:ax (aV b)) (q:Bs):am (fZ a b) q=fd a b q:=by
 unfold fZ;have h0:ax (aV ([]:List Mrk)):=List.Pairwise.nil;rw [oO (io h0) (by rw [Fj]; exact cA ha),oO h0 (yB hb _)];rw [show am ([]:List Mrk) q=none from rfl,Option.or_none]
 exact (G6 q).1
def eB (B:Bs→Bool) (m:Mrk):Option Mrk:=if B m.path=true then (if m.kind=3 then none else if m.kind=4 then some ⟨m.path,2,m.data⟩ else some m) else some m
theorem oP {B:Bs→Bool} (m e:Mrk) (h:eB B m=some e):e.path=m.path:=by
 unfold eB at h;split at h
 · split at h
   · cases h
   · split at h <;> cases h <;> rfl
 · cases h; rfl
def gU (a b:List Mrk):List Mrk:=(fZ a b).filterMap (eB (bare (fZ a b)))
def dw (a b:List Mrk):Option (List Mrk):=if aR a=true∧aR b=true∧(gU a b).length≤32 then some (gU a b) else none
theorem ip {a b:List Mrk}:ax (aV (gU a b)):=rO oP fv
theorem i7 {a b:List Mrk} (ha:ax (aV a)) (hb:ax (aV b)) (q:Bs):am (gU a b) q=(fd a b q).bind (eB (bare (fZ a b))):=by
 unfold gU;rw [w7 oP q (cA fv),lr ha hb]
theorem uu {J:List Mrk} (hn:(aV J).Nodup) (hok:∀ q m,am J q=some m→ah q=true):∀ (n:Nat) {p q:Bs} {m:Mrk},q.length≤n→am J q=some m→m.kind=4→bc p q=true→∃ q m,am J q=some m∧m.kind=4∧bc p q=true∧bare J q=false
 | 0,p,q,m,hl,h1,_,_=>by
   have:=(aQ (hok q m h1)).1
   omega
 | n+1,p,q,m,hl,h1,h2,h3=>by
   cases hb:bare J q with
   | false=>exact ⟨q,m,h1,h2,h3,hb⟩
   | true=>
     obtain ⟨z,x,g1,g2,g3⟩:=(pY hn).1 hb;have hz:=hok z x g1
     have:=lj hz g3
     exact uu hn hok n (by omega) g1 g2 (kr (hok q m h1) hz h3 (.inr g3))
theorem CU {J:List Mrk} (hs:ax (aV J)) (hok:∀ m∈J,ah m.path=true) {i:Nat} {x:Mrk} (hx:J[i]?=some x):bare ((J.take i).filterMap (eB (bare J))) x.path=bare J x.path:=by
 have hok':∀ q m,am J q=some m→ah q=true:=fun q m h=>by
  obtain ⟨h1,rfl⟩:=cK h;exact hok m h1
 rw [zAK];constructor
 · intro h;unfold bare at h ⊢;rw [zAp] at h ⊢;obtain ⟨y,hy,h1⟩:=h;simp only [zAE,decide_eq_true_eq] at h1;obtain ⟨z,hz,h2⟩:=List.mem_filterMap.1 hy;have hzy:z=y:=by
    unfold eB at h2;split at h2
    · split at h2
      · cases h2
      · split at h2
        · cases h2;simp at h1
        · cases h2; rfl
    · cases h2; rfl
   subst hzy;exact ⟨z,zAz hz,by simp [h1.1,h1.2]⟩
 · intro h;obtain ⟨q,m,h1,h2,h3⟩:=(pY (cA hs)).1 h;obtain ⟨q,m,h1,h2,h3,h4⟩:=uu (cA hs) hok' q.length (zAL _) h1 h2 h3;obtain ⟨h5,rfl⟩:=cK h1;obtain ⟨j,hj⟩:=List.mem_iff_getElem?.1 h5;have hlt:lt m.path x.path=true:=tL h3 (bw (hok m h5));have hji:j < i:=ki hs (i:=j) (j:=i) (a:=m.path) (b:=x.path) (by rw [zAO,hj]; rfl) (by rw [zAO,hx]; rfl) hlt;have ht:eB (bare J) m=some m:=by
    unfold eB;rw [if_neg (by rw [h4]; simp)]
   exact zAp.2 ⟨m,List.mem_filterMap.2 ⟨m,zAD (i:=j) (by rw [List.getElem?_take_of_lt hji]; exact hj),ht⟩,by simp [h2,h3]⟩
theorem G7 {x:Mrk} (B:Bs→Bool) (hd:dS x=true):∃ y,eB B x=some y∧dS y=true:=by
 have h3:x.kind≠3:=by rcases jW.1 hd with h|h <;> omega
 unfold eB;by_cases h1:B x.path=true
 · rw [if_pos h1,if_neg h3];by_cases h4:x.kind=4
   · rw [if_pos h4]; exact ⟨_,rfl,rfl⟩
   · rw [if_neg h4]; exact ⟨_,rfl,hd⟩
 · rw [if_neg h1]; exact ⟨_,rfl,hd⟩
section
variable {a b:List Mrk} (ha:aR a=true) (hb:aR b=true)
include ha hb
theorem lx {q:Bs} {x:Mrk} (h:fd a b q=some x):ah q=true∧cX x=true∧x.path=q:=by
 unfold fd at h;cases hm:am a q with
 | some m=>
   rw [hm] at h;cases h;obtain ⟨h1,h2,h3,_⟩:=ku ha hm;obtain ⟨k1,k2,k3,k4⟩:=fu h1;refine ⟨h3,?_,h2⟩;unfold onK gT;split
   · rename_i hc;exact lm (by simp) k2 k3 fun _=>k4 (by omega)
   · exact h1
 | none=>
   rw [hm] at h;simp only at h;split at h
   · cases h
   · obtain ⟨h1,h2,h3,_⟩:=ku hb h;exact ⟨h3,h1,h2⟩
theorem G8 {p:Bs} (h:bare (fZ a b) p=true):∃ q m,am (gU a b) q=some m∧m.kind=4∧bc p q=true:=by
 have hsa:=cr ha;have hsb:=cr hb;have hn:=cA (fv (a:=a) (b:=b));have hok:∀ q m,am (fZ a b) q=some m→ah q=true:=fun q m hm=>by
  rw [lr hsa hsb] at hm;exact (lx ha hb hm).1
 obtain ⟨q,m,h1,h2,h3⟩:=(pY hn).1 h;obtain ⟨q,m,h1,h2,h3,h4⟩:=uu hn hok q.length (zAL _) h1 h2 h3;refine ⟨q,m,?_,h2,h3⟩;rw [i7 hsa hsb,← lr hsa hsb,h1,Option.bind_some,eB];obtain ⟨_,rfl⟩:=cK h1;rw [h4]
 simp
theorem kK {p q:Bs} {x:Mrk} (hx:fd a b q=some x) (hk:x.kind≠2) (hi:inP p q=true):cg (gU a b) p=true:=by
 have hsa:=cr ha;have hsb:=cr hb;obtain ⟨hq,hm,hp⟩:=lx ha hb hx;rw [dT ip];cases hB:bare (fZ a b) q with
 | false=>
   refine ⟨q,x,?_,hk,hi⟩;rw [i7 hsa hsb,hx,Option.bind_some,eB,hp,hB]
   simp
 | true=>
   obtain ⟨z,m,h1,h2,h3⟩:=G8 ha hb hB;have hz:ah z=true:=by
    rw [i7 hsa hsb] at h1;cases hr:fd a b z with
    | none=>rw [hr] at h1; cases h1
    | some y=>exact (lx ha hb hr).1
   refine ⟨z,m,h1,by omega,cC.2 (.inr ?_)⟩;rcases cC.1 hi with rfl|h
   · exact h3
   · exact kr hq hz h (.inr h3)
theorem CV (p:Bs):cg (gU a b) p=(cg a p || cg b p):=by
 have hsa:=cr ha;have hsb:=cr hb;rw [zAK,zAe];constructor
 · intro h;obtain ⟨q,m,h1,h2,h3⟩:=(dT ip).1 h;rw [i7 hsa hsb] at h1;cases hr:fd a b q with
   | none=>rw [hr] at h1; cases h1
   | some x=>
     rw [hr,Option.bind_some] at h1;have hk:x.kind≠2:=by
      unfold eB at h1;split at h1
      · split at h1
        · cases h1
        · split at h1
          · cases h1; simp at h2
          · cases h1; exact h2
      · cases h1; exact h2
     unfold fd at hr;cases hm:am a q with
     | some y=>
       rw [hm] at hr;cases hr;by_cases hy:y.kind=2
       · right;rw [dT hsb];have hyp:=(cK hm).2;have hkb:cZ b q≠0∧cZ b q≠2:=by
          apply Decidable.byContradiction;intro hc;apply hk;unfold onK gT;simp only;rw [hyp,if_neg fun h=>hc h.2,hy]
         cases hmb:am b q with
         | none=>exact absurd ((nr hb).2 hmb) hkb.1
         | some z=>
           have:cZ b q=z.kind:=by rw [cZ,hmb]
           exact ⟨q,z,hmb,by rw [← this]; exact hkb.2,h3⟩
       · left;rw [dT hsa];exact ⟨q,y,hm,hy,h3⟩
     | none=>
       rw [hm] at hr;simp only at hr;split at hr
       · cases hr
       · right;rw [dT hsb];exact ⟨q,x,hr,hk,h3⟩
 · intro h;have hA:cg a p=true→cg (gU a b) p=true:=by
    intro h;obtain ⟨q,m,h1,h2,h3⟩:=(dT hsa).1 h;refine kK ha hb (q:=q) (x:=onK b m) (by rw [fd,h1]) ?_ h3;unfold onK gT;simp only;rw [if_neg fun h=>h2 h.1];exact h2
   by_cases hh:cg a p=true
   · exact hA hh
   · have h:=h.resolve_left hh;obtain ⟨q,m,h1,h2,h3⟩:=(dT hsb).1 h;have hq:=(ku hb h1).2.2.1;cases hm:am a q with
     | some y=>
       have hy:y.kind=2:=by
        apply Decidable.byContradiction;intro hy;exact hh ((dT hsa).2 ⟨q,y,hm,hy,h3⟩)
       refine kK ha hb (q:=q) (x:=onK b y) (by rw [fd,hm]) ?_ h3;have hyp:=(cK hm).2;have hkb:cZ b q=m.kind:=by rw [cZ,h1]
       have hk0:cZ b q≠0:=fun h=>by
        rw [(nr hb).1 h] at h1;cases h1
       unfold onK gT;simp only;rw [hyp,if_pos ⟨hy,hk0,by rw [hkb]; exact h2⟩];decide
     | none=>
       have hna:cg a q=false:=by
        rw [← zAZ];intro h4;apply hh;rcases cC.1 h3 with h5|h5
        · rw [h5]; exact h4
        · exact oK ha hq h5 h4
       refine kK ha hb (q:=q) (x:=m) (by rw [fd,hm]; simp [hna,h1]) h2 h3
theorem H5 (t:List Ent) (p:Bs):mT (gU a b) t p=match am a p with
   | some m=>bD m
   | none=>if cg a p then none else mT b t p:=by
 have hsa:=cr ha;have hsb:=cr hb;have hJ:=i7 hsa hsb p;have hH:=CV ha hb p;have tidy:∀ x:Mrk,fd a b p=some x→cX x=true→x.path=p→(x.kind≠2→(cg a p || cg b p)=true)→mT (gU a b) t p=bD x:=by
  intro x hx hm hp hk;unfold mT;rw [hJ,hx,Option.bind_some,eB,hp];by_cases hB:bare (fZ a b) p=true
  · rw [if_pos hB];by_cases h3:x.kind=3
    · rw [if_pos h3];simp only;rw [hH,hk (by omega),if_pos rfl,bD,if_pos h3]
    · rw [if_neg h3];by_cases h4:x.kind=4
      · rw [if_pos h4];simp only;rw [kv (d:=⟨p,2,x.data⟩) rfl,kv (jW.2 (.inr h4)),hp]
      · rw [if_neg h4]
  · rw [if_neg hB]
 cases hm:am a p with
 | some m=>
   simp only;have hr:fd a b p=some (onK b m):=by rw [fd,hm]
   obtain ⟨g1,g2,g3⟩:=lx ha hb hr;rw [tidy _ hr g2 g3]
   · unfold onK gT bD;simp only;split
     · rename_i hc;simp [hc.1,dS]
     · rfl
   · intro hk;rw [zAe];by_cases h2:m.kind=2
     · right;rw [dT hsb];have hyp:=(cK hm).2;have hkb:cZ b p≠0∧cZ b p≠2:=by
        apply Decidable.byContradiction;intro hc;apply hk;unfold onK gT;simp only;rw [hyp,if_neg fun h=>hc h.2,h2]
       cases hmb:am b p with
       | none=>exact absurd ((nr hb).2 hmb) hkb.1
       | some z=>
         have:cZ b p=z.kind:=by rw [cZ,hmb]
         exact ⟨p,z,hmb,by rw [← this]; exact hkb.2,cC.2 (.inl rfl)⟩
     · left;rw [dT hsa];exact ⟨p,m,hm,h2,cC.2 (.inl rfl)⟩
 | none=>
   simp only;cases hh:cg a p with
   | true=>
     have hr:fd a b p=none:=by rw [fd,hm]; simp [hh]
     rw [hr,Option.bind_none] at hJ;unfold mT;rw [hJ];simp only;rw [hH,hh];rfl
   | false=>
     have hr:fd a b p=am b p:=by rw [fd,hm]; simp [hh]
     simp only [zAF,if_false];cases hmb:am b p with
     | some m=>
       rw [hmb] at hr;obtain ⟨g1,g2,g3⟩:=lx ha hb hr;rw [tidy _ hr g2 g3]
       · unfold mT;rw [hmb]
       · intro hk;rw [zAe];right;rw [dT hsb];exact ⟨p,m,hmb,hk,cC.2 (.inl rfl)⟩
     | none=>
       rw [hmb] at hr;rw [hr,Option.bind_none] at hJ;unfold mT;rw [hJ,hmb];simp only;rw [hH,hh,zAt]
theorem H6 (hn:(gU a b).length≤32):aR (gU a b)=true:=by
 have hsa:=cr ha;have hsb:=cr hb;refine fW.2 ⟨hn,ip,fun y hy=>?_⟩;have hy2:=fV ip hy;rw [i7 hsa hsb] at hy2;cases hr:fd a b y.path with
 | none=>rw [hr] at hy2; cases hy2
 | some x=>
   rw [hr,Option.bind_some] at hy2;obtain ⟨g1,g2,g3⟩:=lx ha hb hr;obtain ⟨k1,k2,k3,k4⟩:=fu g2;refine ⟨?_,?_,?_⟩
   · unfold eB at hy2;split at hy2
     · split at hy2
       · cases hy2
       · split at hy2
         · rename_i h4;cases hy2;exact lm (by simp) k2 k3 fun _=>k4 (by omega)
         · cases hy2; exact g2
     · cases hy2; exact g2
   · by_cases hu:al y.path=[47]
     · exact .inl hu
     · right;obtain ⟨u1,u2⟩:=i6 g1 hu;have key:∃ d,fd a b (al y.path)=some d∧dS d=true:=by
        unfold fd at hr ⊢;cases hm:am a y.path with
        | some m=>
          obtain ⟨d,d1,d2⟩:=(ku ha hm).2.2.2.1.resolve_left hu;rw [d1];refine ⟨_,rfl,?_⟩;unfold onK gT dS;simp only;split
          · simp
          · exact d2
        | none=>
          rw [hm] at hr;simp only at hr;split at hr
          · cases hr
          · rename_i hh;obtain ⟨d,d1,d2⟩:=(ku hb hr).2.2.2.1.resolve_left hu;cases hmu:am a (al y.path) with
            | some e=>
              have he:e.kind=2:=by
               apply Decidable.byContradiction;intro he;exact hh ((dT hsa).2 ⟨_,e,hmu,he,cC.2 (.inr u2)⟩)
              refine ⟨_,rfl,?_⟩;unfold onK gT dS;simp only;split
              · simp
              · simp [he]
            | none=>
              have:cg a (al y.path)=false:=by
               rw [← zAZ];intro h5;exact hh (oK ha u1 u2 h5)
              simp only [this];exact ⟨d,by simpa using d1,d2⟩
       obtain ⟨d,d1,d2⟩:=key;obtain ⟨z,z1,z2⟩:=G7 (bare (fZ a b)) d2;exact ⟨z,by rw [i7 hsa hsb,d1,Option.bind_some,z1],z2⟩
   · intro hk;rw [← zAZ];intro hbr;obtain ⟨q,m,h1,h2,h3⟩:=(pY (cA ip)).1 hbr;have hB:bare (fZ a b) y.path=true:=by
      rw [pY (cA fv)];rw [i7 hsa hsb] at h1;cases hq:fd a b q with
      | none=>rw [hq] at h1; cases h1
      | some z=>
        rw [hq,Option.bind_some] at h1;refine ⟨q,z,by rw [lr hsa hsb]; exact hq,?_,h3⟩;unfold eB at h1;split at h1
        · split at h1
          · cases h1
          · split at h1
            · cases h1; simp at h2
            · cases h1; exact h2
        · cases h1; exact h2
     unfold eB at hy2;rw [g3,if_pos hB] at hy2;split at hy2
     · cases hy2
     · split at hy2
       · rename_i h4
         have:y.kind=2:=by rw [← zAb hy2]
         omega
       · rename_i h5 h6
         have:y.kind=x.kind:=by rw [← zAb hy2]
         omega
end
theorem uv {a b j:List Mrk} (h:dw a b=some j):aR a=true∧aR b=true∧j=gU a b∧aR j=true:=by
 unfold dw at h;split at h
 · rename_i hc;cases h;exact ⟨hc.1,hc.2.1,rfl,H6 hc.1 hc.2.1 hc.2.2⟩
 · cases h
theorem yC {a b j:List Mrk} {t u v:List Ent} (h:dw a b=some j) (hu:bj b t=some u) (hv:bj a u=some v):bj j t=some v:=by
 obtain ⟨h1,h2,rfl,h4⟩:=uv h;obtain ⟨g1,g2,g3,g4⟩:=dP hu;obtain ⟨k1,k2,k3,k4⟩:=dP hv;refine uh h4 g2 k3 fun p=>?_;rw [H5 h1 h2,k4];unfold mT;cases hm:am a p with
 | some m=>rfl
 | none=>
   simp only;rw [g4];rfl
structure Ovr where
 base:List Ent
 layers:List (List Mrk)
 upper:List Mrk
 deriving DecidableEq
def ov0:Ovr:=⟨[],[],[]⟩
def dU:List Ent→List (List Mrk)→Option (List Ent)
 | t,[]=>some t
 | t,l :: r=>match bj l t with
   | some u=>dU u r
   | none=>none
def eC (o:Ovr):Option (List Ent):=if aq o.base=true∧o.layers.length≤4 then dU o.base o.layers else none
def gi (o:Ovr):Option (List Ent):=match eC o with
 | some t=>bj o.upper t
 | none=>none
def bv (o:Ovr):Option (List Ent × List Ent):=match eC o with
 | some t=>match bj o.upper t with
   | some v=>if o.upper=eA t v then some (t,v) else none
   | none=>none
 | none=>none
def fF (o:Ovr):Bool:=(bv o).isSome
def dE (o:Ovr) (p:Opn):Ovr × Int:=match bv o with
 | some (t,v)=>(if (aJ v p).2=0 then ⟨o.base,o.layers,eA t (aJ v p).1⟩ else o,(aJ v p).2)
 | none=>(ov0,1)
theorem AJ:∀ (ls:List (List Mrk)) {t u:List Ent},aq t=true→dU t ls=some u→aq u=true
 | [],t,u,ht,h=>by cases h; exact ht
 | l :: r,t,u,ht,h=>by
   unfold dU at h;cases hl:bj l t with
   | none=>rw [hl] at h; cases h
   | some x=>
     rw [hl] at h;exact AJ r (dP hl).2.2.1 h
theorem gz {o:Ovr} {t:List Ent} (h:eC o=some t):aq o.base=true∧o.layers.length≤4∧dU o.base o.layers=some t∧aq t=true:=by
 unfold eC at h;split at h
 · rename_i hc;exact ⟨hc.1,hc.2,h,AJ _ hc.1 h⟩
 · cases h
theorem dz {o:Ovr} {t v:List Ent}:bv o=some (t,v)↔eC o=some t∧bj o.upper t=some v∧o.upper=eA t v:=by
 unfold bv;constructor
 · intro h;cases hl:eC o with
   | none=>rw [hl] at h; cases h
   | some x=>
     rw [hl] at h;simp only at h;cases hv:bj o.upper x with
     | none=>rw [hv] at h; cases h
     | some y=>
       rw [hv] at h;simp only at h;split at h
       · rename_i hd;cases h;exact ⟨rfl,hv,hd⟩
       · cases h
 · rintro ⟨h1,h2,h3⟩;rw [h1];simp only;rw [h2];simp only;rw [if_pos h3]
theorem ce {o:Ovr} {t v:List Ent} (h:bv o=some (t,v)):aq o.base=true∧o.layers.length≤4∧aq t=true∧aq v=true:=by
 obtain ⟨h1,h2,_⟩:=dz.1 h;obtain ⟨g1,g2,_,g4⟩:=gz h1;exact ⟨g1,g2,g4,(dP h2).2.2.1⟩
theorem AK {o:Ovr} {t v:List Ent} (h1:eC o=some t) (hv:aq v=true) (h2:o.upper=eA t v):bv o=some (t,v):=
 dz.2 ⟨h1,by rw [h2]; exact H4 (gz h1).2.2.2 hv,h2⟩
theorem yD {o:Ovr} {t v:List Ent} (h:bv o=some (t,v)) (p:Opn):bv (dE o p).1=some (t,(aJ v p).1)∧(dE o p).2=(aJ v p).2∧(dE o p).1.base=o.base∧(dE o p).1.layers=o.layers:=by
 obtain ⟨_,_,h3,h4⟩:=ce h;obtain ⟨h1,_,_⟩:=dz.1 h;unfold dE;rw [h];simp only;by_cases hc:(aJ v p).2=0
 · rw [if_pos hc];exact ⟨AK (o:=⟨o.base,o.layers,eA t (aJ v p).1⟩) h1 (gS h4 p) rfl,by simp⟩
 · rw [if_neg hc,JQ h4 hc];exact ⟨h,by simp⟩
def overRun:Ovr→List Opn→Ovr × List Int
 | o,[]=>(o,[])
 | o,p :: r=>((overRun (dE o p).1 r).1,(dE o p).2 :: (overRun (dE o p).1 r).2)
def overBad (o:Ovr) (ops:List Opn):Bool:=!fF o || decide (30 < ops.length)
def logOver (o:Ovr) (ops:List Opn):Ovr × List Int:=if overBad o ops then (ov0,[]) else overRun o ops
theorem over_run:∀ (ops:List Opn) {o:Ovr} {t v:List Ent},bv o=some (t,v)→bv (overRun o ops).1=some (t,(logRun v ops).1)∧(overRun o ops).2=(logRun v ops).2∧(overRun o ops).1.base=o.base∧(overRun o ops).1.layers=o.layers
 | [],o,t,v,h=>⟨h,rfl,rfl,rfl⟩
 | p :: r,o,t,v,h=>by
   obtain ⟨d1,d2,d3,d4⟩:=yD h p;obtain ⟨i1,i2,i3,i4⟩:=over_run r d1;refine ⟨i1,?_,i3.trans d3,i4.trans d4⟩;show (dE o p).2 :: (overRun (dE o p).1 r).2=(aJ v p).2 :: _
   rw [i2,d2]
structure Lse where
 who:Int
 path:Bs
 num:Int
 til:Int
 deriving DecidableEq
structure Hld where
 path:Bs
 has:Bool
 ent:Ent
 num:Int
 til:Int
 deriving DecidableEq
structure Mes where
 kind:Int
 who:Int
 hold:Hld
 deriving DecidableEq
structure Wld where
 over:Ovr
 clock:Int
 count:Int
 leases:List Lse
 holds:List (List Hld)
 floors:List Int
 net:List Mes
 waits:Bool
 op:Opn
 deriving DecidableEq
structure Evn where
 kind:Int
 who:Int
 path:Bs
 op:Opn
 pos:Int
 deriving DecidableEq
def w0:Wld:=⟨ov0,0,0,[],[],[],[],false,op0⟩
def bJ (o:Ovr):Wld:=⟨o,0,0,[],[[],[],[]],[0,0,0],[],false,op0⟩
def dJ (n:Int):Bool:=decide (0≤n) && decide (n≤2)
def aW (who:Int) (p:Bs) (l:Lse):Bool:=decide (l.who=who) && decide (l.path=p)
def eG (ls:List Lse) (who:Int) (p:Bs):Option Lse:=ls.find? (aW who p)
def aZ (p:Bs) (n:Int):Hld:=⟨p,false,b9,n,0⟩
def bz (fl:List Int) (who:Int):Int:=fl.getD who.toNat 0
def aO (hs:List (List Hld)) (who:Int):List Hld:=hs.getD who.toNat []
def mW (clk:Int) (ls:List Lse) (who:Int) (h:Hld):Bool:=match eG ls who h.path with
 | some l=>decide (clk < l.til) && decide (h.num≤l.num) && decide (h.til≤l.til)
 | none=>false
def iq (v:List Ent) (h:Hld):Bool:=decide ((aA v h.path).isSome=h.has) && decide ((aA v h.path).getD b9=h.ent)
def soV (v:List Ent) (clk:Int) (ls:List Lse) (who:Int) (h:Hld):Bool:=decide (h.til≤clk) || (iq v h && mW clk ls who h)
def mX (cnt clk:Int) (ls:List Lse) (i:Nat):Bool:=match ls[i]? with
 | some l=>dJ l.who && ah l.path && decide (1≤l.num) && decide (l.num≤cnt) && decide (l.til≤clk+5) && (ls.take i).all fun k=>!aW l.who l.path k
 | none=>true
def vv (cnt clk:Int) (ls:List Lse):Bool:=(List.range ls.length).all (mX cnt clk ls)
def vx (cnt:Int) (hs:List Hld) (i:Nat):Bool:=match hs[i]? with
 | some h=>ah h.path && decide (0≤h.num) && decide (h.num≤cnt) && (hs.take i).all fun k=>!decide (k.path=h.path)
 | none=>true
def oR (cnt:Int) (hs:List Hld):Bool:=(List.range hs.length).all (vx cnt hs)
def fg (cnt:Int) (m:Mes):Bool:=decide (1≤m.kind) && decide (m.kind≤4) && dJ m.who && ah m.hold.path && decide (0≤m.hold.num) && decide (m.hold.num≤cnt) && (decide (m.kind=2) || decide (m.hold=aZ m.hold.path m.hold.num))
def jw (v:List Ent) (w:Wld) (m:Mes):Bool:=!decide (m.kind=2) || decide (m.hold.num≤bz w.floors m.who) || soV v w.clock w.leases m.who m.hold
def mp (w:Wld) (m:Mes):Bool:=!decide (m.kind=4) || (decide (m.hold.num≤bz w.floors m.who) && (aO w.holds m.who).all fun h=>!(decide (h.path=m.hold.path) && decide (h.num≤m.hold.num)))
def ji (w:Wld):Bool:=decide (0≤w.clock) && decide (w.clock≤10000) && decide (0≤w.count) && decide (w.count≤10000) && decide (w.holds.length=3) && decide (w.floors.length=3) && decide (w.net.length≤12) &&
 w.floors.all fun f=>decide (0≤f) && decide (f≤w.count)
def kL (v:List Ent) (w:Wld):Bool:=if w.waits then decide ((aJ v w.op).2=0) else decide (w.op=op0)
def mn (v:List Ent) (w:Wld) (i:Nat):Bool:=oR w.count (aO w.holds i) && (aO w.holds i).all (soV v w.clock w.leases i)
def d9 (v:List Ent) (w:Wld):Bool:=ji w && vv w.count w.clock w.leases && kL v w && (List.range 3).all (mn v w) && w.net.all fun m=>fg w.count m && jw v w m && mp w m
def ba (w:Wld):Bool:=match bv w.over with
 | some x=>d9 x.2 w
 | none=>false
def seen (o:Ovr):List Ent:=match bv o with
 | some x=>x.2
 | none=>[]
def bZ (net:List Mes) (m:Mes):List Mes:=if net.length < 12 then net++[m] else net
def dQ (net:List Mes) (cnt:Int) (bars:List Lse):List Mes:=bars.foldl (fun n l=>bZ n ⟨3,l.who,aZ l.path cnt⟩) net
def cf (v:List Ent) (p:Opn):List Bs:=if (aJ v p).2=0 then bo v (aJ v p).1 else []
def dg (v:List Ent) (clk:Int) (ls:List Lse) (p:Opn):List Lse:=ls.filter fun l=>decide (clk < l.til) && decide (l.path∈cf v p)
def jY (ls:List Lse) (who:Int) (p:Bs) (num:Int):List Lse:=ls.filter fun l=>!(aW who p l && decide (l.num≤num))
def cN (l:List Hld) (h:Hld):List Hld:=if l.any (fun x=>decide (x.path=h.path) && decide (h.num≤x.num)) then l else l.filter (fun x=>!decide (x.path=h.path))++[h]
def bP (l:List Hld) (p:Bs) (n:Int):List Hld:=l.filter fun x=>!(decide (x.path=p) && decide (x.num≤n))
def bQ (w:Wld) (p:Opn):Wld × Int:=
 if w.waits then (w,21) else if (aJ (seen w.over) p).2≠0 then (w,(aJ (seen w.over) p).2)
 else if dg (seen w.over) w.clock w.leases p=[] then ({ w with over:=(dE w.over p).1 },0)
 else ({ w with net:=dQ w.net w.count (dg (seen w.over) w.clock w.leases p),waits:=true,op:=p },20)
def eI (w:Wld):Wld × Int:=
 if w.waits=false then (w,22)
 else if dg (seen w.over) w.clock w.leases w.op=[] then ({ w with over:=(dE w.over w.op).1,waits:=false,op:=op0 },0)
 else ({ w with net:=dQ w.net w.count (dg (seen w.over) w.clock w.leases w.op) },20)
def eX (c:Int):Int:=if c < 10000 then c+1 else c
def ix (w:Wld):Wld:={ w with clock:=eX w.clock,leases:=w.leases.filter (fun l=>decide (eX w.clock < l.til)) }
def ja (w:Wld) (who:Int) (p:Bs):Wld:=
 if (w.waits=true∧p∈cf (seen w.over) w.op)∨10000≤w.count then w
 else { w with count:=w.count+1,leases:=jY w.leases who p (w.count+1)++[⟨who,p,w.count+1,w.clock+5⟩],net:=bZ w.net ⟨2,who,⟨p,(aA (seen w.over) p).isSome,(aA (seen w.over) p).getD b9,w.count+1,w.clock+5⟩⟩ }
def eY (w:Wld) (who:Int) (h:Hld):Wld:=
 if w.clock < h.til∧bz w.floors who < h.num then { w with holds:=w.holds.set who.toNat (cN (aO w.holds who) h) } else w
def d7 (w:Wld) (who:Int) (p:Bs) (n:Int):Wld:=
 { w with holds:=w.holds.set who.toNat (bP (aO w.holds who) p n),floors:=w.floors.set who.toNat (max (bz w.floors who) n),net:=bZ w.net ⟨4,who,aZ p n⟩ }
def iy (w:Wld) (who:Int) (p:Bs) (n:Int):Wld:={ w with leases:=jY w.leases who p n }
def dA (w:Wld) (m:Mes):Wld:=
 if m.kind=1 then ja w m.who m.hold.path else if m.kind=2 then eY w m.who m.hold else if m.kind=3 then d7 w m.who m.hold.path m.hold.num
 else if m.kind=4 then iy w m.who m.hold.path m.hold.num else w
def jb (w:Wld) (k pos:Int):Wld × Int:=if pos < 0 then (w,22) else match w.net[pos.toNat]? with
 | none=>(w,22)
 | some m=>if k=7 then ({ w with net:=bZ w.net m },0) else if k=5 then (dA { w with net:=w.net.eraseIdx pos.toNat } m,0) else ({ w with net:=w.net.eraseIdx pos.toNat },0)
def wDo (w:Wld) (e:Evn):Wld × Int:=
 if e.kind=1 then (if dJ e.who && ah e.path then ({ w with net:=bZ w.net ⟨1,e.who,aZ e.path 0⟩ },0) else (w,1))
 else if e.kind=2 then bQ w e.op else if e.kind=3 then eI w else if e.kind=4 then (ix w,0)
 else if e.kind=5∨e.kind=6∨e.kind=7 then jb w e.kind e.pos else (w,1)
def bX (w:Wld) (e:Evn):Wld × Int:=if ba w then wDo w e else (w0,1)
def eZ (w:Wld) (p:Opn):List Lse:=if ba w then dg (seen w.over) w.clock w.leases p else []
def playRun:Wld→List Evn→Wld × List Int
 | w,[]=>(w,[])
 | w,e :: r=>((playRun (wDo w e).1 r).1,(wDo w e).2 :: (playRun (wDo w e).1 r).2)
def worldPlay (o:Ovr) (es:List Evn):Wld × List Int:=if fF o=false∨80 < es.length then (w0,[]) else playRun (bJ o) es
def So (v:List Ent) (w:Wld) (who:Int) (h:Hld):Prop:=h.til≤w.clock∨((aA v h.path).isSome=h.has∧(aA v h.path).getD b9=h.ent∧∃ l∈w.leases,l.who=who∧l.path=h.path∧w.clock < l.til∧h.num≤l.num∧h.til≤l.til)
structure OkW (v:List Ent) (w:Wld):Prop where
 clk:0≤w.clock∧w.clock≤10000
 cnt:0≤w.count∧w.count≤10000
 hl:w.holds.length=3
 fl:w.floors.length=3
 nl:w.net.length≤12
 fb:∀ f∈w.floors,0≤f∧f≤w.count
 ls:∀ l∈w.leases,(0≤l.who∧l.who≤2)∧ah l.path=true∧1≤l.num∧l.num≤w.count∧l.til≤w.clock+5
 lu:w.leases.Pairwise fun a b=>¬ (a.who=b.who∧a.path=b.path)
 hs:∀ l∈w.holds,∀ h∈l,ah h.path=true∧0≤h.num∧h.num≤w.count
 hu:∀ l∈w.holds,l.Pairwise fun a b=>a.path≠b.path
 so:∀ (i:Nat) l,w.holds[i]?=some l→∀ h∈l,So v w i h
 nt:∀ m∈w.net,(1≤m.kind∧m.kind≤4)∧(0≤m.who∧m.who≤2)∧ah m.hold.path=true∧0≤m.hold.num∧m.hold.num≤w.count∧(m.kind=2∨m.hold=aZ m.hold.path m.hold.num)
 gr:∀ m∈w.net,m.kind=2→bz w.floors m.who < m.hold.num→So v w m.who m.hold
 bk:∀ m∈w.net,m.kind=4→m.hold.num≤bz w.floors m.who∧∀ h∈aO w.holds m.who,h.path=m.hold.path→m.hold.num < h.num
 wt:if w.waits=true then (aJ v w.op).2=0 else w.op=op0
theorem w9 {α:Type} {R:α→α→Prop} {l:List α}:(∀ (i:Nat) x,l[i]?=some x→∀ y∈l.take i,R y x)↔l.Pairwise R:=by
 rw [zBF];constructor
 · intro h i j hi hj hij;exact h j l[j] (zAB hj) l[i] (List.mem_take_iff_getElem.2 ⟨i,by omega,rfl⟩)
 · intro h i x hx y hy;obtain ⟨hi,rfl⟩:=List.getElem?_eq_some_iff.1 hx;obtain ⟨j,hj,rfl⟩:=List.mem_take_iff_getElem.1 hy;exact h j i (by omega) hi (by omega)
theorem G9 {cnt clk:Int} {ls:List Lse}:vv cnt clk ls=true↔(∀ l∈ls,(0≤l.who∧l.who≤2)∧ah l.path=true∧1≤l.num∧l.num≤cnt∧l.til≤clk+5)∧ls.Pairwise fun a b=>¬ (a.who=b.who∧a.path=b.path):=by
 rw [← w9];unfold vv;rw [cq];constructor
 · intro h;have key:∀ (i:Nat) x,ls[i]?=some x→_:=fun i x hx=>by
    have:=h i (List.getElem?_eq_some_iff.1 hx).1
    rw [mX,hx] at this;exact this
   refine ⟨fun l hl=>?_,fun i x hx y hy=>?_⟩
   · obtain ⟨i,hi⟩:=List.mem_iff_getElem?.1 hl
     have:=key i l hi
     simp only [dJ,zAE,decide_eq_true_eq] at this;exact ⟨this.1.1.1.1.1,this.1.1.1.1.2,this.1.1.1.2,this.1.1.2,this.1.2⟩
   · have:=key i x hx
     simp only [zAE] at this
     have:=zAs.1 this.2 y hy
     simp only [aW,zAJ,zAr,decide_eq_false_iff_not] at this;rintro ⟨h1,h2⟩;rcases this with h|h
     · exact h h1
     · exact h h2
 · rintro ⟨h1,h2⟩ i hi;have hx:ls[i]?=some ls[i]:=zAB hi;rw [mX,hx];obtain ⟨a,b,c,d,e⟩:=h1 _ (zAX hi);simp only [dJ,zAE,decide_eq_true_eq];refine ⟨⟨⟨⟨⟨a,b⟩,c⟩,d⟩,e⟩,zAs.2 fun y hy=>?_⟩
   have:=h2 i _ hx y hy
   simp only [aW,zAJ,zAr,decide_eq_false_iff_not];by_cases h3:y.who=ls[i].who
   · exact .inr fun h4=>this ⟨h3,h4⟩
   · exact .inl h3
theorem p0 {cnt:Int} {hs:List Hld}:oR cnt hs=true↔(∀ h∈hs,ah h.path=true∧0≤h.num∧h.num≤cnt)∧hs.Pairwise fun a b=>a.path≠b.path:=by
 rw [← w9];unfold oR;rw [cq];constructor
 · intro h;have key:∀ (i:Nat) x,hs[i]?=some x→_:=fun i x hx=>by
    have:=h i (List.getElem?_eq_some_iff.1 hx).1
    rw [vx,hx] at this;exact this
   refine ⟨fun l hl=>?_,fun i x hx y hy=>?_⟩
   · obtain ⟨i,hi⟩:=List.mem_iff_getElem?.1 hl
     have:=key i l hi
     simp only [zAE,decide_eq_true_eq] at this;exact ⟨this.1.1.1,this.1.1.2,this.1.2⟩
   · have:=key i x hx
     simp only [zAE] at this
     have:=zAs.1 this.2 y hy
     simpa using this
 · rintro ⟨h1,h2⟩ i hi;have hx:hs[i]?=some hs[i]:=zAB hi;rw [vx,hx];obtain ⟨a,b,c⟩:=h1 _ (zAX hi);simp only [zAE,decide_eq_true_eq];refine ⟨⟨⟨a,b⟩,c⟩,zAs.2 fun y hy=>?_⟩
   have:=h2 i _ hx y hy
   simpa using this
theorem yE {ls:List Lse} {who:Int} {p:Bs} {l:Lse} (h:eG ls who p=some l):l∈ls∧l.who=who∧l.path=p:=by
 have h1:=List.mem_of_find?_eq_some h;have h2:=List.find?_some h;simp only [aW,zAE,decide_eq_true_eq] at h2;exact ⟨h1,h2⟩
theorem CX {ls:List Lse} {who:Int} {p:Bs} {l:Lse} (hu:ls.Pairwise fun a b=>¬ (a.who=b.who∧a.path=b.path)) (h:l∈ls) (h1:l.who=who) (h2:l.path=p):eG ls who p=some l:=by
 induction ls with
 | nil=>cases h
 | cons x r ih=>
   rw [List.pairwise_cons] at hu;unfold eG;rw [List.find?_cons];rcases List.mem_cons.1 h with rfl|h
   · have:aW who p l=true:=by simp [aW,h1,h2]
     rw [this]
   · have:aW who p x=false:=by
       have:=hu.1 l h
       rw [h1,h2] at this;simp only [aW,zAr,decide_eq_false_iff_not];by_cases hx:x.who=who
       · exact .inr fun h=>this ⟨hx,h⟩
       · exact .inl hx
     rw [this];exact ih hu.2 h
theorem sH {v:List Ent} {w:Wld} (hu:w.leases.Pairwise fun a b=>¬ (a.who=b.who∧a.path=b.path)) {who:Int} {h:Hld}:soV v w.clock w.leases who h=true↔So v w who h:=by
 unfold soV So iq mW;simp only [zAe,zAE,decide_eq_true_eq,and_assoc];refine or_congr Iff.rfl (and_congr Iff.rfl (and_congr Iff.rfl ?_));constructor
 · intro h1;cases hl:eG w.leases who h.path with
   | none=>rw [hl] at h1; cases h1
   | some l=>
     rw [hl] at h1;obtain ⟨g1,g2,g3⟩:=yE hl;simp only [zAE,decide_eq_true_eq] at h1;exact ⟨l,g1,g2,g3,h1.1.1,h1.1.2,h1.2⟩
 · rintro ⟨l,g1,g2,g3,g4,g5,g6⟩;rw [CX hu g1 g2 g3];simp only [zAE,decide_eq_true_eq];exact ⟨⟨g4,g5⟩,g6⟩
theorem rP {hs:List (List Hld)} {i:Nat} (h:i < hs.length):hs[i]?=some (aO hs i):=by
 simp [aO,List.getD,zAB h]
theorem yF {v:List Ent} {w:Wld}:d9 v w=true↔OkW v w:=by
 unfold d9;simp only [zAE,G9,cq,zAs];constructor
 · rintro ⟨⟨⟨⟨h1,h2,h3⟩,h4⟩,h5⟩,h6⟩;simp only [ji,zAE,decide_eq_true_eq,zAs] at h1;obtain ⟨⟨⟨⟨⟨⟨⟨a1,a2⟩,a3⟩,a4⟩,a5⟩,a6⟩,a7⟩,a8⟩:=h1;have hh:∀ (i:Nat) l,w.holds[i]?=some l→oR w.count l=true∧l.all (soV v w.clock w.leases i)=true:=by
    intro i l hl;have hi:=(List.getElem?_eq_some_iff.1 hl).1
    have:=h5 i (by rw [List.mem_range]; omega)
    have e:=rP hi;rw [hl] at e;cases e;simpa only [mn,zAE] using this
   have hm:∀ l∈w.holds,oR w.count l=true:=fun l hl=>by
    obtain ⟨i,hi⟩:=List.mem_iff_getElem?.1 hl;exact (hh i l hi).1
   refine ⟨⟨a1,a2⟩,⟨a3,a4⟩,a5,a6,a7,a8,h2,h3,fun l hl=>(p0.1 (hm l hl)).1,fun l hl=>(p0.1 (hm l hl)).2,fun i l hl h hx=>?_,fun m hmm=>?_,fun m hmm hk hf=>?_,fun m hmm hk=>?_,?_⟩
   · exact (sH h3).1 (zAs.1 (hh i l hl).2 h hx)
   · have:=(h6 m hmm).1.1
     simp only [fg,dJ,zAE,zAe,decide_eq_true_eq] at this;obtain ⟨⟨⟨⟨⟨⟨b1,b2⟩,b3⟩,b4⟩,b5⟩,b6⟩,b7⟩:=this;exact ⟨⟨b1,b2⟩,b3,b4,b5,b6,b7⟩
   · have:=(h6 m hmm).1.2
     simp only [jw,hk,zAe,decide_eq_true_eq,zAJ,decide_true,zAM,false_or] at this;rcases this with h|h
     · omega
     · exact (sH h3).1 h
   · have:=(h6 m hmm).2
     simp only [mp,hk,zAe,zAE,decide_eq_true_eq,zAJ,decide_true,zAM,false_or,zAs] at this;refine ⟨this.1,fun h hx hp=>?_⟩
     have:=this.2 h hx
     simp only [hp,decide_true,zAx,decide_eq_false_iff_not] at this;omega
   · unfold kL at h4;split at h4
     · rename_i hw; rw [if_pos hw]; simpa using h4
     · rename_i hw; rw [if_neg hw]; simpa using h4
 · intro h;refine ⟨⟨⟨⟨?_,h.ls,h.lu⟩,?_⟩,fun i hi=>?_⟩,fun m hm=>⟨⟨?_,?_⟩,?_⟩⟩
   · simp only [ji,zAE,decide_eq_true_eq,zAs];exact ⟨⟨⟨⟨⟨⟨⟨h.clk.1,h.clk.2⟩,h.cnt.1⟩,h.cnt.2⟩,h.hl⟩,h.fl⟩,h.nl⟩,h.fb⟩
   · have:=h.wt
     unfold kL;split at this
     · rename_i hw; rw [if_pos hw]; simpa using this
     · rename_i hw; rw [if_neg hw]; simpa using this
   · have hg:=rP (hs:=w.holds) (i:=i) (by rw [h.hl]; exact List.mem_range.1 hi);have hmem:=zAD hg;simp only [mn,zAE,p0,zAs];exact ⟨⟨h.hs _ hmem,h.hu _ hmem⟩,fun x hx=>(sH h.lu).2 (h.so i _ hg x hx)⟩
   · obtain ⟨⟨b1,b2⟩,b3,b4,b5,b6,b7⟩:=h.nt m hm;simp only [fg,dJ,zAE,zAe,decide_eq_true_eq];exact ⟨⟨⟨⟨⟨⟨b1,b2⟩,b3⟩,b4⟩,b5⟩,b6⟩,b7⟩
   · simp only [jw,zAe,zAJ,decide_eq_false_iff_not,decide_eq_true_eq];by_cases hk:m.kind=2
     · by_cases hf:m.hold.num≤bz w.floors m.who
       · exact .inl (.inr hf)
       · exact .inr ((sH h.lu).2 (h.gr m hm hk (by omega)))
     · exact .inl (.inl hk)
   · simp only [mp,zAe,zAE,zAJ,decide_eq_false_iff_not,decide_eq_true_eq,zAs];by_cases hk:m.kind=4
     · obtain ⟨c1,c2⟩:=h.bk m hm hk;refine .inr ⟨c1,fun x hx=>?_⟩;by_cases hp:x.path=m.hold.path
       · have:=c2 x hx hp
         simp [hp]; omega
       · simp [hp]
     · exact .inl hk
theorem bB {w:Wld} (h:ba w=true):∃ t v,bv w.over=some (t,v)∧OkW v w∧seen w.over=v:=by
 unfold ba at h;cases ho:bv w.over with
 | none=>rw [ho] at h; cases h
 | some x=>
   rw [ho] at h;exact ⟨x.1,x.2,rfl,yF.1 h,by rw [seen,ho]⟩
theorem jZ {w:Wld} {t v:List Ent} (ho:bv w.over=some (t,v)) (h:OkW v w):ba w=true:=by
 rw [ba,ho];exact yF.2 h
end Go.Par
