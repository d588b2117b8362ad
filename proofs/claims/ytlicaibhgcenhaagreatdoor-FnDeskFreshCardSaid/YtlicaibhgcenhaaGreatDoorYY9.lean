/- Texts of this claim, set close: lemmas and contracts. -/
import Derived.Test.YtlicaibhgcenhaaGreatDoorYY7
import Derived.Test.YtlicaibhgcenhaaGreatDoorYY8
set_option linter.unusedSimpArgs false
set_option linter.unusedVariables false
set_option maxHeartbeats 1000000
set_option maxRecDepth 10000
namespace Go.Par
open Go.Ab
theorem AN (l r:List Mrk) (q:Bs):ag (l++r) q=(ag l q).or (ag r q):=by simp [ag,zBO]
theorem gE {p q:Bs} (hp:ac p=true) (hr:ae p=[47]) (hq:ac q=true):under p q=false:=by
 rw [← zAa];intro h;have h1:=(ib hp hq h).1;rw [hr,jW] at h1;cases h1
theorem xi {p q:Bs} (hp:ac p=true) (hq:ac q=true):under p q=true↔ae p=q∨under (ae p) q=true:=⟨fun h=>(ib hp hq h).2,j6 hp hq⟩
def uk (p q:Bs):Option Mrk:=if ac q=true∧under p q=true then some ⟨q,2,[]⟩ else none
theorem vN {p:Bs} (hp:ac p=true) (hr:ae p=[47]) (q:Bs):uk p q=none:=by
 unfold uk;rw [if_neg];rintro ⟨h1,h2⟩;rw [gE hp hr h1] at h2;cases h2
theorem rH {p:Bs} (hp:ac p=true) (hr:ae p≠[47]) (q:Bs):uk p q=(if ae p=q then some ⟨ae p,2,[]⟩ else none:Option Mrk).or (uk (ae p) q):=by
 obtain ⟨u1,u2⟩:=ic hp hr;by_cases hq:ae p=q
 · subst hq;unfold uk;rw [if_pos ⟨u1,u2⟩,if_pos rfl];rfl
 · rw [if_neg hq,zBG];unfold uk;by_cases hk:ac q=true
   · have:=xi hp hk
     simp only [hq,false_or] at this;by_cases h:under p q=true
     · rw [if_pos ⟨hk,h⟩,if_pos ⟨hk,this.1 h⟩]
     · rw [if_neg fun x=>h x.2,if_neg fun x=>h (this.2 x.2)]
   · rw [if_neg fun x=>hk x.1,if_neg fun x=>hk x.1]
theorem qM {l:List Mrk} (h:∀ m∈l,m.kind≠0) {q:Bs}:bZ l q=0↔ag l q=none:=by
 unfold bZ;cases hm:ag l q with
 | none=>simp
 | some m=>simp [h m (bO hm).1]
theorem AO:∀ (n:Nat) {l:List Mrk} {p:Bs},p.length≤n→ac p=true→al (ay l)→(∀ m∈l,m.kind≠0) →
   al (ay (j0 n l p))∧(∀ m∈j0 n l p,m.kind≠0)∧∀ q,ag (j0 n l p) q=(ag l q).or (uk p q)
 | 0,l,p,hn,hp,_,_=>by have:=(aC hp).1; omega
 | n+1,l,p,hn,hp,hs,hk=>by
   unfold j0;by_cases hr:ae p=[47]
   · rw [if_pos hr];exact ⟨hs,hk,fun q=>by rw [vN hp hr,Option.or_none]⟩
   · rw [if_neg hr];obtain ⟨u1,u2⟩:=ic hp hr
     have:=ei hp hr
     by_cases h0:bZ l (ae p)=0
     · rw [if_pos h0];obtain ⟨i1,i2,i3⟩:=AO n (l:=cX l ⟨ae p,2,[]⟩) (p:=ae p) (by omega) u1 (jr hs _) (fun m hm=>by
        rcases yG hm with rfl|hm
        · simp
        · exact hk m hm)
       refine ⟨i1,i2,fun q=>?_⟩;rw [i3,xb hs,rH hp hr];have h1:=(qM hk).1 h0;by_cases hq:ae p=q
       · rw [if_pos hq,if_pos hq,← hq,h1];rfl
       · rw [if_neg hq,if_neg hq,zBG]
     · rw [if_neg h0];obtain ⟨i1,i2,i3⟩:=AO n (l:=l) (p:=ae p) (by omega) u1 hs hk;refine ⟨i1,i2,fun q=>?_⟩;rw [i3,rH hp hr];have h1:ag l (ae p)≠none:=fun h=>h0 ((qM hk).2 h);by_cases hq:ae p=q
       · rw [if_pos hq,← hq];cases hm:ag l (ae p) with
         | none=>exact absurd hm h1
         | some m=>rfl
       · rw [if_neg hq,zBG]
def un:Nat→List Mrk→Bs→List Mrk
 | 0,l,_=>l
 | n+1,l,p=>if ae p=[47] then l else un n (if (ag l (ae p)).isNone then l++[⟨ae p,2,[]⟩] else l) (ae p)
theorem AP {l:List Mrk} {m:Mrk} (h:(ay l).Nodup) (hm:ag l m.path=none):(ay (l++[m])).Nodup:=by
 rw [ay,zAK,List.nodup_append];refine ⟨h,by simp,?_⟩;intro a ha b hb hab;simp at hb;rw [hab,hb] at ha;exact dg.1 hm ha
theorem AQ (m:Mrk) (q:Bs):ag [m] q=if m.path=q then some m else none:=by
 rw [aE];rfl
theorem xj:∀ (n:Nat) {l:List Mrk} {p:Bs},p.length≤n→ac p=true→(ay l).Nodup →
   (ay (un n l p)).Nodup∧(∃ X,un n l p=l++X∧X.length≤n)∧∀ q,ag (un n l p) q=(ag l q).or (uk p q)
 | 0,l,p,hn,hp,_=>by have:=(aC hp).1; omega
 | n+1,l,p,hn,hp,hs=>by
   unfold un;by_cases hr:ae p=[47]
   · rw [if_pos hr];exact ⟨hs,⟨[],by simp,by simp⟩,fun q=>by rw [vN hp hr,Option.or_none]⟩
   · rw [if_neg hr];obtain ⟨u1,u2⟩:=ic hp hr
     have:=ei hp hr
     cases h0:ag l (ae p) with
     | none=>
       rw [Option.isNone_none,if_pos rfl];obtain ⟨i1,⟨X,i2,i4⟩,i3⟩:=xj n (l:=l++[⟨ae p,2,[]⟩]) (p:=ae p) (by omega) u1 (AP hs h0);refine ⟨i1,⟨⟨ae p,2,[]⟩ :: X,by rw [i2]; simp,by simp; omega⟩,fun q=>?_⟩;rw [i3,AN,AQ,rH hp hr,Option.or_assoc]
     | some m=>
       rw [Option.isNone_some,if_neg (by simp)];obtain ⟨i1,⟨X,i2,i4⟩,i3⟩:=xj n (l:=l) (p:=ae p) (by omega) u1 hs;refine ⟨i1,⟨X,i2,by omega⟩,fun q=>?_⟩;rw [i3,rH hp hr];by_cases hq:ae p=q
       · rw [if_pos hq,← hq,h0];rfl
       · rw [if_neg hq,zBG]
def cn (a b:List Ent) (p:Bs):Option Mrk:=if ah a p=ah b p then none else match ah b p with
 | some e=>some (if e.dir then ⟨p,2,[]⟩ else ⟨p,1,e.data⟩)
 | none=>if aY b p=0 then some ⟨p,3,[]⟩ else none
theorem fK {a b:List Ent} {p:Bs} {m:Mrk} (h:cn a b p=some m):m.path=p∧ah a p≠ah b p ∧
   ((∃ e,ah b p=some e∧e.dir=true∧m=⟨p,2,[]⟩)∨(∃ e,ah b p=some e∧e.dir=false∧m=⟨p,1,e.data⟩)∨(ah b p=none∧aY b p=0∧m=⟨p,3,[]⟩)):=by
 unfold cn at h;split at h
 · cases h
 · rename_i hne;split at h
   · rename_i e he;cases h;cases hd:e.dir with
     | true=>exact ⟨rfl,hne,.inl ⟨e,he,hd,rfl⟩⟩
     | false=>exact ⟨rfl,hne,.inr (.inl ⟨e,he,hd,rfl⟩)⟩
   · rename_i he;split at h
     · rename_i hu;cases h;exact ⟨rfl,hne,.inr (.inr ⟨he,hu,rfl⟩)⟩
     · cases h
theorem AR {a b:List Ent} {p:Bs} {m:Mrk} (h:cn a b p=some m):m.kind≠0:=by
 obtain ⟨_,_,⟨e,_,_,rfl⟩|⟨e,_,_,rfl⟩|⟨_,_,rfl⟩⟩:=fK h <;> simp
def ke (a b:List Ent) (T:List Bs) (q:Bs):Bool:=ac q && T.any fun p=>(cn a b p).isSome && under p q
def gN (a b:List Ent) (T:List Bs) (q:Bs):Option Mrk:=(if q∈T then cn a b q else none).or (if ke a b T q=true then some ⟨q,2,[]⟩ else none)
def iv (a b:List Ent) (out:List Mrk) (p:Bs):List Mrk:=match cn a b p with
 | some m=>j0 12 (cX out m) p
 | none=>out
def dB (a b:List Ent):List Mrk:=(aS a b).foldl (iv a b) []
theorem sZ (a b:List Ent) (T:List Bs) (p q:Bs):ke a b (T++[p]) q=(ke a b T q || (ac q && ((cn a b p).isSome && under p q))):=by
 unfold ke;rw [List.any_append];cases ac q <;> simp
theorem GB {c:Prop} [Decidable c] {d:Prop} [Decidable d] {m:Mrk}:(if c then some m else none:Option Mrk).or (if d then some m else none)=if c∨d then some m else none:=by
 by_cases hc:c <;> by_cases hd:d <;> simp [hc,hd]
theorem Df {a b:List Ent} {T:List Bs} {out:List Mrk} {p:Bs} (hp:ac p=true) (h1:al (ay out)) (h2:∀ m∈out,m.kind≠0) (h3:∀ q,ag out q=gN a b T q) :
   al (ay (iv a b out p))∧(∀ m∈iv a b out p,m.kind≠0)∧∀ q,ag (iv a b out p) q=gN a b (T++[p]) q:=by
 unfold iv;cases hb:cn a b p with
 | none=>
   refine ⟨h1,h2,fun q=>?_⟩;simp only;rw [h3];unfold gN;rw [sZ,hb];simp only [Option.isSome_none,zAh,zBb,Bool.or_false];congr 1
   by_cases hq:q=p
   · subst hq;rw [hb]
     simp
   · simp [hq]
 | some m=>
   simp only;obtain ⟨b1,_,_⟩:=fK hb;have hk:∀ x∈cX out m,x.kind≠0:=fun x hx=>by
    rcases yG hx with rfl|hx
    · exact AR hb
    · exact h2 x hx
   obtain ⟨i1,i2,i3⟩:=AO 12 (l:=cX out m) (p:=p) (aC hp).2 hp (jr h1 _) hk;refine ⟨i1,i2,fun q=>?_⟩;rw [i3,xb h1,h3,b1];unfold gN;rw [sZ,hb];by_cases hq:p=q
   · subst hq;rw [if_pos rfl,if_pos (by simp),hb];rfl
   · rw [if_neg hq,Option.or_assoc];congr 1
     · simp [Ne.symm hq]
     · unfold uk;rw [GB]
       simp
theorem vO {a b:List Ent}:∀ (T2 T:List Bs) (out:List Mrk),(∀ p∈T2,ac p=true)→al (ay out)→(∀ m∈out,m.kind≠0)→(∀ q,ag out q=gN a b T q) →
   al (ay (T2.foldl (iv a b) out))∧∀ q,ag (T2.foldl (iv a b) out) q=gN a b (T++T2) q
 | [],T,out,_,h1,_,h3=>⟨h1,fun q=>by rw [List.append_nil]; exact h3 q⟩
 | p :: T2,T,out,hp,h1,h2,h3=>by
   obtain ⟨i1,i2,i3⟩:=Df (hp p (by simp)) h1 h2 h3
   have:=vO T2 (T++[p]) _ (fun q hq=>hp q (by simp [hq])) i1 i2 i3
   simpa using this
theorem iK {a b:List Ent} (ha:af a=true) (hb:af b=true) {p:Bs} (hp:p∈aS a b):ac p=true:=by
 rw [fI ha hb] at hp;cases he:ah a p with
 | some e=>exact (en ha he).2.2.1
 | none=>
   cases hf:ah b p with
   | some f=>exact (en hb hf).2.2.1
   | none=>rw [he,hf] at hp; exact absurd rfl hp
theorem gj {a b:List Ent} (ha:af a=true) (hb:af b=true):al (ay (dB a b))∧∀ q,ag (dB a b) q=gN a b (aS a b) q:=by
 have h0:al (ay ([]:List Mrk)):=List.Pairwise.nil
 have:=vO (a:=a) (b:=b) (aS a b) [] [] (fun p hp=>iK ha hb hp) h0 (by simp) (fun q=>by simp [gN,ke,ag])
 rw [zBD] at this;exact this
theorem pS {a b:List Ent} (ha:af a=true) (hb:af b=true) {q:Bs} (h:ke a b (aS a b) q=true):ac q=true∧∃ e,ah b q=some e∧e.dir=true:=by
 unfold ke at h;rw [zAC,zAp] at h;obtain ⟨hq,p,hp,h⟩:=h;rw [zAC] at h;obtain ⟨h1,h2⟩:=h;refine ⟨hq,?_⟩;obtain ⟨m,hm⟩:=Option.isSome_iff_exists.1 h1;have hpk:=iK ha hb hp;obtain ⟨_,_,h3⟩:=fK hm;rcases h3 with ⟨e,he,_,_⟩|⟨e,he,_,_⟩|⟨he,hu,_⟩
 · exact lV hb hq p.length (zAM _) he h2
 · exact lV hb hq p.length (zAM _) he h2
 · rcases eR.1 hu with hr|⟨d,d1,d2⟩
   · rw [gE hpk hr hq] at h2; cases h2
   · rcases (ib hpk hq h2).2 with h4|h4
     · exact ⟨d,by rw [← h4]; exact d1,d2⟩
     · exact lV hb hq (ae p).length (zAM _) d1 h4
theorem fM {a b:List Ent} (ha:af a=true) (hb:af b=true) {q:Bs} {m:Mrk} (h:ag (dB a b) q=some m):ac q=true∧m.path=q ∧
   ((∃ e,ah b q=some e∧e.dir=true∧m=⟨q,2,[]⟩)∨(∃ e,ah b q=some e∧e.dir=false∧m=⟨q,1,e.data⟩∧ah a q≠ah b q)∨(ah b q=none∧aY b q=0∧m=⟨q,3,[]⟩∧ah a q≠ah b q)):=by
 rw [(gj ha hb).2] at h;unfold gN at h;by_cases hT:q∈aS a b
 · rw [if_pos hT] at h;cases hm:cn a b q with
   | some x=>
     rw [hm,Option.some_or] at h;cases h;obtain ⟨h1,h2,h3⟩:=fK hm;refine ⟨iK ha hb hT,h1,?_⟩;rcases h3 with ⟨e,he,hd,rfl⟩|⟨e,he,hd,rfl⟩|⟨he,hu,rfl⟩
     · exact .inl ⟨e,he,hd,rfl⟩
     · exact .inr (.inl ⟨e,he,hd,rfl,h2⟩)
     · exact .inr (.inr ⟨he,hu,rfl,h2⟩)
   | none=>
     rw [hm,zBG] at h;split at h
     · rename_i hab;cases h;obtain ⟨h1,e,he,hd⟩:=pS ha hb hab;exact ⟨h1,rfl,.inl ⟨e,he,hd,rfl⟩⟩
     · cases h
 · rw [if_neg hT,zBG] at h;split at h
   · rename_i hab;cases h;obtain ⟨h1,e,he,hd⟩:=pS ha hb hab;exact ⟨h1,rfl,.inl ⟨e,he,hd,rfl⟩⟩
   · cases h
theorem vP {a b:List Ent} (ha:af a=true) (hb:af b=true) {q:Bs} {m:Mrk} (h:cn a b q=some m):ag (dB a b) q=some m:=by
 rw [(gj ha hb).2];unfold gN;rw [if_pos ((fI ha hb).2 (fK h).2.1),h];rfl
theorem AU {a b:List Ent} (ha:af a=true) (hb:af b=true) {q:Bs} {m:Mrk} (h:ag (dB a b) q=some m) {u:Bs} (hu:ac u=true) (hq:under q u=true):ke a b (aS a b) u=true:=by
 have hqk:=(fM ha hb h).1;rw [(gj ha hb).2] at h;unfold ke;rw [hu,zBA,zAp];unfold gN at h;by_cases hT:q∈aS a b∧(cn a b q).isSome=true
 · exact ⟨q,hT.1,by rw [hT.2,hq]; rfl⟩
 · have h0:(if q∈aS a b then cn a b q else none)=none:=by
     split
     · rename_i h1;cases hm:cn a b q with
       | none=>rfl
       | some x=>exact absurd ⟨h1,by rw [hm]; rfl⟩ hT
     · rfl
   rw [h0,zBG] at h;split at h
   · rename_i hab;unfold ke at hab;rw [zAC,zAp] at hab;obtain ⟨_,p,hp,h1⟩:=hab;rw [zAC] at h1;exact ⟨p,hp,by rw [h1.1,jq hqk hu h1.2 (.inr hq)]; rfl⟩
   · cases h
theorem rI {a b:List Ent} (ha:af a=true) (hb:af b=true):ax (dB a b)=true:=by
 have hs:=(gj ha hb).1;refine cB.2 ⟨?_,hs,fun m hm=>?_⟩
 · have h1:=vz (v:=aq a++aq b) (bG hs) (fun p hp=>by
     obtain ⟨m,hm⟩:=sQ hp;rw [zAt];obtain ⟨_,_,⟨e,he,_⟩|⟨e,he,_⟩|⟨he,_,_,hne⟩⟩:=fM ha hb hm
     · exact .inr (List.mem_map.2 ⟨e,(cg he).1,(cg he).2⟩)
     · exact .inr (List.mem_map.2 ⟨e,(cg he).1,(cg he).2⟩)
     · left;cases hf:ah a p with
       | none=>rw [hf,he] at hne; exact absurd rfl hne
       | some f=>exact List.mem_map.2 ⟨f,(cg hf).1,(cg hf).2⟩)
   have:=az ha
   have:=az hb
   simp only [zAL,zAA] at h1;omega
 · have hmm:=eS hs hm;obtain ⟨h1,h2,h3⟩:=fM ha hb hmm;refine ⟨?_,?_,fun hk=>?_⟩
   · rcases h3 with ⟨e,he,hd,hx⟩|⟨e,he,hd,hx,_⟩|⟨he,hu,hx,_⟩
     · rw [hx]; exact j8 (by simp) h1 rfl (fun _=>rfl)
     · rw [hx]; exact j8 (by simp) h1 (ny (en hb he).1).1 (fun h=>absurd rfl h)
     · rw [hx]; exact j8 (by simp) h1 rfl (fun _=>rfl)
   · by_cases hr:ae m.path=[47]
     · exact .inl hr
     · right;obtain ⟨u1,u2⟩:=ic h1 hr;have hab:=AU ha hb hmm u1 u2;have hex:∃ d,ag (dB a b) (ae m.path)=some d:=by
        rw [(gj ha hb).2];unfold gN;rw [hab,if_pos rfl];cases (if ae m.path∈aS a b then cn a b (ae m.path) else none) <;> exact ⟨_,rfl⟩
       obtain ⟨d,hd⟩:=hex;refine ⟨d,hd,?_⟩;obtain ⟨_,e,he,hdir⟩:=pS ha hb hab;obtain ⟨_,_,⟨f,hf,_,hx⟩|⟨f,hf,hnd,hx,_⟩|⟨hf,_⟩⟩:=fM ha hb hd
       · rw [hx]; rfl
       · rw [he] at hf; cases hf; rw [hdir] at hnd; cases hnd
       · rw [he] at hf; cases hf
   · unfold bare;rw [List.any_eq_false];intro x hx;obtain ⟨_,_,⟨f,_,_,hy⟩|⟨f,_,_,hy,_⟩|⟨_,_,hy,_⟩⟩:=fM ha hb (eS hs hx) <;> rw [hy] <;> simp
theorem s0 {a b:List Ent} (ha:af a=true) (hb:af b=true):∀ (n:Nat) {p:Bs} {e:Ent},p.length≤n→ah a p=some e→ah b p=none→∃ q m,cn a b q=some m∧m.kind≠2∧inP p q=true∧ac q=true
 | 0,p,e,hn,he,_=>by
   have:=(aC (en ha he).2.2.1).1
   omega
 | n+1,p,e,hn,he,hf=>by
   obtain ⟨_,_,hp,h4⟩:=en ha he;by_cases hu:aY b p=0
   · refine ⟨p,⟨p,3,[]⟩,?_,by simp,bY.2 (.inl rfl),hp⟩;unfold cn;rw [he,hf,if_neg (by simp),if_pos hu]
   · have hr:ae p≠[47]:=fun h=>hu (eR.2 (.inl h));obtain ⟨u1,u2⟩:=ic hp hr;obtain ⟨d,d1,d2⟩:=h4.resolve_left hr;cases hg:ah b (ae p) with
     | some f=>
       have hfd:f.dir=false:=by
        cases h:f.dir with
        | false=>rfl
        | true=>exact absurd (eR.2 (.inr ⟨f,hg,h⟩)) hu
       refine ⟨ae p,⟨ae p,1,f.data⟩,?_,by simp,bY.2 (.inr u2),u1⟩;unfold cn;rw [d1,hg,if_neg]
       · simp [hfd]
       · intro h;cases h;rw [d2] at hfd;cases hfd
     | none=>
       have:=ei hp hr
       obtain ⟨q,m,h1,h2,h3,h5⟩:=s0 ha hb n (by omega) d1 hg;exact ⟨q,m,h1,h2,bY.2 (.inr (yR u1 h5 h3 u2)),h5⟩
theorem Cc {b:List Ent} (hb:af b=true) {q:Bs} {e:Ent} (he:ah b q=some e) (hd:e.dir=true):e=⟨q,true,[]⟩:=by
 obtain ⟨h1,h2,_⟩:=en hb he;exact B7 h2 hd ((ny h1).2 hd)
theorem F1 {a b:List Ent} (ha:af a=true) (hb:af b=true):aP (dB a b) a=some b:=by
 refine sS (rI ha hb) ha hb fun p=>?_;unfold lW;cases hm:ag (dB a b) p with
 | some m=>
   simp only;obtain ⟨h1,h2,⟨e,he,hd,rfl⟩|⟨e,he,hd,rfl,_⟩|⟨he,_,rfl,_⟩⟩:=fM ha hb hm
   · rw [he,Cc hb he hd]; rfl
   · rw [he];have h5:=B7 (en hb he).2.1 hd rfl;show some (⟨p,false,e.data⟩:Ent)=some e
     exact congrArg some h5.symm
   · rw [he]; rfl
 | none=>
   simp only;cases hh:bI (dB a b) p with
   | true=>
     rw [if_pos rfl];obtain ⟨q,m,h1,h2,h3⟩:=(cO (gj ha hb).1).1 hh;have hu:under p q=true:=by
      rcases bY.1 h3 with h|h
      · rw [h,h1] at hm; cases hm
      · exact h
     obtain ⟨k1,k2,k3⟩:=fM ha hb h1
     symm
     rcases k3 with ⟨e,he,hd,rfl⟩|⟨e,he,hd,_,_⟩|⟨he,_⟩
     · exact absurd rfl h2
     · exact oF hb k1 (fun d hd2=>by rw [he] at hd2; cases hd2; exact hd) hu
     · exact oF hb k1 (fun d hd2=>by rw [he] at hd2; cases hd2) hu
   | false=>
     simp only [zAE,if_false];apply Decidable.byContradiction;intro hne;have hno:cn a b p=none:=by
      cases hx:cn a b p with
      | none=>rfl
      | some m=>rw [vP ha hb hx] at hm; cases hm
     cases hf:ah b p with
     | some f=>
       unfold cn at hno;rw [if_neg hne,hf] at hno;cases hno
     | none=>
       cases he:ah a p with
       | none=>rw [he,hf] at hne; exact hne rfl
       | some e=>
         obtain ⟨q,m,h1,h2,h3,_⟩:=s0 ha hb p.length (zAM _) he hf
         have:=(cO (gj ha hb).1).2 ⟨q,m,vP ha hb h1,h2,h3⟩
         rw [hh] at this;cases this
theorem Dg {a:List Ent} (ha:af a=true):dB a a=[]:=by
 have h:aS a a=[]:=by
  cases h:aS a a with
  | nil=>rfl
  | cons p r=>
    have:p∈aS a a:=by rw [h]; simp
    rw [fI ha ha] at this;exact absurd rfl this
 unfold dB;rw [h];rfl
def fA (a b:List Ent):List Mrk:=(aS a b).filterMap (cn a b)
theorem s5 {f:Bs→Option Mrk}:∀ {w:List Bs},(∀ p m,f p=some m→m.path=p)→∀ q,ag (w.filterMap f) q=if q∈w then f q else none
 | [],_,q=>by simp [ag]
 | p :: w,h,q=>by
   have ih:=s5 (w:=w) h q;rw [List.filterMap_cons];cases hp:f p with
   | none=>
     simp only;rw [ih];by_cases hq:q=p
     · subst hq; simp [hp]
     · simp [hq]
   | some m=>
     simp only;rw [aE,ih,h p m hp];by_cases hq:p=q
     · subst hq; simp [hp]
     · simp [hq,Ne.symm hq]
theorem mY {f:Bs→Option Mrk}:∀ {w:List Bs},w.Nodup→(∀ p m,f p=some m→m.path=p)→(ay (w.filterMap f)).Nodup
 | [],_,_=>by simp
 | p :: w,hn,h=>by
   have hn2:=List.nodup_cons.1 hn;have ih:=mY (w:=w) hn2.2 h;rw [List.filterMap_cons];cases hp:f p with
   | none=>exact ih
   | some m=>
     simp only;refine List.nodup_cons.2 ⟨fun hm=>?_,ih⟩;obtain ⟨x,hx,h1⟩:=List.mem_map.1 hm;obtain ⟨y,hy,h2⟩:=List.mem_filterMap.1 hx;have h3:y=p:=(h y x h2).symm.trans (h1.trans (h p m hp));rw [h3] at hy;exact hn2.1 hy
theorem i8 {a b:List Ent} (p:Bs) (m:Mrk) (h:cn a b p=some m):m.path=p:=(fK h).1
def iw (a b:List Ent) (i:Nat):List Mrk:=((fA a b).take i).foldl (fun D m=>un 12 D m.path) (fA a b)
theorem s6 {a b:List Ent} {i:Nat} {m:Mrk} (h:(fA a b)[i]?=some m):iw a b (i+1)=un 12 (iw a b i) m.path:=by
 unfold iw;rw [zAX,h,List.foldl_append];rfl
theorem pT {a b:List Ent} (ha:af a=true) (hb:af b=true):∀ i,i≤(fA a b).length→(ay (iw a b i)).Nodup∧(∃ X,iw a b i=fA a b++X∧X.length≤12 * i) ∧
   ∀ q,ag (iw a b i) q=(ag (fA a b) q).or (if ac q=true∧((fA a b).take i).any (fun m=>under m.path q)=true then some ⟨q,2,[]⟩ else none)
 | 0,_=>⟨mY (bG mW) i8,⟨[],by simp [iw],by simp⟩,fun q=>by simp [iw]⟩
 | i+1,hi=>by
   obtain ⟨i1,⟨X,i2,i4⟩,i3⟩:=pT ha hb i (by omega);obtain ⟨m,hm⟩:∃ m,(fA a b)[i]?=some m:=⟨_,zAB (by omega)⟩;obtain ⟨p,hp,hpm⟩:=List.mem_filterMap.1 (zAD hm);have hmp:ac m.path=true:=by rw [i8 p m hpm]; exact iK ha hb hp
   rw [s6 hm];obtain ⟨j1,⟨Y,j2,j4⟩,j3⟩:=xj 12 (l:=iw a b i) (p:=m.path) (aC hmp).2 hmp i1;refine ⟨j1,⟨X++Y,by rw [j2,i2]; simp,by simp; omega⟩,fun q=>?_⟩;rw [j3,i3,Option.or_assoc];congr 1
   unfold uk;rw [GB,zAX,hm,List.any_append];simp only [Option.toList_some,List.any_cons,List.any_nil,Bool.or_false,zAe];by_cases hq:ac q=true <;> simp [hq]
theorem vQ {a b:List Ent} (ha:af a=true) (hb:af b=true):(ay (iw a b (fA a b).length)).Nodup∧∀ q,ag (iw a b (fA a b).length) q=ag (dB a b) q:=by
 obtain ⟨i1,_,i3⟩:=pT ha hb _ (zAM _);refine ⟨i1,fun q=>?_⟩;rw [i3,(gj ha hb).2,zAN];unfold gN;rw [show ag (fA a b) q=if q∈aS a b then cn a b q else none from s5 i8 q]
 congr 1
 have:(ac q=true∧(fA a b).any (fun m=>under m.path q)=true)↔ke a b (aS a b) q=true:=by
  unfold ke;rw [zAC,zAp,zAp];refine and_congr Iff.rfl ?_;constructor
  · rintro ⟨m,hm,h⟩;obtain ⟨p,hp,hpm⟩:=List.mem_filterMap.1 hm;exact ⟨p,hp,by rw [hpm,← i8 p m hpm,h]; rfl⟩
  · rintro ⟨p,hp,h⟩;rw [zAC] at h;obtain ⟨m,hm⟩:=Option.isSome_iff_exists.1 h.1;exact ⟨m,List.mem_filterMap.2 ⟨p,hp,hm⟩,by rw [i8 p m hm]; exact h.2⟩
 by_cases h:ke a b (aS a b) q=true
 · rw [if_pos h,if_pos (this.2 h)]
 · rw [if_neg h,if_neg fun x=>h (this.1 x)]
theorem EZ {a b:List Ent} (ha:af a=true) (hb:af b=true) {S:List Mrk} (hp:S.Perm (iw a b (fA a b).length)) (hs:S.Pairwise fun a b=>lt b.path a.path=false):S=dB a b:=
 vF hp hs (vQ ha hb).1 (gj ha hb).1 (vQ ha hb).2
theorem Dh {a b:List Ent}:(fA a b).length≤32:=by
 have:=fJ a b
 have:=zBQ (cn a b) (aS a b)
 unfold fA;omega
end Go.Par
namespace Go.Proofs.YtlicaibhgcenhaaGreatDoor
open Go Go.RowKit Go.Ab Go.Par Go.Proofs Go.Sort Go.Shelf
variable {m:Int}
def fN (l:List Mrk) (p:Bs):Bool:=l.any fun x=>decide (x.kind≠2) && (decide (x.path=p) || bC p x.path)
theorem vR {l:List Mrk} (h:∀ x∈l,ac x.path=true) {p:Bs} (hp:ac p=true):fN l p=bI l p:=by
 unfold fN bI;rw [zAI,zAp,zAp];constructor
 · rintro ⟨x,hx,h1⟩;refine ⟨x,hx,?_⟩;simp only [zAC,zAe,decide_eq_true_eq,bY,bC,hp,h x hx,Bool.or_true,true_and] at h1 ⊢;exact ⟨h1.1,h1.2.elim (fun q=>.inl q.symm) .inr⟩
 · rintro ⟨x,hx,h1⟩;refine ⟨x,hx,?_⟩;simp only [zAC,zAe,decide_eq_true_eq,bY,bC,hp,h x hx,Bool.or_true,true_and] at h1 ⊢;exact ⟨h1.1,h1.2.elim (fun q=>.inl q.symm) .inr⟩
theorem eT {l:List Mrk} (h:ax l=true):∀ x∈l,ac x.path=true:=fun x hx=>(de ((cB.1 h).2.2 x hx).1).2.1
theorem cJ {l:List Mrk} (h:ax l=true):l.length≤32:=(cB.1 h).1
theorem e8 {l:List Mrk} (h:ax l=true):∀ x∈l,x.path.length≤12∧x.data.length≤6:=fun x hx=>by
 have h1:=((cB.1 h).2.2 x hx).1;obtain ⟨_,h2,h3,_⟩:=de h1;refine ⟨(aC h2).2,?_⟩;have h4:=sE h3;omega
theorem s7 (l:List Mrk) (p:Bs) (hl:l.length≤1073741824) (hp:p.length≤1073741823) (hb:∀ x∈l,x.path.length≤1073741823):Con (E m) 281 0 [.sl (l.map Mrk.c),.s p] [] (.b (fN l p)) []:=by
 have e1:(l.map Mrk.c).length=l.length:=zAA ..;refine G0 Tryz.func281 ?_;repeat' first|refine Rx ⟨?_⟩|refine Rd (fun h=>⟨?_⟩) fun h=>⟨?_⟩|fail
 refine Cd.loop2 (fun mq tm S nx=>∃ (i:Nat),mq=(l.length - i)∧tm=[(1,.s p),(7,.sl (l.map Mrk.c)),(8,.k .i64 ((l.map Mrk.c).length:Int)),(9,.k .i64 i)]∧S=[]∧nx=0∧(i≤l.length)∧(fN l p=fN (l.drop i) p)) ?_ ?_
 · refine la [1,7,8,9] ?_
   conv=>whnf
   refine ⟨rfl,rfl,_,0,rfl,rfl,rfl,rfl,by omega,rfl⟩
 · rintro mq tm S nx ⟨i,hn,rfl,rfl,rfl,hi,ha⟩;rcases au l i hi with ⟨rfl,hd⟩|⟨x,r,hx,hd,hr,hlt⟩
   · rw [hd] at ha;rw [ha];repeat' first|refine Rx ⟨?_⟩|refine Rd (fun h=>⟨?_⟩) fun h=>⟨?_⟩|fail
     exact Rf
   · rw [hd] at ha;have c1:=iY (m:=m) p x.path hp (hb x (zAD hx));by_cases h2:x.kind=2
     · have hs:fN l p=fN (l.drop (i+1)) p:=by rw [ha,hr]; simp [fN,h2]
       repeat' first|refine Rx ⟨?_⟩|refine Rd (fun h=>⟨?_⟩) fun h=>⟨?_⟩|fail
       refine .here ⟨mq - 1,by omega,?_⟩;refine la [1,7,8,9] ?_
       conv=>whnf
       refine ⟨rfl,rfl,i+1,(by omega),rfl,rfl,rfl,by omega,hs⟩
     · by_cases h3:x.path=p
       · have hs:fN l p=true:=by rw [ha]; simp [fN,h2,h3]
         rw [hs];repeat' first|refine Rx ⟨?_⟩|refine Rd (fun h=>⟨?_⟩) fun h=>⟨?_⟩|fail
         exact Rf
       · cases h4:bC p x.path with
         | true=>
           rw [h4] at c1;have hs:fN l p=true:=by rw [ha]; simp [fN,h2,h3,h4]
           rw [hs];repeat' first|refine Ra ⟨?_⟩|refine R0 c1 ⟨?_⟩|refine Rd (fun h=>⟨?_⟩) fun h=>⟨?_⟩|refine Rb ⟨?_⟩|fail
           exact Rf
         | false=>
           rw [h4] at c1;have hs:fN l p=fN (l.drop (i+1)) p:=by rw [ha,hr]; simp [fN,h2,h3,h4]
           repeat' first|refine Ra ⟨?_⟩|refine R0 c1 ⟨?_⟩|refine Rd (fun h=>⟨?_⟩) fun h=>⟨?_⟩|refine Rb ⟨?_⟩|fail
           refine .here ⟨mq - 1,by omega,?_⟩;refine la [1,7,8,9] ?_
           conv=>whnf
           refine ⟨rfl,rfl,i+1,(by omega),rfl,rfl,rfl,by omega,hs⟩
theorem E0 (x y:Mrk) (W:World):Calls Tryz.prog 308 #[.agg (Mrk.v x).toArray,.agg (Mrk.v y).toArray] W fun e w'=>e=.returned (.int .i64 (pQ x.path y.path))∧∃ q os',w'=grow (W.drewN q) os':=by
 have hcon:=fun W'=>sV x.path y.path W';generalize pQ x.path y.path=r at hcon ⊢;unfold Mrk.v
 go_enter Tryz.func308,Tryz.ntmps308
 go_wp2_with (go_at_call 247; refine (hcon _).mono ?_; rintro e w' ⟨rfl,rfl⟩)
 go_ret
 exact ⟨rfl,0,_,by rw [alloc_eq_grow,alloc_eq_grow,grow_grow]; rfl⟩
theorem uo (L U:List Mrk) (hU:∀ S:List Mrk,S.Perm L→(S.Pairwise fun a b=>lt b.path a.path=false)→S=U) (hl:L.length≤1000000) :
   Con (E m) 307 1 [.own 0,.fn 308 []] [(0,.own 197 (L.map Mrk.c))] (.tup []) [(0,.own 197 (U.map Mrk.c))]:=
 yS AL (by decide) (by kernel_rfl) ⟨_,Tryz.func307,rfl,rfl⟩ (mD (pa:=fun e:Mrk=>e.path) hU)
  (fun _ w=>AnyF.slices_SortFunc_none Tryz.sortM none 0 _ w)
  (fun b cap w hH hb=>by
   have eg:∀ args w,(callFunc 308 args).run Tryz.prog w=.ok (.enter 308 args) w:=enters_of Tryz.func308 (by kernel_rfl) rfl;refine (AnyQ.slices_SortFunc Tryz.sortM 3 Tryz.isAgg197 Tryz.sizeOf197 Mrk.v AL.len AL.one (fun x y=>pQ x.path y.path) Hw 308 #[] b 0 cap L.toArray w eg (fun _ _ _ _ x y=>E0 x y _) hH hb (by simp; omega)).mono ?_;rintro e w' ⟨he,d,n,os,hp,hs,rfl⟩;have hd:d.toList=U:=hU _ (vJ hp) (qH (pa:=fun e:Mrk=>e.path) hp.1 hs);refine ⟨he,n,os,?_⟩;rw [← hd])
theorem mZ (L U:List Mrk) (hU:∀ S:List Mrk,S.Perm L→(S.Pairwise fun a b=>lt b.path a.path=false)→S=U) (hl:L.length≤1000000) :
   Con (E m) 271 1 [.own 0] [(0,.own 197 (L.map Mrk.c))] (.tup []) [(0,.own 197 (U.map Mrk.c))]:=by
 have c1:=uo (m:=m) L U hU hl;refine G0 Tryz.func271 ?_;repeat' first|refine Ra ⟨?_⟩|refine Rk [0] 0 c1 ⟨?_⟩|refine Rd (fun h=>⟨?_⟩) fun h=>⟨?_⟩|refine Rb ⟨?_⟩|fail
 exact Rf
def ix (l:List Mrk) (p:Bs):Bool:=(ag l p).isNone && !bI l p
def onI (l:List Mrk) (t:List Ent):List Ent:=(t.filter fun e=>ix l e.path)++l.filterMap be
theorem Di (l r:List Ent) (q:Bs):ah (l++r) q=(ah l q).or (ah r q):=by simp [ah,zBO]
theorem Ce {l:List Mrk} {t:List Ent} (hl:ax l=true) (ht:af t=true) {S:List Ent} (hp:S.Perm (onI l t)) (hs:S.Pairwise fun a b=>lt b.path a.path=false):S=onL l t:=by
 have h1:=bx hl;have h2:=bh ht;refine yO hp hs ?_ (xd h2) fun q=>?_
 · unfold onI;rw [aq,zAK,List.nodup_append];refine ⟨bG (nC h2 _),lp h1,?_⟩;intro a ha b hb hab;subst hab;obtain ⟨e,he,rfl⟩:=List.mem_map.1 ha;obtain ⟨x,hx,hxe⟩:=List.mem_map.1 hb;obtain ⟨y,hy,hyx⟩:=List.mem_filterMap.1 hx;have h3:=(List.mem_filter.1 he).2;simp only [ix,zAC,Option.isNone_iff_eq_none] at h3;refine (dg.1 h3.1) ?_;rw [← hxe,gi hyx];exact List.mem_map_of_mem hy
 · rw [xe h1 h2];unfold onI lW;rw [Di,nB (ix l),pO h1];unfold ix;cases hm:ag l q with
   | some x=>simp
   | none=>cases hh:bI l q <;> simp
theorem Cf {l:List Mrk} {t:List Ent} (hl:ax l=true) (ht:af t=true):(onI l t).length=(onL l t).length∧(onI l t).length≤48:=by
 have h1:=bx hl;have h2:=bh ht;have e:(onI l t).length≤48:=by
  have a1:=zAV (fun e:Ent=>ix l e.path) t;have a2:=zBQ be l;have a3:=cJ hl;have a4:=az ht;unfold onI;rw [zAL];omega
 exact ⟨(mD (pa:=fun e:Ent=>e.path) (fun S g1 g2=>Ce hl ht g1 g2)).symm,e⟩
theorem filter_step {α:Type} {f:α→Bool} {t:List α} {i:Nat} {x:α} (h:t[i]?=some x):(t.take (i+1)).filter f=(t.take i).filter f++(bif f x then [x] else []):=by
 rw [zAX,h,zAg];cases hf:f x <;> simp [hf]
theorem kf {α β:Type} {f:α→Option β} {t:List α} {i:Nat} {x:α} (h:t[i]?=some x):(t.take (i+1)).filterMap f=(t.take i).filterMap f++(match f x with|some y=>[y]|none=>[]):=by
 rw [zAX,h,List.filterMap_append];cases hf:f x <;> simp [hf]
theorem oO (l:List Mrk) (t:List Ent) (hb:∀ e∈l,e.path.length≤1073741823∧e.data.length≤1073741823) (ht:∀ e∈t,e.path.length≤1073741824∧e.data.length≤1073741824) :
   Con (E m) 229 0 [.sl (l.map Mrk.c),.sl (t.map Ent.c)] [] (.tup [.own 0,.b (aP l t).isSome]) [(0,.own 150 (((aP l t).getD []).map Ent.c))]:=by
 have c1:=kN (m:=m) l hb;have c2:=dX (m:=m) t ht;cases h1:ax l with
 | false=>
   rw [h1] at c1;have hx:aP l t=none:=by simp [aP,h1]
   rw [hx];refine G0 Tryz.func229 ?_;repeat' first|refine Ra ⟨?_⟩|refine R0 c1 ⟨?_⟩|refine Rd (fun h=>⟨?_⟩) fun h=>⟨?_⟩|refine Rb ⟨?_⟩|fail
   exact Rf
 | true=>
   rw [h1] at c1;cases h2:af t with
   | false=>
     rw [h2] at c2;have hx:aP l t=none:=by simp [aP,h2]
     rw [hx];refine G0 Tryz.func229 ?_;repeat' first|refine Ra ⟨?_⟩|refine R0 c1 ⟨?_⟩|refine R0 c2 ⟨?_⟩|refine Rd (fun h=>⟨?_⟩) fun h=>⟨?_⟩|refine Rb ⟨?_⟩|fail
     exact Rf
   | true=>
     rw [h2] at c2;have hlp:=eT h1;have hll:=cJ h1;have htl:=az h2;have e1:(l.map Mrk.c).length=l.length:=zAA ..;have e2:(t.map Ent.c).length=t.length:=zAA ..;obtain ⟨n1,n2⟩:=Cf h1 h2;have hx:aP l t=if (onL l t).length≤16 then some (onL l t) else none:=by simp [aP,h1,h2]
     have c9:=oL (m:=m) (onI l t) (onL l t) (fun S g1 g2=>Ce h1 h2 g1 g2) (by omega);have hfin:onI l t=(t.filter fun e=>ix l e.path)++l.filterMap be:=rfl;generalize hF:(t.filter fun e=>ix l e.path)=F at hfin;have hFl:F.length≤16:=by have:=zAV (fun e:Ent=>ix l e.path) t; rw [← hF]; omega
     refine G0 Tryz.func229 ?_;repeat' first|refine Ra ⟨?_⟩|refine R0 c1 ⟨?_⟩|refine R0 c2 ⟨?_⟩|refine Rd (fun h=>⟨?_⟩) fun h=>⟨?_⟩|refine Rb ⟨?_⟩|fail
     refine Cd.loop2 (fun mq tm S nx=>∃ (i:Nat) (A:List Ent),mq=(t.length - i)∧tm=[(0,.sl (l.map Mrk.c)),(6,.own 0),(21,.sl (t.map Ent.c)),(22,.k .i64 ((t.map Ent.c).length:Int)),(23,.k .i64 i)]∧S=[(0,.own 150 (A.map Ent.c))]∧nx=1∧(i≤t.length)∧(A=(t.take i).filter fun e=>ix l e.path)∧(A.length≤i)) ?_ ?_
     · refine la [0,6,21,22,23] ?_
       conv=>whnf
       refine ⟨rfl,rfl,_,0,[],rfl,rfl,rfl,rfl,by omega,(by simp),by simp⟩
     · rintro mq tm S nx ⟨i,A,hn,rfl,rfl,rfl,hi,hA,hAl⟩;have e3:(A.map Ent.c).length=A.length:=zAA ..;rcases au t i hi with ⟨rfl,hd⟩|⟨x,r,hx',hd,hr,hlt⟩
       · rw [zAN,hF] at hA;subst hA;repeat' first|refine Rx ⟨?_⟩|refine Rd (fun h=>⟨?_⟩) fun h=>⟨?_⟩|fail
         refine Cd.loop2 (fun mq tm S nx=>∃ (j:Nat) (B:List Ent),mq=(l.length - j)∧tm=[(6,.own 0),(48,.sl (l.map Mrk.c)),(49,.k .i64 ((l.map Mrk.c).length:Int)),(50,.k .i64 j)]∧S=[(0,.own 150 (B.map Ent.c))]∧nx=1∧(j≤l.length)∧(B=A++(l.take j).filterMap be)∧(B.length≤16+j)) ?_ ?_
         · refine la [6,48,49,50] ?_
           conv=>whnf
           refine ⟨rfl,rfl,_,0,A,rfl,rfl,rfl,rfl,by omega,(by simp),by omega⟩
         · rintro mq tm S nx ⟨j,B,hn,rfl,rfl,rfl,hj,hB,hBl⟩;have e4:(B.map Ent.c).length=B.length:=zAA ..;rcases au l j hj with ⟨rfl,hd⟩|⟨y,s,hy',hd,hr,hlt⟩
           · rw [zAN,← hfin] at hB;by_cases hn:B.length≤16
             · rw [hx,if_pos (by rw [← n1,← hB]; exact hn)];rw [← hB] at c9;repeat' first|refine Ra ⟨?_⟩|refine Rk [0] 0 c9 ⟨?_⟩|refine Rd (fun h=>⟨?_⟩) fun h=>⟨?_⟩|refine Rb ⟨?_⟩|fail
               exact Rf
             · rw [hx,if_neg (by rw [← n1,← hB]; exact hn)];repeat' first|refine Rx ⟨?_⟩|refine Rd (fun h=>⟨?_⟩) fun h=>⟨?_⟩|fail
               exact Rf
           · have g1:=kf (f:=be) hy';have c5:=sL (m:=m) y;by_cases h3:y.kind=3
             · have g2:be y=none:=by rw [be,if_pos h3]
               rw [g2,List.append_nil] at g1;repeat' first|refine Rx ⟨?_⟩|refine Rd (fun h=>⟨?_⟩) fun h=>⟨?_⟩|fail
               refine .here ⟨mq - 1,by omega,?_⟩;refine la [6,48,49,50] ?_
               conv=>whnf
               refine ⟨rfl,rfl,j+1,B,(by omega),rfl,rfl,rfl,by omega,(by rw [hB,g1]),by omega⟩
             · have g2:be y=some ⟨y.path,cN y,y.data⟩:=by rw [be,if_neg h3]
               rw [g2] at g1;repeat' first|refine Ra ⟨?_⟩|refine R0 c5 ⟨?_⟩|refine Rd (fun h=>⟨?_⟩) fun h=>⟨?_⟩|refine Rb ⟨?_⟩|fail
               refine .here ⟨mq - 1,by omega,?_⟩;refine la [6,48,49,50] ?_
               conv=>whnf
               refine ⟨rfl,rfl,j+1,B++[⟨y.path,cN y,y.data⟩],(by omega),rfl,?_,rfl,by omega,(by rw [hB,g1,zAi]),(by simp; omega)⟩;rw [zAK];rfl
       · have g1:=filter_step (f:=fun e:Ent=>ix l e.path) hx';have hxp:=(fy h2 (zAD hx')).2.1;have hxl:=(aC hxp).2;have c3:=hY (m:=m) l x.path (by omega);have c4:=s7 (m:=m) l x.path (by omega) (by omega) (fun y hy=>(hb y hy).1);rw [vR hlp hxp] at c4;cases hm:ag l x.path with
         | some y=>
           rw [hm] at c3;have kx:ix l x.path=false:=by simp [ix,hm]
           simp only [kx,cond_false,List.append_nil] at g1;repeat' first|refine Ra ⟨?_⟩|refine R0 c3 ⟨?_⟩|refine Rd (fun h=>⟨?_⟩) fun h=>⟨?_⟩|refine Rb ⟨?_⟩|fail
           refine .here ⟨mq - 1,by omega,?_⟩;refine la [0,6,21,22,23] ?_
           conv=>whnf
           refine ⟨rfl,rfl,i+1,A,(by omega),rfl,rfl,rfl,by omega,(by rw [hA,g1]),by omega⟩
         | none=>
           rw [hm] at c3;cases hh:bI l x.path with
           | true=>
             rw [hh] at c4;have kx:ix l x.path=false:=by simp [ix,hm,hh]
             simp only [kx,cond_false,List.append_nil] at g1;repeat' first|refine Ra ⟨?_⟩|refine R0 c3 ⟨?_⟩|refine R0 c4 ⟨?_⟩|refine Rd (fun h=>⟨?_⟩) fun h=>⟨?_⟩|refine Rb ⟨?_⟩|fail
             refine .here ⟨mq - 1,by omega,?_⟩;refine la [0,6,21,22,23] ?_
             conv=>whnf
             refine ⟨rfl,rfl,i+1,A,(by omega),rfl,rfl,rfl,by omega,(by rw [hA,g1]),by omega⟩
           | false=>
             rw [hh] at c4;have kx:ix l x.path=true:=by simp [ix,hm,hh]
             simp only [kx,cond_true] at g1;repeat' first|refine Ra ⟨?_⟩|refine R0 c3 ⟨?_⟩|refine R0 c4 ⟨?_⟩|refine Rd (fun h=>⟨?_⟩) fun h=>⟨?_⟩|refine Rb ⟨?_⟩|fail
             refine .here ⟨mq - 1,by omega,?_⟩;refine la [0,6,21,22,23] ?_
             conv=>whnf
             refine ⟨rfl,rfl,i+1,A++[x],(by omega),rfl,?_,rfl,by omega,(by rw [hA,g1]),(by simp; omega)⟩;rw [zAK];rfl
theorem lX (a b:List Ent) (ha:af a=true) (hb:af b=true) :
   Con (E m) 231 0 [.sl (a.map Ent.c),.sl (b.map Ent.c)] [] (.own 0) [(0,.own 197 ((dB a b).map Mrk.c))]:=by
 have c1:=qL (m:=m) a b (bE0 ha) (bE0 hb);have hbl:=az hb;have hWl:=fJ a b;have hW:=fun p (hp:p∈aS a b)=>iK ha hb hp;have hne:=fun p (hp:p∈aS a b)=>(fI ha hb).1 hp;have hD0:fA a b=(aS a b).filterMap (cn a b):=rfl;have hBl:=Dh (a:=a) (b:=b);have hinv:=pT ha hb;have hstep:=fun (i:Nat) (x:Mrk) (h:(fA a b)[i]?=some x)=>s6 h;have hU0:iw a b 0=fA a b:=by simp [iw]
 have hBp:∀ x∈fA a b,ac x.path=true:=fun x hx=>by
  obtain ⟨p,hp,hpx⟩:=List.mem_filterMap.1 (hD0 ▸ hx);rw [(fK hpx).1];exact hW p hp
 have c9:∀ L,L=iw a b (fA a b).length→L.length≤1000000→Con (E m) 271 1 [.own 0] [(0,.own 197 (L.map Mrk.c))] (.tup []) [(0,.own 197 ((dB a b).map Mrk.c))]:=fun L hL hl=>by
  subst hL;exact mZ (m:=m) _ _ (fun S g1 g2=>EZ ha hb g1 g2) hl
 generalize dB a b=R at c9;generalize iw a b=U at hinv hstep hU0 c9;generalize fA a b=D at hD0 hBl hinv hstep hU0 c9 hBp;generalize aS a b=W at c1 hWl hW hne hD0;have e1:(strs W).length=W.length:=zAA ..;refine G0 Tryz.func231 ?_;repeat' first|refine Ra ⟨?_⟩|refine Rk [] 1 c1 ⟨?_⟩|refine Rd (fun h=>⟨?_⟩) fun h=>⟨?_⟩|refine Rb ⟨?_⟩|fail
 refine Cd.loop2 (fun mq tm S nx=>∃ (i:Nat) (A:List Mrk),mq=(W.length - i)∧tm=[(1,.sl (b.map Ent.c)),(5,.own 0),(16,.sl (strs W)),(17,.k .i64 ((strs W).length:Int)),(18,.k .i64 i)]∧S=[(0,.own 197 (A.map Mrk.c))]∧nx=1∧(i≤W.length)∧(A=(W.take i).filterMap (cn a b))∧(A.length≤i)) ?_ ?_
 · refine li [16] [1,5,16,17,18] ?_
   conv=>whnf
   refine ⟨rfl,rfl,_,0,[],rfl,rfl,rfl,rfl,by omega,(by simp),by simp⟩
 · rintro mq tm S nx ⟨i,A,hn,rfl,rfl,rfl,hi,hA,hAl⟩;have e2:(A.map Mrk.c).length=A.length:=zAA ..;rcases au W i hi with ⟨rfl,hd⟩|⟨p,r,hp',hd,hr,hlt⟩
   · rw [zAN,← hD0] at hA;subst hA;have e3:(A.map Mrk.c).length=A.length:=zAA ..;repeat' first|refine Rx ⟨?_⟩|refine Rd (fun h=>⟨?_⟩) fun h=>⟨?_⟩|fail
     refine Cd.loop2 (fun mq tm S nx=>∃ (j:Nat) (C:List Mrk),mq=(A.length - j)∧tm=[(5,.own 0),(60,.k .i64 ((A.map Mrk.c).length:Int)),(61,.k .i64 j)]∧S=[(0,.own 197 (C.map Mrk.c))]∧nx=1∧(j≤A.length)∧(C=U j)) ?_ ?_
     · refine la [5,60,61] ?_
       conv=>whnf
       refine ⟨rfl,rfl,_,0,A,rfl,rfl,rfl,rfl,by omega,hU0.symm⟩
     · rintro mq tm S nx ⟨j,C,hn,rfl,rfl,rfl,hj,hC⟩;have e4:(C.map Mrk.c).length=C.length:=zAA ..;obtain ⟨i1,⟨X,i2,i3⟩,_⟩:=hinv j hj;rw [← hC] at i2;have hUl:C.length≤32+12 * j:=by rw [i2,zAL]; omega
       by_cases hlt:j < A.length
       · have r1:A[j]?=some A[j]:=zAB hlt;have r2:=hBp _ (zAb hlt);have r3:=hstep j _ r1;have r4:C[j]?=some A[j]:=by rw [i2,zAT hlt]; exact r1
         generalize A[j]=x at r1 r2 r3 r4;have hxl:=(aC r2).2;have c5:=oD (m:=m) x.path (by omega);obtain ⟨mo,hmo⟩:∃ mo,mo=mq:=⟨_,rfl⟩;subst hmo;have hno:=hn;have hAC:A.length≤C.length:=by rw [i2,zAL]; omega
         have hjC:j < (C.map Mrk.c).length:=by omega
         repeat' first|refine Ra ⟨?_⟩|refine R0 c5 ⟨?_⟩|(refine ⟨hjC,?_⟩ <;> conv=>whnf)|refine Rd (fun h=>⟨?_⟩) fun h=>⟨?_⟩|refine Rb ⟨?_⟩|fail
         refine Cd.loop2 (fun mq tm S nx=>∃ (n:Nat) (p:Bs) (B:List Mrk),mq=(n)∧tm=[(5,.own 0),(11,.s (ae p)),(60,.k .i64 ((A.map Mrk.c).length:Int)),(61,.k .i64 j)]∧S=[(0,.own 197 (B.map Mrk.c))]∧nx=1∧(ac p=true)∧(p.length≤n)∧(un n B p=U (j+1))∧(B.length+n≤44+12 * j)) ?_ ?_
         · refine la [5,11,60,61] ?_
           conv=>whnf
           refine ⟨rfl,rfl,_,12,x.path,C,rfl,rfl,rfl,rfl,r2,by omega,(by rw [hC]; exact r3.symm),by omega⟩
         · rintro mq tm S nx ⟨n,p,B,hn,rfl,rfl,rfl,hpk,hpn,hB,hBl⟩;have e5:(B.map Mrk.c).length=B.length:=zAA ..;have hpl:=(aC hpk).2;have hpp:=(aC hpk).1;obtain ⟨n',rfl⟩:∃ n',n=n'+1:=⟨n - 1,by omega⟩;by_cases hr:ae p≠[47]
           · rw [un,if_neg hr] at hB;obtain ⟨u1,u2⟩:=ic hpk hr;have u3:=j7 u1 u2;have u4:=(aC u1).2;have c6:=hY (m:=m) B (ae p) (by omega);have c7:=oD (m:=m) (ae p) (by omega);cases hm:ag B (ae p) with
             | some y=>
               rw [hm] at c6 hB;simp only [Option.isNone_some,zAE,if_false] at hB;rw [show GX (some y)=D.tup [.agg [.s y.path,.k .i64 y.kind,.s y.data],.b true] from rfl] at c6
               repeat' first|refine Ra ⟨?_⟩|(refine ⟨[],_,_,_,_,0,⟨rfl,rfl,rfl,c6,rfl,rfl⟩,.inl ⟨[],trivial,rfl,.inl ⟨by simp [bb,ba,aj],by simp [bg,bc,aj,Ent.c,Mrk.c,Opn.c]⟩,?_⟩⟩ <;> conv=>whnf)|refine R0 c7 ⟨?_⟩|refine Rd (fun h=>⟨?_⟩) fun h=>⟨?_⟩|refine Rb ⟨?_⟩|fail
               refine .here ⟨mq - 1,by omega,?_⟩;refine la [5,11,60,61] ?_
               conv=>whnf
               refine ⟨rfl,rfl,n',ae p,B,(by omega),rfl,rfl,rfl,u1,by omega,hB,by omega⟩
             | none=>
               rw [hm] at c6 hB;simp only [Option.isNone_none,if_true] at hB;rw [show GX none=D.tup [.agg [.s [],.k .i64 0,.s []],.b false] from rfl] at c6
               repeat' first|refine Ra ⟨?_⟩|(refine ⟨[],_,_,_,_,0,⟨rfl,rfl,rfl,c6,rfl,rfl⟩,.inl ⟨[],trivial,rfl,.inl ⟨by simp [bb,ba,aj],by simp [bg,bc,aj,Ent.c,Mrk.c,Opn.c]⟩,?_⟩⟩ <;> conv=>whnf)|refine R0 c7 ⟨?_⟩|refine Rd (fun h=>⟨?_⟩) fun h=>⟨?_⟩|refine Rb ⟨?_⟩|fail
               refine .here ⟨mq - 1,by omega,?_⟩;refine la [5,11,60,61] ?_
               conv=>whnf
               refine ⟨rfl,rfl,n',ae p,B++[⟨ae p,2,[]⟩],(by omega),rfl,?_,rfl,u1,by omega,hB,(by simp; omega)⟩;rw [zAK];rfl
           · have hr:=Decidable.not_not.1 hr;have hs:B=U (j+1):=by rw [← hB,un,if_pos hr]
             rw [hr];repeat' first|refine Rx ⟨?_⟩|refine Rd (fun h=>⟨?_⟩) fun h=>⟨?_⟩|fail
             refine .here ⟨mo - 1,by omega,?_⟩;refine la [5,60,61] ?_
             conv=>whnf
             refine ⟨rfl,rfl,j+1,B,(by omega),rfl,rfl,rfl,by omega,hs⟩
       · obtain rfl:j=A.length:=by omega
         have c9':=c9 C hC (by omega);repeat' first|refine Ra ⟨?_⟩|refine Rk [0] 0 c9' ⟨?_⟩|refine Rd (fun h=>⟨?_⟩) fun h=>⟨?_⟩|refine Rb ⟨?_⟩|fail
         exact Rf
   · have g1:=kf (f:=cn a b) hp';have hpk:=hW p (zAD hp');have hpn:=hne p (zAD hp');have hpl:=(aC hpk).2;have c3:=iC (m:=m) b p (by omega);have c4:=hO (m:=m) b p (by omega) (by omega);cases he:ah b p with
     | some e=>
       rw [he] at c3;cases hd:e.dir with
       | true=>
         have kx:cn a b p=some ⟨p,2,[]⟩:=by rw [cn,if_neg hpn,he]; simp [hd]
         rw [kx] at g1;repeat' first|refine Ra ⟨?_⟩|refine R0 c3 ⟨?_⟩|refine Rd (fun h=>⟨?_⟩) fun h=>⟨?_⟩|refine Rb ⟨?_⟩|fail
         refine .here ⟨mq - 1,by omega,?_⟩;refine la [1,5,16,17,18] ?_
         conv=>whnf
         refine ⟨rfl,rfl,i+1,A++[⟨p,2,[]⟩],(by omega),rfl,?_,rfl,by omega,(by rw [hA,g1]),(by simp; omega)⟩;rw [zAK];rfl
       | false=>
         have kx:cn a b p=some ⟨p,1,e.data⟩:=by rw [cn,if_neg hpn,he]; simp [hd]
         rw [kx] at g1;repeat' first|refine Ra ⟨?_⟩|refine R0 c3 ⟨?_⟩|refine Rd (fun h=>⟨?_⟩) fun h=>⟨?_⟩|refine Rb ⟨?_⟩|fail
         refine .here ⟨mq - 1,by omega,?_⟩;refine la [1,5,16,17,18] ?_
         conv=>whnf
         refine ⟨rfl,rfl,i+1,A++[⟨p,1,e.data⟩],(by omega),rfl,?_,rfl,by omega,(by rw [hA,g1]),(by simp; omega)⟩;rw [zAK];rfl
     | none=>
       rw [he] at c3;by_cases hu:aY b p=0
       · have kx:cn a b p=some ⟨p,3,[]⟩:=by rw [cn,if_neg hpn,he]; simp [hu]
         rw [kx] at g1;rw [hu] at c4;repeat' first|refine Ra ⟨?_⟩|refine R0 c3 ⟨?_⟩|refine R0 c4 ⟨?_⟩|refine Rd (fun h=>⟨?_⟩) fun h=>⟨?_⟩|refine Rb ⟨?_⟩|fail
         refine .here ⟨mq - 1,by omega,?_⟩;refine la [1,5,16,17,18] ?_
         conv=>whnf
         refine ⟨rfl,rfl,i+1,A++[⟨p,3,[]⟩],(by omega),rfl,?_,rfl,by omega,(by rw [hA,g1]),(by simp; omega)⟩;rw [zAK];rfl
       · have kx:cn a b p=none:=by rw [cn,if_neg hpn,he]; simp [hu]
         rw [kx,List.append_nil] at g1;repeat' first|refine Ra ⟨?_⟩|refine R0 c3 ⟨?_⟩|refine R0 c4 ⟨?_⟩|refine Rd (fun h=>⟨?_⟩) fun h=>⟨?_⟩|refine Rb ⟨?_⟩|fail
         refine .here ⟨mq - 1,by omega,?_⟩;refine la [1,5,16,17,18] ?_
         conv=>whnf
         refine ⟨rfl,rfl,i+1,A,(by omega),rfl,rfl,rfl,by omega,(by rw [hA,g1]),by omega⟩
end Go.Proofs.YtlicaibhgcenhaaGreatDoor
namespace Go.Par
open Go.Ab
theorem kR {l:List Mrk} (hn:(ay l).Nodup) {p:Bs}:bare l p=true↔∃ q m,ag l q=some m∧m.kind=4∧under p q=true:=by
 unfold bare;rw [zAp];constructor
 · rintro ⟨m,hm,h⟩;simp only [zAC,decide_eq_true_eq] at h;exact ⟨m.path,m,(nz hn).2 ⟨hm,rfl⟩,h.1,h.2⟩
 · rintro ⟨q,m,h1,h2,h3⟩;obtain ⟨h4,rfl⟩:=bO h1;exact ⟨m,h4,by simp [h2,h3]⟩
theorem qN (f:Bs→Bool) (q:Bs):∀ t:List Mrk,ag (t.filter fun e=>f e.path) q=if f q=true then ag t q else none
 | []=>by simp [ag]
 | e :: t=>by
   have ih:=qN f q t;rw [List.filter_cons];by_cases hq:e.path=q
   · subst hq;by_cases hf:f e.path=true
     · rw [if_pos hf,if_pos hf,aE,aE,if_pos rfl,if_pos rfl]
     · rw [if_neg hf,if_neg hf,ih,if_neg hf]
   · by_cases hf:f e.path=true
     · rw [if_pos hf,aE,if_neg hq,ih,aE,if_neg hq]
     · rw [if_neg hf,ih,aE,if_neg hq]
theorem yZ {f:Mrk→Mrk} (h:∀ m,(f m).path=m.path) (q:Bs):∀ t:List Mrk,ag (t.map f) q=(ag t q).map f
 | []=>rfl
 | m :: t=>by
   have ih:=yZ h q t;rw [List.map_cons,aE,aE,ih,h];by_cases hq:m.path=q
   · rw [if_pos hq,if_pos hq]; rfl
   · rw [if_neg hq,if_neg hq]
theorem pU {f:Mrk→Option Mrk} (h:∀ m e,f m=some e→e.path=m.path) (q:Bs):∀ {t:List Mrk},(ay t).Nodup→ag (t.filterMap f) q=(ag t q).bind f
 | [],_=>rfl
 | m :: t,hn=>by
   have hn2:=List.nodup_cons.1 hn;have ih:=pU h q (t:=t) hn2.2;rw [List.filterMap_cons,aE];by_cases hq:m.path=q
   · rw [if_pos hq,Option.bind_some];cases hm:f m with
     | none=>
       simp only;rw [ih,dg.2 (by rw [← hq]; exact hn2.1)];rfl
     | some e=>
       simp only;rw [aE,if_pos (by rw [h m e hm]; exact hq)]
   · rw [if_neg hq];cases hm:f m with
     | none=>exact ih
     | some e=>
       simp only;rw [aE,if_neg (by rw [h m e hm]; exact hq)];exact ih
theorem s8 {f:Mrk→Option Mrk} (h:∀ m e,f m=some e→e.path=m.path):∀ {t:List Mrk} {q:Bs},q∈ay (t.filterMap f)→q∈ay t:=by
 intro t q hq;obtain ⟨x,hx,rfl⟩:=List.mem_map.1 hq;obtain ⟨y,hy,h2⟩:=List.mem_filterMap.1 hx;rw [h y x h2];exact List.mem_map.2 ⟨y,hy,rfl⟩
theorem qO {f:Mrk→Option Mrk} (h:∀ m e,f m=some e→e.path=m.path):∀ {t:List Mrk},al (ay t)→al (ay (t.filterMap f))
 | [],_=>List.Pairwise.nil
 | m :: t,hs=>by
   have ih:=qO h (t:=t) (aD hs);rw [List.filterMap_cons];cases hm:f m with
   | none=>exact ih
   | some e=>
     simp only;refine List.pairwise_cons.2 ⟨fun b hb=>?_,ih⟩;show lt e.path b=true
     rw [h m e hm];exact aM hs b (s8 h hb)
theorem s9 {f:Mrk→Option Mrk} (h:∀ m e,f m=some e→e.path=m.path):∀ {t:List Mrk},(ay t).Nodup→(ay (t.filterMap f)).Nodup
 | [],_=>by simp
 | m :: t,hn=>by
   have hn2:=List.nodup_cons.1 hn;have ih:=s9 h (t:=t) hn2.2;rw [List.filterMap_cons];cases hm:f m with
   | none=>exact ih
   | some e=>
     simp only;refine List.nodup_cons.2 ⟨fun hb=>?_,ih⟩;have hb':m.path∈ay (t.filterMap f):=by rw [← h m e hm]; exact hb
     exact hn2.1 (s8 h hb')
def cG (t:List Mrk) (es:List Mrk):List Mrk:=es.foldl cX t
theorem gk:∀ {es t:List Mrk},al (ay t)→al (ay (cG t es))
 | [],t,h=>h
 | e :: es,t,h=>gk (es:=es) (jr h e)
theorem nE:∀ {L X:List Mrk},al (ay X)→(ay L).Nodup→∀ q,ag (cG X L) q=(ag L q).or (ag X q)
 | [],X,_,_,q=>by simp [cG,ag]
 | e :: r,X,hs,hn,q=>by
   have hn2:=List.nodup_cons.1 hn;have ih:=nE (L:=r) (jr hs e) hn2.2 q
   have:cG X (e :: r)=cG (cX X e) r:=rfl
   rw [this,ih,xb hs,aE];by_cases he:e.path=q
   · rw [if_pos he,if_pos he]
     have:ag r q=none:=dg.2 (by rw [← he]; exact hn2.1)
     rw [this];rfl
   · rw [if_neg he,if_neg he]
theorem lY:∀ (es t:List Mrk),(cG t es).length≤t.length+es.length
 | [],t=>by simp [cG]
 | e :: es,t=>by
   have h:=lY es (cX t e);have h2:=(iX t e).2;show (cG (cX t e) es).length≤_
   simp
   omega
theorem oP (t es:List Mrk) (e:Mrk):cG t (es++[e])=cX (cG t es) e:=by simp [cG]
theorem mE {l:List Mrk} (h:ax l=true) {q:Bs}:bZ l q=0↔ag l q=none:=by
 unfold bZ;cases hm:ag l q with
 | none=>simp
 | some m=>
   have:=(de (js h hm).1).1
   simp only [reduceCtorEq,iff_false];omega
def eJ (ka kb:Int):Int:=if ka=2∧kb≠0∧kb≠2 then 4 else ka
def onK (b:List Mrk) (m:Mrk):Mrk:=⟨m.path,eJ m.kind (bZ b m.path),m.data⟩
def dC (a:List Mrk) (p:Bs):Bool:=(ag a p).isNone && !bI a p
def gm (a b:List Mrk):List Mrk:=(b.filter fun m=>dC a m.path)++a.map (onK b)
def eK (a b:List Mrk):List Mrk:=cG (cG [] (b.filter fun m=>dC a m.path)) (a.map (onK b))
def dY (a b:List Mrk) (q:Bs):Option Mrk:=match ag a q with
 | some m=>some (onK b m)
 | none=>if bI a q then none else ag b q
theorem pV (a b:List Mrk):ay (a.map (onK b))=ay a:=by
 rw [ay,ay,zBi];rfl
theorem oQ {t:List Mrk} (h:al (ay t)) (f:Mrk→Bool):(ay (t.filter f)).Nodup:=by
 refine bG ?_;unfold al ay at h ⊢;rw [zBE] at h ⊢;exact h.filter _
theorem E1 {a b:List Mrk} (q:Bs):(ag (a.map (onK b)) q).or (ag (b.filter fun m=>dC a m.path) q)=dY a b q∧(ag (b.filter fun m=>dC a m.path) q).or (ag (a.map (onK b)) q)=dY a b q:=by
 rw [qN (dC a),yZ (f:=onK b) (fun _=>rfl)];unfold dY dC;cases hm:ag a q with
 | some m=>simp
 | none=>cases bI a q <;> simp
theorem oR {a b:List Mrk} (q:Bs):ag (gm a b) q=dY a b q:=by
 unfold gm
 have:∀ l r:List Mrk,ag (l++r) q=(ag l q).or (ag r q):=fun l r=>by simp [ag,zBO]
 rw [this];exact (E1 q).2
theorem lZ {a b:List Mrk} (ha:al (ay a)) (hb:al (ay b)):(ay (gm a b)).Nodup:=by
 unfold gm;rw [ay,zAK,List.nodup_append];refine ⟨oQ hb _,by rw [← ay,pV]; exact bG ha,?_⟩;intro x hx y hy hxy;obtain ⟨m,hm,rfl⟩:=List.mem_map.1 hx;have hk:=(List.mem_filter.1 hm).2;have h1:y∈ay a:=by rw [← pV a b]; exact hy
 rw [← hxy] at h1;obtain ⟨e,he⟩:=sQ h1;unfold dC at hk;rw [he] at hk;simp at hk
theorem dI {a b:List Mrk}:al (ay (eK a b)):=gk (gk List.Pairwise.nil)
theorem ja {a b:List Mrk} (ha:al (ay a)) (hb:al (ay b)) (q:Bs):ag (eK a b) q=dY a b q:=by
 unfold eK;have h0:al (ay ([]:List Mrk)):=List.Pairwise.nil;rw [nE (gk h0) (by rw [pV]; exact bG ha),nE h0 (oQ hb _)];rw [show ag ([]:List Mrk) q=none from rfl,Option.or_none]
 exact (E1 q).1
def cl (B:Bs→Bool) (m:Mrk):Option Mrk:=if B m.path=true then (if m.kind=3 then none else if m.kind=4 then some ⟨m.path,2,m.data⟩ else some m) else some m
theorem jb {B:Bs→Bool} (m e:Mrk) (h:cl B m=some e):e.path=m.path:=by
 unfold cl at h;split at h
 · split at h
   · cases h
   · split at h <;> cases h <;> rfl
 · cases h; rfl
def dZ (a b:List Mrk):List Mrk:=(eK a b).filterMap (cl (bare (eK a b)))
def ta (a b:List Mrk):List Mrk:=(gm a b).filterMap (cl (bare (gm a b)))
def bD (a b:List Mrk):Option (List Mrk):=if ax a=true∧ax b=true∧(dZ a b).length≤32 then some (dZ a b) else none
theorem Dj {a b:List Mrk} (ha:al (ay a)) (hb:al (ay b)):bare (gm a b)=bare (eK a b):=by
 funext p
 rw [zAI,kR (lZ ha hb),kR (bG dI)];simp only [oR,ja ha hb]
theorem fc {a b:List Mrk}:al (ay (dZ a b)):=qO jb dI
theorem gn {a b:List Mrk} (ha:al (ay a)) (hb:al (ay b)) (q:Bs):ag (dZ a b) q=(dY a b q).bind (cl (bare (eK a b))):=by
 unfold dZ;rw [pU jb q (bG dI),ja ha hb]
theorem join_one {a b:List Mrk} (ha:al (ay a)) (hb:al (ay b)) {S:List Mrk} (hp:S.Perm (ta a b)) (hs:S.Pairwise fun a b=>lt b.path a.path=false):S=dZ a b:=by
 refine vF hp hs (s9 jb (lZ ha hb)) fc fun q=>?_;rw [gn ha hb];unfold ta;rw [pU jb q (lZ ha hb),oR,Dj ha hb]
theorem tb {J:List Mrk} (hn:(ay J).Nodup) (hok:∀ q m,ag J q=some m→ac q=true):∀ (n:Nat) {p q:Bs} {m:Mrk},q.length≤n→ag J q=some m→m.kind=4→under p q=true→∃ q m,ag J q=some m∧m.kind=4∧under p q=true∧bare J q=false
 | 0,p,q,m,hl,h1,_,_=>by
   have:=(aC (hok q m h1)).1
   omega
 | n+1,p,q,m,hl,h1,h2,h3=>by
   cases hb:bare J q with
   | false=>exact ⟨q,m,h1,h2,h3,hb⟩
   | true=>
     obtain ⟨z,x,g1,g2,g3⟩:=(kR hn).1 hb;have hz:=hok z x g1
     have:=j7 hz g3
     exact tb hn hok n (by omega) g1 g2 (jq (hok q m h1) hz h3 (.inr g3))
theorem AV {J:List Mrk} (hs:al (ay J)) (hok:∀ m∈J,ac m.path=true) {i:Nat} {x:Mrk} (hx:J[i]?=some x):bare ((J.take i).filterMap (cl (bare J))) x.path=bare J x.path:=by
 have hok':∀ q m,ag J q=some m→ac q=true:=fun q m h=>by
  obtain ⟨h1,rfl⟩:=bO h;exact hok m h1
 rw [zAI];constructor
 · intro h;unfold bare at h ⊢;rw [zAp] at h ⊢;obtain ⟨y,hy,h1⟩:=h;simp only [zAC,decide_eq_true_eq] at h1;obtain ⟨z,hz,h2⟩:=List.mem_filterMap.1 hy;have hzy:z=y:=by
    unfold cl at h2;split at h2
    · split at h2
      · cases h2
      · split at h2
        · cases h2;simp at h1
        · cases h2; rfl
    · cases h2; rfl
   subst hzy;exact ⟨z,zAy hz,by simp [h1.1,h1.2]⟩
 · intro h;obtain ⟨q,m,h1,h2,h3⟩:=(kR (bG hs)).1 h;obtain ⟨q,m,h1,h2,h3,h4⟩:=tb (bG hs) hok' q.length (zAM _) h1 h2 h3;obtain ⟨h5,rfl⟩:=bO h1;obtain ⟨j,hj⟩:=List.mem_iff_getElem?.1 h5;have hlt:lt m.path x.path=true:=sC h3 (aW (hok m h5));have hji:j < i:=jj hs (i:=j) (j:=i) (a:=m.path) (b:=x.path) (by rw [zAQ,hj]; rfl) (by rw [zAQ,hx]; rfl) hlt;have ht:cl (bare J) m=some m:=by
    unfold cl;rw [if_neg (by rw [h4]; simp)]
   exact zAp.2 ⟨m,List.mem_filterMap.2 ⟨m,zAD (i:=j) (by rw [List.getElem?_take_of_lt hji]; exact hj),ht⟩,by simp [h2,h3]⟩
theorem E2 {x:Mrk} (B:Bs→Bool) (hd:cN x=true):∃ y,cl B x=some y∧cN y=true:=by
 have h3:x.kind≠3:=by rcases i6.1 hd with h|h <;> omega
 unfold cl;by_cases h1:B x.path=true
 · rw [if_pos h1,if_neg h3];by_cases h4:x.kind=4
   · rw [if_pos h4]; exact ⟨_,rfl,rfl⟩
   · rw [if_neg h4]; exact ⟨_,rfl,hd⟩
 · rw [if_neg h1]; exact ⟨_,rfl,hd⟩
section
variable {a b:List Mrk} (ha:ax a=true) (hb:ax b=true)
include ha hb
theorem kh {q:Bs} {x:Mrk} (h:dY a b q=some x):ac q=true∧ci x=true∧x.path=q:=by
 unfold dY at h;cases hm:ag a q with
 | some m=>
   rw [hm] at h;cases h;obtain ⟨h1,h2,h3,_⟩:=js ha hm;obtain ⟨k1,k2,k3,k4⟩:=de h1;refine ⟨h3,?_,h2⟩;unfold onK eJ;split
   · rename_i hc;exact j8 (by simp) k2 k3 fun _=>k4 (by omega)
   · exact h1
 | none=>
   rw [hm] at h;simp only at h;split at h
   · cases h
   · obtain ⟨h1,h2,h3,_⟩:=js hb h;exact ⟨h3,h1,h2⟩
theorem E3 {p:Bs} (h:bare (eK a b) p=true):∃ q m,ag (dZ a b) q=some m∧m.kind=4∧under p q=true:=by
 have hsa:=bx ha;have hsb:=bx hb;have hn:=bG (dI (a:=a) (b:=b));have hok:∀ q m,ag (eK a b) q=some m→ac q=true:=fun q m hm=>by
  rw [ja hsa hsb] at hm;exact (kh ha hb hm).1
 obtain ⟨q,m,h1,h2,h3⟩:=(kR hn).1 h;obtain ⟨q,m,h1,h2,h3,h4⟩:=tb hn hok q.length (zAM _) h1 h2 h3;refine ⟨q,m,?_,h2,h3⟩;rw [gn hsa hsb,← ja hsa hsb,h1,Option.bind_some,cl];obtain ⟨_,rfl⟩:=bO h1;rw [h4]
 simp
theorem jG {p q:Bs} {x:Mrk} (hx:dY a b q=some x) (hk:x.kind≠2) (hi:inP p q=true):bI (dZ a b) p=true:=by
 have hsa:=bx ha;have hsb:=bx hb;obtain ⟨hq,hm,hp⟩:=kh ha hb hx;rw [cO fc];cases hB:bare (eK a b) q with
 | false=>
   refine ⟨q,x,?_,hk,hi⟩;rw [gn hsa hsb,hx,Option.bind_some,cl,hp,hB]
   simp
 | true=>
   obtain ⟨z,m,h1,h2,h3⟩:=E3 ha hb hB;have hz:ac z=true:=by
    rw [gn hsa hsb] at h1;cases hr:dY a b z with
    | none=>rw [hr] at h1; cases h1
    | some y=>exact (kh ha hb hr).1
   refine ⟨z,m,h1,by omega,bY.2 (.inr ?_)⟩;rcases bY.1 hi with rfl|h
   · exact h3
   · exact jq hq hz h (.inr h3)
theorem AX (p:Bs):bI (dZ a b) p=(bI a p || bI b p):=by
 have hsa:=bx ha;have hsb:=bx hb;rw [zAI,zAe];constructor
 · intro h;obtain ⟨q,m,h1,h2,h3⟩:=(cO fc).1 h;rw [gn hsa hsb] at h1;cases hr:dY a b q with
   | none=>rw [hr] at h1; cases h1
   | some x=>
     rw [hr,Option.bind_some] at h1;have hk:x.kind≠2:=by
      unfold cl at h1;split at h1
      · split at h1
        · cases h1
        · split at h1
          · cases h1; simp at h2
          · cases h1; exact h2
      · cases h1; exact h2
     unfold dY at hr;cases hm:ag a q with
     | some y=>
       rw [hm] at hr;cases hr;by_cases hy:y.kind=2
       · right;rw [cO hsb];have hyp:=(bO hm).2;have hkb:bZ b q≠0∧bZ b q≠2:=by
          apply Decidable.byContradiction;intro hc;apply hk;unfold onK eJ;simp only;rw [hyp,if_neg fun h=>hc h.2,hy]
         cases hmb:ag b q with
         | none=>exact absurd ((mE hb).2 hmb) hkb.1
         | some z=>
           have:bZ b q=z.kind:=by rw [bZ,hmb]
           exact ⟨q,z,hmb,by rw [← this]; exact hkb.2,h3⟩
       · left;rw [cO hsa];exact ⟨q,y,hm,hy,h3⟩
     | none=>
       rw [hm] at hr;simp only at hr;split at hr
       · cases hr
       · right;rw [cO hsb];exact ⟨q,x,hr,hk,h3⟩
 · intro h;have hA:bI a p=true→bI (dZ a b) p=true:=by
    intro h;obtain ⟨q,m,h1,h2,h3⟩:=(cO hsa).1 h;refine jG ha hb (q:=q) (x:=onK b m) (by rw [dY,h1]) ?_ h3;unfold onK eJ;simp only;rw [if_neg fun h=>h2 h.1];exact h2
   by_cases hh:bI a p=true
   · exact hA hh
   · have h:=h.resolve_left hh;obtain ⟨q,m,h1,h2,h3⟩:=(cO hsb).1 h;have hq:=(js hb h1).2.2.1;cases hm:ag a q with
     | some y=>
       have hy:y.kind=2:=by
        apply Decidable.byContradiction;intro hy;exact hh ((cO hsa).2 ⟨q,y,hm,hy,h3⟩)
       refine jG ha hb (q:=q) (x:=onK b y) (by rw [dY,hm]) ?_ h3;have hyp:=(bO hm).2;have hkb:bZ b q=m.kind:=by rw [bZ,h1]
       have hk0:bZ b q≠0:=fun h=>by
        rw [(mE hb).1 h] at h1;cases h1
       unfold onK eJ;simp only;rw [hyp,if_pos ⟨hy,hk0,by rw [hkb]; exact h2⟩];decide
     | none=>
       have hna:bI a q=false:=by
        rw [← zAa];intro h4;apply hh;rcases bY.1 h3 with h5|h5
        · rw [h5]; exact h4
        · exact nA ha hq h5 h4
       refine jG ha hb (q:=q) (x:=m) (by rw [dY,hm]; simp [hna,h1]) h2 h3
theorem F2 (t:List Ent) (p:Bs):lW (dZ a b) t p=match ag a p with
   | some m=>be m
   | none=>if bI a p then none else lW b t p:=by
 have hsa:=bx ha;have hsb:=bx hb;have hJ:=gn hsa hsb p;have hH:=AX ha hb p;have tidy:∀ x:Mrk,dY a b p=some x→ci x=true→x.path=p→(x.kind≠2→(bI a p || bI b p)=true)→lW (dZ a b) t p=be x:=by
  intro x hx hm hp hk;unfold lW;rw [hJ,hx,Option.bind_some,cl,hp];by_cases hB:bare (eK a b) p=true
  · rw [if_pos hB];by_cases h3:x.kind=3
    · rw [if_pos h3];simp only;rw [hH,hk (by omega),if_pos rfl,be,if_pos h3]
    · rw [if_neg h3];by_cases h4:x.kind=4
      · rw [if_pos h4];simp only;rw [jt (d:=⟨p,2,x.data⟩) rfl,jt (i6.2 (.inr h4)),hp]
      · rw [if_neg h4]
  · rw [if_neg hB]
 cases hm:ag a p with
 | some m=>
   simp only;have hr:dY a b p=some (onK b m):=by rw [dY,hm]
   obtain ⟨g1,g2,g3⟩:=kh ha hb hr;rw [tidy _ hr g2 g3]
   · unfold onK eJ be;simp only;split
     · rename_i hc;simp [hc.1,cN]
     · rfl
   · intro hk;rw [zAe];by_cases h2:m.kind=2
     · right;rw [cO hsb];have hyp:=(bO hm).2;have hkb:bZ b p≠0∧bZ b p≠2:=by
        apply Decidable.byContradiction;intro hc;apply hk;unfold onK eJ;simp only;rw [hyp,if_neg fun h=>hc h.2,h2]
       cases hmb:ag b p with
       | none=>exact absurd ((mE hb).2 hmb) hkb.1
       | some z=>
         have:bZ b p=z.kind:=by rw [bZ,hmb]
         exact ⟨p,z,hmb,by rw [← this]; exact hkb.2,bY.2 (.inl rfl)⟩
     · left;rw [cO hsa];exact ⟨p,m,hm,h2,bY.2 (.inl rfl)⟩
 | none=>
   simp only;cases hh:bI a p with
   | true=>
     have hr:dY a b p=none:=by rw [dY,hm]; simp [hh]
     rw [hr,Option.bind_none] at hJ;unfold lW;rw [hJ];simp only;rw [hH,hh];rfl
   | false=>
     have hr:dY a b p=ag b p:=by rw [dY,hm]; simp [hh]
     simp only [zAE,if_false];cases hmb:ag b p with
     | some m=>
       rw [hmb] at hr;obtain ⟨g1,g2,g3⟩:=kh ha hb hr;rw [tidy _ hr g2 g3]
       · unfold lW;rw [hmb]
       · intro hk;rw [zAe];right;rw [cO hsb];exact ⟨p,m,hmb,hk,bY.2 (.inl rfl)⟩
     | none=>
       rw [hmb] at hr;rw [hr,Option.bind_none] at hJ;unfold lW;rw [hJ,hmb];simp only;rw [hH,hh,zAs]
theorem F3 (hn:(dZ a b).length≤32):ax (dZ a b)=true:=by
 have hsa:=bx ha;have hsb:=bx hb;refine cB.2 ⟨hn,fc,fun y hy=>?_⟩;have hy2:=eS fc hy;rw [gn hsa hsb] at hy2;cases hr:dY a b y.path with
 | none=>rw [hr] at hy2; cases hy2
 | some x=>
   rw [hr,Option.bind_some] at hy2;obtain ⟨g1,g2,g3⟩:=kh ha hb hr;obtain ⟨k1,k2,k3,k4⟩:=de g2;refine ⟨?_,?_,?_⟩
   · unfold cl at hy2;split at hy2
     · split at hy2
       · cases hy2
       · split at hy2
         · rename_i h4;cases hy2;exact j8 (by simp) k2 k3 fun _=>k4 (by omega)
         · cases hy2; exact g2
     · cases hy2; exact g2
   · by_cases hu:ae y.path=[47]
     · exact .inl hu
     · right;obtain ⟨u1,u2⟩:=ic g1 hu;have key:∃ d,dY a b (ae y.path)=some d∧cN d=true:=by
        unfold dY at hr ⊢;cases hm:ag a y.path with
        | some m=>
          obtain ⟨d,d1,d2⟩:=(js ha hm).2.2.2.1.resolve_left hu;rw [d1];refine ⟨_,rfl,?_⟩;unfold onK eJ cN;simp only;split
          · simp
          · exact d2
        | none=>
          rw [hm] at hr;simp only at hr;split at hr
          · cases hr
          · rename_i hh;obtain ⟨d,d1,d2⟩:=(js hb hr).2.2.2.1.resolve_left hu;cases hmu:ag a (ae y.path) with
            | some e=>
              have he:e.kind=2:=by
               apply Decidable.byContradiction;intro he;exact hh ((cO hsa).2 ⟨_,e,hmu,he,bY.2 (.inr u2)⟩)
              refine ⟨_,rfl,?_⟩;unfold onK eJ cN;simp only;split
              · simp
              · simp [he]
            | none=>
              have:bI a (ae y.path)=false:=by
               rw [← zAa];intro h5;exact hh (nA ha u1 u2 h5)
              simp only [this];exact ⟨d,by simpa using d1,d2⟩
       obtain ⟨d,d1,d2⟩:=key;obtain ⟨z,z1,z2⟩:=E2 (bare (eK a b)) d2;exact ⟨z,by rw [gn hsa hsb,d1,Option.bind_some,z1],z2⟩
   · intro hk;rw [← zAa];intro hbr;obtain ⟨q,m,h1,h2,h3⟩:=(kR (bG fc)).1 hbr;have hB:bare (eK a b) y.path=true:=by
      rw [kR (bG dI)];rw [gn hsa hsb] at h1;cases hq:dY a b q with
      | none=>rw [hq] at h1; cases h1
      | some z=>
        rw [hq,Option.bind_some] at h1;refine ⟨q,z,by rw [ja hsa hsb]; exact hq,?_,h3⟩;unfold cl at h1;split at h1
        · split at h1
          · cases h1
          · split at h1
            · cases h1; simp at h2
            · cases h1; exact h2
        · cases h1; exact h2
     unfold cl at hy2;rw [g3,if_pos hB] at hy2;split at hy2
     · cases hy2
     · split at hy2
       · rename_i h4
         have:y.kind=2:=by rw [← zAY hy2]
         omega
       · rename_i h5 h6
         have:y.kind=x.kind:=by rw [← zAY hy2]
         omega
end
theorem tc {a b j:List Mrk} (h:bD a b=some j):ax a=true∧ax b=true∧j=dZ a b∧ax j=true:=by
 unfold bD at h;split at h
 · rename_i hc;cases h;exact ⟨hc.1,hc.2.1,rfl,F3 hc.1 hc.2.1 hc.2.2⟩
 · cases h
theorem xk {a b j:List Mrk} {t u v:List Ent} (h:bD a b=some j) (hu:aP b t=some u) (hv:aP a u=some v):aP j t=some v:=by
 obtain ⟨h1,h2,rfl,h4⟩:=tc h;obtain ⟨g1,g2,g3,g4⟩:=co hu;obtain ⟨k1,k2,k3,k4⟩:=co hv;refine sS h4 g2 k3 fun p=>?_;rw [F2 h1 h2,k4];unfold lW;cases hm:ag a p with
 | some m=>rfl
 | none=>
   simp only;rw [g4];rfl
end Go.Par
