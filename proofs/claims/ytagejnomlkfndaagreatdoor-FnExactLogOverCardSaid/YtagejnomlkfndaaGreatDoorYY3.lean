/- Texts of this claim, set close: lemmas and contracts. -/
import Derived.Test.YtagejnomlkfndaaGreatDoorYY2
import Derived.HandedShaped
import Derived.IntWalk
import Derived.OpenShut
import Derived.FnData
import Derived.ChangeVars
import Derived.WideKeyArgs
import Derived.MakeChecks
import Derived.Sort.Row
import Derived.Sort.Grow
set_option linter.unusedVariables false
set_option linter.unusedSimpArgs false
namespace Go.Ab
open Go Go.RowKit Go.ChangeShapes Go.WideShapes Go.ChangeAt
section
variable {E:Env} {f:FuncId} {cds:List D}
structure Gv (E:Env) (w:World) (Av:Nat→Prop) (cds:List D) (vs:List Value):Prop where
 len:cds.length=vs.length
 arg:∀ (i:Nat) (d:D) (u:Value),cds[i]?=some d→vs[i]?=some u→VG w Av (fun _=>none) d u
 gl:∀ g cs,E.gl g=some cs→VI w Av (.ep cs) (.pointer (some ⟨g,0,none⟩))
theorem VG.s_inv {w:World} {Av:Nat→Prop} {ρ:Nat→Option Value} {l:List UInt8} {v:Value} (h:VG w Av ρ (.s l) v):v=.string ⟨l.toArray⟩:=VR.s_inv (.gr h)
theorem VG.k_inv {w:World} {Av:Nat→Prop} {ρ:Nat→Option Value} {kd:IntKind} {n:Int} {v:Value} (h:VG w Av ρ (.k kd n) v):v=.int kd n:=VR.k_inv (.gr h)
theorem Gw (w:World) (o:Obj):(w.alloc o).heap[w.heap.size]?=some o:=by
 unfold World.alloc
 simp
theorem IY {d:D} (hf:kN E.P f) (h:∀ (w:World) (vs:List Value) (Av:Nat→Prop),Gv E w Av cds vs→Calls E.P f vs.toArray w fun e w'=>Fr (fun _=>False) w w'∧∃ v,e=.returned v∧VR w' Av (fun _=>none) d v):Con E f 0 cds [] d []:=by
 refine ⟨hf,fun w vs ρ G hl _ _ ha hs _ hd hg=>?_⟩;have hρ:ρ=fun _=>none:=funext fun t=>hd t (zAG _);subst hρ;refine (h w vs _ ⟨hl,ha,hg⟩).mono fun e w' ⟨hw,v,he,hv⟩=>?_;exact ⟨v,fun _=>none,he,hv,fun t b h=>by simp [lk] at h,fun t t' b b' x h=>by simp [lk] at h,fun x hx=>.inr hx,fun _ _ h=>absurd h (Nat.not_lt_zero _),hw.os,hw.tape,hw.output,hw.size,fun k hk _=>hw.block k hk (fun h=>h)⟩
theorem Fr.of_below {w w':World} (h:Below w.heap.size w w'):Fr (fun _=>False) w w':=⟨h.os,h.tape,h.output,h.size,fun k hk _=>h.block k hk⟩
theorem VG.strs {w:World} {Av:Nat→Prop} {ρ:Nat→Option Value} {ls:List (List UInt8)} {u:Value} (h:VG w Av ρ (.sl (ls.map fun l=>[.s l])) u) :
   (ls=[]∧∃ a c,u=.slice a 0 c)∨∃ bk o c,u=.slice (some ⟨bk,o,none⟩) ls.length c∧ls.length≤c∧bk < w.heap.size∧∀ (j:Nat) l,ls[j]?=some l→w.cell? ⟨bk,o+j,none⟩=some (.string ⟨l.toArray⟩):=by
 obtain ⟨A,n,c,rfl,hn,hnc,hc,hA,hE⟩:=(VR.sl_inv (.gr h)).sl_inv;rw [zAA] at hn;by_cases hl:ls=[]
 · subst hl;subst hn;exact .inl ⟨rfl,A,c,rfl⟩
 · right;have hne:(ls.map fun l=>[D.s l])≠[]:=by simpa using hl
   match A with
   | none=>exact absurd (hA rfl).1 hne
   | some ad=>
     obtain ⟨hb,_,sz,hsz,hcell⟩:=hE ad rfl;have h1:sz=1:=by
      have:=hsz ((ls.map fun l=>[D.s l]).head hne) (List.head_mem hne)
      match ls,hl with
      | l :: r,_=>simpa using this.symm
     subst h1;have get:∀ (j:Nat) l,ls[j]?=some l→w.cell? (ad.add j)=some (.string ⟨l.toArray⟩):=by
      intro j l hj;obtain ⟨u,hu,_,hv⟩:=hcell j 0 [.s l] (.s l) (by simp [hj]) rfl
      have:u=.string ⟨l.toArray⟩:=by
       cases hv with
       | s=>rfl
      rw [this] at hu;simpa using hu
     have hsub:ad=⟨ad.block,ad.off,none⟩:=by
      match ls,hl,get with
      | l :: r,_,get=>
        have:=get 0 l rfl
        match ad,this with
        | ⟨b,o,none⟩,_=>rfl
        | ⟨b,o,some q⟩,this=>
          simp only [World.cell?,Addr.add] at this;split at this <;> simp at this
     refine ⟨ad.block,ad.off,c,by rw [← hsub,hn],by omega,hb hne,fun j l hj=>?_⟩
     have:=get j l hj
     rw [hsub] at this;by_cases hj0:j=0
     · subst hj0;simpa [Addr.add] using this
     · simpa [Addr.add,hj0] using this
theorem Gx {et:TypeId} {ls:List (List UInt8)} (hce:E.P.cellsOf et=1) (hf:kN E.P f) (hlen:ls.length≤maxLen)
   (h:∀ (w:World) (vs:List Value) (Av:Nat→Prop),Gv E w Av cds vs→Calls E.P f vs.toArray w fun e w'=>
     e=.returned (.slice (some ⟨w.heap.size,0,none⟩) ls.length ls.length)∧w'=w.alloc (.cells (ls.map fun l=>Value.string ⟨l.toArray⟩).toArray et)):Con E f 0 cds [] (.own 0) [(0,.own et (ls.map fun l=>[.s l]))]:=by
 refine ⟨hf,fun w vs ρ G hl hG _ ha hs _ hd hg=>?_⟩;have hρ:ρ=fun _=>none:=funext fun t=>hd t (zAG _);subst hρ;refine (h w vs _ ⟨hl,ha,hg⟩).mono fun e w' ⟨he,hw⟩=>?_;subst hw
 let v:Value:=.slice (some ⟨w.heap.size,0,none⟩) ls.length ls.length
 let ρ':Nat→Option Value:=fun t=>if t=0 then some v else none
 have h0:∀ {t:Nat} {b:Blk},lk [(0,Blk.own et (ls.map fun l=>[D.s l]))] t=some b→t=0∧b=.own et (ls.map fun l=>[D.s l]):=by
  intro t b hb;rw [au] at hb;split at hb
  · rename_i ht; cases hb; exact ⟨ht.symm,rfl⟩
  · simp [lk] at hb
 have hblk:∀ {t x:Nat} {b:Blk},lk [(0,Blk.own et (ls.map fun l=>[D.s l]))] t=some b→bk b (ρ' t) x→x=w.heap.size:=by
  intro t x b hb hx;obtain ⟨rfl,rfl⟩:=h0 hb;simp [bk,ρ',v,be] at hx;exact hx.symm
 refine ⟨v,ρ',he,.gr (.atom (.own (by simp [nmv,ρ',v,top]) rfl)),fun t b hb=>?_,fun t t' b b' x hb hb' _ _ _ _=>by rw [(h0 hb).1,(h0 hb').1],fun x ⟨t,b,hb,_,hx⟩=>.inl (Nat.le_of_eq (hblk hb hx).symm),fun _ _ h=>absurd h (Nat.not_lt_zero _),?_⟩
 · obtain ⟨rfl,rfl⟩:=h0 hb;refine ⟨v,ls.map fun l=>Value.string ⟨l.toArray⟩,by simp [ρ'],⟨by simp [hce],?_⟩,by simp [hce],fun cs hcs=>?_,fun u hu=>?_,fun i j cs d hc hd'=>?_⟩
   · by_cases hn:ls.length=0∧False
     · exact hn.2.elim
     · refine .inr ⟨w.heap.size,ls.length,(ls.map fun l=>Value.string ⟨l.toArray⟩).toArray,by simp [v],zAG _,Gw w _,by simp,hlen,by simp [hce],by rw [hce]; simp [zAc]⟩
   · obtain ⟨l,_,rfl⟩:=List.mem_map.1 hcs;simp [hce]
   · obtain ⟨l,_,rfl⟩:=List.mem_map.1 hu;rfl
   · simp only [zAO,Option.map_eq_some_iff] at hc;obtain ⟨l,hl',rfl⟩:=hc;cases j with
     | zero=>
       simp at hd';subst hd';exact ⟨.string ⟨l.toArray⟩,by simp [hce,hl'],.s l⟩
     | succ j=>simp at hd'
 · have:=iR w (.cells (ls.map fun l=>Value.string ⟨l.toArray⟩).toArray et)
   exact ⟨this.os,this.tape,this.output,this.size,fun k hk _=>this.block k hk (fun h=>h)⟩
end
section
variable {H:Type} {enc:TypeId × Value→H}
theorem pA {E:Env} {f:FuncId} {fn:Func} {s:ChangeSpec} {bt:TypeId} {dp:Nat} (hl:laidOutB E.P=true) (hr:∀ t∈fn.params.toList,E.P.readableRec t=true∧t < E.P.types.size) (ha:fn.params.toList.all (mF E.P dp)=true)
   (hbt:E.P.underlying bt=some .bool) (hres:fn.resultTypes=#[bt]) (hvars:s.vars=[]) (hspec:∀ (H:Type) (ds:List (DataW H)),ds.length=fn.params.size→s.fn H ds={ results:=[.lit (.bool true)],args:=ds })
   (hcon:∀ cds,tB E.P fn.params.toList cds→Con E f 0 cds [] (.b true) [])
   (W:World) (hgl:∀ g cs,E.gl g=some cs→VI W pz (.ep cs) (.pointer (some ⟨g,0,none⟩))) (base:Nat) (args:Array Value) (ds gs:List (DataW H)) (before:List MemPlace) (hval:∀ (j:Nat) t v,fn.params[j]?=some t→args[j]?=some v→Value.okWide E.P W .any base t v)
   (hW:DataW.Whole enc E.P fn.params.toList s.vars false W args.toList ds gs before) :
   Calls E.P f args W fun e W'=>∃ v,e=.returned v∧s.post enc E.P fn false true false false W args v W':=by
 have hW':=hW;obtain ⟨p,q,hA,hV,rfl,hfz,hnd⟩:=hW;rw [hvars] at hV;obtain ⟨rfl,rfl⟩:=trodVars_none hV;obtain ⟨cds,c1,c2,c3⟩:=zQ ha (fun j t v h1 h2=>hval j t v (by simpa using h1) (by simpa using h2)) hA;have hheld:∀ x,¬ eH [] (fun _=>none) x:=by rintro x ⟨t,b,h,_⟩; simp [lk] at h
 have hav:∀ y,¬ AvS (fun _=>False) [] (fun _=>none) y:=by
  rintro y (h|h)
  · exact h
  · exact hheld y h
 have hc:=(hcon cds c2).2 W args.toList (fun _=>none) (fun _=>False) c1 (fun _ h=>h.elim) (fun _ h=>h.elim) (fun i d u h1 h2=>c3 i d u h1 h2 _ _ hav) (fun t b h=>by simp [lk] at h) (fun t t' b b' x h=>by simp [lk] at h) (fun _ _=>rfl)
  (fun g cs h=>(hgl g cs h).mono (fun _ _ _=>rfl) (zAL _) fun x _ hx=>(hav x hx).elim)
 have hargs:args.toList.toArray=args:=by simp
 rw [hargs] at hc;refine hc.mono fun e W2 hpost=>?_;obtain ⟨v,ρ',rfl,hv,_,_,_,_,hfr⟩:=hpost;obtain rfl:=hv.b_inv;refine ⟨_,rfl,?_⟩;have hb:Below W.heap.size W W2:=⟨hfr.os,hfr.tape,hfr.output,hfr.size,fun k hk=>hfr.block k hk (hheld k)⟩;have hlen:=(rn hA).2;have hs:=hspec H ds (by simpa using hlen);have hlt:∀ x∈p,x.block < W.heap.size:=fun x hx=>hW'.lt x (by simpa using hx);refine Ca (pa:=p) (pv:=[]) hW' (fun b sp hd=>?_) (fun sp hsp=>?_) (fun sp _=>?_) rfl hb ?_
 · rw [hres,List.append_nil,hs];exact trodAll_mk1 (shut_bool hbt true)
 · rw [List.append_nil,hs];exact wo hl hb hr hlt (fun x hx=>hsp x (by simpa using hx)) hA
 · rw [hvars,List.append_nil,hs];rfl
 · exact ok_one hres rfl (okWide_bool_mk hbt true)
end
theorem pB {H:Type} {enc:TypeId × Value→H} {a:Assume} {C:Checked} {os:Os} {f:FuncId} {fn:Func} {s:ChangeSpec} {conds:List PathCond} {apart fresh handsOn again:Bool} {X:World→Array Value→Prop}
   (hX:∀ (w w':World) (args:Array Value),w.heap=w'.heap→X w args→X w' args)
   (own:ownKnob C.prog.godebug=none) (started:os.Started) (noInit:C.prog.inits.idxOf? f=none) (hfn:C.prog.funcs[f]?=some fn)
   (witness:∃ (w:World) (tape:Tape) (i:Input),w.os=os∧(w.forCall tape i).Shaped C.prog∧i.vars=[]∧Input.okWide C.prog (w.forCall tape i) .any w.heap.size f i ∧
     ((s.pre enc C.prog fn conds apart (w.forCall tape i).memory i.args∧X (w.forCall tape i).memory i.args)∧sizedMet enc C.prog fn (OpenSpec.ofChange s) apart (w.forCall tape i).memory i.args)∧a.holds C.prog (lone (Frame.enter C.prog f i.args .normal) [] (w.forCall tape i)))
   (contract:∀ (W:World) (base:Nat) (args:Array Value) (ds gs:List (DataW H)) (before:List MemPlace),
     (∀ (j:Nat) t v,fn.params[j]?=some t→args[j]?=some v→Value.okWide C.prog W .any base t v) →
     DataW.Whole enc C.prog fn.params.toList s.vars apart W args.toList ds gs before→W.ShapedOpen C.prog→X W args →
     Calls C.prog f args W fun e W'=>∃ v,e=.returned v∧s.post enc C.prog fn apart fresh handsOn again W args v W') :
   ReturnsInHanded a C os f .any (fun w args=>(s.pre enc C.prog fn conds apart w args∧X w args)∧sizedMet enc C.prog fn (OpenSpec.ofChange s) apart w args) (s.post enc C.prog fn apart fresh handsOn again):=by
 refine returnsInHanded_of_calls own started noInit witness ?_;intro w tape i _ hsh _ hok hpre _;obtain ⟨_,_,_,fn',hfn',_,_,_,_,hval⟩:=hok;have e:fn'=fn:=zAb (hfn'.symm.trans hfn);subst e;obtain ⟨⟨⟨ds,gs,before,hw,_⟩,hx⟩,_⟩:=hpre;have hw':=DataW.Whole.of_heap (w':=w.forCall tape i) (by rfl) hw;refine (contract (w.forCall tape i) w.heap.size i.args ds gs before hval hw' hsh (hX _ _ _ (by rfl) hx)).mono fun e W' ⟨v,he,hp⟩=>?_;subst he;exact ChangeSpec.post_blind hp
theorem IZ {W:World} {g:Nat} {d:D} {u:Value} (h:W.cell? ⟨g,0,none⟩=some u) (h1:u.oneCell'=true) (hv:VI W pz d u):VI W pz (.ep [d]) (.pointer (some ⟨g,0,none⟩)):=by
 refine .ep (fun _=>u) (World.block_lt_of_cell? _ _ h) (fun h=>h) (fun j d' hj=>?_) (fun j d' hj=>h1) (fun j d' hj=>?_)
 · cases j with
   | zero=>exact h
   | succ j=>simp at hj
 · cases j with
   | zero=>simp at hj; subst hj; exact hv
   | succ j=>simp at hj
theorem Con.wide {P:Program} {ty:TypeId→Option TD} {gl gl':Nat→Option (List D)} {f:FuncId} {k:Nat} {cds:List D} {Sa:ac} {d:D} {S':ac} (hg:∀ g cs,gl g=some cs→gl' g=some cs)
   (h:Con ⟨P,ty,gl⟩ f k cds Sa d S'):Con ⟨P,ty,gl'⟩ f k cds Sa d S':=
 ⟨h.1,fun w vs ρ G h1 h2 h3 h4 h5 h6 h7 h8=>h.2 w vs ρ G h1 h2 h3 h4 h5 h6 h7 fun g cs e=>h8 g cs (hg g cs e)⟩
theorem aH.tt {K:Bool→Prop} (h:K true):aH true K:=⟨fun _=>h,fun h=>Bool.noConfusion h⟩
theorem aH.ff {K:Bool→Prop} (h:K false):aH false K:=⟨fun h=>Bool.noConfusion h,fun _=>h⟩
def cb:List Nat→List Nat→List Nat
 | ns,[]=>ns
 | ns,n :: r=>match kA n ns with
   | true=>cb ns r
   | false=>cb (ns++[n]) r
def f9 (tm:Tm):List Nat→List Nat→List Nat
 | [],ns=>ns
 | t :: r,ns=>match lk tm t with
   | some d=>f9 tm r (cb ns (nmR d))
   | none=>f9 tm r ns
def bO (S:ac):Nat→List Nat→List Nat→List Nat
 | 0,_,ns=>ns
 | _+1,[],ns=>ns
 | f+1,n :: r,ns=>match lk S n with
   | some b=>bO S f (r++kf ns (cz b)) (cb ns (cz b))
   | none=>bO S f r ns
def ow (k0:Nat) (tm:Tm) (S:ac) (ts:List Nat):List Nat:=
 match f9 tm ts (bA 0 k0) with
 | ns=>bO S 16 ns ns
theorem g9.auto {k0:Nat} {tm:Tm} {S:ac} {nx:Nat} {J:Tm→ac→Nat→Prop} (ts:List Nat)
   (h:dd (ow k0 tm S ts)=true∧lF 0 k0 (ow k0 tm S ts)=true∧J (kg (ow k0 tm S ts) tm ts) (iQ (ow k0 tm S ts) S (ow k0 tm S ts) 0) (ow k0 tm S ts).length):g9 k0 tm S nx J:=
 ⟨[],ts,ow k0 tm S ts,h⟩
theorem ox {td:TD} {cs:List D} {K:D→Prop} (h:iO td cs K):∃ d,K d∧∀ K':D→Prop,K' d→iO td cs K':=by
 unfold iO at h ⊢;split at h
 · rename_i h1;split at h
   · rename_i h2;exact ⟨_,h,fun K' hk=>hk⟩
   · exact h.elim
 · rename_i h1
   match cs,h with
   | d :: _,h=>exact ⟨d,h,fun K' hk=>hk⟩
theorem Cb {E:Env} {S:ac} {d:D} {td:TD} {K:D→Prop} (h:jM E S d td K):∃ d',K d'∧∀ K':D→Prop,K' d'→jM E S d td K':=by
 cases d with
 | bp n off=>
   simp only [jM] at h ⊢
   match hl:lk S n,h with
   | some (.box e cs),h=>exact ox h
 | ep cs=>exact ox h
 | op n sz i off=>
   simp only [jM] at h ⊢;have go:∀ {e:TypeId} {xs:List (List D)},szK E e sz (∃ cs,xs[i]?=some cs∧iO td (cs.drop off) K)→∃ d',K d'∧∀ K':D→Prop,K' d'→szK E e sz (∃ cs,xs[i]?=some cs∧iO td (cs.drop off) K'):=by
    intro e xs h;unfold szK at h ⊢
    match hE:E.ty e,h with
    | some te,h=>
      cases hb:Nat.beq te.size sz with
      | true=>
        simp only [hb] at h;obtain ⟨cs,h1,h2⟩:=h;obtain ⟨d',h3,h4⟩:=ox h2;exact ⟨d',h3,fun K' hk=>by simp only [hb]; exact ⟨cs,h1,h4 K' hk⟩⟩
      | false=>simp only [hb] at h
   match hl:lk S n,h with
   | some (.own e xs),h=>exact go h
   | some (.row e xs),h=>exact go h
 | b x=>exact h.elim
 | k kd n=>exact h.elim
 | s l=>exact h.elim
 | v x=>exact h.elim
 | nil=>exact h.elim
 | sl xs=>exact h.elim
 | own t=>exact h.elim
 | fn f caps=>exact h.elim
 | agg ds=>exact h.elim
 | tup ds=>exact h.elim
 | junk=>exact h.elim
 | vw=>exact h.elim
theorem jD {E:Env} {tm:Tm} {S:ac}:∀ {rv:List ResultVar} {K:List D→Prop},nA E tm S rv K→∃ ds,K ds∧∀ K':List D→Prop,K' ds→nA E tm S rv K'
 | [],K,h=>⟨[],h,fun _ hk=>hk⟩
 | .tmp t :: r,K,h=>by
   simp only [nA] at h ⊢
   match hl:lk tm t,h with
   | some d,h=>
     obtain ⟨ds,h1,h2⟩:=jD h;exact ⟨d :: ds,h1,fun K' hk=>h2 _ hk⟩
 | .cell a t :: r,K,h=>by
   simp only [nA] at h ⊢
   match hl:lk tm a,h with
   | some d,h=>
     obtain ⟨td,ht,h⟩:=br h;obtain ⟨d',h1,h2⟩:=Cb h;obtain ⟨ds,h3,h4⟩:=jD h1;refine ⟨d' :: ds,h3,fun K' hk=>?_⟩;simp only [tyK,ht];exact h2 _ (h4 _ hk)
theorem qt.auto {E:Env} {k0:Nat} {rv:List ResultVar} {d:D} {S':ac} {tm:Tm} {S:ac} {nx:Nat}
   (h:nA E tm S rv fun ds=>dd (bO S 16 (cb (bA 0 k0) (en ds)) (cb (bA 0 k0) (en ds)))=true∧lF 0 k0 (bO S 16 (cb (bA 0 k0) (en ds)) (cb (bA 0 k0) (en ds)))=true ∧
     sU (bO S 16 (cb (bA 0 k0) (en ds)) (cb (bA 0 k0) (en ds))) (lG ds)=some d ∧
     iQ (bO S 16 (cb (bA 0 k0) (en ds)) (cb (bA 0 k0) (en ds))) S (bO S 16 (cb (bA 0 k0) (en ds)) (cb (bA 0 k0) (en ds))) 0=S'):qt E k0 rv d S' tm S nx:=by
 obtain ⟨ds,h1,h2⟩:=jD h;exact ⟨[],bO S 16 (cb (bA 0 k0) (en ds)) (cb (bA 0 k0) (en ds)),h2 _ h1⟩
theorem dM {α:Type} {p:α→Bool} {l:List α} {i:Nat} {x:α} (h:l[i]?=some x) (hp:p x=false):l.all p=false:=by
 rw [zBa];exact ⟨x,zAD h,by simp [hp]⟩
theorem bN {α:Type} {p:α→Bool} {l:List α} {i:Nat} {x:α} (ha:(l.take i).all p=true) (h:l[i]?=some x) (hp:p x=true):(l.take (i+1)).all p=true:=by
 rw [zAY,h];simp only [List.all_append,ha,Option.toList_some,List.all_cons,hp,List.all_nil,zBN]
theorem fC {α:Type} {p:α→Bool} {l:List α} {i:Nat} (ha:(l.take i).all p=true) (h:l.length≤i):l.all p=true:=by
 rw [zAc h] at ha;exact ha
theorem fk {α β:Type} {l:List α} {f:α→β} {i:Nat} (h:i < l.length):(l.map f)[i]?=some (f l[i]):=by
 rw [zAO,zAB h];rfl
theorem pC {α:Type} {l:List α} {f:α→List D} {z:Nat} (h:∀ a,(f a).length=z):∀ cs∈l.map f,cs.length=z:=by
 intro cs hcs;obtain ⟨a,_,rfl⟩:=List.mem_map.1 hcs;exact h a
theorem xU {cs:List D} {z:Nat} (h:cs.length=z):∀ x∈[cs],x.length=z:=by
 intro x hx;rw [List.mem_singleton] at hx;rw [hx]; exact h
inductive jQ (n:Nat) (L:Nat→Prop):Prop where
 | here (h:∃ m',m' < n∧L m')
 | never (h:False)
theorem jQ.out {n:Nat} {L:Nat→Prop} (h:jQ n L):∃ m',m' < n∧L m':=by
 cases h with
 | here h=>exact h
 | never h=>exact h.elim
inductive ak (P:List Mv→List Nat→Prop):Prop where
 | here (h:∃ ms ns,P ms ns)
 | never (h:False)
theorem ak.out {P:List Mv→List Nat→Prop} (h:ak P):∃ ms ns,P ms ns:=by
 cases h with
 | here h=>exact h
 | never h=>exact h.elim
end Go.Ab
namespace Go.Ab
open Go Go.RowKit
section
variable {E:Env}
abbrev EqQ (e:Ex) (t:Tm) (S:ac) (n:Nat):Ex→Tm→ac→Nat→Prop:=fun e1 t1 S1 n1=>e1=e∧t1=t∧S1=S∧n1=n
theorem jE {k0:Nat} {tm:Tm} {S:ac} {nx:Nat} {J:Tm→ac→Nat→Prop} (h:g9 k0 tm S nx J):∃ t1 S1 n1,J t1 S1 n1∧g9 k0 tm S nx fun t s n=>t=t1∧s=S1∧n=n1:=by
 obtain ⟨ms,ts,ns,h⟩:=h
 match hm:mvs ms tm S nx with
 | some (tm1,S1,nx1)=>
   rw [hm] at h;obtain ⟨h1,h2,h3⟩:=h;refine ⟨_,_,_,h3,ms,ts,ns,?_⟩;rw [hm];exact ⟨h1,h2,rfl,rfl,rfl⟩
 | none=>rw [hm] at h; exact h.elim
def gD (P:Program) (c:Code) (Q:Exit→Act→World→Prop) (a:Act) (w:World):Prop:=
 ∀ b k cs,∃ e a' w',Q e a' w'∧Arrives P (lone (b.at a (.code c :: .inLoop c :: k)) cs w) b k cs e a' w'
theorem gD.go {P:Program} {c:Code} {Q:Exit→Act→World→Prop} {a:Act} {w:World} (h:gD P c Q a w):(Code.loop c).wp P Q a w:=by
 intro b k cs;obtain ⟨e,a',w',hq,harr⟩:=h b k cs;exact ⟨e,a',w',hq,.of_steps (.one step_loop) harr⟩
theorem gD.of {P:Program} {c:Code} {Q:Exit→Act→World→Prop} {a:Act} {w:World} (h:c.wp P (Exit.then (gD P c Q) Q) a w):gD P c Q a w:=by
 intro b k cs;obtain ⟨e,a₁,w₁,hq,harr⟩:=h b (.inLoop c :: k) cs;cases e with
 | normal=>
   obtain ⟨e₂,a₂,w₂,hq₂,harr₂⟩:=hq b k cs;exact ⟨e₂,a₂,w₂,hq₂,.of_steps (Steps.trans harr (.one step_inLoop)) harr₂⟩
 | exit id=>exact ⟨_,a₁,w₁,hq,.pass (x:=.inLoop c) rfl (fun _ _=>.inl (by simp)) harr⟩
 | goto l=>exact ⟨_,a₁,w₁,hq,.pass (x:=.inLoop c) rfl (fun _ _=>.inl (by simp)) harr⟩
 | ret=>exact ⟨_,a₁,w₁,hq,.pass (x:=.inLoop c) rfl (fun _ _=>.inl (by simp)) harr⟩
 | panic ch=>exact ⟨_,a₁,w₁,hq,.pass (x:=.inLoop c) rfl (fun _ _=>.inl (by simp)) harr⟩
 | outgrown=>exact ⟨_,a₁,w₁,hq,.pass (x:=.inLoop c) rfl (fun _ _=>.inl (by simp)) harr⟩
theorem Gy (hty:dW E) (hmix:E.P.follows .mixedOrders=true) {N k0:Nat}:∀ (c:Code) (tm:Tm) (S:ac) (nx:Nat) (Q:Ex→Tm→ac→Nat→Prop),gm N c=true→awp E k0 c tm S nx Q →
   ∃ e t S' n,Q e t S' n∧AW E N k0 c tm S nx (EqQ e t S' n):=by
 intro c
 induction c with
 | skip=>intro tm S nx Q _ hk; exact ⟨.normal,tm,S,nx,hk,fun cx a w ρ Q' _ _ h hf hQ=>wp_skip (hQ .normal _ _ ⟨_,_,_,_,h,hf,rfl,rfl,rfl,rfl⟩)⟩
 | region id ops draw=>
   intro tm S nx Q hok hk;cases draw with
   | true=>
     obtain ⟨ms,tm',S',nx',h1,h2⟩:=lN hty _ _ _ _ _ _ hk;obtain ⟨h2,h3⟩:=h2;simp only [List.append_nil,List.reverse_reverse] at h2;refine ⟨.normal,tm',S',nx',h3,fun cx a w ρ Q' hN _ h hf hQ=>?_⟩;subst hN;exact wp_region_any hmix (B7 (fun a w ρ h hf=>hQ .normal a w ⟨_,_,_,_,h,hf,rfl,rfl,rfl,rfl⟩) h1 h2 hok (h.drew) hf)
   | false=>
     obtain ⟨ms,tm',S',nx',h1,h2⟩:=lN hty _ _ _ _ _ _ hk;refine ⟨.normal,tm',S',nx',h2,fun cx a w ρ Q' hN _ h hf hQ=>?_⟩;subst hN;exact wp_region_list (qE (fun a w ρ h hf=>hQ .normal a w ⟨_,_,_,_,h,hf,rfl,rfl,rfl,rfl⟩) _ _ _ _ _ _ _ _ hok h1 h hf)
 | seq x y ihx ihy=>
   intro tm S nx Q hok hk;simp only [gm,zAE] at hok;obtain ⟨e,t,S1,n,hq,hx⟩:=ihx tm S nx _ hok.1 hk;cases e with
   | normal=>
     obtain ⟨e2,t2,S2,n2,hq2,hy⟩:=ihy t S1 n Q hok.2 hq;refine ⟨e2,t2,S2,n2,hq2,fun cx a w ρ Q' hN hk0 h hf hQ=>wp_seq (hx cx a w ρ _ hN hk0 h hf fun e a w hn=>?_)⟩;obtain ⟨tm,S,nx,ρ,h,hf,rfl,rfl,rfl,rfl⟩:=hn;exact hy cx a w ρ Q' hN hk0 h hf hQ
   | exit i=>
     refine ⟨.exit i,t,S1,n,hq,fun cx a w ρ Q' hN hk0 h hf hQ=>wp_seq (hx cx a w ρ _ hN hk0 h hf fun e a w hn=>?_)⟩;obtain ⟨tm,S,nx,ρ,h,hf,rfl,rfl,rfl,rfl⟩:=hn;exact hQ (.exit i) _ _ ⟨_,_,_,_,h,hf,rfl,rfl,rfl,rfl⟩
   | ret=>
     refine ⟨.ret,t,S1,n,hq,fun cx a w ρ Q' hN hk0 h hf hQ=>wp_seq (hx cx a w ρ _ hN hk0 h hf fun e a w hn=>?_)⟩;obtain ⟨tm,S,nx,ρ,h,hf,rfl,rfl,rfl,rfl⟩:=hn;exact hQ .ret _ _ ⟨_,_,_,_,h,hf,rfl,rfl,rfl,rfl⟩
 | cond c x y ihx ihy=>
   intro tm S nx Q hok hk;simp only [gm,zAE] at hok;unfold awp at hk;split at hk
   · rename_i t;split at hk
     · rename_i b hb;have hk:=kh hk;cases b
       · obtain ⟨e,t1,S1,n,hq,hy⟩:=ihy _ S nx Q hok.2 hk;refine ⟨e,t1,S1,n,hq,fun cx a w ρ Q' hN hk0 h hf hQ=>?_⟩;have hv:a.eval (.tmp t)=.bool false:=(h.tm t _ hb).b_inv;exact wp_cond hv (hy cx a w ρ Q' hN hk0 (h.again hb) hf hQ)
       · obtain ⟨e,t1,S1,n,hq,hx⟩:=ihx _ S nx Q hok.1 hk;refine ⟨e,t1,S1,n,hq,fun cx a w ρ Q' hN hk0 h hf hQ=>?_⟩;have hv:a.eval (.tmp t)=.bool true:=(h.tm t _ hb).b_inv;exact wp_cond hv (hx cx a w ρ Q' hN hk0 (h.again hb) hf hQ)
     · exact hk.elim
   · obtain ⟨e,t1,S1,n,hq,hx⟩:=ihx _ S nx Q hok.1 hk;exact ⟨e,t1,S1,n,hq,fun cx a w ρ Q' hN hk0 h hf hQ=>wp_cond (t:=true) rfl (hx cx a w ρ Q' hN hk0 h hf hQ)⟩
   · obtain ⟨e,t1,S1,n,hq,hy⟩:=ihy _ S nx Q hok.2 hk;exact ⟨e,t1,S1,n,hq,fun cx a w ρ Q' hN hk0 h hf hQ=>wp_cond (t:=false) rfl (hy cx a w ρ Q' hN hk0 h hf hQ)⟩
   · exact hk.elim
 | block id b ih=>
   intro tm S nx Q hok hk;obtain ⟨e,t,S1,n,hq,hb⟩:=ih tm S nx _ hok hk;cases e with
   | normal=>
     refine ⟨.normal,t,S1,n,hq,fun cx a w ρ Q' hN hk0 h hf hQ=>wp_block (hb cx a w ρ _ hN hk0 h hf fun e a w hn=>?_)⟩;obtain ⟨tm,S,nx,ρ,h,hf,rfl,rfl,rfl,rfl⟩:=hn;exact hQ .normal _ _ ⟨_,_,_,_,h,hf,rfl,rfl,rfl,rfl⟩
   | ret=>
     refine ⟨.ret,t,S1,n,hq,fun cx a w ρ Q' hN hk0 h hf hQ=>wp_block (hb cx a w ρ _ hN hk0 h hf fun e a w hn=>?_)⟩;obtain ⟨tm,S,nx,ρ,h,hf,rfl,rfl,rfl,rfl⟩:=hn;exact hQ .ret _ _ ⟨_,_,_,_,h,hf,rfl,rfl,rfl,rfl⟩
   | exit i=>
     simp only at hq;split at hq
     · rename_i hbq;refine ⟨.normal,t,S1,n,hq,fun cx a w ρ Q' hN hk0 h hf hQ=>wp_block (hb cx a w ρ _ hN hk0 h hf fun e a w hn=>?_)⟩;obtain ⟨tm,S,nx,ρ,h,hf,rfl,rfl,rfl,rfl⟩:=hn;simp only [B9,Exit.inBlock];rw [if_pos (zAI hbq)];exact hQ .normal _ _ ⟨_,_,_,_,h,hf,rfl,rfl,rfl,rfl⟩
     · rename_i hbq;refine ⟨.exit i,t,S1,n,hq,fun cx a w ρ Q' hN hk0 h hf hQ=>wp_block (hb cx a w ρ _ hN hk0 h hf fun e a w hn=>?_)⟩;obtain ⟨tm,S,nx,ρ,h,hf,rfl,rfl,rfl,rfl⟩:=hn;simp only [B9,Exit.inBlock];rw [if_neg (by rintro rfl; rw [zBI] at hbq; cases hbq)];exact hQ (.exit i) _ _ ⟨_,_,_,_,h,hf,rfl,rfl,rfl,rfl⟩
 | loop b ih=>
   intro tm S nx Q hok hk;obtain ⟨I,⟨m,hI⟩,hr⟩:=hk;obtain ⟨t0,S0,n0,hI0,hl0⟩:=jE hI;have key:∀ (m:Nat) (t:Tm) (S:ac) (n:Nat),I m t S n→∃ e t' S' n',Q e t' S' n'∧∀ (cx:Cx) (a:Act) (w:World) (ρ:Nat→Option Value) (Q':Exit→Act→World→Prop),cx.N=N→cx.k0=k0→R E cx t S a w ρ→fG n ρ →
      (∀ e1 a w,Nx E cx (EqQ e t' S' n' e1) a w→Q' (B9 e1) a w)→gD E.P b Q' a w:=by
    intro m
    induction m using Nat.strongRecOn with
    | _ m ihm=>
      intro t S n hm;obtain ⟨e,t1,S1,n1,hq,hb⟩:=ih t S n _ hok (hr m t S n hm);cases e with
      | normal=>
        obtain ⟨m',hlt,hl⟩:=hq;obtain ⟨t2,S2,n2,hI2,hl2⟩:=jE hl;obtain ⟨e3,t3,S3,n3,hq3,h3⟩:=ihm m' hlt t2 S2 n2 hI2;refine ⟨e3,t3,S3,n3,hq3,fun cx a w ρ Q' hN hk0 h hf hQ=>gD.of (hb cx a w ρ _ hN hk0 h hf fun e a w hn=>?_)⟩;obtain ⟨tm,S,nx,ρ,h,hf,rfl,rfl,rfl,rfl⟩:=hn;subst hk0;obtain ⟨_,_,_,ρ2,h2,hf2,rfl,rfl,rfl⟩:=iE hl2 h hf;exact h3 cx a w ρ2 Q' hN rfl h2 hf2 hQ
      | exit i=>
        refine ⟨.exit i,t1,S1,n1,hq,fun cx a w ρ Q' hN hk0 h hf hQ=>gD.of (hb cx a w ρ _ hN hk0 h hf fun e a w hn=>?_)⟩;obtain ⟨tm,S,nx,ρ,h,hf,rfl,rfl,rfl,rfl⟩:=hn;exact hQ (.exit i) _ _ ⟨_,_,_,_,h,hf,rfl,rfl,rfl,rfl⟩
      | ret=>
        refine ⟨.ret,t1,S1,n1,hq,fun cx a w ρ Q' hN hk0 h hf hQ=>gD.of (hb cx a w ρ _ hN hk0 h hf fun e a w hn=>?_)⟩;obtain ⟨tm,S,nx,ρ,h,hf,rfl,rfl,rfl,rfl⟩:=hn;exact hQ .ret _ _ ⟨_,_,_,_,h,hf,rfl,rfl,rfl,rfl⟩
   obtain ⟨e,t',S',n',hq,hgo⟩:=key m t0 S0 n0 hI0;refine ⟨e,t',S',n',hq,fun cx a w ρ Q' hN hk0 h hf hQ=>gD.go ?_⟩;subst hk0;obtain ⟨_,_,_,ρ2,h2,hf2,rfl,rfl,rfl⟩:=iE hl0 h hf;exact hgo cx a w ρ2 Q' hN rfl h2 hf2 hQ
 | exit id=>intro tm S nx Q _ hk; exact ⟨.exit id,tm,S,nx,hk,fun cx a w ρ Q' _ _ h hf hQ=>wp_exit (hQ (.exit id) _ _ ⟨_,_,_,_,h,hf,rfl,rfl,rfl,rfl⟩)⟩
 | ret=>intro tm S nx Q _ hk; exact ⟨.ret,tm,S,nx,hk,fun cx a w ρ Q' _ _ h hf hQ=>wp_ret (hQ .ret _ _ ⟨_,_,_,_,h,hf,rfl,rfl,rfl,rfl⟩)⟩
 | rangeFunc=>intro tm S nx Q _ hk; exact hk.elim
 | scope=>intro tm S nx Q _ hk; exact hk.elim
 | label=>intro tm S nx Q _ hk; exact hk.elim
 | goto=>intro tm S nx Q _ hk; exact hk.elim
 | refuse=>intro tm S nx Q _ hk; exact hk.elim
def JP (E:Env) (k0:Nat) (rv:List ResultVar) (G:D→ac→Prop):Ex→Tm→ac→Nat→Prop
 | .exit _,_,_,_=>False
 | .normal,tm,S,nx=>∃ d S',qt E k0 rv d S' tm S nx∧G d S'
 | .ret,tm,S,nx=>∃ d S',qt E k0 rv d S' tm S nx∧G d S'
end
end Go.Ab
namespace Go.Ab
open Go Go.RowKit
inductive Ops (E:Env) (ops:Array Oper) (l:List Oper) (tm:Tm) (S:ac) (nx:Nat) (fs:List Fp) (K:List Fp→Tm→ac→Nat→Prop):Prop where
 | mk (h:gj E ops l tm S nx fs K)
 | never (h:False)
def PkC (E:Env) (k0:Nat) (c:Code) (tm:Tm) (S:ac) (nx:Nat) (Q:Ex→Tm→ac→Nat→Prop):Prop:=
 ∀ N,dW E→E.P.follows .mixedOrders=true→gm N c=true→∃ e t S' n,Q e t S' n∧AW E N k0 c tm S nx (EqQ e t S' n)
inductive Cd (E:Env) (k0:Nat) (c:Code) (tm:Tm) (S:ac) (nx:Nat) (Q:Ex→Tm→ac→Nat→Prop):Prop where
 | mk (h:PkC E k0 c tm S nx Q)
 | never (h:False)
section
variable {E:Env} {ops:Array Oper} {tm:Tm} {S:ac} {nx:Nat} {fs:List Fp} {K:List Fp→Tm→ac→Nat→Prop}
theorem Ops.eq {l:List Oper}:Ops E ops l tm S nx fs K=gj E ops l tm S nx fs K:=
 propext ⟨fun h=>by cases h with
  | mk h=>exact h
  | never h=>exact h.elim,.mk⟩
theorem Ops.nil (h:K fs tm S nx):Ops E ops [] tm S nx fs K:=.mk h
theorem Ops.none {o:Oper} {r:List Oper} (hg:o.guard=none) (h:jj E o tm S nx fun fp tm S nx=>Ops E ops r tm S nx (fp :: fs) K):Ops E ops (o :: r) tm S nx fs K:=by
 simp only [Ops.eq] at h ⊢;unfold gj;rw [hg];exact h
theorem Ops.guard {o:Oper} {r:List Oper} {j:Nat} {want:Bool} {t:Nat} {x:Bool} (hg:o.guard=some (j,want)) (ht:(ops[j]?).bind (·.dst)=some t) (hx:lk tm t=some (.b x))
   (h:aH x fun y=>match (generalizing:=false) want,y with
     | true,true=>jj E o ((t,.b true) :: tm) S nx fun fp tm S nx=>Ops E ops r tm S nx (fp :: fs) K
     | false,false=>jj E o ((t,.b false) :: tm) S nx fun fp tm S nx=>Ops E ops r tm S nx (fp :: fs) K
     | _,y=>Ops E ops r (put o.dst (.tup []) ((t,.b y) :: tm)) S nx (fp0 :: fs) K):Ops E ops (o :: r) tm S nx fs K:=by
 simp only [Ops.eq] at h ⊢;unfold gj;rw [hg];simp only [ht,hx];exact h
theorem Ops.off {o:Oper} {r:List Oper} {j:Nat} {want:Bool} {t:Nat} (hg:o.guard=some (j,want)) (ht:(ops[j]?).bind (·.dst)=some t) (hx:lk tm t=some (.tup []))
   (h:Ops E ops r (put o.dst (.tup []) tm) S nx (fp0 :: fs) K):Ops E ops (o :: r) tm S nx fs K:=by
 simp only [Ops.eq] at h ⊢;unfold gj;rw [hg];simp only [ht,hx];exact h
end
section
variable {E:Env} {k0:Nat} {tm:Tm} {S:ac} {nx:Nat} {Q:Ex→Tm→ac→Nat→Prop}
theorem Cd.out {c:Code} {tm:Tm} {S:ac} {nx:Nat} {Q:Ex→Tm→ac→Nat→Prop} (h:Cd E k0 c tm S nx Q):PkC E k0 c tm S nx Q:=by
 cases h with
 | mk h=>exact h
 | never h=>exact h.elim
theorem Cd.of_awp {c:Code} (h:awp E k0 c tm S nx Q):Cd E k0 c tm S nx Q:=.mk fun _ hty hmix hok=>Gy hty hmix c _ _ _ _ hok h
theorem Cd.seq {x y:Code} (h:Cd E k0 x tm S nx fun e tm S nx=>match e with
   | .normal=>Cd E k0 y tm S nx Q
   | e=>Q e tm S nx):Cd E k0 (.seq x y) tm S nx Q:=.mk fun N hty hmix hok=>by
 simp only [gm,zAE] at hok;obtain ⟨e,t,S1,n,hq,hx⟩:=h.out N hty hmix hok.1;cases e with
 | normal=>
   obtain ⟨e2,t2,S2,n2,hq2,hy⟩:=Cd.out hq N hty hmix hok.2;refine ⟨e2,t2,S2,n2,hq2,fun cx a w ρ Q' hN hk0 h hf hQ=>wp_seq (hx cx a w ρ _ hN hk0 h hf fun e a w hn=>?_)⟩;obtain ⟨tm,S,nx,ρ,h,hf,rfl,rfl,rfl,rfl⟩:=hn;exact hy cx a w ρ Q' hN hk0 h hf hQ
 | exit i=>
   refine ⟨.exit i,t,S1,n,hq,fun cx a w ρ Q' hN hk0 h hf hQ=>wp_seq (hx cx a w ρ _ hN hk0 h hf fun e a w hn=>?_)⟩;obtain ⟨tm,S,nx,ρ,h,hf,rfl,rfl,rfl,rfl⟩:=hn;exact hQ (.exit i) _ _ ⟨_,_,_,_,h,hf,rfl,rfl,rfl,rfl⟩
 | ret=>
   refine ⟨.ret,t,S1,n,hq,fun cx a w ρ Q' hN hk0 h hf hQ=>wp_seq (hx cx a w ρ _ hN hk0 h hf fun e a w hn=>?_)⟩;obtain ⟨tm,S,nx,ρ,h,hf,rfl,rfl,rfl,rfl⟩:=hn;exact hQ .ret _ _ ⟨_,_,_,_,h,hf,rfl,rfl,rfl,rfl⟩
inductive Stop (P:Prop):Prop where
 | here (h:P)
 | never (h:False)
theorem Cd.seqS {x y:Code} (h:Cd E k0 x tm S nx fun e tm S nx=>match e with
   | .normal=>Stop (Cd E k0 y tm S nx Q)
   | e=>Q e tm S nx):Cd E k0 (.seq x y) tm S nx Q:=by
 have hS:∀ P:Prop,Stop P=P:=fun P=>propext ⟨fun h=>by cases h with
  | here h=>exact h
  | never h=>exact h.elim,.here⟩
 simp only [hS] at h;exact Cd.seq h
inductive jR (P:Prop):Prop where
 | here (h:P)
 | never (h:False)
theorem Cd.cut {x y:Code} (J:Tm→ac→Nat→Prop) (h1:Cd E k0 x tm S nx fun e tm S nx=>match e with
   | .normal=>jR (g9 k0 tm S nx J)
   | e=>Q e tm S nx) (h2:∀ tm S nx,J tm S nx→Cd E k0 y tm S nx Q):Cd E k0 (.seq x y) tm S nx Q:=.mk fun N hty hmix hok=>by
 simp only [gm,zAE] at hok;obtain ⟨e,t,S1,n,hq,hx⟩:=h1.out N hty hmix hok.1;cases e with
 | normal=>
   have hl:g9 k0 t S1 n J:=by
    cases hq with
    | here h=>exact h
    | never h=>exact h.elim
   obtain ⟨t1,S2,n1,hJ,hl1⟩:=jE hl;obtain ⟨e2,t2,S3,n2,hq2,hy⟩:=(h2 t1 S2 n1 hJ).out N hty hmix hok.2;refine ⟨e2,t2,S3,n2,hq2,fun cx a w ρ Q' hN hk0 h hf hQ=>wp_seq (hx cx a w ρ _ hN hk0 h hf fun e a w hn=>?_)⟩;obtain ⟨tm,S,nx,ρ,h,hf,rfl,rfl,rfl,rfl⟩:=hn;subst hk0;obtain ⟨_,_,_,ρ2,h2,hf2,rfl,rfl,rfl⟩:=iE hl1 h hf;exact hy cx a w ρ2 Q' hN rfl h2 hf2 hQ
 | exit i=>
   refine ⟨.exit i,t,S1,n,hq,fun cx a w ρ Q' hN hk0 h hf hQ=>wp_seq (hx cx a w ρ _ hN hk0 h hf fun e a w hn=>?_)⟩;obtain ⟨tm,S,nx,ρ,h,hf,rfl,rfl,rfl,rfl⟩:=hn;exact hQ (.exit i) _ _ ⟨_,_,_,_,h,hf,rfl,rfl,rfl,rfl⟩
 | ret=>
   refine ⟨.ret,t,S1,n,hq,fun cx a w ρ Q' hN hk0 h hf hQ=>wp_seq (hx cx a w ρ _ hN hk0 h hf fun e a w hn=>?_)⟩;obtain ⟨tm,S,nx,ρ,h,hf,rfl,rfl,rfl,rfl⟩:=hn;exact hQ .ret _ _ ⟨_,_,_,_,h,hf,rfl,rfl,rfl,rfl⟩
theorem Cd.skip (h:Q .normal tm S nx):Cd E k0 .skip tm S nx Q:=.of_awp h
theorem Cd.region {id:Nat} {ops:Array Oper} (h:Ops E ops ops.toList tm S nx [] fun _ tm S nx=>Q .normal tm S nx):Cd E k0 (.region id ops false) tm S nx Q:=by
 rw [Ops.eq] at h;exact .of_awp h
theorem Cd.drawn {id:Nat} {ops:Array Oper} (h:Ops E ops ops.toList tm S nx [] fun fs tm S nx=>mf ops fs.reverse=true∧Q .normal tm S nx):Cd E k0 (.region id ops true) tm S nx Q:=by
 rw [Ops.eq] at h;exact .of_awp h
theorem Cd.cond {t:Nat} {x y:Code} {b:Bool} (hb:lk tm t=some (.b b)) (hk:aH b fun z=>match z with
   | true=>Cd E k0 x ((t,.b true) :: tm) S nx Q
   | false=>Cd E k0 y ((t,.b false) :: tm) S nx Q):Cd E k0 (.cond (.tmp t) x y) tm S nx Q:=.mk fun N hty hmix hok=>by
 simp only [gm,zAE] at hok;have hk:=kh hk;cases b
 · obtain ⟨e,t1,S1,n,hq,hy⟩:=Cd.out hk N hty hmix hok.2;refine ⟨e,t1,S1,n,hq,fun cx a w ρ Q' hN hk0 h hf hQ=>?_⟩;have hv:a.eval (.tmp t)=.bool false:=(h.tm t _ hb).b_inv;exact wp_cond hv (hy cx a w ρ Q' hN hk0 (h.again hb) hf hQ)
 · obtain ⟨e,t1,S1,n,hq,hx⟩:=Cd.out hk N hty hmix hok.1;refine ⟨e,t1,S1,n,hq,fun cx a w ρ Q' hN hk0 h hf hQ=>?_⟩;have hv:a.eval (.tmp t)=.bool true:=(h.tm t _ hb).b_inv;exact wp_cond hv (hx cx a w ρ Q' hN hk0 (h.again hb) hf hQ)
theorem Cd.block {id:Nat} {b:Code} (h:Cd E k0 b tm S nx fun e tm S nx=>match e with
   | .exit i=>match Nat.beq i id with
     | true=>Q .normal tm S nx
     | false=>Q (.exit i) tm S nx
   | e=>Q e tm S nx):Cd E k0 (.block id b) tm S nx Q:=.mk fun N hty hmix hok=>by
 obtain ⟨e,t,S1,n,hq,hb⟩:=h.out N hty hmix hok;cases e with
 | normal=>
   refine ⟨.normal,t,S1,n,hq,fun cx a w ρ Q' hN hk0 h hf hQ=>wp_block (hb cx a w ρ _ hN hk0 h hf fun e a w hn=>?_)⟩;obtain ⟨tm,S,nx,ρ,h,hf,rfl,rfl,rfl,rfl⟩:=hn;exact hQ .normal _ _ ⟨_,_,_,_,h,hf,rfl,rfl,rfl,rfl⟩
 | ret=>
   refine ⟨.ret,t,S1,n,hq,fun cx a w ρ Q' hN hk0 h hf hQ=>wp_block (hb cx a w ρ _ hN hk0 h hf fun e a w hn=>?_)⟩;obtain ⟨tm,S,nx,ρ,h,hf,rfl,rfl,rfl,rfl⟩:=hn;exact hQ .ret _ _ ⟨_,_,_,_,h,hf,rfl,rfl,rfl,rfl⟩
 | exit i=>
   simp only at hq;split at hq
   · rename_i hbq;refine ⟨.normal,t,S1,n,hq,fun cx a w ρ Q' hN hk0 h hf hQ=>wp_block (hb cx a w ρ _ hN hk0 h hf fun e a w hn=>?_)⟩;obtain ⟨tm,S,nx,ρ,h,hf,rfl,rfl,rfl,rfl⟩:=hn;simp only [B9,Exit.inBlock];rw [if_pos (zAI hbq)];exact hQ .normal _ _ ⟨_,_,_,_,h,hf,rfl,rfl,rfl,rfl⟩
   · rename_i hbq;refine ⟨.exit i,t,S1,n,hq,fun cx a w ρ Q' hN hk0 h hf hQ=>wp_block (hb cx a w ρ _ hN hk0 h hf fun e a w hn=>?_)⟩;obtain ⟨tm,S,nx,ρ,h,hf,rfl,rfl,rfl,rfl⟩:=hn;simp only [B9,Exit.inBlock];rw [if_neg (by rintro rfl; rw [zBI] at hbq; cases hbq)];exact hQ (.exit i) _ _ ⟨_,_,_,_,h,hf,rfl,rfl,rfl,rfl⟩
theorem Cd.moves (ms:List Mv) {c:Code} (h:match mvs ms tm S nx with
   | some (tm1,S1,nx1)=>Cd E k0 c tm1 S1 nx1 Q
   | none=>False):Cd E k0 c tm S nx Q:=.mk fun N hty hmix hok=>by
 match hm:mvs ms tm S nx,h with
 | some (tm1,S1,nx1),h=>
   obtain ⟨e,t,S',n,hq,hx⟩:=h.out N hty hmix hok;refine ⟨e,t,S',n,hq,fun cx a w ρ Q' hN hk0 hR hf hQ=>?_⟩;obtain ⟨ρ',h1,h2⟩:=nh hm hR hf;exact hx cx a w ρ' Q' hN hk0 h1 h2 hQ
theorem Cd.exit {id:Nat} (h:Q (.exit id) tm S nx):Cd E k0 (.exit id) tm S nx Q:=.of_awp h
theorem Cd.ret (h:Q .ret tm S nx):Cd E k0 .ret tm S nx Q:=.of_awp h
theorem Cd.loop {b:Code} (I:Nat→Tm→ac→Nat→Prop) (h0:∃ m,g9 k0 tm S nx (I m)) (hr:∀ m tm S nx,I m tm S nx→Cd E k0 b tm S nx fun e tm S nx'=>match e with
   | .normal=>jQ m fun m'=>g9 k0 tm S nx' (I m')
   | e=>Q e tm S nx'):Cd E k0 (.loop b) tm S nx Q:=.mk fun N hty hmix hok=>by
 obtain ⟨m,hI⟩:=h0;obtain ⟨t0,S0,n0,hI0,hl0⟩:=jE hI;have key:∀ (m:Nat) (t:Tm) (S:ac) (n:Nat),I m t S n→∃ e t' S' n',Q e t' S' n'∧∀ (cx:Cx) (a:Act) (w:World) (ρ:Nat→Option Value) (Q':Exit→Act→World→Prop),cx.N=N→cx.k0=k0→R E cx t S a w ρ→fG n ρ →
    (∀ e1 a w,Nx E cx (EqQ e t' S' n' e1) a w→Q' (B9 e1) a w)→gD E.P b Q' a w:=by
  intro m
  induction m using Nat.strongRecOn with
  | _ m ihm=>
    intro t S n hm;obtain ⟨e,t1,S1,n1,hq,hb⟩:=(hr m t S n hm).out N hty hmix hok;cases e with
    | normal=>
      obtain ⟨m',hlt,hl⟩:=jQ.out hq;obtain ⟨t2,S2,n2,hI2,hl2⟩:=jE hl;obtain ⟨e3,t3,S3,n3,hq3,h3⟩:=ihm m' hlt t2 S2 n2 hI2;refine ⟨e3,t3,S3,n3,hq3,fun cx a w ρ Q' hN hk0 h hf hQ=>gD.of (hb cx a w ρ _ hN hk0 h hf fun e a w hn=>?_)⟩;obtain ⟨tm,S,nx,ρ,h,hf,rfl,rfl,rfl,rfl⟩:=hn;subst hk0;obtain ⟨_,_,_,ρ2,h2,hf2,rfl,rfl,rfl⟩:=iE hl2 h hf;exact h3 cx a w ρ2 Q' hN rfl h2 hf2 hQ
    | exit i=>
      refine ⟨.exit i,t1,S1,n1,hq,fun cx a w ρ Q' hN hk0 h hf hQ=>gD.of (hb cx a w ρ _ hN hk0 h hf fun e a w hn=>?_)⟩;obtain ⟨tm,S,nx,ρ,h,hf,rfl,rfl,rfl,rfl⟩:=hn;exact hQ (.exit i) _ _ ⟨_,_,_,_,h,hf,rfl,rfl,rfl,rfl⟩
    | ret=>
      refine ⟨.ret,t1,S1,n1,hq,fun cx a w ρ Q' hN hk0 h hf hQ=>gD.of (hb cx a w ρ _ hN hk0 h hf fun e a w hn=>?_)⟩;obtain ⟨tm,S,nx,ρ,h,hf,rfl,rfl,rfl,rfl⟩:=hn;exact hQ .ret _ _ ⟨_,_,_,_,h,hf,rfl,rfl,rfl,rfl⟩
 obtain ⟨e,t',S',n',hq,hgo⟩:=key m t0 S0 n0 hI0;refine ⟨e,t',S',n',hq,fun cx a w ρ Q' hN hk0 h hf hQ=>gD.go ?_⟩;subst hk0;obtain ⟨_,_,_,ρ2,h2,hf2,rfl,rfl,rfl⟩:=iE hl0 h hf;exact hgo cx a w ρ2 Q' hN rfl h2 hf2 hQ
theorem bU (hty : dW E) (hmix : E.P.follows .mixedOrders = true) {f : FuncId} {fn : Func} {c : Code} (hf : E.P.funcs[f]? = some fn) (hb : fn.body = some c) (hname : (fn.name == "runtime.NumGoroutine") = false) (hok : gm fn.ntmps c = true)
   {k:Nat} {cds:List D} {Sa:ac} {G:D→ac→Prop} (hle:cds.length≤fn.ntmps) (h:Cd E k c (py 0 cds) Sa k (JP E k fn.results.toList G)):∃ d S',G d S'∧Con E f k cds Sa d S':=by
 obtain ⟨e,t,S,n,hq,ha⟩:=h.out fn.ntmps hty hmix hok;have fin:∀ d S',HC E k fn.results.toList d S' e t S n→G d S'→∃ d S',G d S'∧Con E f k cds Sa d S':=by
  intro d S' hfin hg;refine ⟨d,S',hg,wn hty hf hb hname hle fun cx a w ρ Q' hN hk0 h hf hQ=>ha cx a w ρ Q' hN hk0 h hf fun e1 a w hn=>?_⟩;obtain ⟨tm,S,nx,ρ,h,hf,rfl,rfl,rfl,rfl⟩:=hn;exact hQ _ _ _ ⟨_,_,_,_,h,hf,hfin⟩
 cases e with
 | normal=>obtain ⟨d,S',h1,h2⟩:=hq; exact fin d S' h1 h2
 | ret=>obtain ⟨d,S',h1,h2⟩:=hq; exact fin d S' h1 h2
 | exit i=>exact hq.elim
theorem bK (hty : dW E) (hmix : E.P.follows .mixedOrders = true) {f : FuncId} {fn : Func} {c : Code} (hf : E.P.funcs[f]? = some fn) (hb : fn.body = some c) (hname : (fn.name == "runtime.NumGoroutine") = false) (hok : gm fn.ntmps c = true)
   {k:Nat} {cds:List D} {Sa:ac} {d:D} {S':ac} (hle:cds.length≤fn.ntmps) (h:Cd E k c (py 0 cds) Sa k (HC E k fn.results.toList d S')):Con E f k cds Sa d S':=by
 obtain ⟨e,t,S,n,hq,ha⟩:=h.out fn.ntmps hty hmix hok;refine wn hty hf hb hname hle fun cx a w ρ Q' hN hk0 h hf hQ=>ha cx a w ρ Q' hN hk0 h hf fun e1 a w hn=>?_;obtain ⟨tm,S,nx,ρ,h,hf,rfl,rfl,rfl,rfl⟩:=hn;exact hQ _ _ _ ⟨_,_,_,_,h,hf,hq⟩
end
end Go.Ab
namespace Go.Ab
open Go Go.RowKit
theorem bn {x:Bool} {K:Bool→Prop} (h:aH x fun b=>K (!b)):aH (!x) K:=by
 cases x
 · exact ⟨fun _=>h.f rfl,fun h=>Bool.noConfusion h⟩
 · exact ⟨fun h=>Bool.noConfusion h,fun _=>h.t rfl⟩
theorem bd {p:Prop} [Decidable p] {K:Bool→Prop} (h1:p→K true) (h2:¬ p→K false):aH (decide p) K:=
 ⟨fun h=>h1 (of_decide_eq_true h),fun h=>h2 (of_decide_eq_false h)⟩
theorem bt {p:Prop} [Decidable p] {K:Bool→Prop} (hp:p) (h:K true):aH (decide p) K:=bd (fun _=>h) (fun n=>absurd hp n)
theorem bf {p:Prop} [Decidable p] {K:Bool→Prop} (hp:¬ p) (h:K false):aH (decide p) K:=bd (fun n=>absurd n hp) (fun _=>h)
theorem bT {x:Bool} {K:Bool→Prop} (hx:x=true) (h:K true):aH x K:=by subst hx; exact .tt h
theorem bF {x:Bool} {K:Bool→Prop} (hx:x=false) (h:K false):aH x K:=by subst hx; exact .ff h
theorem bR {α:Type} {a:α} {i:Decidable (a=a)} {K:Bool→Prop} (h:K true):aH (@decide (a=a) i) K:=⟨fun _=>h,fun n=>absurd rfl (of_decide_eq_false n)⟩
theorem bS {x:Bool} {K:Bool→Prop} (h:K true):aH (x == x) K:=bT (beq_self_eq_true x) h
theorem wi {n:Int} {K:Int→Prop} (hn:-9223372036854775808≤n∧n≤9223372036854775807) (h:K n):∃ r,IntKind.i64.wrap n=r∧K r:=⟨n,Go.IntWalk.i64_in n hn,h⟩
theorem wb {n:Int} {K:Int→Prop} (hn:0≤n∧n≤255) (h:K n):∃ r,IntKind.u8.wrap n=r∧K r:=⟨n,Go.IntWalk.u8_in n hn,h⟩
theorem wr {m n:Int} {K:Int→Prop} (hm:0≤m) (hn:0 < n) (h:K (m % n)):n≠0∧∃ r,m.tmod n=r∧K r:=⟨by omega,m % n,Int.tmod_eq_emod_of_nonneg hm,h⟩
theorem wq {m n:Int} {K:Int→Prop} (hm:0≤m∧m≤9223372036854775807) (hn:0 < n) (h:K (m / n)):n≠0∧∃ r,IntKind.i64.wrap (m.tdiv n)=r∧K r:=⟨by omega,m / n,Go.IntWalk.i64_quo m n ⟨hm.1,hm.2,hn⟩,h⟩
theorem mg {α β:Type} {l:List α} {f:α→β} {i:Nat} {x:α} (h:l[i]?=some x):(l.map f)[i]?=some (f x):=by rw [zAO,h]; rfl
theorem av {α:Type} (l:List α) (i:Nat) (h:i≤l.length):(i=l.length∧l.drop i=[])∨∃ x r,l[i]?=some x∧l.drop i=x :: r∧l.drop (i+1)=r∧i < l.length:=by
 by_cases hl:i < l.length
 · exact .inr ⟨l[i],l.drop (i+1),zAB hl,List.drop_eq_getElem_cons hl,rfl,hl⟩
 · exact .inl ⟨by omega,List.drop_of_length_le (by omega)⟩
theorem dv {α:Type} {l:List α} {i:Nat} {x:α} (h:l[i]?=some x):l.take (i+1)=l.take i++[x]:=by
 rw [zAY,h]; rfl
theorem nO {α β:Type} {l:List α} {f:α→β} {i:Nat} {x:α} (h:l[i]?=some x):(l.take i).map f++[f x]=(l.take (i+1)).map f:=by
 rw [dv h,zAH]; rfl
theorem Cc {P:Nat→Prop} {i:Nat} (ha:∀ k,k < i→P k) (hi:P i):∀ k,k < i+1→P k:=fun k hk=>by
 by_cases h:k=i
 · rw [h]; exact hi
 · exact ha k (by omega)
inductive cv (P:D→ac→Prop):Prop where
 | here (h:∃ d S',P d S')
 | never (h:False)
theorem cv.out {P:D→ac→Prop} (h:cv P):∃ d S',P d S':=by
 cases h with
 | here h=>exact h
 | never h=>exact h.elim
theorem anyK.auto {E:Env} {k0:Nat} {rv:List ResultVar} {G:D→ac→Prop} {tm:Tm} {S:ac} {nx:Nat}
   (h:nA E tm S rv fun ds=>dd (bO S 16 (cb (bA 0 k0) (en ds)) (cb (bA 0 k0) (en ds)))=true∧lF 0 k0 (bO S 16 (cb (bA 0 k0) (en ds)) (cb (bA 0 k0) (en ds)))=true ∧
     ∃ d,sU (bO S 16 (cb (bA 0 k0) (en ds)) (cb (bA 0 k0) (en ds))) (lG ds)=some d ∧
     G d (iQ (bO S 16 (cb (bA 0 k0) (en ds)) (cb (bA 0 k0) (en ds))) S (bO S 16 (cb (bA 0 k0) (en ds)) (cb (bA 0 k0) (en ds))) 0)):∃ d S',qt E k0 rv d S' tm S nx∧G d S':=by
 obtain ⟨ds,h1,h2⟩:=jD h;obtain ⟨g1,g2,d,g3,g4⟩:=h1;exact ⟨d,_,⟨[],bO S 16 (cb (bA 0 k0) (en ds)) (cb (bA 0 k0) (en ds)),h2 _ ⟨g1,g2,g3,rfl⟩⟩,g4⟩
def mh {α:Sort 1}:List Nat→(List Nat→α)→α
 | [],k=>k []
 | n :: r,k=>mh r fun r'=>k (n :: r')
theorem h9 {α:Sort 1}:∀ (l:List Nat) (k:List Nat→α),mh l k=k l
 | [],_=>rfl
 | n :: r,k=>by rw [mh,h9 r]
def tC (tm:Tm):List Nat→List Nat→(List Nat→Prop)→Prop
 | [],ns,k=>k ns
 | t :: r,ns,k=>match lk tm t with
   | some d=>mh (cb ns (nmR d)) fun ns'=>tC tm r ns' k
   | none=>tC tm r ns k
theorem mG (tm:Tm):∀ (ts ns:List Nat) (k:List Nat→Prop),tC tm ts ns k=k (f9 tm ts ns)
 | [],_,_=>rfl
 | t :: r,ns,k=>by
   unfold tC f9;cases lk tm t with
   | none=>exact mG tm r ns k
   | some d=>simp only [h9]; exact mG tm r _ k
def jf (S:ac):Nat→List Nat→List Nat→(List Nat→Prop)→Prop
 | 0,_,ns,k=>k ns
 | _+1,[],ns,k=>k ns
 | f+1,n :: r,ns,k=>match lk S n with
   | some b=>mh (r++kf ns (cz b)) fun r'=>mh (cb ns (cz b)) fun ns'=>jf S f r' ns' k
   | none=>jf S f r ns k
theorem ga (S:ac):∀ (f:Nat) (r ns:List Nat) (k:List Nat→Prop),jf S f r ns k=k (bO S f r ns)
 | 0,_,_,_=>by unfold jf bO; rfl
 | f+1,[],_,_=>rfl
 | f+1,n :: r,ns,k=>by
   unfold jf bO;cases lk S n with
   | none=>exact ga S f r ns k
   | some b=>simp only [h9]; exact ga S f _ _ k
theorem la {k0:Nat} {tm:Tm} {S:ac} {nx:Nat} {J:Tm→ac→Nat→Prop} (ts:List Nat)
   (h:tC tm ts (bA 0 k0) fun n0=>jf S 16 n0 n0 fun ns=>dd ns=true∧lF 0 k0 ns=true∧J (kg ns tm ts) (iQ ns S ns 0) ns.length):g9 k0 tm S nx J:=by
 rw [mG,ga] at h;exact ⟨[],ts,_,h⟩
theorem fa {E:Env} {k0:Nat} {rv:List ResultVar} {d:D} {S':ac} {tm:Tm} {S:ac} {nx:Nat}
   (h:nA E tm S rv fun ds=>mh (cb (bA 0 k0) (en ds)) fun n0=>jf S 16 n0 n0 fun ns=>dd ns=true∧lF 0 k0 ns=true∧sU ns (lG ds)=some d∧iQ ns S ns 0=S'):qt E k0 rv d S' tm S nx:=by
 simp only [h9,ga] at h;exact qt.auto h
theorem aa {E:Env} {k0:Nat} {rv:List ResultVar} {G:D→ac→Prop} {tm:Tm} {S:ac} {nx:Nat}
   (h:nA E tm S rv fun ds=>mh (cb (bA 0 k0) (en ds)) fun n0=>jf S 16 n0 n0 fun ns=>dd ns=true∧lF 0 k0 ns=true ∧
     ∃ d,sU ns (lG ds)=some d∧G d (iQ ns S ns 0)):∃ d S',qt E k0 rv d S' tm S nx∧G d S':=by
 simp only [h9,ga] at h;exact anyK.auto h
theorem Cd.loop2 {E:Env} {k0:Nat} {tm:Tm} {S:ac} {nx:Nat} {Q:Ex→Tm→ac→Nat→Prop} {b:Code} (I:Nat→Tm→ac→Nat→Prop) (h0:g9 k0 tm S nx fun t s n=>∃ m,I m t s n) (h:∀ m tm S nx,I m tm S nx→Cd E k0 b tm S nx fun e tm S nx'=>match e with
   | .normal=>jQ m fun m'=>g9 k0 tm S nx' (I m')
   | e=>Q e tm S nx'):Cd E k0 (.loop b) tm S nx Q:=by
 refine Cd.loop I ?_ h;obtain ⟨t1,S1,n1,⟨m,hm⟩,hl⟩:=jE h0;refine ⟨m,?_⟩;obtain ⟨ms,ts,ns,hl⟩:=hl;refine ⟨ms,ts,ns,?_⟩
 match h1:mvs ms tm S nx with
 | some (tm1,S1',n1')=>
   rw [h1] at hl;obtain ⟨a,b,c,d,e⟩:=hl;exact ⟨a,b,by rw [c,d,e]; exact hm⟩
 | none=>rw [h1] at hl; exact hl.elim
end Go.Ab
namespace Go.Ab
open Go Go.RowKit Go.ChangeShapes Go.WideShapes Go.ChangeAt
section
variable {H:Type} {enc:TypeId × Value→H} {P:Program} {W:World}
end
end Go.Ab
namespace Go.Ab
open Go Go.RowKit
def nP (k0:Nat) (S:ac):List Nat→List Mv
 | []=>[]
 | n :: r=>match Nat.blt n k0 with
   | true=>nP k0 S r
   | false=>match lk S n with
     | some (.own _ _)=>.ice n :: nP k0 S r
     | some (.fr _)=>.ice n :: nP k0 S r
     | some (.deep _ _ _)=>.ice n :: nP k0 S r
     | _=>nP k0 S r
def zR (k0:Nat) (tm:Tm) (S:ac):List Nat→List Nat→List Nat
 | [],ns=>ns
 | t :: r,ns=>match lk tm t with
   | some d=>zR k0 tm S r (cb ns (nmD d))
   | none=>zR k0 tm S r ns
theorem li {k0:Nat} {tm:Tm} {S:ac} {nx:Nat} {J:Tm→ac→Nat→Prop} (is ts:List Nat)
   (h:mh (zR k0 tm S is []) fun ls=>match mvs (nP k0 S ls) tm S nx with
     | some (tm1,S1,_)=>tC tm1 ts (bA 0 k0) fun n0=>jf S1 16 n0 n0 fun ns=>dd ns=true∧lF 0 k0 ns=true∧J (kg ns tm1 ts) (iQ ns S1 ns 0) ns.length
     | none=>False):g9 k0 tm S nx J:=by
 rw [h9] at h
 match hm:mvs (nP k0 S (zR k0 tm S is [])) tm S nx,h with
 | some (tm1,S1,nx1),h=>
   simp only [mG,ga] at h;refine ⟨nP k0 S (zR k0 tm S is []),ts,bO S1 16 (f9 tm1 ts (bA 0 k0)) (f9 tm1 ts (bA 0 k0)),?_⟩;rw [hm];exact h
theorem Gz {xs:List (List D)} {z n:Nat} (h:∀ cs∈xs,cs.length=z):∀ cs∈xs.take n,cs.length=z:=fun cs hc=>h cs (zAz hc)
theorem GA {xs:List (List D)} {z n:Nat} (h:∀ cs∈xs,cs.length=z):∀ cs∈xs.drop n,cs.length=z:=fun cs hc=>h cs (zBT hc)
theorem HQ {xs ys:List (List D)} {z:Nat} (h:∀ cs∈xs,cs.length=z) (h':∀ cs∈ys,cs.length=z):∀ cs∈xs++ys,cs.length=z:=fun cs hc=>(zAu.1 hc).elim (h cs) (h' cs)
theorem HR {z:Nat}:∀ cs∈([]:List (List D)),cs.length=z:=fun _ h=>by cases h
end Go.Ab
namespace Go.Ab
open Go Go.RowKit
def fB (b:Blk) (k:Blk→Prop):Prop:=
 match b with
 | .box e cs=>k (.box e cs)
 | .own e xs=>k (.own e xs)
 | .row e xs=>k (.row e xs)
 | .fr xs=>k (.fr xs)
 | .deep e e2 zs=>k (.deep e e2 zs)
theorem Jq (b:Blk) (k:Blk→Prop):fB b k=k b:=by cases b <;> rfl
def fS:ac→(ac→Prop)→Prop
 | [],k=>k []
 | (n,b) :: r,k=>fB b fun b'=>fS r fun r'=>k ((n,b') :: r')
theorem DQ:∀ (S:ac) (k:ac→Prop),fS S k=k S
 | [],_=>rfl
 | (n,b) :: r,k=>by rw [fS,Jq,DQ r]
section
variable {E:Env} {ops:Array Oper} {tm:Tm} {S:ac} {nx:Nat} {fs:List Fp} {K:List Fp→Tm→ac→Nat→Prop}
theorem Ops.noneF {o:Oper} {r:List Oper} (hg:o.guard=Option.none) (h:jj E o tm S nx fun fp tm S nx=>fS S fun S=>Ops E ops r tm S nx (fp :: fs) K):Ops E ops (o :: r) tm S nx fs K:=by
 simp only [DQ] at h;exact Ops.none hg h
theorem Ops.guardF {o:Oper} {r:List Oper} {j:Nat} {want:Bool} {t:Nat} {x:Bool} (hg:o.guard=some (j,want)) (ht:(ops[j]?).bind (·.dst)=some t) (hx:lk tm t=some (.b x))
   (h:aH x fun y=>match (generalizing:=false) want,y with
     | true,true=>jj E o ((t,.b true) :: tm) S nx fun fp tm S nx=>fS S fun S=>Ops E ops r tm S nx (fp :: fs) K
     | false,false=>jj E o ((t,.b false) :: tm) S nx fun fp tm S nx=>fS S fun S=>Ops E ops r tm S nx (fp :: fs) K
     | _,y=>Ops E ops r (put o.dst (.tup []) ((t,.b y) :: tm)) S nx (fp0 :: fs) K):Ops E ops (o :: r) tm S nx fs K:=by
 simp only [DQ] at h;exact Ops.guard hg ht hx h
end
structure kT (Q:Prop):Prop where
 out:Q
theorem Ra {P Q:Prop} (k:kT Q) (h:kT Q→P:=by
 intro k
 conv=>whnf
 (first
  | refine Ops.noneF rfl ?_|refine Cd.seq ?_|refine Ops.nil ?_|refine Cd.region ?_|refine Ops.guardF rfl rfl rfl ?_|refine Ops.off rfl rfl rfl ?_|refine Cd.cond rfl ?_|refine Cd.block ?_|refine Cd.exit ?_|refine Cd.ret ?_|refine Cd.skip ?_|refine Cd.drawn ?_
  | refine And.intro (a:=mf _ _=true) (by kernel_rfl) ?_|refine ak.out ?_|refine cv.out ?_|refine aH.tt ?_|refine aH.ff ?_|refine bn ?_|with_reducible refine bR ?_|with_reducible refine bS ?_|refine bt ‹_› ?_|refine bf ‹_› ?_
  | refine bt (by first|omega|(simp only [zAA,List.length_cons,List.length_nil]; first|done|omega)) ?_
  | refine bf (by first|omega|(simp only [zAA,List.length_cons,List.length_nil]; first|done|omega)) ?_
  | refine bT ‹_› ?_|refine bF ‹_› ?_|fail)
 conv=>whnf
 repeat ((first
  | refine Ops.noneF rfl ?_|refine Cd.seq ?_|refine Ops.nil ?_|refine Cd.region ?_|refine Ops.guardF rfl rfl rfl ?_|refine Ops.off rfl rfl rfl ?_|refine Cd.cond rfl ?_|refine Cd.block ?_|refine Cd.exit ?_|refine Cd.ret ?_|refine Cd.skip ?_|refine Cd.drawn ?_
  | refine And.intro (a:=mf _ _=true) (by kernel_rfl) ?_|refine ak.out ?_|refine cv.out ?_|refine aH.tt ?_|refine aH.ff ?_|refine bn ?_|with_reducible refine bR ?_|with_reducible refine bS ?_|refine bt ‹_› ?_|refine bf ‹_› ?_
  | refine bt (by first|omega|(simp only [zAA,List.length_cons,List.length_nil]; first|done|omega)) ?_
  | refine bf (by first|omega|(simp only [zAA,List.length_cons,List.length_nil]; first|done|omega)) ?_
  | refine bT ‹_› ?_|refine bF ‹_› ?_|fail); conv=>whnf)
 exact k.out):P:=h k
theorem Rb {P Q:Prop} (k:kT Q) (h:kT Q→P:=by
 intro k
 (first
  | refine wi (by first|omega|(simp only [zAA,List.length_cons,List.length_nil]; first|done|omega)) ?_
  | refine ⟨_,_,rfl,mg ‹_›,rfl,?_⟩|refine ⟨_,_,rfl,‹_›,?_⟩|refine ⟨0,_,rfl,rfl,rfl,?_⟩|refine ⟨0,_,rfl,rfl,?_⟩|refine ⟨_,_,rfl,fk (by omega),rfl,?_⟩|refine ⟨_,mg ‹_›,?_⟩|refine ⟨_,fk (by omega),?_⟩
  | refine ⟨_,(rfl:getElem? (_:List (List D)) _=some _),?_⟩|refine ⟨pC fun _=>rfl,?_⟩
  | refine ⟨(by repeat' (first|exact pC (fun _=>rfl)|exact xU rfl|exact HR|assumption|refine Gz ?_|refine GA ?_|refine HQ ?_ ?_):∀ cs∈(_:List (List D)),cs.length=_),?_⟩
  | refine ⟨zAC rfl,zAC rfl,xU rfl,?_⟩|refine ⟨zAC rfl,zAC rfl,?_⟩
  | refine ⟨(by refine Decidable.byContradiction fun hbnd=>?_; (try unfold eN at hbnd); (try simp only [bh,zAA,zAT,List.length_cons,List.length_nil,zAd,zAy,zBL,zAS] at hbnd); omega),?_⟩
  | refine ⟨(zAC rfl:_≤wide),?_⟩|refine ⟨(rfl:sS _=true),?_⟩|refine ⟨(rfl:kA _ _=false),?_⟩|refine ⟨_,(rfl:(_:Int)=((_:Nat):Int)),?_⟩|fail)
 conv=>whnf
 exact k.out):P:=h k
theorem Rw {P Q:Prop} (k:kT Q) (h:kT Q→P:=by
 intro k
 (first|(refine Ops.noneF rfl ?_; conv=>whnf)|(refine Cd.seq ?_)|(refine Ops.nil ?_; conv=>whnf)|(refine Cd.region ?_)|(refine Ops.guardF rfl rfl rfl ?_)|(refine Ops.off rfl rfl rfl ?_)|(refine Cd.cond rfl ?_)|(refine Cd.block ?_)|(refine Cd.exit ?_; conv=>whnf)|(refine Cd.ret ?_; conv=>whnf)|(refine Cd.skip ?_; conv=>whnf)|(refine Cd.drawn ?_)|(refine And.intro (a:=mf _ _=true) (by kernel_rfl) ?_; conv=>whnf)|refine ak.out ?_|fail)
 repeat (first|(refine Ops.noneF rfl ?_; conv=>whnf)|(refine Cd.seq ?_)|(refine Ops.nil ?_; conv=>whnf)|(refine Cd.region ?_)|(refine Ops.guardF rfl rfl rfl ?_)|(refine Ops.off rfl rfl rfl ?_)|(refine Cd.cond rfl ?_)|(refine Cd.block ?_)|(refine Cd.exit ?_; conv=>whnf)|(refine Cd.ret ?_; conv=>whnf)|(refine Cd.skip ?_; conv=>whnf)|(refine Cd.drawn ?_)|(refine And.intro (a:=mf _ _=true) (by kernel_rfl) ?_; conv=>whnf)|refine ak.out ?_|fail)
 exact k.out):P:=h k
theorem Rs {P Q:Prop} (k:kT Q) (h:kT Q→P:=by
 intro k
 (first
  | (refine ⟨_,Go.IntWalk.i64_in _ (by (try simp only [zAA]); omega),?_⟩; conv=>whnf)
  | (refine ⟨_,_,rfl,zAB (by omega),?_⟩; conv=>whnf)|(refine ⟨0,_,rfl,rfl,?_⟩; conv=>whnf)
  | (refine ⟨_,_,rfl,fk (by omega),rfl,?_⟩; conv=>whnf)
  | (refine ⟨_,fk (by omega),?_⟩; conv=>whnf)
  | (refine ⟨pC fun _=>rfl,?_⟩; conv=>whnf)
  | (refine ⟨zAC rfl,zAC rfl,xU rfl,?_⟩; conv=>whnf)
  | (refine ⟨zAC rfl,zAC rfl,?_⟩; conv=>whnf)
  | (refine ⟨(by refine Decidable.byContradiction fun hbnd=>?_; (try unfold eN at hbnd); (try simp only [bh,zAA,zAT,List.length_cons,List.length_nil,zAd,zAy,zBL,zAS] at hbnd); omega),?_⟩; conv=>whnf)
  | (refine ⟨(zAC rfl:_≤wide),?_⟩; conv=>whnf)|(refine ⟨(rfl:sS _=true),?_⟩; conv=>whnf)|(refine ⟨(rfl:kA _ _=false),?_⟩; conv=>whnf)
  | (refine ⟨_,(rfl:(_:Int)=((_:Nat):Int)),?_⟩; conv=>whnf)|fail)
 exact k.out):P:=h k
theorem Rc {E:Env} {f:FuncId} {ds:List D} {S:ac} {nx:Nat} {A B:List Nat→List D→ac→D→ac→Nat→Prop} (ns:List Nat) (c:Nat) {cds:List D} {Sa:ac} {d:D} {S':ac} (ar:aDs ns S ds=some cds) (st:nz ns S ns 0=some Sa) (con:Con E f ns.length cds Sa d S') (k:B ns cds Sa d S' c)
 (nd:dd ns=true:=by exact rfl) (keys:DE (ns.length+c) S'=true:=by exact rfl) (dom:(ltB (ns.length+c) (nmR d) && kC (ns.length+c) S')=true:=by exact rfl) :
 ∃ (ns:List Nat) (cds:List D) (Sa:ac) (d:D) (S':ac) (c:Nat),BF E f ds S nx ns cds Sa d S' c∧(A ns cds Sa d S' c∨B ns cds Sa d S' c):=⟨ns,cds,Sa,d,S',c,⟨nd,ar,st,con,keys,dom⟩,.inr k⟩
theorem Rf {P:Prop} (h:P:=by
 first|refine ak.here (fa ?_)|refine fa ?_
 conv=>whnf
 first
  | exact ⟨rfl,rfl,rfl,rfl⟩
  | refine ⟨rfl,rfl,congrArg some (congrArg D.s ?_),rfl⟩
  | refine ⟨rfl,rfl,congrArg some (congrArg D.b ?_),rfl⟩
  | refine ⟨rfl,rfl,congrArg some (congrArg (D.k _) ?_),rfl⟩
  | refine ⟨rfl,rfl,congrArg some (congrArg D.agg ?_),rfl⟩
  | refine ⟨rfl,rfl,rfl,?_⟩
 all_goals first
  | rfl
  | (simp_all; done)
  | (simp <;> (repeat' split) <;> omega)
  | (rw [zAK]; simp [*] <;> omega)
  | fail):P:=h
theorem Rd {P Q1 Q2 p1 p2:Prop} (k1:p1→kT Q1) (k2:p2→kT Q2) (h:(p1→kT Q1)→(p2→kT Q2)→P:=by
 intro k1 k2
 first
  | (refine bd (fun h=>?_) (fun h=>?_)
     · (try simp only [zAA] at h)
       conv=>whnf
       exact (k1 h).out
     · (try simp only [zAA] at h)
       conv=>whnf
       exact (k2 h).out)
  | (refine aH.mk (fun h=>?_) (fun h=>?_)
     · conv=>whnf
       exact (k1 h).out
     · conv=>whnf
       exact (k2 h).out)):P:=h k1 k2
structure Jr (ns:List Nat) (c:Nat):Prop where
theorem Rp {E:Env} {f:FuncId} {ds:List D} {S:ac} {nx:Nat} {A B:List Nat→List D→ac→D→ac→Nat→Prop} {ns:List Nat} {c:Nat} (w:Jr ns c) {cds:List D} {Sa:ac} {d:D} {S':ac} (ar:aDs ns S ds=some cds) (st:nz ns S ns 0=some Sa) (con:Con E f ns.length cds Sa d S') (k:B ns cds Sa d S' c)
 (nd:dd ns=true) (keys:DE (ns.length+c) S'=true) (dom:(ltB (ns.length+c) (nmR d) && kC (ns.length+c) S')=true) :
 ∃ (ns:List Nat) (cds:List D) (Sa:ac) (d:D) (S':ac) (c:Nat),BF E f ds S nx ns cds Sa d S' c∧(A ns cds Sa d S' c∨B ns cds Sa d S' c):=Rc ns c ar st con k nd keys dom
theorem Rk {E:Env} {f:FuncId} {k:Nat} {cds:List D} {Sa:ac} {d:D} {S':ac} {P Q:Prop} (ns:List Nat) (c:Nat) (con:Con E f k cds Sa d S') (q:kT Q) (h:Jr ns c→Con E f k cds Sa d S'→kT Q→P:=by
 intro w con q;refine Rp w rfl rfl con ?_ rfl rfl rfl
 conv=>whnf
 exact q.out):P:=h ⟨⟩ con q
theorem R0 {E:Env} {f:FuncId} {cds:List D} {Sa:ac} {d:D} {S':ac} {P Q:Prop} (con:Con E f 0 cds Sa d S') (q:kT Q) (h:Con E f 0 cds Sa d S'→kT Q→P:=by
 intro con q;refine Rc [] 0 rfl rfl con ?_
 conv=>whnf
 exact q.out):P:=h con q
theorem Rx {P Q:Prop} (k:kT Q) (h:kT Q→P:=by
 intro k
 first|exact Ra k|exact Rb k|fail):P:=h k
theorem Rg {P Q:Prop} (k:kT Q) (h:kT Q→P:=by
 intro k
 first|refine ak.here (fa ?_)|refine fa ?_
 conv=>whnf
 first
  | (have t:True:=k.out; exact ⟨rfl,rfl,rfl,rfl⟩)
  | (refine ⟨rfl,rfl,congrArg some (congrArg D.s ?_),rfl⟩; exact k.out)
  | (refine ⟨rfl,rfl,congrArg some (congrArg D.b ?_),rfl⟩; exact k.out)
  | (refine ⟨rfl,rfl,congrArg some (congrArg (D.k _) ?_),rfl⟩; exact k.out)
  | (refine ⟨rfl,rfl,congrArg some (congrArg D.agg ?_),rfl⟩; exact k.out)
  | (refine ⟨rfl,rfl,rfl,?_⟩; exact k.out)):P:=h k
end Go.Ab
namespace Go.Ab
open Go Go.RowKit
section
variable {w:World} {Av:Nat→Prop}
end
section
variable {E:Env} {f:FuncId}
end
end Go.Ab
