/- Texts of this claim, set close: lemmas and contracts. -/
import Derived.Test.YtagejnomlkfndaaGreatDoorYY35
set_option linter.unusedSimpArgs false
set_option linter.unusedVariables false
set_option maxHeartbeats 1000000
set_option maxRecDepth 10000
namespace Go.Proofs.YtagejnomlkfndaaGreatDoor
open Go Go.RowKit Go.Ab Go.Par
variable {m:Int}
abbrev eo (x y:Opn):Bool:=decide (x.kind=y.kind) && (decide (x.path=y.path) && (decide (x.tgt=y.tgt) && (decide (x.data=y.data) && true)))
abbrev bxR (w:Wld) (a b c d:Nat) (L:List (List D)) (zs:List aE) (F N:List (List D)):ac:=[(0,.box 55 (wcO w a b c d)),(a,.own 132 L),(b,.deep 121 68 zs),(c,.own 3 F),(d,.own 70 N)]
abbrev bxT (w:Wld) (a b c d:Nat) (zs:List aE):ac:=bxR w a b c d (w.leases.map Lse.c) zs (ck w.floors) (w.net.map Mes.c)
variable {m:Int}
theorem jz (net:List Mes) (cnt:Int) (l:Lse) (r:List Lse):dQ net cnt (l :: r)=dQ (bZ net ⟨3,l.who,aZ l.path cnt⟩) cnt r:=rfl
theorem j7 {net:List Mes} {x:Mes} {n:Nat} (h:net.length≤n) (hn:12≤n):(bZ net x).length≤n:=by
 unfold bZ;split
 · simp; omega
 · exact h
theorem nw {v:List Ent} {clk:Int} {ls:List Lse} {p:Opn}:(dg v clk ls p).length≤ls.length:=zAa _ _
theorem qd {ls:List Lse} {who:Int} {p:Bs} {n:Int} (h:∀ x∈ls,aW who p x=false):jY ls who p n=ls:=by
 unfold jY;rw [zBV];intro x hx;simp [h x hx]
theorem gA {α:Type} {f:α→Bool}:∀ {l:List α} {i:Nat} {x:α},l[i]?=some x→f x=false→(∀ (j:Nat) y,l[j]?=some y→j≠i→f y=true)→l.filter f=l.eraseIdx i
 | [],i,x,h,_,_=>by simp at h
 | a :: r,0,x,h,hx,ho=>by
   simp at h;subst h;rw [List.filter_cons_of_neg (by simp [hx]),List.eraseIdx_cons_zero,zBV];intro y hy;obtain ⟨j,hj⟩:=List.mem_iff_getElem?.1 hy;exact ho (j+1) y (by simpa using hj) (by omega)
 | a :: r,i+1,x,h,hx,ho=>by
   rw [List.filter_cons_of_pos (ho 0 a rfl (by omega)),List.eraseIdx_cons_succ,gA (l:=r) (i:=i) (by simpa using h) hx fun j y hj hne=>ho (j+1) y (by simpa using hj) (by omega)]
theorem uL {ls:List Lse} (hu:ls.Pairwise fun a b=>¬ (a.who=b.who∧a.path=b.path)) {who:Int} {p:Bs} {i:Nat} {x:Lse} (h:ls[i]?=some x) (hx:aW who p x=true) {j:Nat} {y:Lse} (hj:ls[j]?=some y) (hne:j≠i):aW who p y=false:=by
 rw [zBF] at hu;obtain ⟨hi,rfl⟩:=List.getElem?_eq_some_iff.1 h;obtain ⟨hj',rfl⟩:=List.getElem?_eq_some_iff.1 hj;simp only [aW,zAE,decide_eq_true_eq] at hx;rw [← zAZ];intro hy;simp only [aW,zAE,decide_eq_true_eq] at hy;rcases zBZ hne with g|g
 · exact hu j i hj' hi g ⟨by rw [hy.1,hx.1],by rw [hy.2,hx.2]⟩
 · exact hu i j hi hj' g ⟨by rw [hy.1,hx.1],by rw [hy.2,hx.2]⟩
theorem sI {ls:List Lse} (hu:ls.Pairwise fun a b=>¬ (a.who=b.who∧a.path=b.path)) {who:Int} {p:Bs} {n:Int} {i:Nat} {x:Lse} (h:ls[i]?=some x) (hx:aW who p x=true) (hn:x.num≤n):jY ls who p n=ls.eraseIdx i:=by
 unfold jY;refine gA h (by simp [hx,hn]) fun j y hj hne=>?_;simp [uL hu h hx hj hne]
theorem A6 {ls:List Lse} (hu:ls.Pairwise fun a b=>¬ (a.who=b.who∧a.path=b.path)) {who:Int} {p:Bs} {n:Int} {i:Nat} {x:Lse} (h:ls[i]?=some x) (hx:aW who p x=true) (hn:¬ x.num≤n):jY ls who p n=ls:=by
 unfold jY;rw [zBV];intro y hy;obtain ⟨j,hj⟩:=List.mem_iff_getElem?.1 hy;by_cases e:j=i
 · subst e;rw [h] at hj;cases hj;simp [hn]
 · simp [uL hu h hx hj e]
variable {m:Int}
abbrev gone (clk:Int) (l:Lse):Bool:=decide (l.til≤clk)
abbrev tkS (w:Wld) (L:List (List D)) (zs:List aE):ac:=[(0,.own 132 L),(1,.box 180 [.bp 2 0]),(2,.box 55 (wcO w 0 3 4 5)),(3,.deep 121 68 zs),(4,.own 3 (ck w.floors)),(5,.own 70 (w.net.map Mes.c))]
abbrev tkT (w:Wld) (L:List (List D)) (zs:List aE):ac:=[(0,.box 180 [.bp 1 0]),(1,.box 55 (wcO w 2 3 4 5)),(2,.own 132 L),(3,.deep 121 68 zs),(4,.own 3 (ck w.floors)),(5,.own 70 (w.net.map Mes.c))]
theorem jJ {ls:List Lse} {clk:Int} {j:Nat} {x:Lse} (h:ls[j]?=some x):(ls.take (j+1)).filter (fun l=>!gone clk l)=(ls.take j).filter (fun l=>!gone clk l)++(if gone clk x then [] else [x]):=by
 rw [zAY,h,zAj];congr 1
 cases hg:gone clk x <;> simp [hg]
theorem A9 {α:Type} (f:α→List D) (X:List α) (i:Nat) (hi:i≤X.length) (z:List D):((X.map f).take i++List.replicate ((X.map f).length - i) z++(X.map f).drop (X.map f).length).take i=(X.take i).map f:=by
 have e1:((X.map f).take i).length=i:=by simp; omega
 rw [zAl,uy _ _ _ e1,zBW]
variable {m:Int}
theorem Bb {l:List (List Hld)} (h:l.length=3):∃ a b c,l=[a,b,c]:=by
 match l,h with
 | [a,b,c],_=>exact ⟨a,b,c,rfl⟩
theorem uT {l:List Int} (h:l.length=3):∃ a b c,l=[a,b,c]:=by
 match l,h with
 | [a,b,c],_=>exact ⟨a,b,c,rfl⟩
theorem l6 {hs:List Hld} (hu:hs.Pairwise fun a b=>a.path≠b.path) {p:Bs} {i:Nat} {x:Hld} (h:hs[i]?=some x) (hx:hb p x=true) {j:Nat} {y:Hld} (hj:hs[j]?=some y) (hne:j≠i):hb p y=false:=by
 rw [zBF] at hu;obtain ⟨hi,rfl⟩:=List.getElem?_eq_some_iff.1 h;obtain ⟨hj',rfl⟩:=List.getElem?_eq_some_iff.1 hj;have hx:=of_decide_eq_true hx;refine decide_eq_false fun hy=>?_;rcases zBZ hne with g|g
 · exact hu j i hj' hi g (by rw [hy,hx])
 · exact hu i j hi hj' g (by rw [hy,hx])
theorem iI {hs:List Hld} {p:Bs} {n:Int} (h:∀ x∈hs,hb p x=false):bP hs p n=hs:=by
 unfold bP;rw [zBV];intro x hx
 have:=h x hx
 simp only [decide_eq_false_iff_not] at this;simp [this]
theorem jK {hs:List Hld} (hu:hs.Pairwise fun a b=>a.path≠b.path) {p:Bs} {n:Int} {i:Nat} {x:Hld} (h:hs[i]?=some x) (hx:hb p x=true) (hn:x.num≤n):bP hs p n=hs.eraseIdx i:=by
 unfold bP;refine gA h (by have:=of_decide_eq_true hx; simp [this,hn]) fun j y hj hne=>?_
 have:=l6 hu h hx hj hne
 simp only [decide_eq_false_iff_not] at this;simp [this]
theorem iJ {hs:List Hld} (hu:hs.Pairwise fun a b=>a.path≠b.path) {p:Bs} {n:Int} {i:Nat} {x:Hld} (h:hs[i]?=some x) (hx:hb p x=true) (hn:¬ x.num≤n):bP hs p n=hs:=by
 unfold bP;rw [zBV];intro y hy;obtain ⟨j,hj⟩:=List.mem_iff_getElem?.1 hy;by_cases e:j=i
 · subst e;rw [h] at hj;cases hj;simp [hn]
 · have:=l6 hu h hx hj e
   simp only [decide_eq_false_iff_not] at this;simp [this]
theorem jL {hs:List Hld} {g:Hld} (h:∀ x∈hs,hb g.path x=false):cN hs g=hs++[g]:=by
 unfold cN;have h1:(hs.any fun x=>decide (x.path=g.path) && decide (g.num≤x.num))=false:=by
  rw [List.any_eq_false];intro x hx
  have:=h x hx
  simp only [decide_eq_false_iff_not] at this;simp [this]
 rw [h1,if_neg (by simp),zBV.2];intro x hx
 have:=h x hx
 simp only [decide_eq_false_iff_not] at this;simp [this]
theorem lC {hs:List Hld} {g:Hld} {i:Nat} {x:Hld} (h:hs[i]?=some x) (hx:hb g.path x=true) (hn:g.num≤x.num):cN hs g=hs:=by
 unfold cN;have h1:(hs.any fun x=>decide (x.path=g.path) && decide (g.num≤x.num))=true:=by
  rw [zAp];exact ⟨x,zAD h,by simp [of_decide_eq_true hx,hn]⟩
 rw [h1,if_pos rfl]
theorem lD {hs:List Hld} (hu:hs.Pairwise fun a b=>a.path≠b.path) {g:Hld} {i:Nat} {x:Hld} (h:hs[i]?=some x) (hx:hb g.path x=true) (hn:¬ g.num≤x.num):cN hs g=hs.eraseIdx i++[g]:=by
 unfold cN;have h1:(hs.any fun x=>decide (x.path=g.path) && decide (g.num≤x.num))=false:=by
  rw [List.any_eq_false];intro y hy;obtain ⟨j,hj⟩:=List.mem_iff_getElem?.1 hy;by_cases e:j=i
  · subst e;rw [h] at hj;cases hj;simp [hn]
  · have:=l6 hu h hx hj e
    simp only [decide_eq_false_iff_not] at this;simp [this]
 rw [h1,if_neg (by simp)];congr 1
 refine gA h (by have:=of_decide_eq_true hx; simp [this]) fun j y hj hne=>?_
 have:=l6 hu h hx hj hne
 simp only [decide_eq_false_iff_not] at this;simp [this]
variable {m:Int}
variable {m:Int}
variable {m:Int}
variable {m:Int}
def wcH (w:Wld) (g0 g1 g2:List Hld):List D:=[.sl (w.over.base.map Ent.c),.sl (w.over.layers.map cm),.sl (w.over.upper.map Mrk.c),.k .i64 w.clock,.k .i64 w.count,.sl (w.leases.map Lse.c),.sl [cy g0,cy g1,cy g2],.sl (ck w.floors),.sl (w.net.map Mes.c),.b w.waits,.k .i64 w.op.kind,.s w.op.path,.s w.op.tgt,.s w.op.data]
theorem dV {w:Wld} {g0 g1 g2:List Hld} (h:w.holds=[g0,g1,g2]):w.c=wcH w g0 g1 g2:=by rw [Wld.c,h]; rfl
theorem jA (w:Wld) (p:Opn):(bQ w p).1.holds=w.holds:=by
 unfold bQ;split
 · rfl
 · split
   · rfl
   · split <;> rfl
theorem mc (w:Wld):(eI w).1.holds=w.holds:=by
 unfold eI;split
 · rfl
 · split <;> rfl
structure ql (e:Evn):Prop where
 path:e.path.length≤1073741823
 op:jc 1073741823 e.op
end Go.Proofs.YtagejnomlkfndaaGreatDoor
