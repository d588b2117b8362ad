/- Texts of this claim, set close: lemmas and contracts. -/
import Derived.Test.YtagejnomlkfndaaGreatDoorYY12
import Derived.Test.YtagejnomlkfndaaGreatDoorYY4
set_option linter.unusedSimpArgs false
set_option linter.unusedVariables false
namespace Go.Par
open Go Go.RowKit Go.Ab Go.Proofs Go.Sort
instance:Inhabited Ent:=⟨fG⟩
instance:Inhabited Mrk:=⟨⟨[],0,[]⟩⟩
abbrev vS (l:Bs):Value:=.string ⟨l.toArray⟩
def Ent.v (e:Ent):List Value:=[vS e.path,.bool e.dir,vS e.data]
def Mrk.v (m:Mrk):List Value:=[vS m.path,.int .i64 m.kind,vS m.data]
theorem zK:tV Ent.v Ent.c 3 where
 len _:=rfl
 lenD _:=rfl
 one x u hu:=by
  simp only [Ent.v,List.mem_cons,List.not_mem_nil,or_false] at hu;rcases hu with rfl|rfl|rfl <;> rfl
 rel w Av x j d hd:=by
  match j,hd with
  | 0,hd=>cases hd; exact ⟨_,rfl,.s _⟩
  | 1,hd=>cases hd; exact ⟨_,rfl,.b _⟩
  | 2,hd=>cases hd; exact ⟨_,rfl,.s _⟩
  | n+3,hd=>cases hd
 inv w Av x j d u hd hu:=by
  match j,hd with
  | 0,hd=>cases hd; cases hu; rfl
  | 1,hd=>cases hd; cases hu; rfl
  | 2,hd=>cases hd; cases hu; rfl
  | n+3,hd=>cases hd
theorem zL:tV Mrk.v Mrk.c 3 where
 len _:=rfl
 lenD _:=rfl
 one x u hu:=by
  simp only [Mrk.v,List.mem_cons,List.not_mem_nil,or_false] at hu;rcases hu with rfl|rfl|rfl <;> rfl
 rel w Av x j d hd:=by
  match j,hd with
  | 0,hd=>cases hd; exact ⟨_,rfl,.s _⟩
  | 1,hd=>cases hd; exact ⟨_,rfl,.k _ _⟩
  | 2,hd=>cases hd; exact ⟨_,rfl,.s _⟩
  | n+3,hd=>cases hd
 inv w Av x j d u hd hu:=by
  match j,hd with
  | 0,hd=>cases hd; cases hu; rfl
  | 1,hd=>cases hd; cases hu; rfl
  | 2,hd=>cases hd; cases hu; rfl
  | n+3,hd=>cases hd
def oY (a b:Bs):Int:=if lt a b then -1 else if lt b a then 1 else 0
theorem kg (a b:Bs):decide (oY a b < 0)=lt a b:=by
 unfold oY;cases lt a b
 · cases lt b a <;> simp
 · simp
theorem o4 {a b c:Bs} (h1:lt a b=false) (h2:lt b c=false):lt a c=false:=by
 rw [← zAa];intro h;rcases eZ a b with k|k|k
 · rw [h1] at k; cases k
 · rw [k,h2] at h; cases h
 · have:=lt_trans _ _ _ k h
   rw [h2] at this;cases this
theorem GR:SWO (ltOf fun x y:Ent=>oY x.path y.path) where
 irrefl x:=by rw [ltOf,kg]; exact fu _
 trans x y z h1 h2:=by
  rw [ltOf,kg] at *;exact lt_trans _ _ _ h1 h2
 ntrans x y z h1 h2:=by
  rw [ltOf,kg] at *;exact o4 h1 h2
theorem GS:SWO (ltOf fun x y:Mrk=>oY x.path y.path) where
 irrefl x:=by rw [ltOf,kg]; exact fu _
 trans x y z h1 h2:=by
  rw [ltOf,kg] at *;exact lt_trans _ _ _ h1 h2
 ntrans x y z h1 h2:=by
  rw [ltOf,kg] at *;exact o4 h1 h2
section
variable {α:Type} [Inhabited α] {pa:α→Bs}
theorem ut {L:List α} {d:Array α} (h:PermIn 0 L.toArray.size L.toArray d):d.toList.Perm L:=by
 obtain ⟨h1,_,h3⟩:=h;have e1:d.extract 0 L.toArray.size=d:=by rw [← h1]; simp
 have e2:L.toArray.extract 0 L.toArray.size=L.toArray:=by simp
 rw [e1,e2] at h3;exact h3
theorem pM {L:List α} {d:Array α} (h1:d.size=L.toArray.size) (h:SortedIn (ltOf fun x y:α=>oY (pa x) (pa y)) 0 L.toArray.size d):d.toList.Pairwise fun a b=>lt (pa b) (pa a)=false:=by
 rw [zBB];intro i j hi hj hij;have h2:=h i j (zAG _) hij (by rw [← h1]; simpa using hj);rw [ltOf,kg,getElem!_pos _ i (by simpa using hi),getElem!_pos _ j (by simpa using hj)] at h2;exact h2
end
theorem o5 {α:Type} {pa:α→Bs} {L U:List α} (hU:∀ S:List α,S.Perm L→(S.Pairwise fun a b=>lt (pa b) (pa a)=false)→S=U):U.length=L.length:=by
 have hp:(L.mergeSort fun x y=>!lt (pa y) (pa x)).Perm L:=List.mergeSort_perm _ _;have hs:(L.mergeSort fun x y=>!lt (pa y) (pa x)).Pairwise fun x y=>(!lt (pa y) (pa x))=true:=by
  refine List.pairwise_mergeSort (fun a b c h1 h2=>?_) (fun a b=>?_) _
  · simp only [zAI] at *;exact o4 h2 h1
  · cases h:lt (pa b) (pa a) with
    | false=>simp
    | true=>simp [kQ _ _ h]
 rw [← hU _ hp (hs.imp fun h=>by simpa using h),hp.length_eq]
end Go.Par
