/- Texts of this claim, set close: lemmas and contracts. -/
import Derived.Test.YtagejnomlkfndaaGreatDoorYY21
set_option linter.unusedSimpArgs false
set_option linter.unusedVariables false
namespace Go.Par
open Go.Ab
theorem Fh {a:List Ent} (ha:aq a=true):eA a a=[]:=by
 have h:bo a a=[]:=by
  cases h:bo a a with
  | nil=>rfl
  | cons p r=>
    have:p∈bo a a:=by rw [h]; simp
    rw [gI ha ha] at this;exact absurd rfl this
 unfold eA;rw [h];rfl
def i8 (o:Ovr):Ovr × Bool:=match bv o with
 | some _=>if o.layers.length=4 then (o,false) else (⟨o.base,o.layers++[o.upper],[]⟩,true)
 | none=>(ov0,false)
def n4:List Mrk→List (List Mrk)→Option (List Mrk)
 | one,[]=>some one
 | one,l :: r=>match dw l one with
   | some j=>n4 j r
   | none=>none
def w8 (ls:List (List Mrk)):Option (List Mrk):=match ls with
 | l :: k :: r=>n4 l (k :: r)
 | _=>none
def i9 (o:Ovr):Ovr × Bool:=match bv o with
 | some _=>match w8 o.layers with
   | some one=>(⟨o.base,[one],o.upper⟩,true)
   | none=>(o,false)
 | none=>(ov0,false)
theorem uw:∀ (ls:List (List Mrk)) (l:List Mrk) {t u:List Ent},dU t ls=some u→dU t (ls++[l])=bj l u
 | [],l,t,u,h=>by
   cases h;show (match bj l t with|some u=>dU u []|none=>none)=_
   cases bj l t <;> rfl
 | k :: r,l,t,u,h=>by
   unfold dU at h;rw [zAh];unfold dU;cases hl:bj k t with
   | none=>rw [hl] at h; cases h
   | some x=>
     rw [hl] at h;exact uw r l h
theorem Fk {o:Ovr} {t v:List Ent} (h:bv o=some (t,v)):∃ t',bv (i8 o).1=some (t',v):=by
 obtain ⟨_,h2,h3,h4⟩:=ce h;obtain ⟨k1,k2,_⟩:=dz.1 h;obtain ⟨g1,g2,g3,_⟩:=gz k1;unfold i8;rw [h];simp only;split
 · exact ⟨t,h⟩
 · rename_i hc;refine ⟨v,AK (o:=⟨o.base,o.layers++[o.upper],[]⟩) ?_ h4 (Fh h4).symm⟩;unfold eC;simp only;rw [if_pos ⟨g1,by simp; omega⟩,uw _ _ g3,k2]
theorem Ec:∀ (r:List (List Mrk)) {one j:List Mrk} {t u v:List Ent},n4 one r=some j→bj one t=some u→dU u r=some v→bj j t=some v
 | [],one,j,t,u,v,h,hu,hv=>by cases h; cases hv; exact hu
 | l :: r,one,j,t,u,v,h,hu,hv=>by
   unfold n4 at h;cases hj:dw l one with
   | none=>rw [hj] at h; cases h
   | some x=>
     rw [hj] at h;unfold dU at hv;cases hl:bj l u with
     | none=>rw [hl] at hv; cases hv
     | some y=>
       rw [hl] at hv;exact Ec r h (yC hj hu hl) hv
theorem Fl {o:Ovr} {t v:List Ent} (h:bv o=some (t,v)):bv (i9 o).1=some (t,v):=by
 obtain ⟨_,h2,h3,h4⟩:=ce h;obtain ⟨k1,k2,k3⟩:=dz.1 h;obtain ⟨g1,g2,g3,_⟩:=gz k1;unfold i9;rw [h];simp only;cases hf:w8 o.layers with
 | none=>exact h
 | some one=>
   simp only;refine dz.2 ⟨?_,k2,k3⟩;unfold eC;simp only;rw [if_pos ⟨g1,by simp⟩];unfold w8 at hf;split at hf
   · rename_i l k r hl;rw [hl] at g3;unfold dU at g3;cases h1:bj l o.base with
     | none=>rw [h1] at g3; cases g3
     | some u=>
       rw [h1] at g3
       have:=Ec (k :: r) hf h1 g3
       show (match bj one o.base with|some u=>dU u []|none=>none)=_
       rw [this];rfl
   · cases hf
end Go.Par
