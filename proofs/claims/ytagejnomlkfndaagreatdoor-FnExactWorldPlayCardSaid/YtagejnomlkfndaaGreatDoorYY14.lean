/- Texts of this claim, set close: lemmas and contracts. -/
import Derived.Test.YtagejnomlkfndaaGreatDoorYY8
import Derived.Test.YtagejnomlkfndaaGreatDoorYY10
import Derived.Test.YtagejnomlkfndaaGreatDoorYY11
set_option linter.unusedSimpArgs false
set_option linter.unusedVariables false
set_option maxHeartbeats 1000000
set_option maxRecDepth 10000
namespace Go.Proofs.YtagejnomlkfndaaGreatDoor
open Go Go.RowKit Go.Ab Go.Par
variable {m:Int}
theorem yw (o:Option Ent):nD o=.tup [.agg (o.getD b9).c,.b o.isSome]:=by cases o <;> rfl
abbrev fe (X Y:Option Ent):Bool:=decide ((X.getD b9).path=(Y.getD b9).path) && (((X.getD b9).dir == (Y.getD b9).dir) && (decide ((X.getD b9).data=(Y.getD b9).data) && true))
abbrev fs (X Y:Option Ent):Bool:=X.isSome == Y.isSome
theorem Iy {X Y:Option Ent} (h:X=Y):fe X Y=true:=by subst h; simp [fe]
theorem Iz {X Y:Option Ent} (h:X≠Y):fs X Y=false∨(fs X Y=true∧fe X Y=false):=by
 cases X with
 | none=>
   cases Y with
   | none=>exact absurd rfl h
   | some y=>left; rfl
 | some x=>
   cases Y with
   | none=>left; rfl
   | some y=>
     right;refine ⟨rfl,?_⟩;rw [← zAZ];intro hf;apply h;obtain ⟨p,d,q⟩:=x;obtain ⟨p',d',q'⟩:=y;simp [fe] at hf;simp [hf]
theorem ui (t:List Ent) (p:Bs) (hb:∀ e∈t,e.path.length≤1073741824∧e.data.length≤1073741824):Con (E m) 213 0 [.sl (t.map Ent.c),.s p] [] (nD (if aq t then aA t p else none)) []:=by
 have c1:=gQ (m:=m) t hb;cases hok:aq t with
 | false=>
   rw [hok] at c1;refine G0 Tryz.func213 ?_;repeat' first|refine Ra ⟨?_⟩|refine R0 c1 ⟨?_⟩|refine Rd (fun h=>⟨?_⟩) fun h=>⟨?_⟩|refine Rb ⟨?_⟩|fail
   exact Rf
 | true=>
   rw [hok] at c1;have hl:=aN hok;have c2:=jt (m:=m) t p (by omega);simp only [if_true];unfold aA;by_cases hr:p=[47]
   · subst hr;refine G0 Tryz.func213 ?_;repeat' first|refine Ra ⟨?_⟩|refine R0 c1 ⟨?_⟩|refine Rd (fun h=>⟨?_⟩) fun h=>⟨?_⟩|refine Rb ⟨?_⟩|fail
     exact Rf
   · rw [if_neg hr];rw [yw] at c2 ⊢;refine G0 Tryz.func213 ?_;repeat' first|refine Ra ⟨?_⟩|refine R0 c1 ⟨?_⟩|refine R0 c2 ⟨?_⟩|refine Rd (fun h=>⟨?_⟩) fun h=>⟨?_⟩|refine Rb ⟨?_⟩|fail
     exact Rf
abbrev big (es:List Ent):Prop:=es.length≤9223372036854775807∧∀ e∈es,e.path.length≤9223372036854775807∧e.data.length≤9223372036854775807
end Go.Proofs.YtagejnomlkfndaaGreatDoor
