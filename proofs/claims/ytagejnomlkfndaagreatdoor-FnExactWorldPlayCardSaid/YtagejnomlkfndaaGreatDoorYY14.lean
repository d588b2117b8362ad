/- Texts of this claim, set close: lemmas and contracts. -/
import Derived.Test.YtagejnomlkfndaaGreatDoorYY8
import Derived.Test.YtagejnomlkfndaaGreatDoorYY10
import Derived.Test.YtagejnomlkfndaaGreatDoorYY11
import Derived.Test.YtagejnomlkfndaaGreatDoorYY5
import Derived.Test.YtagejnomlkfndaaGreatDoorYY3
import Derived.Test.YtagejnomlkfndaaGreatDoorYY7
import Derived.Test.YtagejnomlkfndaaGreatDoorTie
import Derived.Test.YtagejnomlkfndaaGreatDoorCards
import Derived.ProofKit
import Derived.LaidMore
import Derived.Lay
import Derived.SevenTiedAt
import Derived.Stop.Joined
set_option linter.unusedSimpArgs false
set_option linter.unusedVariables false
set_option maxHeartbeats 1000000
set_option maxRecDepth 100000
namespace Go.Proofs.YtagejnomlkfndaaGreatDoor
open Go Go.RowKit Go.Ab Go.Par
variable {m:Int}
theorem vO (o:Option Ent):lU o=.tup [.agg (o.getD fG).c,.b o.isSome]:=by cases o <;> rfl
abbrev fe (X Y:Option Ent):Bool:=decide ((X.getD fG).path=(Y.getD fG).path) && (((X.getD fG).dir == (Y.getD fG).dir) && (decide ((X.getD fG).data=(Y.getD fG).data) && true))
abbrev fs (X Y:Option Ent):Bool:=X.isSome == Y.isSome
theorem FA {X Y:Option Ent} (h:X=Y):fe X Y=true:=by subst h; simp [fe]
theorem FB {X Y:Option Ent} (h:X≠Y):fs X Y=false∨(fs X Y=true∧fe X Y=false):=by
 cases X with
 | none=>
   cases Y with
   | none=>exact absurd rfl h
   | some y=>left; rfl
 | some x=>
   cases Y with
   | none=>left; rfl
   | some y=>
     right;refine ⟨rfl,?_⟩;rw [← zAa];intro hf;apply h;obtain ⟨p,d,q⟩:=x;obtain ⟨p',d',q'⟩:=y;simp [fe] at hf;simp [hf]
theorem rW (t:List Ent) (p:Bs) (hb:∀ e∈t,e.path.length≤1073741824∧e.data.length≤1073741824):Con (E m) 213 0 [.sl (t.map Ent.c),.s p] [] (lU (if ai t then az t p else none)) []:=by
 have c1:=fx (m:=m) t hb;cases hok:ai t with
 | false=>
   rw [hok] at c1;refine G0 Tryz.func213 ?_;repeat' first|refine Ra ⟨?_⟩|refine R0 c1 ⟨?_⟩|refine Rd (fun h=>⟨?_⟩) fun h=>⟨?_⟩|refine Rb ⟨?_⟩|fail
   exact Rf
 | true=>
   rw [hok] at c1;have hl:=aI hok;have c2:=hP (m:=m) t p (by omega);simp only [if_true];unfold az;by_cases hr:p=[47]
   · subst hr;refine G0 Tryz.func213 ?_;repeat' first|refine Ra ⟨?_⟩|refine R0 c1 ⟨?_⟩|refine Rd (fun h=>⟨?_⟩) fun h=>⟨?_⟩|refine Rb ⟨?_⟩|fail
     exact Rf
   · rw [if_neg hr];rw [vO] at c2 ⊢;refine G0 Tryz.func213 ?_;repeat' first|refine Ra ⟨?_⟩|refine R0 c1 ⟨?_⟩|refine R0 c2 ⟨?_⟩|refine Rd (fun h=>⟨?_⟩) fun h=>⟨?_⟩|refine Rb ⟨?_⟩|fail
     exact Rf
end Go.Proofs.YtagejnomlkfndaaGreatDoor
namespace Go.Proofs.YtagejnomlkfndaaGreatDoor
open Go Go.RowKit Go.Ab
variable {m:Int}
theorem gl_m {W:World} (hm:W.cell? ⟨0,0,none⟩=some (.int .i64 m)):∀ g cs,(E m).gl g=some cs→VI W ro (.ep cs) (.pointer (some ⟨g,0,none⟩)):=by
 intro g cs h;have h':lk (gls m) g=some cs:=h;unfold gls at h';rw [aj] at h';split at h'
 · rename_i hg;subst hg;cases h';exact gl_one hm rfl (.k _ _)
 · simp [lk] at h'
theorem maxLen_shaped (W:World) (h:W.ShapedOpen Tryz.prog):∃ m,W.cell? ⟨0,0,none⟩=some (.int .i64 m):=
 Go.Proofs.cell_of_shapedOpen_int (zero:=#[.int .i64 0]) (t:=3) h (of_decide_eq_true (by kernel_rfl)) (by kernel_rfl) rfl (by kernel_rfl) (by kernel_rfl) Tryz.underlying3
end Go.Proofs.YtagejnomlkfndaaGreatDoor
