/- Texts of this claim, set close: lemmas and contracts. -/
import Derived.Test.YtagejnomlkfndaaGreatDoorYY13
set_option linter.unusedSimpArgs false
set_option linter.unusedVariables false
set_option maxHeartbeats 1000000
set_option maxRecDepth 100000
namespace Go.Proofs.YtagejnomlkfndaaGreatDoor
open Go Go.RowKit Go.Ab
variable {m:Int}
theorem rF:∀ (xs:List (List D)),(∀ cs∈xs,Shp Tryz.prog 5 cs)→∃ l:List UInt8,xs=bh l
 | [],_=>⟨[],rfl⟩
 | cs :: xs,h=>by
   obtain ⟨n,rfl,hn⟩:=(h cs (by simp)).int_inv Tryz.underlying5;obtain ⟨l,rfl⟩:=rF xs fun c hc=>h c (by simp [hc]);simp only [Lit.wf,zAE,decide_eq_true_eq] at hn;have h1:0≤n:=hn.1;have h2:n≤255:=hn.2;refine ⟨UInt8.ofNat n.toNat :: l,?_⟩
   have:((UInt8.ofNat n.toNat).toNat:Int)=n:=by
    rw [UInt8.toNat_ofNat'];omega
   simp only [bh,List.map_cons,this]
theorem Fe {d:D} (h:r8 Tryz.prog 48 d):∃ l:List UInt8,d=.sl (bh l):=by
 have h1:=h.one (fun fs=>by rw [Tryz.underlying48]; simp);obtain ⟨xs,hx,hl,hc⟩:=h1.slice_inv Tryz.underlying48;obtain ⟨l,rfl⟩:=rF xs hc;cases hx;exact ⟨l,rfl⟩
end Go.Proofs.YtagejnomlkfndaaGreatDoor
