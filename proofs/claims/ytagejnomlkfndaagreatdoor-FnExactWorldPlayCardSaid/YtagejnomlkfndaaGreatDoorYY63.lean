/- Texts of this claim, set close: lemmas and contracts. -/
import Derived.Test.YtagejnomlkfndaaGreatDoorYY60
import Derived.Test.YtagejnomlkfndaaGreatDoorYY58
import Derived.Test.YtagejnomlkfndaaGreatDoorYY17
set_option linter.unusedSimpArgs false
set_option linter.unusedVariables false
set_option maxHeartbeats 1000000
set_option maxRecDepth 10000
namespace Go.Proofs.YtagejnomlkfndaaGreatDoor
open Go Go.RowKit Go.Ab Go.Par
variable {m:Int}
theorem JN (w:Wld):aF (wT w):=by
 intro p hp;simp only [List.mem_cons,List.not_mem_nil,or_false] at hp;rcases hp with rfl|rfl|rfl|rfl|rfl|rfl|rfl
 · exact eQ _ _ JH
 · exact IH _
 · exact eQ _ _ Ji
 · exact eQ _ _ Jj
 · intro z hz;obtain ⟨xs,hxs,rfl⟩:=List.mem_map.1 hz;obtain ⟨l,_,rfl⟩:=List.mem_map.1 hxs;exact eQ _ _ JI
 · exact eQ _ _ Jl
 · exact eQ _ _ Jk
theorem JO (w:Wld) (a b c d e f g:Nat):∀ x∈wcT w a b c d e f g,aj x:=by simp [wcT,aj]
theorem Jn (w:Wld) (a b c d e f g:Nat) (k:IntKind) (n:Int):ay (.tup [.agg (wcT w a b c d e f g),.k k n]):=by
 intro x hx;simp only [List.mem_cons,List.not_mem_nil,or_false] at hx;rcases hx with rfl|rfl
 · exact JO _ _ _ _ _ _ _ _
 · trivial
section
variable {S:ac} {a b c d e f g:Nat} {w:Wld} {z1 z2:List aE} {ta tb tb2 tc td te te2 tf tg:TypeId}
theorem Jo {q':D} (h0:lk S a=some (.own ta (w.over.base.map Ent.c))) (h1:lk S b=some (.deep tb tb2 z1)) (h2:lk S c=some (.own tc (w.over.upper.map Mrk.c))) (h3:lk S d=some (.own td (w.leases.map Lse.c))) (h4:lk S e=some (.deep te te2 z2)) (h5:lk S f=some (.own tf (ck w.floors))) (h6:lk S g=some (.own tg (w.net.map Mes.c))) (g1:z1=oZ w.over) (g2:z2=hZ w) (hq:zo [] S q'=some q'):aDs [] S [.agg (wcT w a b c d e f g),q']=some [.agg w.c,q']:=by
 simp only [aDs,arW h0 h1 h2 h3 h4 h5 h6 g1 g2,hq]
end
theorem Jp (w:Wld) (q:D) (hq:fJ (wT w) q=some q):D3 (wT w) [.agg (wcT w 0 1 2 3 4 5 6),q] [.agg w.c,q]:=by
 refine ⟨?_,hq,trivial⟩;have e1:(w.over.layers.map fun l=>l.map Mrk.c).map (fun xs=>[D.sl xs])=w.over.layers.map cm:=by rw [zBE]; rfl
 have e2:(w.holds.map fun l=>l.map Hld.c).map (fun xs=>[D.sl xs])=w.holds.map cy:=by rw [zBE]; rfl
 have h0:lk (wT w) 0=some (.own 66 (w.over.base.map Ent.c)):=rfl;have h1:lk (wT w) 1=some (.deep 32 166 (oZ w.over)):=rfl;have h2:lk (wT w) 2=some (.own 166 (w.over.upper.map Mrk.c)):=rfl;have h3:lk (wT w) 3=some (.own 132 (w.leases.map Lse.c)):=rfl;have h4:lk (wT w) 4=some (.deep 121 68 (hZ w)):=rfl;have h5:lk (wT w) 5=some (.own 3 (ck w.floors)):=rfl;have h6:lk (wT w) 6=some (.own 70 (w.net.map Mes.c)):=rfl;generalize wT w=S at *;simp only [fJ,wcT,me,cR,h0,h1,h2,h3,h4,h5,h6,imB,kH,e1,e2];rfl
end Go.Proofs.YtagejnomlkfndaaGreatDoor
