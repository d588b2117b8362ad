/- Texts of this claim, set close: lemmas and contracts. -/
import Derived.Test.YtagejnomlkfndaaGreatDoorYY49
import Derived.Test.YtagejnomlkfndaaGreatDoorYY47
import Derived.Test.YtagejnomlkfndaaGreatDoorYY13
set_option linter.unusedSimpArgs false
set_option linter.unusedVariables false
set_option maxHeartbeats 1000000
set_option maxRecDepth 10000
namespace Go.Proofs.YtagejnomlkfndaaGreatDoor
open Go Go.RowKit Go.Ab Go.Par
variable {m:Int}
theorem ol (w:Wld):ao (wT w):=by
 intro p hp;simp only [List.mem_cons,List.not_mem_nil,or_false] at hp;rcases hp with rfl|rfl|rfl|rfl|rfl|rfl|rfl
 · exact dG _ _ GG
 · exact FI _
 · exact dG _ _ Gj
 · exact dG _ _ Gk
 · intro z hz;obtain ⟨xs,hxs,rfl⟩:=List.mem_map.1 hz;obtain ⟨l,_,rfl⟩:=List.mem_map.1 hxs;exact dG _ _ GH
 · exact dG _ _ Fn
 · exact dG _ _ Gl
theorem FK (w:Wld) (a b c d e f g:Nat):∀ x∈wcT w a b c d e f g,ac x:=by simp [wcT,ac]
theorem Ev (w:Wld) (a b c d e f g:Nat) (k:IntKind) (n:Int):ak (.tup [.agg (wcT w a b c d e f g),.k k n]):=by
 intro x hx;simp only [List.mem_cons,List.not_mem_nil,or_false] at hx;rcases hx with rfl|rfl
 · exact FK _ _ _ _ _ _ _ _
 · trivial
section
variable {S:ab} {a b c d e f g:Nat} {w:Wld} {z1 z2:List av} {ta tb tb2 tc td te te2 tf tg:TypeId}
theorem CV {q':D} (h0:lk S a=some (.own ta (w.over.base.map Ent.c))) (h1:lk S b=some (.deep tb tb2 z1)) (h2:lk S c=some (.own tc (w.over.upper.map Mrk.c))) (h3:lk S d=some (.own td (w.leases.map Lse.c))) (h4:lk S e=some (.deep te te2 z2)) (h5:lk S f=some (.own tf (bg w.floors))) (h6:lk S g=some (.own tg (w.net.map Mes.c))) (g1:z1=oZ w.over) (g2:z2=hZ w) (hq:ov [] S q'=some q'):gC [] S [.agg (wcT w a b c d e f g),q']=some [.agg w.c,q']:=by
 simp only [gC,arW h0 h1 h2 h3 h4 h5 h6 g1 g2,hq]
end
theorem Gm (w:Wld) (q:D) (hq:ez (wT w) q=some q):yj (wT w) [.agg (wcT w 0 1 2 3 4 5 6),q] [.agg w.c,q]:=by
 refine ⟨?_,hq,trivial⟩;have e1:(w.over.layers.map fun l=>l.map Mrk.c).map (fun xs=>[D.sl xs])=w.over.layers.map cv:=by rw [zAz]; rfl
 have e2:(w.holds.map fun l=>l.map Hld.c).map (fun xs=>[D.sl xs])=w.holds.map db:=by rw [zAz]; rfl
 have h0:lk (wT w) 0=some (.own 66 (w.over.base.map Ent.c)):=rfl;have h1:lk (wT w) 1=some (.deep 32 166 (oZ w.over)):=rfl;have h2:lk (wT w) 2=some (.own 166 (w.over.upper.map Mrk.c)):=rfl;have h3:lk (wT w) 3=some (.own 132 (w.leases.map Lse.c)):=rfl;have h4:lk (wT w) 4=some (.deep 121 68 (hZ w)):=rfl;have h5:lk (wT w) 5=some (.own 3 (bg w.floors)):=rfl;have h6:lk (wT w) 6=some (.own 70 (w.net.map Mes.c)):=rfl;generalize wT w=S at *;simp only [ez,wcT,jo,b8,h0,h1,h2,h3,h4,h5,h6,imB,ge,e1,e2];rfl
end Go.Proofs.YtagejnomlkfndaaGreatDoor
