/- Texts of this claim, set close: lemmas and contracts. -/
import Derived.Test.YtagejnomlkfndaaGreatDoorYY56
set_option linter.unusedSimpArgs false
set_option linter.unusedVariables false
set_option maxHeartbeats 1000000
set_option maxRecDepth 10000
namespace Go.Proofs.YtagejnomlkfndaaGreatDoor
open Go Go.RowKit Go.Ab Go.Par
variable {m:Int}
theorem na (o:Ovr) (hb:gM o):Con (E m) 96 0 [.agg o.c] [] (.agg (wcO (bJ o) 0 1 2 3)) (wlT (bJ o) 0 1 2 3 [anH [],anH [],anH []]):=by
 have c1:=cH (jI (m:=m) o hb);refine cE ?_;refine bK DS HW Tryz.func96 rfl rfl rfl (zAC rfl) ?_;repeat' first|refine Ra ⟨?_⟩|refine R0 c1 ⟨?_⟩|((refine ⟨rfl,?_⟩) <;> conv=>whnf)|((refine ⟨3,rfl,zAC rfl,zAC rfl,?_⟩) <;> conv=>whnf)|((refine ⟨3,rfl,rfl,zAC rfl,zAC rfl,?_⟩) <;> conv=>whnf)|refine Rd (fun h=>⟨?_⟩) fun h=>⟨?_⟩|refine Rb ⟨?_⟩|fail
 refine ak.here (fw [.thawB 1 5 132,.thawB 1 8 70] ?_)
 conv=>whnf
 exact ⟨rfl,rfl,rfl,rfl⟩
variable {m:Int}
theorem playRun_cons (w:Wld) (e:Evn) (r:List Evn):playRun w (e :: r)=((playRun (wDo w e).1 r).1,(wDo w e).2 :: (playRun (wDo w e).1 r).2):=rfl
theorem Bx {o:Ovr} (hb:gM o):dj 0 (bJ o):=
 ⟨hb,by simp [bJ],by simp [bJ],fun l hl=>by
  have:l=[]:=by simpa [bJ] using hl
  subst this
  simp,by simp [bJ],by simp [bJ],by simp [bJ],by simp [bJ],⟨by simp [bJ,op0],by simp [bJ,op0],by simp [bJ,op0]⟩⟩
end Go.Proofs.YtagejnomlkfndaaGreatDoor
