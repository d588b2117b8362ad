/- 'laws.FnTextSame' returns true whatever its arguments are, and leaves the arguments as they were; the package variables that the row lists hold what the program's text lays. -/
import Derived.Test.YtmnjlhjpeebfdaaDoorLt
import Derived.Test.YtmnjlhjpeebfdaaDoorLw
import Derived.Test.YtmnjlhjpeebfdaaDoorLo
import Derived.Test.YtmnjlhjpeebfdaaDoorLf
import Derived.Test.YtmnjlhjpeebfdaaDoorLv
set_option linter.unusedSimpArgs false
set_option linter.unusedVariables false
set_option maxHeartbeats 1000000
set_option maxRecDepth 100000
namespace Go.Proofs.YtmnjlhjpeebfdaaDoor
open Go Go.RowKit Go.Ab Go.Par
variable {m : Int}
theorem law_FnTextSame (l k : Bs) : Con (Eo m) 5 0 [.sl (bytesOf l), .sl (bytesOf k)] [] (.b true) [] := by
  have hbl : (bytesOf l).length = l.length := List.length_map ..
  have hbk : (bytesOf k).length = k.length := List.length_map ..
  by_cases hl : l.length ≤ 1048576
  · by_cases hk : k.length ≤ 1048576
    · have c0 := con_o (drawLayer2_con (m := m) l hl)
      obtain ⟨⟨h1, h2⟩, h3, h4⟩ := drawLayer2V_bd (m := m) l
      generalize drawLayer2V m l = ab at c0 h1 h2 h3 h4
      obtain ⟨a, b⟩ := ab
      simp only at c0 h1 h2 h3 h4
      obtain ⟨⟨pk, pp, pt, pd⟩, ⟨p1, p2, p3⟩, c1⟩ := drawOpText_any (m := m) l hl
      obtain ⟨⟨qk, qp, qt, qd⟩, ⟨q1, q2, q3⟩, c2⟩ := drawOpText_any (m := m) k hk
      simp only at p1 p2 p3 q1 q2 q3
      have c1 := con_o c1
      have c2 := con_o c2
      have ba : ∀ e ∈ a, e.path.length ≤ 1073741823 ∧ e.data.length ≤ 1073741823 := fun e he => by have := h2 e he; omega
      have bb : ∀ e ∈ b, e.path.length ≤ 1073741823 ∧ e.data.length ≤ 1073741823 := fun e he => by have := h4 e he; omega
      have d1 := con_o (iLayerText_con (m := m) a ba)
      have d2 := con_o (sLayerText_con (m := m) a ba (by omega))
      have d3 := con_o (iLayerText_con (m := m) b bb)
      have d4 := con_o (sLayerText_con (m := m) b bb (by omega))
      have d5 := con_o (iLayerOk_con (m := m) a ba)
      have d6 := con_o (iLayerOk_con (m := m) b bb)
      have d7 := con_o (layerSame_con (m := m) a b (by omega) (by omega))
      have e1 := iOpText_con (m := m) pk pp pt pd (by omega) (by omega) (by omega)
      have e2 := con_o (sOpText_con (m := m) pk pp pt pd (by omega) (by omega) (by omega))
      have e3 := iOpText_con (m := m) qk qp qt qd (by omega) (by omega) (by omega)
      have e4 := con_o (iOpOk_con (m := m) ⟨pk, pp, pt, pd⟩ (by simp only; omega) (by simp only; omega) (by simp only; omega))
      have e5 := con_o (iOpOk_con (m := m) ⟨qk, qp, qt, qd⟩ (by simp only; omega) (by simp only; omega) (by simp only; omega))
      have f1 : layerOk a = true → layerOk b = true → (decide (layerText a = layerText b) == decide (a = b)) = true := fun ha hb => by
        by_cases h : a = b
        · subst h; simp
        · have : layerText a ≠ layerText b := fun e => h ((layerText_inj ha hb).1 e)
          simp [h, this]
      have f2 : opOk ⟨pk, pp, pt, pd⟩ = true → opOk ⟨qk, qp, qt, qd⟩ = true → (decide (opText ⟨pk, pp, pt, pd⟩ = opText ⟨qk, qp, qt, qd⟩) == (decide (pk = qk) && (decide (pp = qp) && (decide (pt = qt) && (decide (pd = qd) && true))))) = true := fun ha hb => by
        have h := opText_inj ha hb
        rw [Opn.mk.injEq] at h
        rw [beq_iff_eq, Bool.eq_iff_iff]
        simp only [decide_eq_true_eq, Bool.and_eq_true, and_true]
        exact h
      generalize layerOk a = oa at d5 f1
      generalize layerOk b = ob at d6 f1
      generalize layerText a = ta at d1 d2 f1
      generalize layerText b = tb at d3 d4 f1
      generalize opOk ⟨pk, pp, pt, pd⟩ = op at e4 f2
      generalize opOk ⟨qk, qp, qt, qd⟩ = oq at e5 f2
      generalize opText ⟨pk, pp, pt, pd⟩ = tp at e1 e2 f2
      generalize opText ⟨qk, qp, qt, qd⟩ = tq at e3 f2
      refine con_of_cd tyOkO mixO Tryd.func5 rfl rfl rfl (Nat.le_of_ble_eq_true rfl) ?_
      repeat' first | refine Ra ⟨?_⟩ | ((first | refine bT (f1 ‹_› ‹_›) ?_ | refine Rc [] 0 rfl rfl (c0) ?_ | refine Rc [] 0 rfl rfl (c1) ?_ | refine Rc [] 0 rfl rfl (c2) ?_ | refine Rc [] 0 rfl rfl (d1) ?_ | refine Rc [] 0 rfl rfl (d2) ?_ | refine Rc [] 0 rfl rfl (d3) ?_ | refine Rc [] 0 rfl rfl (d4) ?_ | refine Rc [] 0 rfl rfl (d5) ?_ | refine Rc [] 0 rfl rfl (d6) ?_ | refine Rc [] 0 rfl rfl (d7) ?_ | refine Rc [] 0 rfl rfl (e1) ?_ | refine Rc [] 0 rfl rfl (e2) ?_ | refine Rc [] 0 rfl rfl (e3) ?_ | refine Rc [] 0 rfl rfl (e4) ?_ | refine Rc [] 0 rfl rfl (e5) ?_ | (refine bd (fun h => ?_) (fun h => ?_) <;> (try simp only [List.length_map] at h)) | refine bsplit.mk (fun h => ?_) (fun h => ?_)) <;> conv => whnf) | refine Rb ⟨?_⟩ | fail
      all_goals first
        | exact Rf
        | (first | refine CallEnd.here (fa ?_) | refine fa ?_
           conv => whnf
           exact ⟨rfl, rfl, congrArg some (congrArg D.b (f2 ‹_› ‹_›)), rfl⟩)
    · refine con_of_cd tyOkO mixO Tryd.func5 rfl rfl rfl (Nat.le_of_ble_eq_true rfl) ?_
      repeat' first | refine Ra ⟨?_⟩ | ((first | (refine bd (fun h => ?_) (fun h => ?_) <;> (try simp only [List.length_map] at h)) | refine bsplit.mk (fun h => ?_) (fun h => ?_)) <;> conv => whnf) | refine Rb ⟨?_⟩ | fail
      exact Rf
  · refine con_of_cd tyOkO mixO Tryd.func5 rfl rfl rfl (Nat.le_of_ble_eq_true rfl) ?_
    repeat' first | refine Ra ⟨?_⟩ | ((first | (refine bd (fun h => ?_) (fun h => ?_) <;> (try simp only [List.length_map] at h)) | refine bsplit.mk (fun h => ?_) (fun h => ?_)) <;> conv => whnf) | refine Rb ⟨?_⟩ | fail
    exact Rf
theorem FnTextSame_con (cds : List D) (h : ShpAll Tryd.prog Tryd.f5.params.toList cds) : Con (Eo m) 5 0 cds [] (.b true) [] := by
  rw [Tryd.params5] at h
  match cds, h with
  | [d1, d2], ⟨h1, h2, _⟩ =>
    obtain ⟨l, rfl⟩ := bytes_shp h1
    obtain ⟨k, rfl⟩ := bytes_shp h2
    exact law_FnTextSame l k
open Go.ChangeShapes Go.WideShapes Go.ChangeAt in
theorem FnTextSame_lifted (os : Os) (started : os.Started) (H : Type) (enc : TypeId × Value → H) :
    ReturnsInHanded {} Tryd.checked os 5 .any (fun w args => (Rows.fnTextSameSpec.pre enc Tryd.prog Tryd.f5 Rows.fnTextSameRow.domain false w args ∧ laidMetH Tryd.prog Rows.fnTextSameRow.laid w) ∧ sizedMet enc Tryd.prog Tryd.f5 (OpenSpec.ofChange Rows.fnTextSameSpec) false w args)
      (Rows.fnTextSameSpec.post enc Tryd.prog Tryd.f5 false true false false) := by
  refine returns_laid (C := Tryd.checked) (X := fun w _ => laidMetH Tryd.prog Rows.fnTextSameRow.laid w) (fun _ _ _ hh h => h.of_heap hh) own0 started (by kernel_rfl) Tryd.func5
    (ChangeSpec.witness_shaped (enc := enc) (C := Tryd.checked) (os := os) (X := fun w _ => laidMetH Tryd.prog Rows.fnTextSameRow.laid w) false (World.laidAll Tryd.prog os Rows.fnTextSameRow.laid) #[.slice none 0 0, .slice none 0 0] 8 (World.laidAll_os _ _ _)
      (World.shaped_of_ZipB (by kernel_rfl) (by kernel_rfl)) (by kernel_rfl) (by kernel_rfl) (by kernel_rfl)
      (by rw [MakeChecks.laidMetH_plain _ _ _ (by kernel_rfl)]; exact laidMet_laidAll _ (by kernel_rfl) (by kernel_rfl))) ?_
  intro W base args ds gs before hval hW hsh hx
  obtain ⟨m, hm⟩ := maxLen_shaped W hsh
  exact law_calls_gv (E := Eo m) (dp := 8) (bt := 4) (n := "loop.example/pargeting/impl.opWords") (g := 0) (tv := 69) laidOut0 (readB_mem (by kernel_rfl)) (by kernel_rfl) Tryd.underlying4 (by kernel_rfl) rfl (by kernel_rfl) (by kernel_rfl) (by kernel_rfl) (of_decide_eq_true (by kernel_rfl)) (fun H ds g hl => match ds, hl with
    | [d1, d2], _ => rfl) FnTextSame_con W (glO_of hm (by kernel_rfl) (by simp [Rows.fnTextSameRow]) hx) base args ds gs before hval hW
theorem FnTextSame_holds : Rows.FnTextSameSaid :=
  OpenClaim.holds_of_wide 5 Tryd.f5 rfl rfl rfl rfl rfl rfl rfl ⟨rfl, rfl, rfl, rfl, rfl⟩ rfl rfl rfl rfl rfl (by kernel_rfl) Tryd.func5 (by kernel_rfl)
    (of_decide_eq_true (by kernel_rfl)) (by unfold Func.isWrapper; first | (rw [if_pos (by decide +kernel)]; kernel_rfl) | (rw [if_neg (by decide +kernel)]; exact ⟨rfl, rfl⟩))
    (fun os started H enc _ => FnTextSame_lifted os started H enc)
theorem FnTextSame_card : Rows.FnTextSameCardSaid :=
  Claim7.holds_tied_plain_at .later [] [.data, .data, .pinned] true _ false FnTextSame_holds (fun _ h => by cases h) (by kernel_rfl) (fun _ h => by cases h) fnTextSame_row_tie rfl ⟨rfl, rfl⟩ (by kernel_rfl) rfl
    (fun f fn hf hfn => by
      obtain rfl : f = 5 := Option.some.inj ((show Tryd.prog.funcNamed "loop.example/pargeting/laws.FnTextSame" = some 5 by kernel_rfl).symm.trans hf) |>.symm
      obtain rfl : fn = Tryd.f5 := (Option.some.inj (Tryd.func5.symm.trans hfn)).symm
      exact ⟨by kernel_rfl, fun j t ht => by
        have hm : t ∈ Tryd.f5.params.toList := by simpa using Array.mem_of_getElem? ht
        have hall : (Tryd.f5.params.toList.all fun u => !Tryd.prog.wantsStandIn u) = true := by kernel_rfl
        exact (show Tryd.prog.wantsStandIn t = false by simpa using List.all_eq_true.1 hall t hm)⟩)
    (by kernel_rfl)
end Go.Proofs.YtmnjlhjpeebfdaaDoor
