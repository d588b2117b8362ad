/- 'laws.FnExactLayerRead' returns true whatever its argument is, and leaves the argument as it was; the package variables that the row lists hold what the program's text lays. -/
import Derived.Test.YtgeieehampfkcaaDoorLq
import Derived.Test.YtgeieehampfkcaaDoorLr
import Derived.Test.YtgeieehampfkcaaDoorLv
set_option linter.unusedSimpArgs false
set_option linter.unusedVariables false
set_option maxHeartbeats 1000000
set_option maxRecDepth 100000
namespace Go.Proofs.YtgeieehampfkcaaDoor
open Go Go.RowKit Go.Ab Go.Par
variable {m : Int}
theorem law_layerRead (s : Bs) (h1 : s.length ≤ 9223372036854775807) : Con (E m) 9 0 [.s s] [] (.b true) [] := by
  by_cases hs : s.length ≤ 1048576
  · have c1 := sLayerRead_con (m := m) s hs
    have c2 := iLayerRead_con (m := m) s hs
    rw [layerRead_eq] at c2
    have hlen : ((layerReadS s).getD []).length ≤ 32 := by
      cases h : layerReadS s with
      | none => simp
      | some t => exact layerOk_len (layerReadS_iff.1 h).1
    generalize (layerReadS s).getD [] = t at c1 c2 hlen
    generalize (layerReadS s).isSome = b at c1 c2
    have c3 := eqMarkS_con (m := m) t (by omega)
    have c4 := markMarkS_con (m := m) t 1 (by omega) (by omega)
    have c5 := heldMarkS_con (m := m) t.length 1 (by omega) (by omega)
    refine con_of_cd tyOk mix Tryd.func9 rfl rfl rfl (Nat.le_of_ble_eq_true rfl) ?_
    repeat' first | refine Ra ⟨?_⟩ | ((first | refine Rc [] 1 rfl rfl (c1) ?_ | refine Rc [] 1 rfl rfl (c2) ?_ | refine ⟨[], _, _, _, _, 0, ⟨rfl, rfl, rfl, c3, rfl, rfl⟩, .inl ⟨by simp [NoImmD, NoImmG, NoImmA], by simp [NoImmS, NoImmB, NoImmA], ?_⟩⟩ | refine Rc [1] 0 rfl rfl (c4) ?_ | refine ⟨[], _, _, _, _, 0, ⟨rfl, rfl, rfl, c5, rfl, rfl⟩, .inl ⟨by simp [NoImmD, NoImmG, NoImmA], by simp [NoImmS, NoImmB, NoImmA], ?_⟩⟩ | (refine bd (fun h => ?_) (fun h => ?_) <;> (try simp only [List.length_map] at h)) | refine bsplit.mk (fun h => ?_) (fun h => ?_)) <;> conv => whnf) | refine Rb ⟨?_⟩ | fail
    exact Rf
  · refine con_of_cd tyOk mix Tryd.func9 rfl rfl rfl (Nat.le_of_ble_eq_true rfl) ?_
    repeat' first | refine Ra ⟨?_⟩ | ((first | (refine bd (fun h => ?_) (fun h => ?_) <;> (try simp only [List.length_map] at h)) | refine bsplit.mk (fun h => ?_) (fun h => ?_)) <;> conv => whnf) | refine Rb ⟨?_⟩ | fail
    exact Rf
theorem FnExactLayerRead_con (cds : List D) (h : ShpAll Tryd.prog Tryd.f9.params.toList cds) : Con (E m) 9 0 cds [] (.b true) [] := by
  rw [Tryd.params9] at h
  match cds, h with
  | [d], ⟨h, _⟩ =>
    obtain ⟨s, hs, h1⟩ := (h.one (fun fs => by rw [Tryd.underlying9]; simp)).str_inv Tryd.underlying9
    cases hs
    exact law_layerRead s h1
open Go.ChangeShapes Go.WideShapes Go.ChangeAt in
theorem FnExactLayerRead_lifted (os : Os) (started : os.Started) (H : Type) (enc : TypeId × Value → H) :
    ReturnsInHanded {} Tryd.checked os 9 .any (fun w args => (Rows.fnExactLayerReadSpec.pre enc Tryd.prog Tryd.f9 Rows.fnExactLayerReadRow.domain false w args ∧ laidMetH Tryd.prog Rows.fnExactLayerReadRow.laid w) ∧ sizedMet enc Tryd.prog Tryd.f9 (OpenSpec.ofChange Rows.fnExactLayerReadSpec) false w args)
      (Rows.fnExactLayerReadSpec.post enc Tryd.prog Tryd.f9 false true false false) := by
  refine returns_laid (C := Tryd.checked) (X := fun w _ => laidMetH Tryd.prog Rows.fnExactLayerReadRow.laid w) (fun _ _ _ hh h => h.of_heap hh) own0 started (by kernel_rfl) Tryd.func9
    (ChangeSpec.witness_shaped (enc := enc) (C := Tryd.checked) (os := os) (X := fun w _ => laidMetH Tryd.prog Rows.fnExactLayerReadRow.laid w) false (World.laidAll Tryd.prog os Rows.fnExactLayerReadRow.laid) #[.string ⟨#[]⟩] 8 (World.laidAll_os _ _ _)
      (World.shaped_of_ZipB (by kernel_rfl) (by kernel_rfl)) (by kernel_rfl) (by kernel_rfl) (by kernel_rfl)
      (by rw [MakeChecks.laidMetH_plain _ _ _ (by kernel_rfl)]; exact laidMet_laidAll _ (by kernel_rfl) (by kernel_rfl))) ?_
  intro W base args ds gs before hval hW hsh _
  obtain ⟨m, hm⟩ := maxLen_shaped W hsh
  exact law_calls_gl (E := E m) (dp := 8) (bt := 4) laidOut0 (readB_mem (by kernel_rfl)) (by kernel_rfl) Tryd.underlying4 (by kernel_rfl) rfl (fun H ds hl => match ds, hl with
    | [d], _ => rfl) FnExactLayerRead_con W (gl_m hm) base args ds gs before hval hW
theorem FnExactLayerRead_holds : Rows.FnExactLayerReadSaid :=
  OpenClaim.holds_of_wide 9 Tryd.f9 rfl rfl rfl rfl rfl rfl rfl ⟨rfl, rfl, rfl, rfl, rfl⟩ rfl rfl rfl rfl rfl (by kernel_rfl) Tryd.func9 (by kernel_rfl)
    (of_decide_eq_true (by kernel_rfl)) (by unfold Func.isWrapper; first | (rw [if_pos (by decide +kernel)]; kernel_rfl) | (rw [if_neg (by decide +kernel)]; exact ⟨rfl, rfl⟩))
    (fun os started H enc _ => FnExactLayerRead_lifted os started H enc)
theorem FnExactLayerRead_card : Rows.FnExactLayerReadCardSaid :=
  Claim7.holds_tied_plain_at .later [] [.data, .pinned] true _ false FnExactLayerRead_holds (fun _ h => by cases h) (by kernel_rfl) (fun _ h => by cases h) fnExactLayerRead_row_tie rfl ⟨rfl, rfl⟩ (by kernel_rfl) rfl
    (fun f fn hf hfn => by
      obtain rfl : f = 9 := Option.some.inj ((show Tryd.prog.funcNamed "loop.example/pargeting/laws.FnExactLayerRead" = some 9 by kernel_rfl).symm.trans hf) |>.symm
      obtain rfl : fn = Tryd.f9 := (Option.some.inj (Tryd.func9.symm.trans hfn)).symm
      exact ⟨by kernel_rfl, fun j t ht => by
        have hm : t ∈ Tryd.f9.params.toList := by simpa using Array.mem_of_getElem? ht
        have hall : (Tryd.f9.params.toList.all fun u => !Tryd.prog.wantsStandIn u) = true := by kernel_rfl
        exact (show Tryd.prog.wantsStandIn t = false by simpa using List.all_eq_true.1 hall t hm)⟩)
    (by kernel_rfl)
end Go.Proofs.YtgeieehampfkcaaDoor
