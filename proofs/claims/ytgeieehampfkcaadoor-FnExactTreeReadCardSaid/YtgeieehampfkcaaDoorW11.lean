/- 'laws.FnExactTreeRead' returns true whatever its argument is, and leaves the argument as it was; the package variables that the row lists hold what the program's text lays. -/
import Derived.Test.YtgeieehampfkcaaDoorXW114
set_option linter.unusedSimpArgs false
set_option linter.unusedVariables false
set_option maxHeartbeats 1000000
set_option maxRecDepth 100000
namespace Go.Proofs.YtgeieehampfkcaaDoor
open Go Go.RowKit Go.Ab Go.Par
variable {m : Int}
theorem law_treeRead (s : Bs) (h1 : s.length ≤ 9223372036854775807) : Con (E m) 8 0 [.s s] [] (.b true) [] := by
  by_cases hs : s.length ≤ 1048576
  · have c1 := sTreeRead_con (m := m) s hs
    have c2 := iTreeRead_con (m := m) s hs
    rw [treeRead_eq] at c2
    have hlen : ((treeReadS s).getD []).length ≤ 16 := by
      cases h : treeReadS s with
      | none => simp
      | some t => exact treeOk_len (treeReadS_iff.1 h).1
    generalize (treeReadS s).getD [] = t at c1 c2 hlen
    generalize (treeReadS s).isSome = b at c1 c2
    have c3 := eqEntS_con (m := m) t (by omega)
    have c4 := markEntS_con (m := m) t 1 (by omega) (by omega)
    have c5 := heldEntS_con (m := m) t.length 1 (by omega) (by omega)
    refine con_of_cd tyOk mix Tryd.func8 rfl rfl rfl (Nat.le_of_ble_eq_true rfl) ?_
    repeat' first | refine Ra ⟨?_⟩ | ((first | refine Rc [] 1 rfl rfl (c1) ?_ | refine Rc [] 1 rfl rfl (c2) ?_ | refine ⟨[], _, _, _, _, 0, ⟨rfl, rfl, rfl, c3, rfl, rfl⟩, .inl ⟨by simp [NoImmD, NoImmG, NoImmA], by simp [NoImmS, NoImmB, NoImmA], ?_⟩⟩ | refine Rc [1] 0 rfl rfl (c4) ?_ | refine ⟨[], _, _, _, _, 0, ⟨rfl, rfl, rfl, c5, rfl, rfl⟩, .inl ⟨by simp [NoImmD, NoImmG, NoImmA], by simp [NoImmS, NoImmB, NoImmA], ?_⟩⟩ | (refine bd (fun h => ?_) (fun h => ?_) <;> (try simp only [List.length_map] at h)) | refine bsplit.mk (fun h => ?_) (fun h => ?_)) <;> conv => whnf) | refine Rb ⟨?_⟩ | fail
    exact Rf
  · refine con_of_cd tyOk mix Tryd.func8 rfl rfl rfl (Nat.le_of_ble_eq_true rfl) ?_
    repeat' first | refine Ra ⟨?_⟩ | ((first | (refine bd (fun h => ?_) (fun h => ?_) <;> (try simp only [List.length_map] at h)) | refine bsplit.mk (fun h => ?_) (fun h => ?_)) <;> conv => whnf) | refine Rb ⟨?_⟩ | fail
    exact Rf
theorem FnExactTreeRead_con (cds : List D) (h : ShpAll Tryd.prog Tryd.f8.params.toList cds) : Con (E m) 8 0 cds [] (.b true) [] := by
  rw [Tryd.params8] at h
  match cds, h with
  | [d], ⟨h, _⟩ =>
    obtain ⟨s, hs, h1⟩ := (h.one (fun fs => by rw [Tryd.underlying9]; simp)).str_inv Tryd.underlying9
    cases hs
    exact law_treeRead s h1
open Go.ChangeShapes Go.WideShapes Go.ChangeAt in
theorem FnExactTreeRead_lifted (os : Os) (started : os.Started) (H : Type) (enc : TypeId × Value → H) :
    ReturnsInHanded {} Tryd.checked os 8 .any (fun w args => (Rows.fnExactTreeReadSpec.pre enc Tryd.prog Tryd.f8 Rows.fnExactTreeReadRow.domain false w args ∧ laidMetH Tryd.prog Rows.fnExactTreeReadRow.laid w) ∧ sizedMet enc Tryd.prog Tryd.f8 (OpenSpec.ofChange Rows.fnExactTreeReadSpec) false w args)
      (Rows.fnExactTreeReadSpec.post enc Tryd.prog Tryd.f8 false true false false) := by
  refine returns_laid (C := Tryd.checked) (X := fun w _ => laidMetH Tryd.prog Rows.fnExactTreeReadRow.laid w) (fun _ _ _ hh h => h.of_heap hh) own0 started (by kernel_rfl) Tryd.func8
    (ChangeSpec.witness_shaped (enc := enc) (C := Tryd.checked) (os := os) (X := fun w _ => laidMetH Tryd.prog Rows.fnExactTreeReadRow.laid w) false (World.laidAll Tryd.prog os Rows.fnExactTreeReadRow.laid) #[.string ⟨#[]⟩] 8 (World.laidAll_os _ _ _)
      (World.shaped_of_ZipB (by kernel_rfl) (by kernel_rfl)) (by kernel_rfl) (by kernel_rfl) (by kernel_rfl)
      (by rw [MakeChecks.laidMetH_plain _ _ _ (by kernel_rfl)]; exact laidMet_laidAll _ (by kernel_rfl) (by kernel_rfl))) ?_
  intro W base args ds gs before hval hW hsh _
  obtain ⟨m, hm⟩ := maxLen_shaped W hsh
  exact law_calls_gl (E := E m) (dp := 8) (bt := 4) laidOut0 (readB_mem (by kernel_rfl)) (by kernel_rfl) Tryd.underlying4 (by kernel_rfl) rfl (fun H ds hl => match ds, hl with
    | [d], _ => rfl) FnExactTreeRead_con W (gl_m hm) base args ds gs before hval hW
theorem FnExactTreeRead_holds : Rows.FnExactTreeReadSaid :=
  OpenClaim.holds_of_wide 8 Tryd.f8 rfl rfl rfl rfl rfl rfl rfl ⟨rfl, rfl, rfl, rfl, rfl⟩ rfl rfl rfl rfl rfl (by kernel_rfl) Tryd.func8 (by kernel_rfl)
    (of_decide_eq_true (by kernel_rfl)) (by unfold Func.isWrapper; first | (rw [if_pos (by decide +kernel)]; kernel_rfl) | (rw [if_neg (by decide +kernel)]; exact ⟨rfl, rfl⟩))
    (fun os started H enc _ => FnExactTreeRead_lifted os started H enc)
theorem FnExactTreeRead_card : Rows.FnExactTreeReadCardSaid :=
  Claim7.holds_tied_plain_at .later [] [.data, .pinned] true _ false FnExactTreeRead_holds (fun _ h => by cases h) (by kernel_rfl) (fun _ h => by cases h) fnExactTreeRead_row_tie rfl ⟨rfl, rfl⟩ (by kernel_rfl) rfl
    (fun f fn hf hfn => by
      obtain rfl : f = 8 := Option.some.inj ((show Tryd.prog.funcNamed "loop.example/pargeting/laws.FnExactTreeRead" = some 8 by kernel_rfl).symm.trans hf) |>.symm
      obtain rfl : fn = Tryd.f8 := (Option.some.inj (Tryd.func8.symm.trans hfn)).symm
      exact ⟨by kernel_rfl, fun j t ht => by
        have hm : t ∈ Tryd.f8.params.toList := by simpa using Array.mem_of_getElem? ht
        have hall : (Tryd.f8.params.toList.all fun u => !Tryd.prog.wantsStandIn u) = true := by kernel_rfl
        exact (show Tryd.prog.wantsStandIn t = false by simpa using List.all_eq_true.1 hall t hm)⟩)
    (by kernel_rfl)
end Go.Proofs.YtgeieehampfkcaaDoor
