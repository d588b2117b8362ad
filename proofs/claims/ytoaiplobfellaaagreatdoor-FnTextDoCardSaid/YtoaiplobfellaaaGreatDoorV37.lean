/- 'laws.FnTextDo' returns true whatever its argument is, and leaves the argument as it was; the package variables that the row lists hold what the program's text lays. -/
import Derived.Test.YtoaiplobfellaaaGreatDoorMb
import Derived.Test.YtoaiplobfellaaaGreatDoorLo
import Derived.Test.YtoaiplobfellaaaGreatDoorLq
import Derived.Test.YtoaiplobfellaaaGreatDoorKh
import Derived.Test.YtoaiplobfellaaaGreatDoorLv
set_option linter.unusedSimpArgs false
set_option linter.unusedVariables false
set_option maxHeartbeats 1000000
set_option maxRecDepth 100000
namespace Go.Proofs.YtoaiplobfellaaaGreatDoor
open Go Go.RowKit Go.Ab Go.Par
variable {m : Int}
theorem law_FnTextDo (l : Bs) : Con (Eo m) 10 0 [.sl (bytesOf l)] [] (.b true) [] := by
  have hbl : (bytesOf l).length = l.length := List.length_map ..
  by_cases hl : l.length ≤ 1048576
  · obtain ⟨t, ⟨kd, p, r, d⟩, ht, ho, c0⟩ := drawTreeDo_any (m := m) l hl
    have hln := ht.len
    have hbo := ho.big
    obtain ⟨b1, b2, b3⟩ := hbo
    simp only at b1 b2 b3
    have c0 := con_o c0
    have c1 := con_o (iTreeText_con (m := m) t ht.bE)
    have c2 := con_o (sTreeText_con (m := m) t ht.bE (by omega))
    have c3 := iOpText_con (m := m) kd p r d (by omega) (by omega) (by omega)
    have c4 := con_o (sOpText_con (m := m) kd p r d (by omega) (by omega) (by omega))
    have c5 := con_o (sTreeOk_con (m := m) t ht.bE)
    have c6 := con_o (sOpOk_con (m := m) ⟨kd, p, r, d⟩ (by simp only; omega) (by simp only; omega) (by simp only; omega))
    cases h1 : treeOk t with
    | false =>
      rw [h1] at c5
      generalize treeText t = s at c1 c2
      generalize opText ⟨kd, p, r, d⟩ = u at c3 c4
      refine con_of_cd tyOkO mixO Tryz.func10 rfl rfl rfl (Nat.le_of_ble_eq_true rfl) ?_
      repeat' first | refine Ra ⟨?_⟩ | ((first | refine Rc [] 0 rfl rfl (c0) ?_ | refine Rc [] 0 rfl rfl (c1) ?_ | refine Rc [] 0 rfl rfl (c2) ?_ | refine Rc [] 0 rfl rfl (c3) ?_ | refine Rc [] 0 rfl rfl (c4) ?_ | refine Rc [] 0 rfl rfl (c5) ?_ | (refine bd (fun h => ?_) (fun h => ?_) <;> (try simp only [List.length_map] at h)) | refine bsplit.mk (fun h => ?_) (fun h => ?_)) <;> conv => whnf) | refine Rb ⟨?_⟩ | fail
      exact Rf
    | true =>
      rw [h1] at c5
      cases h2 : opOk ⟨kd, p, r, d⟩ with
      | false =>
        rw [h2] at c6
        generalize treeText t = s at c1 c2
        generalize opText ⟨kd, p, r, d⟩ = u at c3 c4
        refine con_of_cd tyOkO mixO Tryz.func10 rfl rfl rfl (Nat.le_of_ble_eq_true rfl) ?_
        repeat' first | refine Ra ⟨?_⟩ | ((first | refine Rc [] 0 rfl rfl (c0) ?_ | refine Rc [] 0 rfl rfl (c1) ?_ | refine Rc [] 0 rfl rfl (c2) ?_ | refine Rc [] 0 rfl rfl (c3) ?_ | refine Rc [] 0 rfl rfl (c4) ?_ | refine Rc [] 0 rfl rfl (c5) ?_ | refine Rc [] 0 rfl rfl (c6) ?_ | (refine bd (fun h => ?_) (fun h => ?_) <;> (try simp only [List.length_map] at h)) | refine bsplit.mk (fun h => ?_) (fun h => ?_)) <;> conv => whnf) | refine Rb ⟨?_⟩ | fail
        exact Rf
      | true =>
        rw [h2] at c6
        have hlen := treeText_len t
        have hlen2 : (opText ⟨kd, p, r, d⟩).length ≤ 40 := opOk_max h2
        have c7 := con_o (iTreeRead_con (m := m) (treeText t) (by omega))
        rw [treeRead_eq, treeReadS_text, h1, if_pos rfl] at c7
        have c8 := iOpRead_con (m := m) (opText ⟨kd, p, r, d⟩) (by omega)
        rw [opRead_text, h2, if_pos rfl] at c8
        have c9 := con_o (iTreeDo_con (m := m) t ⟨kd, p, r, d⟩ ht.bE b1 b2 b3)
        have c10 := con_o (sTreeDo_con (m := m) t ⟨kd, p, r, d⟩ (by omega) ht.bB b1 b2 b3)
        have hx := treeDo_ok h1 ⟨kd, p, r, d⟩
        have c11 := con_o (iTreeText_con (m := m) (treeDo t ⟨kd, p, r, d⟩).1 (bE0 hx))
        have c12 := con_o (sTreeText_con (m := m) (treeDo t ⟨kd, p, r, d⟩).1 (bE0 hx) (by have := treeOk_len hx; omega))
        generalize treeDo t ⟨kd, p, r, d⟩ = Y at c9 c10 c11 c12
        generalize treeText t = s at c1 c2 c7
        generalize opText ⟨kd, p, r, d⟩ = u at c3 c4 c8
        generalize treeText Y.1 = w at c11 c12
        refine con_of_cd tyOkO mixO Tryz.func10 rfl rfl rfl (Nat.le_of_ble_eq_true rfl) ?_
        repeat' first | refine Ra ⟨?_⟩ | ((first | refine Rc [] 0 rfl rfl (c0) ?_ | refine Rc [] 0 rfl rfl (c1) ?_ | refine Rc [] 0 rfl rfl (c2) ?_ | refine Rc [] 0 rfl rfl (c3) ?_ | refine Rc [] 0 rfl rfl (c4) ?_ | refine Rc [] 0 rfl rfl (c5) ?_ | refine Rc [] 0 rfl rfl (c6) ?_ | refine Rc [] 1 rfl rfl (c7) ?_ | refine Rc [] 0 rfl rfl (c8) ?_ | refine Rc [] 1 rfl rfl (c9) ?_ | refine Rc [] 1 rfl rfl (c10) ?_ | refine Rc [] 0 rfl rfl (c11) ?_ | refine Rc [] 0 rfl rfl (c12) ?_ | (refine bd (fun h => ?_) (fun h => ?_) <;> (try simp only [List.length_map] at h)) | refine bsplit.mk (fun h => ?_) (fun h => ?_)) <;> conv => whnf) | refine Rb ⟨?_⟩ | fail
        exact Rf
  · refine con_of_cd tyOkO mixO Tryz.func10 rfl rfl rfl (Nat.le_of_ble_eq_true rfl) ?_
    repeat' first | refine Ra ⟨?_⟩ | ((first | (refine bd (fun h => ?_) (fun h => ?_) <;> (try simp only [List.length_map] at h)) | refine bsplit.mk (fun h => ?_) (fun h => ?_)) <;> conv => whnf) | refine Rb ⟨?_⟩ | fail
    exact Rf
theorem FnTextDo_con (cds : List D) (h : ShpAll Tryz.prog Tryz.f10.params.toList cds) : Con (Eo m) 10 0 cds [] (.b true) [] := by
  rw [Tryz.params10] at h
  match cds, h with
  | [d1], ⟨h1, _⟩ =>
    obtain ⟨l, rfl⟩ := bytes_shp h1
    exact law_FnTextDo l
open Go.ChangeShapes Go.WideShapes Go.ChangeAt in
theorem FnTextDo_lifted (os : Os) (started : os.Started) (H : Type) (enc : TypeId × Value → H) :
    ReturnsInHanded {} Tryz.checked os 10 .any (fun w args => (Rows.fnTextDoSpec.pre enc Tryz.prog Tryz.f10 Rows.fnTextDoRow.domain false w args ∧ laidMetH Tryz.prog Rows.fnTextDoRow.laid w) ∧ sizedMet enc Tryz.prog Tryz.f10 (OpenSpec.ofChange Rows.fnTextDoSpec) false w args)
      (Rows.fnTextDoSpec.post enc Tryz.prog Tryz.f10 false true false false) := by
  refine returns_laid (C := Tryz.checked) (X := fun w _ => laidMetH Tryz.prog Rows.fnTextDoRow.laid w) (fun _ _ _ hh h => h.of_heap hh) own0 started (by kernel_rfl) Tryz.func10
    (ChangeSpec.witness_shaped (enc := enc) (C := Tryz.checked) (os := os) (X := fun w _ => laidMetH Tryz.prog Rows.fnTextDoRow.laid w) false (World.laidAll Tryz.prog os Rows.fnTextDoRow.laid) #[.slice none 0 0] 8 (World.laidAll_os _ _ _)
      (World.shaped_of_ZipB (by kernel_rfl) (by kernel_rfl)) (by kernel_rfl) (by kernel_rfl) (by kernel_rfl)
      (by rw [MakeChecks.laidMetH_plain _ _ _ (by kernel_rfl)]; exact laidMet_laidAll _ (by kernel_rfl) (by kernel_rfl))) ?_
  intro W base args ds gs before hval hW hsh hx
  obtain ⟨m, hm⟩ := maxLen_shaped W hsh
  exact law_calls_gv (E := Eo m) (dp := 8) (bt := 4) (n := "loop.example/pargeting/impl.opWords") (g := 0) (tv := 127) laidOut0 (readB_mem (by kernel_rfl)) (by kernel_rfl) Tryz.underlying4 (by kernel_rfl) rfl (by kernel_rfl) (by kernel_rfl) (by kernel_rfl) (of_decide_eq_true (by kernel_rfl)) (fun H ds g hl => match ds, hl with
    | [d1], _ => rfl) FnTextDo_con W (glO_of hm (by kernel_rfl) (by simp [Rows.fnTextDoRow]) hx) base args ds gs before hval hW
theorem FnTextDo_place : (Rows.fnTextDoRow.inPlace == Tryz.prog.inPlace 10) = true := by kernel_rfl
theorem FnTextDo_unf : (Rows.fnTextDoRow.unfollowed == Tryz.prog.unfollowed 10) = true := by kernel_rfl
theorem FnTextDo_rec : (Rows.fnTextDoRow.recurses == Tryz.prog.recurses 10) = true := by kernel_rfl
theorem FnTextDo_named : (Rows.fnTextDoRow.named == Tryz.prog.varsNamed 10) = true := by kernel_rfl
theorem FnTextDo_joined : joinedFacts Tryz.prog 10 Tryz.f10 Rows.fnTextDoSpec Rows.fnTextDoRow = true :=
  joined_of (by kernel_rfl) laidOut0 rowed0 (by kernel_rfl) (by kernel_rfl) (by kernel_rfl) (by rw [stops0]; rfl) (by kernel_rfl) (by rw [knobs0]; rfl) FnTextDo_place FnTextDo_unf FnTextDo_rec FnTextDo_named
    (by kernel_rfl) (by kernel_rfl) (by kernel_rfl) (by kernel_rfl) (by kernel_rfl) (by kernel_rfl) (by kernel_rfl) (by kernel_rfl) (by kernel_rfl) (by rw [plainKeys0]; rfl) (by kernel_rfl) heard0 may0 (by rw [lifts0]; rfl) (by rw [make0]; rfl) (by kernel_rfl) (by kernel_rfl) (by kernel_rfl) (by kernel_rfl)
theorem FnTextDo_holds : Rows.FnTextDoSaid :=
  OpenClaim.holds_of_wide 10 Tryz.f10 rfl rfl rfl rfl rfl rfl rfl ⟨rfl, rfl, rfl, rfl, rfl⟩ rfl rfl rfl rfl rfl (by kernel_rfl) Tryz.func10 FnTextDo_joined
    (of_decide_eq_true (by kernel_rfl)) (by unfold Func.isWrapper; first | (rw [if_pos (by decide +kernel)]; kernel_rfl) | (rw [if_neg (by decide +kernel)]; exact ⟨rfl, rfl⟩))
    (fun os started H enc _ => FnTextDo_lifted os started H enc)
theorem FnTextDo_card : Rows.FnTextDoCardSaid :=
  Claim7.holds_tied_plain_at .later [] [.data, .data, .pinned] true _ false FnTextDo_holds (fun _ h => by cases h) (by kernel_rfl) (fun _ h => by cases h) fnTextDo_row_tie rfl ⟨rfl, rfl⟩ (mainIs0.trans (by kernel_rfl)) rfl
    (fun f fn hf hfn => by
      obtain rfl : f = 10 := Option.some.inj ((show Tryz.prog.funcNamed "loop.example/pargeting/laws.FnTextDo" = some 10 by kernel_rfl).symm.trans hf) |>.symm
      obtain rfl : fn = Tryz.f10 := (Option.some.inj (Tryz.func10.symm.trans hfn)).symm
      exact ⟨looks0.symm, fun j t ht => by
        have hm : t ∈ Tryz.f10.params.toList := by simpa using Array.mem_of_getElem? ht
        have hall : (Tryz.f10.params.toList.all fun u => !Tryz.prog.wantsStandIn u) = true := by kernel_rfl
        exact (show Tryz.prog.wantsStandIn t = false by simpa using List.all_eq_true.1 hall t hm)⟩)
    (goes0 _ rfl)
end Go.Proofs.YtoaiplobfellaaaGreatDoor
