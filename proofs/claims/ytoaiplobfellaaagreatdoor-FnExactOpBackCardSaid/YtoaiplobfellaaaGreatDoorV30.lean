/- 'laws.FnExactOpBack' returns true whatever its arguments are, and leaves the arguments as they were; the package variables that the row lists hold what the program's text lays. -/
import Derived.Test.YtoaiplobfellaaaGreatDoorMb
import Derived.Test.YtoaiplobfellaaaGreatDoorKh
import Derived.Test.YtoaiplobfellaaaGreatDoorLv
set_option linter.unusedSimpArgs false
set_option linter.unusedVariables false
set_option maxHeartbeats 1000000
set_option maxRecDepth 100000
namespace Go.Proofs.YtoaiplobfellaaaGreatDoor
open Go Go.RowKit Go.Ab Go.Par
variable {m : Int}
theorem law_exOpBack (t : List Ent) (o : Opn) (ht : big t) (h1 : o.path.length ≤ 9223372036854775807) (h2 : o.to.length ≤ 9223372036854775807) (h3 : o.data.length ≤ 9223372036854775807) : Con (E m) 3 0 [.sl (t.map Ent.c), .agg o.c] [] (.b true) [] := by
  obtain ⟨n1, z1, y1⟩ := szE2_con (m := m) t 1048576 (by omega) ht
  by_cases g1 : n1 < 0
  · refine con_of_cd tyOk mix Tryz.func3 rfl rfl rfl (Nat.le_of_ble_eq_true rfl) ?_
    repeat' first | refine Ra ⟨?_⟩ | ((first | refine Rc [] 0 rfl rfl (z1) ?_ | (refine bd (fun h => ?_) (fun h => ?_) <;> (try simp only [List.length_map] at h)) | refine bsplit.mk (fun h => ?_) (fun h => ?_)) <;> conv => whnf) | refine Rb ⟨?_⟩ | fail
    exact Rf
  · obtain ⟨y1, y2, y3⟩ := y1.resolve_left g1
    have z2 := szOp_con (m := m) o n1 (by omega) h1 h2 h3
    rcases less3_or n1 o.path.length o.to.length o.data.length with hz | ⟨hz, hz2⟩
    · generalize less3 n1 o.path.length o.to.length o.data.length = r at z2 hz
      refine con_of_cd tyOk mix Tryz.func3 rfl rfl rfl (Nat.le_of_ble_eq_true rfl) ?_
      repeat' first | refine Ra ⟨?_⟩ | ((first | refine Rc [] 0 rfl rfl (z1) ?_ | refine Rc [] 0 rfl rfl (z2) ?_ | (refine bd (fun h => ?_) (fun h => ?_) <;> (try simp only [List.length_map] at h)) | refine bsplit.mk (fun h => ?_) (fun h => ?_)) <;> conv => whnf) | refine Rb ⟨?_⟩ | fail
      exact Rf
    · have c1 := toEntS_con (m := m) t (by omega)
      have c2 := toOp_con (m := m) o
      have hb : bndO 1073741823 o := ⟨by omega, by omega, by omega⟩
      have c3 := sOpBack_con (m := m) t o (by omega) (bB2 y3) hb
      have c4 := iOpBack_con (m := m) t o (bE2 y3) hb
      rw [opD_eq] at c3 c4
      generalize (opBack t o).getD op0 = b at c3 c4
      generalize (opBack t o).isSome = ok at c3 c4
      have c5 := eqOp_con (m := m) b b
      rw [eqO_self] at c5
      have c6 := eqEntS_con (m := m) t (by omega)
      generalize less3 n1 o.path.length o.to.length o.data.length = r at z2 hz hz2
      refine con_of_cd tyOk mix Tryz.func3 rfl rfl rfl (Nat.le_of_ble_eq_true rfl) ?_
      repeat' first | refine Ra ⟨?_⟩ | ((first | refine Rc [] 0 rfl rfl (z1) ?_ | refine Rc [] 0 rfl rfl (z2) ?_ | refine Rc [] 1 rfl rfl (c1) ?_ | refine Rc [] 0 rfl rfl (c2) ?_ | refine Rc [] 0 rfl rfl (c3) ?_ | refine Rc [] 0 rfl rfl (c4) ?_ | refine Rc [] 0 rfl rfl (c5) ?_ | refine Rc [] 0 rfl rfl (c6) ?_ | (refine bd (fun h => ?_) (fun h => ?_) <;> (try simp only [List.length_map] at h)) | refine bsplit.mk (fun h => ?_) (fun h => ?_)) <;> conv => whnf) | refine Rb ⟨?_⟩ | fail
      exact Rf
theorem FnExactOpBack_con (cds : List D) (h : ShpAll Tryz.prog Tryz.f3.params.toList cds) : Con (E m) 3 0 cds [] (.b true) [] := by
  rw [Tryz.params3] at h
  match cds, h with
  | [d1, d2], ⟨h1, h2, _⟩ =>
    obtain ⟨t, rfl, ht⟩ := lEnts_shp h1
    obtain ⟨o, rfl, k1, k2, k3⟩ := lOp_shp h2
    exact law_exOpBack t o ht k1 k2 k3
open Go.ChangeShapes Go.WideShapes Go.ChangeAt in
theorem FnExactOpBack_lifted (os : Os) (started : os.Started) (H : Type) (enc : TypeId × Value → H) :
    ReturnsInHanded {} Tryz.checked os 3 .any (fun w args => (Rows.fnExactOpBackSpec.pre enc Tryz.prog Tryz.f3 Rows.fnExactOpBackRow.domain false w args ∧ laidMetH Tryz.prog Rows.fnExactOpBackRow.laid w) ∧ sizedMet enc Tryz.prog Tryz.f3 (OpenSpec.ofChange Rows.fnExactOpBackSpec) false w args)
      (Rows.fnExactOpBackSpec.post enc Tryz.prog Tryz.f3 false true false false) := by
  refine returns_laid (C := Tryz.checked) (X := fun w _ => laidMetH Tryz.prog Rows.fnExactOpBackRow.laid w) (fun _ _ _ hh h => h.of_heap hh) own0 started (by kernel_rfl) Tryz.func3
    (ChangeSpec.witness_shaped (enc := enc) (C := Tryz.checked) (os := os) (X := fun w _ => laidMetH Tryz.prog Rows.fnExactOpBackRow.laid w) false (World.laidAll Tryz.prog os Rows.fnExactOpBackRow.laid) #[.slice none 0 0, .agg #[.int .i64 0, .string ⟨#[]⟩, .string ⟨#[]⟩, .string ⟨#[]⟩]] 8 (World.laidAll_os _ _ _)
      (World.shaped_of_ZipB (by kernel_rfl) (by kernel_rfl)) (by kernel_rfl) (by kernel_rfl) (by kernel_rfl)
      (by rw [MakeChecks.laidMetH_plain _ _ _ (by kernel_rfl)]; exact laidMet_laidAll _ (by kernel_rfl) (by kernel_rfl))) ?_
  intro W base args ds gs before hval hW hsh _
  obtain ⟨m, hm⟩ := maxLen_shaped W hsh
  exact law_calls_gl (E := E m) (dp := 8) (bt := 4) laidOut0 (readB_mem (by kernel_rfl)) (by kernel_rfl) Tryz.underlying4 (by kernel_rfl) rfl (fun H ds hl => match ds, hl with
    | [d1, d2], _ => rfl) FnExactOpBack_con W (gl_m hm) base args ds gs before hval hW
theorem FnExactOpBack_place : (Rows.fnExactOpBackRow.inPlace == Tryz.prog.inPlace 3) = true := by kernel_rfl
theorem FnExactOpBack_unf : (Rows.fnExactOpBackRow.unfollowed == Tryz.prog.unfollowed 3) = true := by kernel_rfl
theorem FnExactOpBack_rec : (Rows.fnExactOpBackRow.recurses == Tryz.prog.recurses 3) = true := by kernel_rfl
theorem FnExactOpBack_named : (Rows.fnExactOpBackRow.named == Tryz.prog.varsNamed 3) = true := by kernel_rfl
theorem FnExactOpBack_joined : joinedFacts Tryz.prog 3 Tryz.f3 Rows.fnExactOpBackSpec Rows.fnExactOpBackRow = true :=
  joined_of (by kernel_rfl) laidOut0 rowed0 (by kernel_rfl) (by kernel_rfl) (by kernel_rfl) (by rw [stops0]; rfl) (by kernel_rfl) (by rw [knobs0]; rfl) FnExactOpBack_place FnExactOpBack_unf FnExactOpBack_rec FnExactOpBack_named
    (by kernel_rfl) (by kernel_rfl) (by kernel_rfl) (by kernel_rfl) (by kernel_rfl) (by kernel_rfl) (by kernel_rfl) (by kernel_rfl) (by kernel_rfl) (by rw [plainKeys0]; rfl) (by kernel_rfl) heard0 may0 (by rw [lifts0]; rfl) (by rw [make0]; rfl) (by kernel_rfl) (by kernel_rfl) (by kernel_rfl) (by kernel_rfl)
theorem FnExactOpBack_holds : Rows.FnExactOpBackSaid :=
  OpenClaim.holds_of_wide 3 Tryz.f3 rfl rfl rfl rfl rfl rfl rfl ⟨rfl, rfl, rfl, rfl, rfl⟩ rfl rfl rfl rfl rfl (by kernel_rfl) Tryz.func3 FnExactOpBack_joined
    (of_decide_eq_true (by kernel_rfl)) (by unfold Func.isWrapper; first | (rw [if_pos (by decide +kernel)]; kernel_rfl) | (rw [if_neg (by decide +kernel)]; exact ⟨rfl, rfl⟩))
    (fun os started H enc _ => FnExactOpBack_lifted os started H enc)
theorem FnExactOpBack_card : Rows.FnExactOpBackCardSaid :=
  Claim7.holds_tied_plain_at .later [] [.data, .pinned] true _ false FnExactOpBack_holds (fun _ h => by cases h) (by kernel_rfl) (fun _ h => by cases h) fnExactOpBack_row_tie rfl ⟨rfl, rfl⟩ (mainIs0.trans (by kernel_rfl)) rfl
    (fun f fn hf hfn => by
      obtain rfl : f = 3 := Option.some.inj ((show Tryz.prog.funcNamed "loop.example/pargeting/laws.FnExactOpBack" = some 3 by kernel_rfl).symm.trans hf) |>.symm
      obtain rfl : fn = Tryz.f3 := (Option.some.inj (Tryz.func3.symm.trans hfn)).symm
      exact ⟨looks0.symm, fun j t ht => by
        have hm : t ∈ Tryz.f3.params.toList := by simpa using Array.mem_of_getElem? ht
        have hall : (Tryz.f3.params.toList.all fun u => !Tryz.prog.wantsStandIn u) = true := by kernel_rfl
        exact (show Tryz.prog.wantsStandIn t = false by simpa using List.all_eq_true.1 hall t hm)⟩)
    (goes0 _ rfl)
end Go.Proofs.YtoaiplobfellaaaGreatDoor
