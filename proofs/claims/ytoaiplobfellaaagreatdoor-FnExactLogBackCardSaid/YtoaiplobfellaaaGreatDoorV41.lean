/- 'laws.FnExactLogBack' returns true whatever its arguments are, and leaves the arguments as they were; the package variables that the row lists hold what the program's text lays. -/
import Derived.Test.YtoaiplobfellaaaGreatDoorMb
import Derived.Test.YtoaiplobfellaaaGreatDoorKh
import Derived.Test.YtoaiplobfellaaaGreatDoorLv
set_option linter.unusedSimpArgs false
set_option linter.unusedVariables false
set_option maxHeartbeats 1000000
set_option maxRecDepth 100000
namespace Go.Proofs.YtoaiplobfellaaaGreatDoor
open Go Go.RowKit Go.Ab Go.Par
variable {m : Int}
theorem law_FnExactLogBack (t : List Ent) (o : List Opn) (ht : big t) (ho : bigO o) : Con (E m) 14 0 [.sl (t.map Ent.c), .sl (o.map Opn.c)] [] (.b true) [] := by
  obtain ⟨n1, z1, y1⟩ := szE2_con (m := m) t 1048576 (by omega) ht
  by_cases g1 : n1 < 0
  · refine con_of_cd tyOk mix Tryz.func14 rfl rfl rfl (Nat.le_of_ble_eq_true rfl) ?_
    repeat' first | refine Ra ⟨?_⟩ | ((first | refine Rc [] 0 rfl rfl (z1) ?_ | (refine bd (fun h => ?_) (fun h => ?_) <;> (try simp only [List.length_map] at h)) | refine bsplit.mk (fun h => ?_) (fun h => ?_)) <;> conv => whnf) | refine Rb ⟨?_⟩ | fail
    exact Rf
  · obtain ⟨y1, y2, y3⟩ := y1.resolve_left g1
    obtain ⟨n2, z2, y4⟩ := szO_con (m := m) o n1 (by omega) ho
    by_cases g2 : n2 < 0
    · refine con_of_cd tyOk mix Tryz.func14 rfl rfl rfl (Nat.le_of_ble_eq_true rfl) ?_
      repeat' first | refine Ra ⟨?_⟩ | ((first | refine Rc [] 0 rfl rfl (z1) ?_ | refine Rc [] 0 rfl rfl (z2) ?_ | (refine bd (fun h => ?_) (fun h => ?_) <;> (try simp only [List.length_map] at h)) | refine bsplit.mk (fun h => ?_) (fun h => ?_)) <;> conv => whnf) | refine Rb ⟨?_⟩ | fail
      exact Rf
    · obtain ⟨y4, y5, y6⟩ := y4.resolve_left g2
      have c1 := toEntS_con (m := m) t (by omega)
      have c2 := toOpS_con (m := m) o (by omega)
      have c6 := eqEntS_con (m := m) t (by omega)
      have c7 := eqOpS_con (m := m) o (by omega)
      have m1 := markEntS_con (m := m) t 1 (by omega) (by omega)
      have m2 := markOpS_con (m := m) o (1 + 3 * t.length) (by omega) (by omega)
      have c3 := sLogBack_con (m := m) t o (bB2 y3) (by omega) y6 (by omega)
      have c4 := iLogBack_con (m := m) t o (bE2 y3) (by omega) y6 (by omega)
      have hlen : (logBack t o).length ≤ 30 := by
        have h1 := logClean_len t o
        have h2 : (logBack t o).length = (logClean t o).length := by
          unfold logBack
          rw [← fwd_back, List.length_reverse, fwd_len]
        omega
      generalize logBack t o = P at c3 c4 hlen
      have c5 := eqOpS_con (m := m) P (by omega)
      have m3 := markOpS_con (m := m) P 1 (by omega) (by omega)
      have m4 := heldOpS_con (m := m) P.length 1 (by omega) (by omega)
      refine con_of_cd tyOk mix Tryz.func14 rfl rfl rfl (Nat.le_of_ble_eq_true rfl) ?_
      repeat' first | refine Ra ⟨?_⟩ | ((first | refine Rc [] 0 rfl rfl (z1) ?_ | refine Rc [] 0 rfl rfl (z2) ?_ | refine Rc [] 1 rfl rfl (c1) ?_ | refine Rc [] 1 rfl rfl (c2) ?_ | refine Rc [] 1 rfl rfl (c3) ?_ | refine ⟨[], _, _, _, _, 1, ⟨rfl, rfl, rfl, c4, rfl, rfl⟩, .inl ⟨by simp [NoImmD, NoImmG, NoImmA], by simp [NoImmS, NoImmB, NoImmA, Ent.c, Mrk.c, Opn.c], ?_⟩⟩ | refine ⟨[], _, _, _, _, 0, ⟨rfl, rfl, rfl, c5, rfl, rfl⟩, .inl ⟨by simp [NoImmD, NoImmG, NoImmA], by simp [NoImmS, NoImmB, NoImmA, Ent.c, Mrk.c, Opn.c], ?_⟩⟩ | refine ⟨[], _, _, _, _, 0, ⟨rfl, rfl, rfl, c6, rfl, rfl⟩, .inl ⟨by simp [NoImmD, NoImmG, NoImmA], by simp [NoImmS, NoImmB, NoImmA, Ent.c, Mrk.c, Opn.c], ?_⟩⟩ | refine ⟨[], _, _, _, _, 0, ⟨rfl, rfl, rfl, c7, rfl, rfl⟩, .inl ⟨by simp [NoImmD, NoImmG, NoImmA], by simp [NoImmS, NoImmB, NoImmA, Ent.c, Mrk.c, Opn.c], ?_⟩⟩ | refine Rc [3] 0 rfl rfl (m1) ?_ | refine Rc [4] 0 rfl rfl (m2) ?_ | refine Rc [5] 0 rfl rfl (m3) ?_ | refine ⟨[], _, _, _, _, 0, ⟨rfl, rfl, rfl, m4, rfl, rfl⟩, .inl ⟨by simp [NoImmD, NoImmG, NoImmA], by simp [NoImmS, NoImmB, NoImmA, Ent.c, Mrk.c, Opn.c], ?_⟩⟩ | (refine bd (fun h => ?_) (fun h => ?_) <;> (try simp only [List.length_map] at h)) | refine bsplit.mk (fun h => ?_) (fun h => ?_)) <;> conv => whnf) | refine Rb ⟨?_⟩ | fail
      exact Rf
theorem FnExactLogBack_con (cds : List D) (h : ShpAll Tryz.prog Tryz.f14.params.toList cds) : Con (E m) 14 0 cds [] (.b true) [] := by
  rw [Tryz.params14] at h
  match cds, h with
  | [d1, d2], ⟨h1, h2, _⟩ =>
    obtain ⟨t, rfl, ht⟩ := lEnts_shp h1
    obtain ⟨o, rfl, ho⟩ := lOps_shp h2
    exact law_FnExactLogBack t o ht ho
open Go.ChangeShapes Go.WideShapes Go.ChangeAt in
theorem FnExactLogBack_lifted (os : Os) (started : os.Started) (H : Type) (enc : TypeId × Value → H) :
    ReturnsInHanded {} Tryz.checked os 14 .any (fun w args => (Rows.fnExactLogBackSpec.pre enc Tryz.prog Tryz.f14 Rows.fnExactLogBackRow.domain false w args ∧ laidMetH Tryz.prog Rows.fnExactLogBackRow.laid w) ∧ sizedMet enc Tryz.prog Tryz.f14 (OpenSpec.ofChange Rows.fnExactLogBackSpec) false w args)
      (Rows.fnExactLogBackSpec.post enc Tryz.prog Tryz.f14 false true false false) := by
  refine returns_laid (C := Tryz.checked) (X := fun w _ => laidMetH Tryz.prog Rows.fnExactLogBackRow.laid w) (fun _ _ _ hh h => h.of_heap hh) own0 started (by kernel_rfl) Tryz.func14
    (ChangeSpec.witness_shaped (enc := enc) (C := Tryz.checked) (os := os) (X := fun w _ => laidMetH Tryz.prog Rows.fnExactLogBackRow.laid w) false (World.laidAll Tryz.prog os Rows.fnExactLogBackRow.laid) #[.slice none 0 0, .slice none 0 0] 8 (World.laidAll_os _ _ _)
      (World.shaped_of_ZipB (by kernel_rfl) (by kernel_rfl)) (by kernel_rfl) (by kernel_rfl) (by kernel_rfl)
      (by rw [MakeChecks.laidMetH_plain _ _ _ (by kernel_rfl)]; exact laidMet_laidAll _ (by kernel_rfl) (by kernel_rfl))) ?_
  intro W base args ds gs before hval hW hsh _
  obtain ⟨m, hm⟩ := maxLen_shaped W hsh
  exact law_calls_gl (E := E m) (dp := 8) (bt := 4) laidOut0 (readB_mem (by kernel_rfl)) (by kernel_rfl) Tryz.underlying4 (by kernel_rfl) rfl (fun H ds hl => match ds, hl with
    | [d1, d2], _ => rfl) FnExactLogBack_con W (gl_m hm) base args ds gs before hval hW
theorem FnExactLogBack_place : (Rows.fnExactLogBackRow.inPlace == Tryz.prog.inPlace 14) = true := by kernel_rfl
theorem FnExactLogBack_unf : (Rows.fnExactLogBackRow.unfollowed == Tryz.prog.unfollowed 14) = true := by kernel_rfl
theorem FnExactLogBack_rec : (Rows.fnExactLogBackRow.recurses == Tryz.prog.recurses 14) = true := by kernel_rfl
theorem FnExactLogBack_named : (Rows.fnExactLogBackRow.named == Tryz.prog.varsNamed 14) = true := by kernel_rfl
theorem FnExactLogBack_joined : joinedFacts Tryz.prog 14 Tryz.f14 Rows.fnExactLogBackSpec Rows.fnExactLogBackRow = true :=
  joined_of (by kernel_rfl) laidOut0 rowed0 (by kernel_rfl) (by kernel_rfl) (by kernel_rfl) (by rw [stops0]; rfl) (by kernel_rfl) (by rw [knobs0]; rfl) FnExactLogBack_place FnExactLogBack_unf FnExactLogBack_rec FnExactLogBack_named
    (by kernel_rfl) (by kernel_rfl) (by kernel_rfl) (by kernel_rfl) (by kernel_rfl) (by kernel_rfl) (by kernel_rfl) (by kernel_rfl) (by kernel_rfl) (by rw [plainKeys0]; rfl) (by kernel_rfl) heard0 may0 (by rw [lifts0]; rfl) (by rw [make0]; rfl) (by kernel_rfl) (by kernel_rfl) (by kernel_rfl) (by kernel_rfl)
theorem FnExactLogBack_holds : Rows.FnExactLogBackSaid :=
  OpenClaim.holds_of_wide 14 Tryz.f14 rfl rfl rfl rfl rfl rfl rfl ⟨rfl, rfl, rfl, rfl, rfl⟩ rfl rfl rfl rfl rfl (by kernel_rfl) Tryz.func14 FnExactLogBack_joined
    (of_decide_eq_true (by kernel_rfl)) (by unfold Func.isWrapper; first | (rw [if_pos (by decide +kernel)]; kernel_rfl) | (rw [if_neg (by decide +kernel)]; exact ⟨rfl, rfl⟩))
    (fun os started H enc _ => FnExactLogBack_lifted os started H enc)
theorem FnExactLogBack_card : Rows.FnExactLogBackCardSaid :=
  Claim7.holds_tied_plain_at .later [] [.data, .pinned] true _ false FnExactLogBack_holds (fun _ h => by cases h) (by kernel_rfl) (fun _ h => by cases h) fnExactLogBack_row_tie rfl ⟨rfl, rfl⟩ (mainIs0.trans (by kernel_rfl)) rfl
    (fun f fn hf hfn => by
      obtain rfl : f = 14 := Option.some.inj ((show Tryz.prog.funcNamed "loop.example/pargeting/laws.FnExactLogBack" = some 14 by kernel_rfl).symm.trans hf) |>.symm
      obtain rfl : fn = Tryz.f14 := (Option.some.inj (Tryz.func14.symm.trans hfn)).symm
      exact ⟨looks0.symm, fun j t ht => by
        have hm : t ∈ Tryz.f14.params.toList := by simpa using Array.mem_of_getElem? ht
        have hall : (Tryz.f14.params.toList.all fun u => !Tryz.prog.wantsStandIn u) = true := by kernel_rfl
        exact (show Tryz.prog.wantsStandIn t = false by simpa using List.all_eq_true.1 hall t hm)⟩)
    (goes0 _ rfl)
end Go.Proofs.YtoaiplobfellaaaGreatDoor
