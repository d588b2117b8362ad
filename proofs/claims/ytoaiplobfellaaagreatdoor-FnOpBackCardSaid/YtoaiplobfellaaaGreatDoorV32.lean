/- 'laws.FnOpBack' returns true whatever its arguments are, and leaves the arguments as they were; the package variables that the row lists hold what the program's text lays. -/
import Derived.Test.YtoaiplobfellaaaGreatDoorMb
import Derived.Test.YtoaiplobfellaaaGreatDoorKh
import Derived.Test.YtoaiplobfellaaaGreatDoorLv
set_option linter.unusedSimpArgs false
set_option linter.unusedVariables false
set_option maxHeartbeats 1000000
set_option maxRecDepth 100000
namespace Go.Proofs.YtoaiplobfellaaaGreatDoor
open Go Go.RowKit Go.Ab Go.Par
variable {m : Int}
theorem law_FnOpBack (l : Bs) : Con (E m) 5 0 [.sl (bytesOf l)] [] (.b true) [] := by
  have hbl : (bytesOf l).length = l.length := List.length_map ..
  by_cases hl : l.length ≤ 1048576
  · obtain ⟨t, o, ht, ho, c0⟩ := drawOpBack_any (m := m) l hl
    have hln := ht.len
    have c1 := iOpBack_con (m := m) t o ht.bE ho.big
    have c2 := sOpBack_con (m := m) t o (by omega) ht.bB ho.big
    have c3 := iTreeDo_con (m := m) t o ht.bE ho.big.1 ho.big.2.1 ho.big.2.2
    have q0 : ∀ o : Opn, (decide (o.kind = o.kind) && (decide (o.path = o.path) && (decide (o.to = o.to) && (decide (o.data = o.data) && true)))) = true := fun o => by simp
    by_cases hc : (treeDo t o).2 = 0
    · have hd := code_zero' hc
      obtain ⟨h1, h2, h3, h4, _⟩ := treeDo_at hd
      obtain ⟨b1, b2⟩ := back_do hd
      have hb0 : (treeDo (treeDo t o).1 (backV t o)).2 = 0 := by rw [b1]
      have hob : opOk (backV t o) = true := (treeDo_zero.1 b1).2.1
      have hbl2 := opOk_len hob
      have hbb : bndO 1073741823 (backV t o) := ⟨by omega, by omega, by omega⟩
      have c4 := iTreeDo_con (m := m) (treeDo t o).1 (backV t o) (bE0 h4) hbb.1 hbb.2.1 hbb.2.2
      have c5 := iOpBack_con (m := m) (treeDo t o).1 (backV t o) (bE0 h4) hbb
      have e5 : opBack (treeDo t o).1 (backV t o) = some o := by rw [opBack_zero hb0, b2]
      have e1 : opBack t o = some (backV t o) := opBack_zero hc
      rw [e5] at c5
      rw [e1] at c1 c2
      rw [b1] at c4
      rw [hc] at c3
      have q1 := q0 (backV t o)
      have s1 := treeSame_con (m := m) t t (by omega) (by omega)
      have hl4 := treeOk_len h4
      have s2 := treeSame_con (m := m) (treeDo t o).1 (treeDo t o).1 (by omega) (by omega)
      rw [decide_eq_true rfl] at s1 s2
      generalize backV t o = b at c1 c2 c4 c5 q1
      generalize (treeDo t o).1 = x at c3 c4 c5 s2
      refine con_of_cd tyOk mix Tryz.func5 rfl rfl rfl (Nat.le_of_ble_eq_true rfl) ?_
      repeat' first | refine Ra ⟨?_⟩ | ((first | refine Rc [] 0 rfl rfl (c0) ?_ | refine Rc [] 0 rfl rfl (c1) ?_ | refine Rc [] 0 rfl rfl (c2) ?_ | refine Rc [] 1 rfl rfl (c3) ?_ | refine Rc [] 1 rfl rfl (c4) ?_ | refine Rc [] 0 rfl rfl (c5) ?_ | refine Rc [] 0 rfl rfl (s1) ?_ | refine Rc [] 0 rfl rfl (s2) ?_ | (refine bd (fun h => ?_) (fun h => ?_) <;> (try simp only [List.length_map] at h)) | refine bsplit.mk (fun h => ?_) (fun h => ?_)) <;> conv => whnf) | refine Rb ⟨?_⟩ | fail
      exact Rf
    · have e1 : opBack t o = none := if_neg hc
      rw [e1] at c1 c2
      have q1 := q0 op0
      generalize (treeDo t o).1 = x at c3
      refine con_of_cd tyOk mix Tryz.func5 rfl rfl rfl (Nat.le_of_ble_eq_true rfl) ?_
      repeat' first | refine Ra ⟨?_⟩ | ((first | refine Rc [] 0 rfl rfl (c0) ?_ | refine Rc [] 0 rfl rfl (c1) ?_ | refine Rc [] 0 rfl rfl (c2) ?_ | refine Rc [] 1 rfl rfl (c3) ?_ | (refine bd (fun h => ?_) (fun h => ?_) <;> (try simp only [List.length_map] at h)) | refine bsplit.mk (fun h => ?_) (fun h => ?_)) <;> conv => whnf) | refine Rb ⟨?_⟩ | fail
      exact Rf
  · refine con_of_cd tyOk mix Tryz.func5 rfl rfl rfl (Nat.le_of_ble_eq_true rfl) ?_
    repeat' first | refine Ra ⟨?_⟩ | ((first | (refine bd (fun h => ?_) (fun h => ?_) <;> (try simp only [List.length_map] at h)) | refine bsplit.mk (fun h => ?_) (fun h => ?_)) <;> conv => whnf) | refine Rb ⟨?_⟩ | fail
    exact Rf
theorem FnOpBack_con (cds : List D) (h : ShpAll Tryz.prog Tryz.f5.params.toList cds) : Con (E m) 5 0 cds [] (.b true) [] := by
  rw [Tryz.params5] at h
  match cds, h with
  | [d1], ⟨h1, _⟩ =>
    obtain ⟨l, rfl⟩ := bytes_shp h1
    exact law_FnOpBack l
open Go.ChangeShapes Go.WideShapes Go.ChangeAt in
theorem FnOpBack_lifted (os : Os) (started : os.Started) (H : Type) (enc : TypeId × Value → H) :
    ReturnsInHanded {} Tryz.checked os 5 .any (fun w args => (Rows.fnOpBackSpec.pre enc Tryz.prog Tryz.f5 Rows.fnOpBackRow.domain false w args ∧ laidMetH Tryz.prog Rows.fnOpBackRow.laid w) ∧ sizedMet enc Tryz.prog Tryz.f5 (OpenSpec.ofChange Rows.fnOpBackSpec) false w args)
      (Rows.fnOpBackSpec.post enc Tryz.prog Tryz.f5 false true false false) := by
  refine returns_laid (C := Tryz.checked) (X := fun w _ => laidMetH Tryz.prog Rows.fnOpBackRow.laid w) (fun _ _ _ hh h => h.of_heap hh) own0 started (by kernel_rfl) Tryz.func5
    (ChangeSpec.witness_shaped (enc := enc) (C := Tryz.checked) (os := os) (X := fun w _ => laidMetH Tryz.prog Rows.fnOpBackRow.laid w) false (World.laidAll Tryz.prog os Rows.fnOpBackRow.laid) #[.slice none 0 0] 8 (World.laidAll_os _ _ _)
      (World.shaped_of_ZipB (by kernel_rfl) (by kernel_rfl)) (by kernel_rfl) (by kernel_rfl) (by kernel_rfl)
      (by rw [MakeChecks.laidMetH_plain _ _ _ (by kernel_rfl)]; exact laidMet_laidAll _ (by kernel_rfl) (by kernel_rfl))) ?_
  intro W base args ds gs before hval hW hsh _
  obtain ⟨m, hm⟩ := maxLen_shaped W hsh
  exact law_calls_gl (E := E m) (dp := 8) (bt := 4) laidOut0 (readB_mem (by kernel_rfl)) (by kernel_rfl) Tryz.underlying4 (by kernel_rfl) rfl (fun H ds hl => match ds, hl with
    | [d1], _ => rfl) FnOpBack_con W (gl_m hm) base args ds gs before hval hW
theorem FnOpBack_place : (Rows.fnOpBackRow.inPlace == Tryz.prog.inPlace 5) = true := by kernel_rfl
theorem FnOpBack_unf : (Rows.fnOpBackRow.unfollowed == Tryz.prog.unfollowed 5) = true := by kernel_rfl
theorem FnOpBack_rec : (Rows.fnOpBackRow.recurses == Tryz.prog.recurses 5) = true := by kernel_rfl
theorem FnOpBack_named : (Rows.fnOpBackRow.named == Tryz.prog.varsNamed 5) = true := by kernel_rfl
theorem FnOpBack_joined : joinedFacts Tryz.prog 5 Tryz.f5 Rows.fnOpBackSpec Rows.fnOpBackRow = true :=
  joined_of (by kernel_rfl) laidOut0 rowed0 (by kernel_rfl) (by kernel_rfl) (by kernel_rfl) (by rw [stops0]; rfl) (by kernel_rfl) (by rw [knobs0]; rfl) FnOpBack_place FnOpBack_unf FnOpBack_rec FnOpBack_named
    (by kernel_rfl) (by kernel_rfl) (by kernel_rfl) (by kernel_rfl) (by kernel_rfl) (by kernel_rfl) (by kernel_rfl) (by kernel_rfl) (by kernel_rfl) (by rw [plainKeys0]; rfl) (by kernel_rfl) heard0 may0 (by rw [lifts0]; rfl) (by rw [make0]; rfl) (by kernel_rfl) (by kernel_rfl) (by kernel_rfl) (by kernel_rfl)
theorem FnOpBack_holds : Rows.FnOpBackSaid :=
  OpenClaim.holds_of_wide 5 Tryz.f5 rfl rfl rfl rfl rfl rfl rfl ⟨rfl, rfl, rfl, rfl, rfl⟩ rfl rfl rfl rfl rfl (by kernel_rfl) Tryz.func5 FnOpBack_joined
    (of_decide_eq_true (by kernel_rfl)) (by unfold Func.isWrapper; first | (rw [if_pos (by decide +kernel)]; kernel_rfl) | (rw [if_neg (by decide +kernel)]; exact ⟨rfl, rfl⟩))
    (fun os started H enc _ => FnOpBack_lifted os started H enc)
theorem FnOpBack_card : Rows.FnOpBackCardSaid :=
  Claim7.holds_tied_plain_at .later [] [.data, .pinned] true _ false FnOpBack_holds (fun _ h => by cases h) (by kernel_rfl) (fun _ h => by cases h) fnOpBack_row_tie rfl ⟨rfl, rfl⟩ (mainIs0.trans (by kernel_rfl)) rfl
    (fun f fn hf hfn => by
      obtain rfl : f = 5 := Option.some.inj ((show Tryz.prog.funcNamed "loop.example/pargeting/laws.FnOpBack" = some 5 by kernel_rfl).symm.trans hf) |>.symm
      obtain rfl : fn = Tryz.f5 := (Option.some.inj (Tryz.func5.symm.trans hfn)).symm
      exact ⟨looks0.symm, fun j t ht => by
        have hm : t ∈ Tryz.f5.params.toList := by simpa using Array.mem_of_getElem? ht
        have hall : (Tryz.f5.params.toList.all fun u => !Tryz.prog.wantsStandIn u) = true := by kernel_rfl
        exact (show Tryz.prog.wantsStandIn t = false by simpa using List.all_eq_true.1 hall t hm)⟩)
    (goes0 _ rfl)
end Go.Proofs.YtoaiplobfellaaaGreatDoor
