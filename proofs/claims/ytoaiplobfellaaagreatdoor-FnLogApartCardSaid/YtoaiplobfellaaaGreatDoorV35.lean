/- 'laws.FnLogApart' returns true whatever its arguments are, and leaves the arguments as they were; the package variables that the row lists hold what the program's text lays. -/
import Derived.Test.YtoaiplobfellaaaGreatDoorMb
import Derived.Test.YtoaiplobfellaaaGreatDoorKh
import Derived.Test.YtoaiplobfellaaaGreatDoorLv
set_option linter.unusedSimpArgs false
set_option linter.unusedVariables false
set_option maxHeartbeats 1000000
set_option maxRecDepth 100000
namespace Go.Proofs.YtoaiplobfellaaaGreatDoor
open Go Go.RowKit Go.Ab Go.Par
variable {m : Int}
theorem law_FnLogApart (l k : Bs) : Con (E m) 8 0 [.sl (bytesOf l), .sl (bytesOf k)] [] (.b true) [] := by
  have hbl : (bytesOf l).length = l.length := List.length_map ..
  have hbk : (bytesOf k).length = k.length := List.length_map ..
  by_cases hl : l.length ≤ 1048576
  · by_cases hk : k.length ≤ 1048576
    · obtain ⟨t, a, ht, ha, c0⟩ := drawOpBack_any (m := m) l hl
      obtain ⟨t2, b, ht2, hb, c00⟩ := drawOpBack_any (m := m) k hk
      have hln := ht.len
      have c1 := iOpBack_con (m := m) t a ht.bE ha.big
      have c2 := sOpBack_con (m := m) t a (by omega) ht.bB ha.big
      have c3 := wpTop_con (m := m) a b ha.big hb.big
      rw [opD_eq] at c1 c2
      by_cases hc : (treeDo t a).2 = 0
      · have ht1 := (treeDo_zero.1 (code_zero' hc)).1
        have e1 : (opBack t a).isSome = true := by rw [opBack_zero hc]; rfl
        rw [e1] at c1 c2
        generalize (opBack t a).getD op0 = bk at c1 c2
        cases hw : wpTopV a b with
        | false =>
          rw [hw] at c3
          refine con_of_cd tyOk mix Tryz.func8 rfl rfl rfl (Nat.le_of_ble_eq_true rfl) ?_
          repeat' first | refine Ra ⟨?_⟩ | ((first | refine Rc [] 0 rfl rfl (c0) ?_ | refine Rc [] 0 rfl rfl (c00) ?_ | refine Rc [] 0 rfl rfl (c1) ?_ | refine Rc [] 0 rfl rfl (c2) ?_ | refine Rc [] 0 rfl rfl (c3) ?_ | (refine bd (fun h => ?_) (fun h => ?_) <;> (try simp only [List.length_map] at h)) | refine bsplit.mk (fun h => ?_) (fun h => ?_)) <;> conv => whnf) | refine Rb ⟨?_⟩ | fail
          exact Rf
        | true =>
          rw [hw] at c3
          have hap := apart (b := b) ht1 hc (wpTop_apart hw)
          have hx := treeDo_ok ht1 a
          have hy := treeDo_ok ht1 b
          have d1 := iTreeDo_con (m := m) t a ht.bE ha.big.1 ha.big.2.1 ha.big.2.2
          have d2 := iTreeDo_con (m := m) (treeDo t a).1 b (bE0 hx) hb.big.1 hb.big.2.1 hb.big.2.2
          have d3 := iTreeDo_con (m := m) t b ht.bE hb.big.1 hb.big.2.1 hb.big.2.2
          have d4 := iTreeDo_con (m := m) (treeDo t b).1 a (bE0 hy) ha.big.1 ha.big.2.1 ha.big.2.2
          have hz := treeDo_ok hx b
          have hzl := treeOk_len hz
          rw [hc] at d1
          by_cases r1 : (treeDo (treeDo t a).1 b).2 = 8
          · rw [r1] at d2
            generalize (treeDo t a).1 = x at d1 d2
            generalize (treeDo x b).1 = x2 at d2
            generalize treeDo t b = Y at d3 d4
            generalize treeDo Y.1 a = Y2 at d4
            refine con_of_cd tyOk mix Tryz.func8 rfl rfl rfl (Nat.le_of_ble_eq_true rfl) ?_
            repeat' first | refine Ra ⟨?_⟩ | ((first | refine Rc [] 0 rfl rfl (c0) ?_ | refine Rc [] 0 rfl rfl (c00) ?_ | refine Rc [] 0 rfl rfl (c1) ?_ | refine Rc [] 0 rfl rfl (c2) ?_ | refine Rc [] 0 rfl rfl (c3) ?_ | refine Rc [] 1 rfl rfl (d1) ?_ | refine Rc [] 1 rfl rfl (d2) ?_ | refine Rc [] 1 rfl rfl (d3) ?_ | refine Rc [] 1 rfl rfl (d4) ?_ | (refine bd (fun h => ?_) (fun h => ?_) <;> (try simp only [List.length_map] at h)) | refine bsplit.mk (fun h => ?_) (fun h => ?_)) <;> conv => whnf) | refine Rb ⟨?_⟩ | fail
            all_goals exact Rf
          · by_cases r2 : (treeDo t b).2 = 8
            · rw [r2] at d3
              generalize (treeDo t a).1 = x at d1 d2
              generalize treeDo x b = x2 at d2
              generalize (treeDo t b).1 = y at d3 d4
              generalize treeDo y a = Y2 at d4
              refine con_of_cd tyOk mix Tryz.func8 rfl rfl rfl (Nat.le_of_ble_eq_true rfl) ?_
              repeat' first | refine Ra ⟨?_⟩ | ((first | refine Rc [] 0 rfl rfl (c0) ?_ | refine Rc [] 0 rfl rfl (c00) ?_ | refine Rc [] 0 rfl rfl (c1) ?_ | refine Rc [] 0 rfl rfl (c2) ?_ | refine Rc [] 0 rfl rfl (c3) ?_ | refine Rc [] 1 rfl rfl (d1) ?_ | refine Rc [] 1 rfl rfl (d2) ?_ | refine Rc [] 1 rfl rfl (d3) ?_ | refine Rc [] 1 rfl rfl (d4) ?_ | (refine bd (fun h => ?_) (fun h => ?_) <;> (try simp only [List.length_map] at h)) | refine bsplit.mk (fun h => ?_) (fun h => ?_)) <;> conv => whnf) | refine Rb ⟨?_⟩ | fail
              all_goals exact Rf
            · by_cases r3 : (treeDo (treeDo t b).1 a).2 = 8
              · rw [r3] at d4
                generalize (treeDo t a).1 = x at d1 d2
                generalize treeDo x b = x2 at d2
                generalize treeDo t b = y at d3 d4
                generalize (treeDo y.1 a).1 = Y2 at d4
                refine con_of_cd tyOk mix Tryz.func8 rfl rfl rfl (Nat.le_of_ble_eq_true rfl) ?_
                repeat' first | refine Ra ⟨?_⟩ | ((first | refine Rc [] 0 rfl rfl (c0) ?_ | refine Rc [] 0 rfl rfl (c00) ?_ | refine Rc [] 0 rfl rfl (c1) ?_ | refine Rc [] 0 rfl rfl (c2) ?_ | refine Rc [] 0 rfl rfl (c3) ?_ | refine Rc [] 1 rfl rfl (d1) ?_ | refine Rc [] 1 rfl rfl (d2) ?_ | refine Rc [] 1 rfl rfl (d3) ?_ | refine Rc [] 1 rfl rfl (d4) ?_ | (refine bd (fun h => ?_) (fun h => ?_) <;> (try simp only [List.length_map] at h)) | refine bsplit.mk (fun h => ?_) (fun h => ?_)) <;> conv => whnf) | refine Rb ⟨?_⟩ | fail
                all_goals exact Rf
              · obtain ⟨p1, p2, p3⟩ := hap r1 r2 r3
                rw [p1] at d4
                rw [p2] at d2
                have s1 := treeSame_con (m := m) (treeDo (treeDo t a).1 b).1 (treeDo (treeDo t a).1 b).1 (by omega) (by omega)
                rw [decide_eq_true rfl] at s1
                rw [← p3] at d4
                generalize (treeDo (treeDo t a).1 b).1 = z at d2 d4 s1
                generalize (treeDo t a).1 = x at d1 d2
                generalize (treeDo t b).1 = y at d3 d4
                generalize (treeDo t b).2 = cd at d2 d3
                refine con_of_cd tyOk mix Tryz.func8 rfl rfl rfl (Nat.le_of_ble_eq_true rfl) ?_
                repeat' first | refine Ra ⟨?_⟩ | ((first | refine Rc [] 0 rfl rfl (c0) ?_ | refine Rc [] 0 rfl rfl (c00) ?_ | refine Rc [] 0 rfl rfl (c1) ?_ | refine Rc [] 0 rfl rfl (c2) ?_ | refine Rc [] 0 rfl rfl (c3) ?_ | refine Rc [] 1 rfl rfl (d1) ?_ | refine Rc [] 1 rfl rfl (d2) ?_ | refine Rc [] 1 rfl rfl (d3) ?_ | refine Rc [] 1 rfl rfl (d4) ?_ | refine Rc [] 0 rfl rfl (s1) ?_ | (refine bd (fun h => ?_) (fun h => ?_) <;> (try simp only [List.length_map] at h)) | refine bsplit.mk (fun h => ?_) (fun h => ?_)) <;> conv => whnf) | refine Rb ⟨?_⟩ | fail
                all_goals exact Rf
      · have e1 : (opBack t a).isSome = false := by rw [opBack, if_neg hc]; rfl
        rw [e1] at c1 c2
        generalize (opBack t a).getD op0 = bk at c1 c2
        refine con_of_cd tyOk mix Tryz.func8 rfl rfl rfl (Nat.le_of_ble_eq_true rfl) ?_
        repeat' first | refine Ra ⟨?_⟩ | ((first | refine Rc [] 0 rfl rfl (c0) ?_ | refine Rc [] 0 rfl rfl (c00) ?_ | refine Rc [] 0 rfl rfl (c1) ?_ | refine Rc [] 0 rfl rfl (c2) ?_ | (refine bd (fun h => ?_) (fun h => ?_) <;> (try simp only [List.length_map] at h)) | refine bsplit.mk (fun h => ?_) (fun h => ?_)) <;> conv => whnf) | refine Rb ⟨?_⟩ | fail
        exact Rf
    · refine con_of_cd tyOk mix Tryz.func8 rfl rfl rfl (Nat.le_of_ble_eq_true rfl) ?_
      repeat' first | refine Ra ⟨?_⟩ | ((first | (refine bd (fun h => ?_) (fun h => ?_) <;> (try simp only [List.length_map] at h)) | refine bsplit.mk (fun h => ?_) (fun h => ?_)) <;> conv => whnf) | refine Rb ⟨?_⟩ | fail
      exact Rf
  · refine con_of_cd tyOk mix Tryz.func8 rfl rfl rfl (Nat.le_of_ble_eq_true rfl) ?_
    repeat' first | refine Ra ⟨?_⟩ | ((first | (refine bd (fun h => ?_) (fun h => ?_) <;> (try simp only [List.length_map] at h)) | refine bsplit.mk (fun h => ?_) (fun h => ?_)) <;> conv => whnf) | refine Rb ⟨?_⟩ | fail
    exact Rf
theorem FnLogApart_con (cds : List D) (h : ShpAll Tryz.prog Tryz.f8.params.toList cds) : Con (E m) 8 0 cds [] (.b true) [] := by
  rw [Tryz.params8] at h
  match cds, h with
  | [d1, d2], ⟨h1, h2, _⟩ =>
    obtain ⟨l, rfl⟩ := bytes_shp h1
    obtain ⟨k, rfl⟩ := bytes_shp h2
    exact law_FnLogApart l k
open Go.ChangeShapes Go.WideShapes Go.ChangeAt in
theorem FnLogApart_lifted (os : Os) (started : os.Started) (H : Type) (enc : TypeId × Value → H) :
    ReturnsInHanded {} Tryz.checked os 8 .any (fun w args => (Rows.fnLogApartSpec.pre enc Tryz.prog Tryz.f8 Rows.fnLogApartRow.domain false w args ∧ laidMetH Tryz.prog Rows.fnLogApartRow.laid w) ∧ sizedMet enc Tryz.prog Tryz.f8 (OpenSpec.ofChange Rows.fnLogApartSpec) false w args)
      (Rows.fnLogApartSpec.post enc Tryz.prog Tryz.f8 false true false false) := by
  refine returns_laid (C := Tryz.checked) (X := fun w _ => laidMetH Tryz.prog Rows.fnLogApartRow.laid w) (fun _ _ _ hh h => h.of_heap hh) own0 started (by kernel_rfl) Tryz.func8
    (ChangeSpec.witness_shaped (enc := enc) (C := Tryz.checked) (os := os) (X := fun w _ => laidMetH Tryz.prog Rows.fnLogApartRow.laid w) false (World.laidAll Tryz.prog os Rows.fnLogApartRow.laid) #[.slice none 0 0, .slice none 0 0] 8 (World.laidAll_os _ _ _)
      (World.shaped_of_ZipB (by kernel_rfl) (by kernel_rfl)) (by kernel_rfl) (by kernel_rfl) (by kernel_rfl)
      (by rw [MakeChecks.laidMetH_plain _ _ _ (by kernel_rfl)]; exact laidMet_laidAll _ (by kernel_rfl) (by kernel_rfl))) ?_
  intro W base args ds gs before hval hW hsh _
  obtain ⟨m, hm⟩ := maxLen_shaped W hsh
  exact law_calls_gl (E := E m) (dp := 8) (bt := 4) laidOut0 (readB_mem (by kernel_rfl)) (by kernel_rfl) Tryz.underlying4 (by kernel_rfl) rfl (fun H ds hl => match ds, hl with
    | [d1, d2], _ => rfl) FnLogApart_con W (gl_m hm) base args ds gs before hval hW
theorem FnLogApart_place : (Rows.fnLogApartRow.inPlace == Tryz.prog.inPlace 8) = true := by kernel_rfl
theorem FnLogApart_unf : (Rows.fnLogApartRow.unfollowed == Tryz.prog.unfollowed 8) = true := by kernel_rfl
theorem FnLogApart_rec : (Rows.fnLogApartRow.recurses == Tryz.prog.recurses 8) = true := by kernel_rfl
theorem FnLogApart_named : (Rows.fnLogApartRow.named == Tryz.prog.varsNamed 8) = true := by kernel_rfl
theorem FnLogApart_joined : joinedFacts Tryz.prog 8 Tryz.f8 Rows.fnLogApartSpec Rows.fnLogApartRow = true :=
  joined_of (by kernel_rfl) laidOut0 rowed0 (by kernel_rfl) (by kernel_rfl) (by kernel_rfl) (by rw [stops0]; rfl) (by kernel_rfl) (by rw [knobs0]; rfl) FnLogApart_place FnLogApart_unf FnLogApart_rec FnLogApart_named
    (by kernel_rfl) (by kernel_rfl) (by kernel_rfl) (by kernel_rfl) (by kernel_rfl) (by kernel_rfl) (by kernel_rfl) (by kernel_rfl) (by kernel_rfl) (by rw [plainKeys0]; rfl) (by kernel_rfl) heard0 may0 (by rw [lifts0]; rfl) (by rw [make0]; rfl) (by kernel_rfl) (by kernel_rfl) (by kernel_rfl) (by kernel_rfl)
theorem FnLogApart_holds : Rows.FnLogApartSaid :=
  OpenClaim.holds_of_wide 8 Tryz.f8 rfl rfl rfl rfl rfl rfl rfl ⟨rfl, rfl, rfl, rfl, rfl⟩ rfl rfl rfl rfl rfl (by kernel_rfl) Tryz.func8 FnLogApart_joined
    (of_decide_eq_true (by kernel_rfl)) (by unfold Func.isWrapper; first | (rw [if_pos (by decide +kernel)]; kernel_rfl) | (rw [if_neg (by decide +kernel)]; exact ⟨rfl, rfl⟩))
    (fun os started H enc _ => FnLogApart_lifted os started H enc)
theorem FnLogApart_card : Rows.FnLogApartCardSaid :=
  Claim7.holds_tied_plain_at .later [] [.data, .pinned] true _ false FnLogApart_holds (fun _ h => by cases h) (by kernel_rfl) (fun _ h => by cases h) fnLogApart_row_tie rfl ⟨rfl, rfl⟩ (mainIs0.trans (by kernel_rfl)) rfl
    (fun f fn hf hfn => by
      obtain rfl : f = 8 := Option.some.inj ((show Tryz.prog.funcNamed "loop.example/pargeting/laws.FnLogApart" = some 8 by kernel_rfl).symm.trans hf) |>.symm
      obtain rfl : fn = Tryz.f8 := (Option.some.inj (Tryz.func8.symm.trans hfn)).symm
      exact ⟨looks0.symm, fun j t ht => by
        have hm : t ∈ Tryz.f8.params.toList := by simpa using Array.mem_of_getElem? ht
        have hall : (Tryz.f8.params.toList.all fun u => !Tryz.prog.wantsStandIn u) = true := by kernel_rfl
        exact (show Tryz.prog.wantsStandIn t = false by simpa using List.all_eq_true.1 hall t hm)⟩)
    (goes0 _ rfl)
end Go.Proofs.YtoaiplobfellaaaGreatDoor
