/- 'laws.FnMergeApart' returns true whatever its arguments are, and leaves the arguments as they were; the package variables that the row lists hold what the program's text lays. -/
import Derived.Test.YtoaiplobfellaaaGreatDoorMb
import Derived.Test.YtoaiplobfellaaaGreatDoorLw
import Derived.Test.YtoaiplobfellaaaGreatDoorKh
import Derived.Test.YtoaiplobfellaaaGreatDoorLv
set_option linter.unusedSimpArgs false
set_option linter.unusedVariables false
set_option maxHeartbeats 1000000
set_option maxRecDepth 100000
namespace Go.Proofs.YtoaiplobfellaaaGreatDoor
open Go Go.RowKit Go.Ab Go.Par
variable {m : Int}
theorem law_FnMergeApart (l k : Bs) : Con (E m) 15 0 [.sl (bytesOf l), .sl (bytesOf k)] [] (.b true) [] := by
  have hbl : (bytesOf l).length = l.length := List.length_map ..
  have hbk : (bytesOf k).length = k.length := List.length_map ..
  by_cases hl : l.length ≤ 1048576
  · by_cases hk : k.length ≤ 1048576
    · obtain ⟨t, a, ht, ha, c0⟩ := drawOpBack_any (m := m) l hl
      obtain ⟨t2, b, ht2, hb, c00⟩ := drawOpBack_any (m := m) k hk
      have hln := ht.len
      have d1 := iTreeDo_con (m := m) t a ht.bE ha.big.1 ha.big.2.1 ha.big.2.2
      have d2 := sTreeDo_con (m := m) t a (by omega) ht.bB ha.big.1 ha.big.2.1 ha.big.2.2
      have d3 := iTreeDo_con (m := m) t b ht.bE hb.big.1 hb.big.2.1 hb.big.2.2
      have hnb : ∀ e ∈ (treeDo t a).1, e.path.length ≤ 1073741824 ∧ e.data.length ≤ 1073741824 := treeDo_bnd (n := 1073741824) (by omega) ht.bE (by have := ha.big.1; omega) (by have := ha.big.2.2; omega)
      have d4 := iTreeDo_con (m := m) (treeDo t a).1 b hnb hb.big.1 hb.big.2.1 hb.big.2.2
      have c3 := wpTop_con (m := m) a b ha.big hb.big
      by_cases r1 : (treeDo t a).2 = 0
      · by_cases r2 : (treeDo t b).2 = 0
        · by_cases r3 : (treeDo (treeDo t a).1 b).2 = 0
          · cases hw : wpTopV a b with
            | false =>
              rw [hw] at c3
              rw [r1] at d1 d2
              rw [r2] at d3
              rw [r3] at d4
              generalize (treeDo (treeDo t a).1 b).1 = z at d4
              generalize (treeDo t a).1 = x at d1 d2 d4
              generalize (treeDo t b).1 = y at d3
              refine con_of_cd tyOk mix Tryz.func15 rfl rfl rfl (Nat.le_of_ble_eq_true rfl) ?_
              repeat' first | refine Ra ⟨?_⟩ | ((first | refine Rc [] 0 rfl rfl (c0) ?_ | refine Rc [] 0 rfl rfl (c00) ?_ | refine Rc [] 1 rfl rfl (d1) ?_ | refine Rc [] 1 rfl rfl (d2) ?_ | refine Rc [] 1 rfl rfl (d3) ?_ | refine Rc [] 1 rfl rfl (d4) ?_ | refine Rc [] 0 rfl rfl (c3) ?_ | (refine bd (fun h => ?_) (fun h => ?_) <;> (try simp only [List.length_map] at h)) | refine bsplit.mk (fun h => ?_) (fun h => ?_)) <;> conv => whnf) | refine Rb ⟨?_⟩ | fail
              exact Rf
            | true =>
              rw [hw] at c3
              have ht1 := (treeDo_zero.1 (code_zero' r1)).1
              have hM := merge_apart ht1 r1 r2 r3 (wpTop_apart hw)
              have hx := treeDo_ok ht1 a
              have hy := treeDo_ok ht1 b
              have hz := treeDo_ok hx b
              have hzl := treeOk_len hz
              have c4 := iMerge_con (m := m) t (treeDo t a).1 (treeDo t b).1 (bE0 ht1) (bE0 hx) (bE0 hy)
              rw [hM] at c4
              simp only [Option.getD_some, Option.isSome_some] at c4
              have s1 := treeSame_con (m := m) (treeDo (treeDo t a).1 b).1 (treeDo (treeDo t a).1 b).1 (by omega) (by omega)
              rw [decide_eq_true rfl] at s1
              rw [r1] at d1 d2
              rw [r2] at d3
              rw [r3] at d4
              generalize (treeDo (treeDo t a).1 b).1 = z at d4 c4 s1
              generalize (treeDo t a).1 = x at d1 d2 d4 c4
              generalize (treeDo t b).1 = y at d3 c4
              refine con_of_cd tyOk mix Tryz.func15 rfl rfl rfl (Nat.le_of_ble_eq_true rfl) ?_
              repeat' first | refine Ra ⟨?_⟩ | ((first | refine Rc [] 0 rfl rfl (c0) ?_ | refine Rc [] 0 rfl rfl (c00) ?_ | refine Rc [] 1 rfl rfl (d1) ?_ | refine Rc [] 1 rfl rfl (d2) ?_ | refine Rc [] 1 rfl rfl (d3) ?_ | refine Rc [] 1 rfl rfl (d4) ?_ | refine Rc [] 0 rfl rfl (c3) ?_ | refine Rc [] 1 rfl rfl (c4) ?_ | refine Rc [] 0 rfl rfl (s1) ?_ | (refine bd (fun h => ?_) (fun h => ?_) <;> (try simp only [List.length_map] at h)) | refine bsplit.mk (fun h => ?_) (fun h => ?_)) <;> conv => whnf) | refine Rb ⟨?_⟩ | fail
              exact Rf
          · rw [r1] at d1 d2
            rw [r2] at d3
            generalize treeDo (treeDo t a).1 b = Z at d4 r3
            generalize (treeDo t a).1 = x at d1 d2 d4
            generalize (treeDo t b).1 = y at d3
            refine con_of_cd tyOk mix Tryz.func15 rfl rfl rfl (Nat.le_of_ble_eq_true rfl) ?_
            repeat' first | refine Ra ⟨?_⟩ | ((first | refine Rc [] 0 rfl rfl (c0) ?_ | refine Rc [] 0 rfl rfl (c00) ?_ | refine Rc [] 1 rfl rfl (d1) ?_ | refine Rc [] 1 rfl rfl (d2) ?_ | refine Rc [] 1 rfl rfl (d3) ?_ | refine Rc [] 1 rfl rfl (d4) ?_ | (refine bd (fun h => ?_) (fun h => ?_) <;> (try simp only [List.length_map] at h)) | refine bsplit.mk (fun h => ?_) (fun h => ?_)) <;> conv => whnf) | refine Rb ⟨?_⟩ | fail
            exact Rf
        · rw [r1] at d1 d2
          generalize treeDo (treeDo t a).1 b = Z at d4
          generalize (treeDo t a).1 = x at d1 d2 d4
          generalize treeDo t b = Y at d3 r2
          refine con_of_cd tyOk mix Tryz.func15 rfl rfl rfl (Nat.le_of_ble_eq_true rfl) ?_
          repeat' first | refine Ra ⟨?_⟩ | ((first | refine Rc [] 0 rfl rfl (c0) ?_ | refine Rc [] 0 rfl rfl (c00) ?_ | refine Rc [] 1 rfl rfl (d1) ?_ | refine Rc [] 1 rfl rfl (d2) ?_ | refine Rc [] 1 rfl rfl (d3) ?_ | refine Rc [] 1 rfl rfl (d4) ?_ | (refine bd (fun h => ?_) (fun h => ?_) <;> (try simp only [List.length_map] at h)) | refine bsplit.mk (fun h => ?_) (fun h => ?_)) <;> conv => whnf) | refine Rb ⟨?_⟩ | fail
          exact Rf
      · generalize treeDo (treeDo t a).1 b = Z at d4
        generalize treeDo t a = X at d1 d2 d4 r1
        generalize treeDo t b = Y at d3
        refine con_of_cd tyOk mix Tryz.func15 rfl rfl rfl (Nat.le_of_ble_eq_true rfl) ?_
        repeat' first | refine Ra ⟨?_⟩ | ((first | refine Rc [] 0 rfl rfl (c0) ?_ | refine Rc [] 0 rfl rfl (c00) ?_ | refine Rc [] 1 rfl rfl (d1) ?_ | refine Rc [] 1 rfl rfl (d2) ?_ | refine Rc [] 1 rfl rfl (d3) ?_ | refine Rc [] 1 rfl rfl (d4) ?_ | (refine bd (fun h => ?_) (fun h => ?_) <;> (try simp only [List.length_map] at h)) | refine bsplit.mk (fun h => ?_) (fun h => ?_)) <;> conv => whnf) | refine Rb ⟨?_⟩ | fail
        exact Rf
    · refine con_of_cd tyOk mix Tryz.func15 rfl rfl rfl (Nat.le_of_ble_eq_true rfl) ?_
      repeat' first | refine Ra ⟨?_⟩ | ((first | (refine bd (fun h => ?_) (fun h => ?_) <;> (try simp only [List.length_map] at h)) | refine bsplit.mk (fun h => ?_) (fun h => ?_)) <;> conv => whnf) | refine Rb ⟨?_⟩ | fail
      exact Rf
  · refine con_of_cd tyOk mix Tryz.func15 rfl rfl rfl (Nat.le_of_ble_eq_true rfl) ?_
    repeat' first | refine Ra ⟨?_⟩ | ((first | (refine bd (fun h => ?_) (fun h => ?_) <;> (try simp only [List.length_map] at h)) | refine bsplit.mk (fun h => ?_) (fun h => ?_)) <;> conv => whnf) | refine Rb ⟨?_⟩ | fail
    exact Rf
theorem FnMergeApart_con (cds : List D) (h : ShpAll Tryz.prog Tryz.f15.params.toList cds) : Con (E m) 15 0 cds [] (.b true) [] := by
  rw [Tryz.params15] at h
  match cds, h with
  | [d1, d2], ⟨h1, h2, _⟩ =>
    obtain ⟨l, rfl⟩ := bytes_shp h1
    obtain ⟨k, rfl⟩ := bytes_shp h2
    exact law_FnMergeApart l k
open Go.ChangeShapes Go.WideShapes Go.ChangeAt in
theorem FnMergeApart_lifted (os : Os) (started : os.Started) (H : Type) (enc : TypeId × Value → H) :
    ReturnsInHanded {} Tryz.checked os 15 .any (fun w args => (Rows.fnMergeApartSpec.pre enc Tryz.prog Tryz.f15 Rows.fnMergeApartRow.domain false w args ∧ laidMetH Tryz.prog Rows.fnMergeApartRow.laid w) ∧ sizedMet enc Tryz.prog Tryz.f15 (OpenSpec.ofChange Rows.fnMergeApartSpec) false w args)
      (Rows.fnMergeApartSpec.post enc Tryz.prog Tryz.f15 false true false false) := by
  refine returns_laid (C := Tryz.checked) (X := fun w _ => laidMetH Tryz.prog Rows.fnMergeApartRow.laid w) (fun _ _ _ hh h => h.of_heap hh) own0 started (by kernel_rfl) Tryz.func15
    (ChangeSpec.witness_shaped (enc := enc) (C := Tryz.checked) (os := os) (X := fun w _ => laidMetH Tryz.prog Rows.fnMergeApartRow.laid w) false (World.laidAll Tryz.prog os Rows.fnMergeApartRow.laid) #[.slice none 0 0, .slice none 0 0] 8 (World.laidAll_os _ _ _)
      (World.shaped_of_ZipB (by kernel_rfl) (by kernel_rfl)) (by kernel_rfl) (by kernel_rfl) (by kernel_rfl)
      (by rw [MakeChecks.laidMetH_plain _ _ _ (by kernel_rfl)]; exact laidMet_laidAll _ (by kernel_rfl) (by kernel_rfl))) ?_
  intro W base args ds gs before hval hW hsh _
  obtain ⟨m, hm⟩ := maxLen_shaped W hsh
  exact law_calls_gl (E := E m) (dp := 8) (bt := 4) laidOut0 (readB_mem (by kernel_rfl)) (by kernel_rfl) Tryz.underlying4 (by kernel_rfl) rfl (fun H ds hl => match ds, hl with
    | [d1, d2], _ => rfl) FnMergeApart_con W (gl_m hm) base args ds gs before hval hW
theorem FnMergeApart_place : (Rows.fnMergeApartRow.inPlace == Tryz.prog.inPlace 15) = true := by kernel_rfl
theorem FnMergeApart_unf : (Rows.fnMergeApartRow.unfollowed == Tryz.prog.unfollowed 15) = true := by kernel_rfl
theorem FnMergeApart_rec : (Rows.fnMergeApartRow.recurses == Tryz.prog.recurses 15) = true := by kernel_rfl
theorem FnMergeApart_named : (Rows.fnMergeApartRow.named == Tryz.prog.varsNamed 15) = true := by kernel_rfl
theorem FnMergeApart_joined : joinedFacts Tryz.prog 15 Tryz.f15 Rows.fnMergeApartSpec Rows.fnMergeApartRow = true :=
  joined_of (by kernel_rfl) laidOut0 rowed0 (by kernel_rfl) (by kernel_rfl) (by kernel_rfl) (by rw [stops0]; rfl) (by kernel_rfl) (by rw [knobs0]; rfl) FnMergeApart_place FnMergeApart_unf FnMergeApart_rec FnMergeApart_named
    (by kernel_rfl) (by kernel_rfl) (by kernel_rfl) (by kernel_rfl) (by kernel_rfl) (by kernel_rfl) (by kernel_rfl) (by kernel_rfl) (by kernel_rfl) (by rw [plainKeys0]; rfl) (by kernel_rfl) heard0 may0 (by rw [lifts0]; rfl) (by rw [make0]; rfl) (by kernel_rfl) (by kernel_rfl) (by kernel_rfl) (by kernel_rfl)
theorem FnMergeApart_holds : Rows.FnMergeApartSaid :=
  OpenClaim.holds_of_wide 15 Tryz.f15 rfl rfl rfl rfl rfl rfl rfl ⟨rfl, rfl, rfl, rfl, rfl⟩ rfl rfl rfl rfl rfl (by kernel_rfl) Tryz.func15 FnMergeApart_joined
    (of_decide_eq_true (by kernel_rfl)) (by unfold Func.isWrapper; first | (rw [if_pos (by decide +kernel)]; kernel_rfl) | (rw [if_neg (by decide +kernel)]; exact ⟨rfl, rfl⟩))
    (fun os started H enc _ => FnMergeApart_lifted os started H enc)
theorem FnMergeApart_card : Rows.FnMergeApartCardSaid :=
  Claim7.holds_tied_plain_at .later [] [.data, .pinned] true _ false FnMergeApart_holds (fun _ h => by cases h) (by kernel_rfl) (fun _ h => by cases h) fnMergeApart_row_tie rfl ⟨rfl, rfl⟩ (mainIs0.trans (by kernel_rfl)) rfl
    (fun f fn hf hfn => by
      obtain rfl : f = 15 := Option.some.inj ((show Tryz.prog.funcNamed "loop.example/pargeting/laws.FnMergeApart" = some 15 by kernel_rfl).symm.trans hf) |>.symm
      obtain rfl : fn = Tryz.f15 := (Option.some.inj (Tryz.func15.symm.trans hfn)).symm
      exact ⟨looks0.symm, fun j t ht => by
        have hm : t ∈ Tryz.f15.params.toList := by simpa using Array.mem_of_getElem? ht
        have hall : (Tryz.f15.params.toList.all fun u => !Tryz.prog.wantsStandIn u) = true := by kernel_rfl
        exact (show Tryz.prog.wantsStandIn t = false by simpa using List.all_eq_true.1 hall t hm)⟩)
    (goes0 _ rfl)
end Go.Proofs.YtoaiplobfellaaaGreatDoor
