/- 'laws.FnMergeAt' returns true whatever its arguments are, and leaves the arguments as they were; the package variables that the row lists hold what the program's text lays. -/
import Derived.Test.YtmnjlhjpeebfdaaDoorLu
import Derived.Test.YtmnjlhjpeebfdaaDoorLs
import Derived.Test.YtmnjlhjpeebfdaaDoorLv
set_option linter.unusedSimpArgs false
set_option linter.unusedVariables false
set_option maxHeartbeats 1000000
set_option maxRecDepth 100000
namespace Go.Proofs.YtmnjlhjpeebfdaaDoor
open Go Go.RowKit Go.Ab Go.Par
variable {m : Int}
theorem fe_no {X Y : Option Ent} (h : X ≠ Y) : X.isSome = Y.isSome → fe X Y = true → False := fun h1 h2 => by
  rcases fe_or h with h | ⟨_, h⟩
  · simp [fs, h1] at h
  · rw [h] at h2; cases h2
theorem law_FnMergeAt (l : Bs) : Con (E m) 7 0 [.sl (bytesOf l)] [] (.b true) [] := by
  have hbl : (bytesOf l).length = l.length := List.length_map ..
  by_cases hl : l.length ≤ 1048576
  · obtain ⟨t, a, b, p, ⟨ht, ha, hb⟩, hp, c0⟩ := drawMergeAt_any (m := m) l hl
    have kt : ∀ e ∈ t, e.path.length ≤ 1073741824 ∧ e.data.length ≤ 1073741824 := fun e he => by have := ht.bnd e he; omega
    have ka : ∀ e ∈ a, e.path.length ≤ 1073741824 ∧ e.data.length ≤ 1073741824 := fun e he => by have := ha.bnd e he; omega
    have kb : ∀ e ∈ b, e.path.length ≤ 1073741824 ∧ e.data.length ≤ 1073741824 := fun e he => by have := hb.bnd e he; omega
    have ln1 := ht.len
    have ln2 := ha.len
    have ln3 := hb.len
    have c1 := iMAt_con (m := m) t a b p kt ka kb
    have c2 := sMergeAt_con (m := m) t a b p (by omega) (by omega) (by omega) kt ka kb
    have c3 := sTreeOk_con (m := m) t kt
    have c4 := sTreeOk_con (m := m) a ka
    have c5 := sTreeOk_con (m := m) b kb
    cases hr : right3 t a b with
    | false =>
      have hx : mergeAt t a b p = none := by rw [mergeAt, hr]; rfl
      rw [hx] at c1 c2
      have hr2 : treeOk t = false ∨ (treeOk t = true ∧ treeOk a = false) ∨ (treeOk t = true ∧ treeOk a = true ∧ treeOk b = false) := by
        unfold right3 at hr
        revert hr
        cases treeOk t <;> cases treeOk a <;> cases treeOk b <;> simp
      rcases hr2 with h1 | ⟨h1, h2⟩ | ⟨h1, h2, h3⟩
      · rw [h1] at c3
        refine con_of_cd tyOk mix Tryd.func7 rfl rfl rfl (Nat.le_of_ble_eq_true rfl) ?_
        repeat' first | refine Ra ⟨?_⟩ | ((first | refine Rc [] 0 rfl rfl (c0) ?_ | refine Rc [] 0 rfl rfl (c1) ?_ | refine Rc [] 0 rfl rfl (c2) ?_ | refine Rc [] 0 rfl rfl (c3) ?_ | (refine bd (fun h => ?_) (fun h => ?_) <;> (try simp only [List.length_map] at h)) | refine bsplit.mk (fun h => ?_) (fun h => ?_)) <;> conv => whnf) | refine Rb ⟨?_⟩ | fail
        exact Rf
      · rw [h1] at c3
        rw [h2] at c4
        refine con_of_cd tyOk mix Tryd.func7 rfl rfl rfl (Nat.le_of_ble_eq_true rfl) ?_
        repeat' first | refine Ra ⟨?_⟩ | ((first | refine Rc [] 0 rfl rfl (c0) ?_ | refine Rc [] 0 rfl rfl (c1) ?_ | refine Rc [] 0 rfl rfl (c2) ?_ | refine Rc [] 0 rfl rfl (c3) ?_ | refine Rc [] 0 rfl rfl (c4) ?_ | (refine bd (fun h => ?_) (fun h => ?_) <;> (try simp only [List.length_map] at h)) | refine bsplit.mk (fun h => ?_) (fun h => ?_)) <;> conv => whnf) | refine Rb ⟨?_⟩ | fail
        exact Rf
      · rw [h1] at c3
        rw [h2] at c4
        rw [h3] at c5
        refine con_of_cd tyOk mix Tryd.func7 rfl rfl rfl (Nat.le_of_ble_eq_true rfl) ?_
        repeat' first | refine Ra ⟨?_⟩ | ((first | refine Rc [] 0 rfl rfl (c0) ?_ | refine Rc [] 0 rfl rfl (c1) ?_ | refine Rc [] 0 rfl rfl (c2) ?_ | refine Rc [] 0 rfl rfl (c3) ?_ | refine Rc [] 0 rfl rfl (c4) ?_ | refine Rc [] 0 rfl rfl (c5) ?_ | (refine bd (fun h => ?_) (fun h => ?_) <;> (try simp only [List.length_map] at h)) | refine bsplit.mk (fun h => ?_) (fun h => ?_)) <;> conv => whnf) | refine Rb ⟨?_⟩ | fail
        exact Rf
    | true =>
      obtain ⟨h1, h2, h3⟩ := right3_iff.1 hr
      have hx : mergeAt t a b p = mAt t a b p := by rw [mergeAt, if_pos hr]
      have c6 := iGet_con (m := m) t p kt
      have c7 := iGet_con (m := m) a p ka
      have c8 := iGet_con (m := m) b p kb
      rw [if_pos h1, entD_eq] at c6
      rw [if_pos h2, entD_eq] at c7
      rw [if_pos h3, entD_eq] at c8
      rw [h1] at c3
      rw [h2] at c4
      rw [h3] at c5
      rw [hx] at c1 c2
      unfold mAt at c1 c2
      generalize entGet t p = A at c1 c2 c6
      generalize entGet a p = B at c1 c2 c7
      generalize entGet b p = C at c1 c2 c8
      by_cases k1 : B = A
      · subst k1
        rw [if_pos rfl] at c1 c2
        have f1 := fe_eq (rfl : C = C)
        have f2 := fe_eq (rfl : B = B)
        refine con_of_cd tyOk mix Tryd.func7 rfl rfl rfl (Nat.le_of_ble_eq_true rfl) ?_
        repeat' first | refine Ra ⟨?_⟩ | ((first | refine Rc [] 0 rfl rfl (c0) ?_ | refine Rc [] 0 rfl rfl (c1) ?_ | refine Rc [] 0 rfl rfl (c2) ?_ | refine Rc [] 0 rfl rfl (c3) ?_ | refine Rc [] 0 rfl rfl (c4) ?_ | refine Rc [] 0 rfl rfl (c5) ?_ | refine Rc [] 0 rfl rfl (c6) ?_ | refine Rc [] 0 rfl rfl (c7) ?_ | refine Rc [] 0 rfl rfl (c8) ?_ | (refine bd (fun h => ?_) (fun h => ?_) <;> (try simp only [List.length_map] at h)) | refine bsplit.mk (fun h => ?_) (fun h => ?_)) <;> conv => whnf) | refine Rb ⟨?_⟩ | fail
        all_goals exact Rf
      · rw [if_neg k1] at c1 c2
        have n1 := fe_no (Ne.symm k1)
        by_cases k2 : C = A
        · subst k2
          rw [if_pos (.inl rfl)] at c1 c2
          have f1 := fe_eq (rfl : C = C)
          have f2 := fe_eq (rfl : B = B)
          refine con_of_cd tyOk mix Tryd.func7 rfl rfl rfl (Nat.le_of_ble_eq_true rfl) ?_
          repeat' first | refine Ra ⟨?_⟩ | ((first | exact (n1 ‹_› ‹_›).elim | refine Rc [] 0 rfl rfl (c0) ?_ | refine Rc [] 0 rfl rfl (c1) ?_ | refine Rc [] 0 rfl rfl (c2) ?_ | refine Rc [] 0 rfl rfl (c3) ?_ | refine Rc [] 0 rfl rfl (c4) ?_ | refine Rc [] 0 rfl rfl (c5) ?_ | refine Rc [] 0 rfl rfl (c6) ?_ | refine Rc [] 0 rfl rfl (c7) ?_ | refine Rc [] 0 rfl rfl (c8) ?_ | (refine bd (fun h => ?_) (fun h => ?_) <;> (try simp only [List.length_map] at h)) | refine bsplit.mk (fun h => ?_) (fun h => ?_)) <;> conv => whnf) | refine Rb ⟨?_⟩ | fail
          all_goals exact Rf
        · have n2 := fe_no (Ne.symm k2)
          by_cases k3 : B = C
          · subst k3
            rw [if_pos (.inr rfl)] at c1 c2
            have f2 := fe_eq (rfl : B = B)
            refine con_of_cd tyOk mix Tryd.func7 rfl rfl rfl (Nat.le_of_ble_eq_true rfl) ?_
            repeat' first | refine Ra ⟨?_⟩ | ((first | exact (n1 ‹_› ‹_›).elim | exact (n2 ‹_› ‹_›).elim | refine Rc [] 0 rfl rfl (c0) ?_ | refine Rc [] 0 rfl rfl (c1) ?_ | refine Rc [] 0 rfl rfl (c2) ?_ | refine Rc [] 0 rfl rfl (c3) ?_ | refine Rc [] 0 rfl rfl (c4) ?_ | refine Rc [] 0 rfl rfl (c5) ?_ | refine Rc [] 0 rfl rfl (c6) ?_ | refine Rc [] 0 rfl rfl (c7) ?_ | refine Rc [] 0 rfl rfl (c8) ?_ | (refine bd (fun h => ?_) (fun h => ?_) <;> (try simp only [List.length_map] at h)) | refine bsplit.mk (fun h => ?_) (fun h => ?_)) <;> conv => whnf) | refine Rb ⟨?_⟩ | fail
            all_goals exact Rf
          · rw [if_neg (by rintro (h | h); exact k2 h; exact k3 h)] at c1 c2
            have n3 := fe_no k3
            refine con_of_cd tyOk mix Tryd.func7 rfl rfl rfl (Nat.le_of_ble_eq_true rfl) ?_
            repeat' first | refine Ra ⟨?_⟩ | ((first | exact (n1 ‹_› ‹_›).elim | exact (n2 ‹_› ‹_›).elim | exact (n3 ‹_› ‹_›).elim | refine Rc [] 0 rfl rfl (c0) ?_ | refine Rc [] 0 rfl rfl (c1) ?_ | refine Rc [] 0 rfl rfl (c2) ?_ | refine Rc [] 0 rfl rfl (c3) ?_ | refine Rc [] 0 rfl rfl (c4) ?_ | refine Rc [] 0 rfl rfl (c5) ?_ | refine Rc [] 0 rfl rfl (c6) ?_ | refine Rc [] 0 rfl rfl (c7) ?_ | refine Rc [] 0 rfl rfl (c8) ?_ | (refine bd (fun h => ?_) (fun h => ?_) <;> (try simp only [List.length_map] at h)) | refine bsplit.mk (fun h => ?_) (fun h => ?_)) <;> conv => whnf) | refine Rb ⟨?_⟩ | fail
            all_goals exact Rf
  · refine con_of_cd tyOk mix Tryd.func7 rfl rfl rfl (Nat.le_of_ble_eq_true rfl) ?_
    repeat' first | refine Ra ⟨?_⟩ | ((first | (refine bd (fun h => ?_) (fun h => ?_) <;> (try simp only [List.length_map] at h)) | refine bsplit.mk (fun h => ?_) (fun h => ?_)) <;> conv => whnf) | refine Rb ⟨?_⟩ | fail
    exact Rf
theorem FnMergeAt_con (cds : List D) (h : ShpAll Tryd.prog Tryd.f7.params.toList cds) : Con (E m) 7 0 cds [] (.b true) [] := by
  rw [Tryd.params7] at h
  match cds, h with
  | [d1], ⟨h1, _⟩ =>
    obtain ⟨l, rfl⟩ := bytes_shp h1
    exact law_FnMergeAt l
open Go.ChangeShapes Go.WideShapes Go.ChangeAt in
theorem FnMergeAt_lifted (os : Os) (started : os.Started) (H : Type) (enc : TypeId × Value → H) :
    ReturnsInHanded {} Tryd.checked os 7 .any (fun w args => (Rows.fnMergeAtSpec.pre enc Tryd.prog Tryd.f7 Rows.fnMergeAtRow.domain false w args ∧ laidMetH Tryd.prog Rows.fnMergeAtRow.laid w) ∧ sizedMet enc Tryd.prog Tryd.f7 (OpenSpec.ofChange Rows.fnMergeAtSpec) false w args)
      (Rows.fnMergeAtSpec.post enc Tryd.prog Tryd.f7 false true false false) := by
  refine returns_laid (C := Tryd.checked) (X := fun w _ => laidMetH Tryd.prog Rows.fnMergeAtRow.laid w) (fun _ _ _ hh h => h.of_heap hh) own0 started (by kernel_rfl) Tryd.func7
    (ChangeSpec.witness_shaped (enc := enc) (C := Tryd.checked) (os := os) (X := fun w _ => laidMetH Tryd.prog Rows.fnMergeAtRow.laid w) false (World.laidAll Tryd.prog os Rows.fnMergeAtRow.laid) #[.slice none 0 0] 8 (World.laidAll_os _ _ _)
      (World.shaped_of_ZipB (by kernel_rfl) (by kernel_rfl)) (by kernel_rfl) (by kernel_rfl) (by kernel_rfl)
      (by rw [MakeChecks.laidMetH_plain _ _ _ (by kernel_rfl)]; exact laidMet_laidAll _ (by kernel_rfl) (by kernel_rfl))) ?_
  intro W base args ds gs before hval hW hsh _
  obtain ⟨m, hm⟩ := maxLen_shaped W hsh
  exact law_calls_gl (E := E m) (dp := 8) (bt := 4) laidOut0 (readB_mem (by kernel_rfl)) (by kernel_rfl) Tryd.underlying4 (by kernel_rfl) rfl (fun H ds hl => match ds, hl with
    | [d1], _ => rfl) FnMergeAt_con W (gl_m hm) base args ds gs before hval hW
theorem FnMergeAt_holds : Rows.FnMergeAtSaid :=
  OpenClaim.holds_of_wide 7 Tryd.f7 rfl rfl rfl rfl rfl rfl rfl ⟨rfl, rfl, rfl, rfl, rfl⟩ rfl rfl rfl rfl rfl (by kernel_rfl) Tryd.func7 (by kernel_rfl)
    (of_decide_eq_true (by kernel_rfl)) (by unfold Func.isWrapper; first | (rw [if_pos (by decide +kernel)]; kernel_rfl) | (rw [if_neg (by decide +kernel)]; exact ⟨rfl, rfl⟩))
    (fun os started H enc _ => FnMergeAt_lifted os started H enc)
theorem FnMergeAt_card : Rows.FnMergeAtCardSaid :=
  Claim7.holds_tied_plain_at .later [] [.data, .pinned] true _ false FnMergeAt_holds (fun _ h => by cases h) (by kernel_rfl) (fun _ h => by cases h) fnMergeAt_row_tie rfl ⟨rfl, rfl⟩ (by kernel_rfl) rfl
    (fun f fn hf hfn => by
      obtain rfl : f = 7 := Option.some.inj ((show Tryd.prog.funcNamed "loop.example/pargeting/laws.FnMergeAt" = some 7 by kernel_rfl).symm.trans hf) |>.symm
      obtain rfl : fn = Tryd.f7 := (Option.some.inj (Tryd.func7.symm.trans hfn)).symm
      exact ⟨by kernel_rfl, fun j t ht => by
        have hm : t ∈ Tryd.f7.params.toList := by simpa using Array.mem_of_getElem? ht
        have hall : (Tryd.f7.params.toList.all fun u => !Tryd.prog.wantsStandIn u) = true := by kernel_rfl
        exact (show Tryd.prog.wantsStandIn t = false by simpa using List.all_eq_true.1 hall t hm)⟩)
    (by kernel_rfl)
end Go.Proofs.YtmnjlhjpeebfdaaDoor
