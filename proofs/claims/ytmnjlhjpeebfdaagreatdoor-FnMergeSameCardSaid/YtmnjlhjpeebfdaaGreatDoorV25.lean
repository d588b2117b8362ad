/- 'laws.FnMergeSame' returns true whatever its arguments are, and leaves the arguments as they were; the package variables that the row lists hold what the program's text lays. -/
import Derived.Test.YtmnjlhjpeebfdaaGreatDoorLu
import Derived.Test.YtmnjlhjpeebfdaaGreatDoorLw
import Derived.Test.YtmnjlhjpeebfdaaGreatDoorLq
import Derived.Test.YtmnjlhjpeebfdaaGreatDoorLv
set_option linter.unusedSimpArgs false
set_option linter.unusedVariables false
set_option maxHeartbeats 1000000
set_option maxRecDepth 100000
namespace Go.Proofs.YtmnjlhjpeebfdaaGreatDoor
open Go Go.RowKit Go.Ab Go.Par
variable {m : Int}
theorem law_FnMergeSame (l : Bs) : Con (E m) 6 0 [.sl (bytesOf l)] [] (.b true) [] := by
  have hbl : (bytesOf l).length = l.length := List.length_map ..
  by_cases hl : l.length ≤ 1048576
  · obtain ⟨t, a, b, ⟨ht, ha, hb⟩, c0⟩ := drawMerge_any (m := m) l hl
    have kt : ∀ e ∈ t, e.path.length ≤ 1073741824 ∧ e.data.length ≤ 1073741824 := fun e he => by have := ht.bnd e he; omega
    have ka : ∀ e ∈ a, e.path.length ≤ 1073741824 ∧ e.data.length ≤ 1073741824 := fun e he => by have := ha.bnd e he; omega
    have kb : ∀ e ∈ b, e.path.length ≤ 1073741824 ∧ e.data.length ≤ 1073741824 := fun e he => by have := hb.bnd e he; omega
    have ln1 := ht.len
    have ln2 := ha.len
    have ln3 := hb.len
    have e1 : (t.map Ent.c).length = t.length := List.length_map ..
    have e2 : (a.map Ent.c).length = a.length := List.length_map ..
    have e3 : (b.map Ent.c).length = b.length := List.length_map ..
    have c1 := iMerge_con (m := m) t a b kt ka kb
    have c2 := sMerge_con (m := m) t a b kt ka kb
    have same : ∀ (z : List Ent), z.length ≤ 1048576 → Con (E m) 18 0 [.sl (z.map Ent.c), .sl (z.map Ent.c)] [] (.b true) [] := fun z hz => by
      have := treeSame_con (m := m) z z hz hz
      rwa [decide_eq_true rfl] at this
    have c3 := sTreeOk_con (m := m) t kt
    have c4 := sTreeOk_con (m := m) a ka
    cases h1 : treeOk t with
    | false =>
      rw [h1] at c3
      refine con_of_cd tyOk mix Tryz.func6 rfl rfl rfl (Nat.le_of_ble_eq_true rfl) ?_
      repeat' first | refine Ra ⟨?_⟩ | ((first | refine Rc [] 0 rfl rfl (c0) ?_ | refine Rc [] 1 rfl rfl (c1) ?_ | refine Rc [] 1 rfl rfl (c2) ?_ | refine Rc [] 0 rfl rfl (c3) ?_ | (refine bd (fun h => ?_) (fun h => ?_) <;> (try simp only [List.length_map] at h)) | refine bsplit.mk (fun h => ?_) (fun h => ?_)) <;> conv => whnf) | refine Rb ⟨?_⟩ | fail
      exact Rf
    | true =>
      rw [h1] at c3
      cases h2 : treeOk a with
      | false =>
        rw [h2] at c4
        refine con_of_cd tyOk mix Tryz.func6 rfl rfl rfl (Nat.le_of_ble_eq_true rfl) ?_
        repeat' first | refine Ra ⟨?_⟩ | ((first | refine Rc [] 0 rfl rfl (c0) ?_ | refine Rc [] 1 rfl rfl (c1) ?_ | refine Rc [] 1 rfl rfl (c2) ?_ | refine Rc [] 0 rfl rfl (c3) ?_ | refine Rc [] 0 rfl rfl (c4) ?_ | (refine bd (fun h => ?_) (fun h => ?_) <;> (try simp only [List.length_map] at h)) | refine bsplit.mk (fun h => ?_) (fun h => ?_)) <;> conv => whnf) | refine Rb ⟨?_⟩ | fail
        exact Rf
      | true =>
        rw [h2] at c4
        have c5 := iMerge_con (m := m) t a t kt ka kt
        have c6 := iMerge_con (m := m) t a a kt ka ka
        have c7 := iMerge_con (m := m) t t t kt kt kt
        rw [merge_same1 h1 h2] at c5
        rw [merge_same2 h1 h2] at c6
        rw [merge_same1 h1 h1] at c7
        have c8 := same a (by omega)
        have c9 := same t (by omega)
        refine con_of_cd tyOk mix Tryz.func6 rfl rfl rfl (Nat.le_of_ble_eq_true rfl) ?_
        repeat' first | refine Ra ⟨?_⟩ | ((first | refine Rc [] 0 rfl rfl (c0) ?_ | refine Rc [] 1 rfl rfl (c1) ?_ | refine Rc [] 1 rfl rfl (c2) ?_ | refine Rc [] 0 rfl rfl (c3) ?_ | refine Rc [] 0 rfl rfl (c4) ?_ | refine Rc [] 1 rfl rfl (c5) ?_ | refine Rc [] 1 rfl rfl (c6) ?_ | refine Rc [] 1 rfl rfl (c7) ?_ | refine Rc [] 0 rfl rfl (c8) ?_ | refine Rc [] 0 rfl rfl (c9) ?_ | (refine bd (fun h => ?_) (fun h => ?_) <;> (try simp only [List.length_map] at h)) | refine bsplit.mk (fun h => ?_) (fun h => ?_)) <;> conv => whnf) | refine Rb ⟨?_⟩ | fail
        exact Rf
  · refine con_of_cd tyOk mix Tryz.func6 rfl rfl rfl (Nat.le_of_ble_eq_true rfl) ?_
    repeat' first | refine Ra ⟨?_⟩ | ((first | (refine bd (fun h => ?_) (fun h => ?_) <;> (try simp only [List.length_map] at h)) | refine bsplit.mk (fun h => ?_) (fun h => ?_)) <;> conv => whnf) | refine Rb ⟨?_⟩ | fail
    exact Rf
theorem FnMergeSame_con (cds : List D) (h : ShpAll Tryz.prog Tryz.f6.params.toList cds) : Con (E m) 6 0 cds [] (.b true) [] := by
  rw [Tryz.params6] at h
  match cds, h with
  | [d1], ⟨h1, _⟩ =>
    obtain ⟨l, rfl⟩ := bytes_shp h1
    exact law_FnMergeSame l
open Go.ChangeShapes Go.WideShapes Go.ChangeAt in
theorem FnMergeSame_lifted (os : Os) (started : os.Started) (H : Type) (enc : TypeId × Value → H) :
    ReturnsInHanded {} Tryz.checked os 6 .any (fun w args => (Rows.fnMergeSameSpec.pre enc Tryz.prog Tryz.f6 Rows.fnMergeSameRow.domain false w args ∧ laidMetH Tryz.prog Rows.fnMergeSameRow.laid w) ∧ sizedMet enc Tryz.prog Tryz.f6 (OpenSpec.ofChange Rows.fnMergeSameSpec) false w args)
      (Rows.fnMergeSameSpec.post enc Tryz.prog Tryz.f6 false true false false) := by
  refine returns_laid (C := Tryz.checked) (X := fun w _ => laidMetH Tryz.prog Rows.fnMergeSameRow.laid w) (fun _ _ _ hh h => h.of_heap hh) own0 started (by kernel_rfl) Tryz.func6
    (ChangeSpec.witness_shaped (enc := enc) (C := Tryz.checked) (os := os) (X := fun w _ => laidMetH Tryz.prog Rows.fnMergeSameRow.laid w) false (World.laidAll Tryz.prog os Rows.fnMergeSameRow.laid) #[.slice none 0 0] 8 (World.laidAll_os _ _ _)
      (World.shaped_of_ZipB (by kernel_rfl) (by kernel_rfl)) (by kernel_rfl) (by kernel_rfl) (by kernel_rfl)
      (by rw [MakeChecks.laidMetH_plain _ _ _ (by kernel_rfl)]; exact laidMet_laidAll _ (by kernel_rfl) (by kernel_rfl))) ?_
  intro W base args ds gs before hval hW hsh _
  obtain ⟨m, hm⟩ := maxLen_shaped W hsh
  exact law_calls_gl (E := E m) (dp := 8) (bt := 4) laidOut0 (readB_mem (by kernel_rfl)) (by kernel_rfl) Tryz.underlying4 (by kernel_rfl) rfl (fun H ds hl => match ds, hl with
    | [d1], _ => rfl) FnMergeSame_con W (gl_m hm) base args ds gs before hval hW
theorem FnMergeSame_holds : Rows.FnMergeSameSaid :=
  OpenClaim.holds_of_wide 6 Tryz.f6 rfl rfl rfl rfl rfl rfl rfl ⟨rfl, rfl, rfl, rfl, rfl⟩ rfl rfl rfl rfl rfl (by kernel_rfl) Tryz.func6 (by kernel_rfl)
    (of_decide_eq_true (by kernel_rfl)) (by unfold Func.isWrapper; first | (rw [if_pos (by decide +kernel)]; kernel_rfl) | (rw [if_neg (by decide +kernel)]; exact ⟨rfl, rfl⟩))
    (fun os started H enc _ => FnMergeSame_lifted os started H enc)
theorem FnMergeSame_card : Rows.FnMergeSameCardSaid :=
  Claim7.holds_tied_plain_at .later [] [.data, .pinned] true _ false FnMergeSame_holds (fun _ h => by cases h) (by kernel_rfl) (fun _ h => by cases h) fnMergeSame_row_tie rfl ⟨rfl, rfl⟩ (by kernel_rfl) rfl
    (fun f fn hf hfn => by
      obtain rfl : f = 6 := Option.some.inj ((show Tryz.prog.funcNamed "loop.example/pargeting/laws.FnMergeSame" = some 6 by kernel_rfl).symm.trans hf) |>.symm
      obtain rfl : fn = Tryz.f6 := (Option.some.inj (Tryz.func6.symm.trans hfn)).symm
      exact ⟨by kernel_rfl, fun j t ht => by
        have hm : t ∈ Tryz.f6.params.toList := by simpa using Array.mem_of_getElem? ht
        have hall : (Tryz.f6.params.toList.all fun u => !Tryz.prog.wantsStandIn u) = true := by kernel_rfl
        exact (show Tryz.prog.wantsStandIn t = false by simpa using List.all_eq_true.1 hall t hm)⟩)
    (by kernel_rfl)
end Go.Proofs.YtmnjlhjpeebfdaaGreatDoor
