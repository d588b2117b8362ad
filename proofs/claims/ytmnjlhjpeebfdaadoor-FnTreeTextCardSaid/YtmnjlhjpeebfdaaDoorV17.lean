/- 'laws.FnTreeText' returns true whatever its arguments are, and leaves the arguments as they were; the package variables that the row lists hold what the program's text lays. -/
import Derived.Test.YtmnjlhjpeebfdaaDoorLt
import Derived.Test.YtmnjlhjpeebfdaaDoorLw
import Derived.Test.YtmnjlhjpeebfdaaDoorLq
import Derived.Test.YtmnjlhjpeebfdaaDoorLv
set_option linter.unusedSimpArgs false
set_option linter.unusedVariables false
set_option maxHeartbeats 1000000
set_option maxRecDepth 100000
namespace Go.Proofs.YtmnjlhjpeebfdaaDoor
open Go Go.RowKit Go.Ab Go.Par
variable {m : Int}
theorem law_FnTreeText (l k : Bs) : Con (E m) 8 0 [.sl (bytesOf l), .sl (bytesOf k)] [] (.b true) [] := by
  have hbl : (bytesOf l).length = l.length := List.length_map ..
  have hbk : (bytesOf k).length = k.length := List.length_map ..
  by_cases hl : l.length ≤ 1048576
  · by_cases hk : k.length ≤ 1048576
    · have c0 := drawTreeText_con (m := m) l hl
      obtain ⟨h1, h2⟩ := drawTreeV_bd (m := m) l
      generalize drawTreeV m l = t at c0 h1 h2
      obtain ⟨s, hs, c1⟩ := drawTreeRead_any (m := m) k hk
      have kt : ∀ e ∈ t, e.path.length ≤ 1073741824 ∧ e.data.length ≤ 1073741824 := fun e he => by have := h2 e he; omega
      have c2 := iTreeText_con (m := m) t kt
      have c3 := sTreeText_con (m := m) t kt (by omega)
      have hlen := treeText_len t
      have c4 := iTreeRead_con (m := m) (treeText t) (by omega)
      rw [treeRead_eq, treeReadS_text] at c4
      have c5 := sTreeOk_con (m := m) t kt
      have c6 := iTreeRead_con (m := m) s (by omega)
      rw [treeRead_eq] at c6
      have c7 := sTreeRead_con (m := m) s (by omega)
      have cs := fun (u v : List Ent) (h1 : u.length ≤ 1048576) (h2 : v.length ≤ 1048576) => treeSame_con (m := m) u v h1 h2
      have fin0 : ∀ (y : List Ent), treeOk y = true → ∀ (t : List Ent), treeOk t = true → (decide (y = t) == decide (treeText y = treeText t)) = true := fun y hy t ht => by
        by_cases h : y = t
        · subst h; simp
        · have : treeText y ≠ treeText t := fun e => h ((treeText_inj hy ht).1 e)
          simp [h, this]
      cases hok : treeOk t with
      | true =>
        rw [hok] at c4 c5
        rw [if_pos rfl] at c4
        have c8 := cs t t (by omega) (by omega)
        rw [decide_eq_true (rfl : t = t)] at c8
        cases hr : treeReadS s with
        | none =>
          rw [hr] at c6 c7
          have c9 := cs [] [] (by simp) (by simp)
          rw [decide_eq_true (rfl : ([] : List Ent) = [])] at c9
          refine con_of_cd tyOk mix Tryd.func8 rfl rfl rfl (Nat.le_of_ble_eq_true rfl) ?_
          repeat' first | refine Ra ⟨?_⟩ | ((first | refine Rc [] 0 rfl rfl (c0) ?_ | refine Rc [] 0 rfl rfl (c1) ?_ | refine Rc [] 0 rfl rfl (c2) ?_ | refine Rc [] 0 rfl rfl (c3) ?_ | refine Rc [] 1 rfl rfl (c4) ?_ | refine Rc [] 0 rfl rfl (c5) ?_ | refine Rc [] 1 rfl rfl (c6) ?_ | refine Rc [] 1 rfl rfl (c7) ?_ | refine Rc [] 0 rfl rfl (c8) ?_ | refine Rc [] 0 rfl rfl (c9) ?_ | (refine bd (fun h => ?_) (fun h => ?_) <;> (try simp only [List.length_map] at h)) | refine bsplit.mk (fun h => ?_) (fun h => ?_)) <;> conv => whnf) | refine Rb ⟨?_⟩ | fail
          exact Rf
        | some y =>
          obtain ⟨g1, g2⟩ := treeReadS_iff.1 hr
          rw [hr] at c6 c7
          have ly := treeOk_len g1
          have c9 := cs y y (by omega) (by omega)
          rw [decide_eq_true (rfl : y = y)] at c9
          have ca := iTreeText_con (m := m) y (bE g1)
          have cb := cs y t (by omega) (by omega)
          have f0 := fin0 y g1 t hok
          rw [g2] at ca f0
          refine con_of_cd tyOk mix Tryd.func8 rfl rfl rfl (Nat.le_of_ble_eq_true rfl) ?_
          repeat' first | refine Ra ⟨?_⟩ | ((first | refine Rc [] 0 rfl rfl (c0) ?_ | refine Rc [] 0 rfl rfl (c1) ?_ | refine Rc [] 0 rfl rfl (c2) ?_ | refine Rc [] 0 rfl rfl (c3) ?_ | refine Rc [] 1 rfl rfl (c4) ?_ | refine Rc [] 0 rfl rfl (c5) ?_ | refine Rc [] 1 rfl rfl (c6) ?_ | refine Rc [] 1 rfl rfl (c7) ?_ | refine Rc [] 0 rfl rfl (c8) ?_ | refine Rc [] 0 rfl rfl (c9) ?_ | refine Rc [] 0 rfl rfl (ca) ?_ | refine Rc [] 0 rfl rfl (cb) ?_ | (refine bd (fun h => ?_) (fun h => ?_) <;> (try simp only [List.length_map] at h)) | refine bsplit.mk (fun h => ?_) (fun h => ?_)) <;> conv => whnf) | refine Rb ⟨?_⟩ | fail
          exact Rf
      | false =>
        have hne : treeText t = [] := by rw [treeText, hok]; rfl
        rw [hok] at c4 c5
        rw [if_neg (by simp)] at c4
        rw [hne] at c2 c3 c4
        cases hr : treeReadS s with
        | none =>
          rw [hr] at c6 c7
          have c9 := cs [] [] (by simp) (by simp)
          rw [decide_eq_true (rfl : ([] : List Ent) = [])] at c9
          refine con_of_cd tyOk mix Tryd.func8 rfl rfl rfl (Nat.le_of_ble_eq_true rfl) ?_
          repeat' first | refine Ra ⟨?_⟩ | ((first | refine Rc [] 0 rfl rfl (c0) ?_ | refine Rc [] 0 rfl rfl (c1) ?_ | refine Rc [] 0 rfl rfl (c2) ?_ | refine Rc [] 0 rfl rfl (c3) ?_ | refine Rc [] 1 rfl rfl (c4) ?_ | refine Rc [] 0 rfl rfl (c5) ?_ | refine Rc [] 1 rfl rfl (c6) ?_ | refine Rc [] 1 rfl rfl (c7) ?_ | refine Rc [] 0 rfl rfl (c9) ?_ | (refine bd (fun h => ?_) (fun h => ?_) <;> (try simp only [List.length_map] at h)) | refine bsplit.mk (fun h => ?_) (fun h => ?_)) <;> conv => whnf) | refine Rb ⟨?_⟩ | fail
          exact Rf
        | some y =>
          obtain ⟨g1, g2⟩ := treeReadS_iff.1 hr
          rw [hr] at c6 c7
          have ly := treeOk_len g1
          have c9 := cs y y (by omega) (by omega)
          rw [decide_eq_true (rfl : y = y)] at c9
          have ca := iTreeText_con (m := m) y (bE g1)
          rw [g2] at ca
          refine con_of_cd tyOk mix Tryd.func8 rfl rfl rfl (Nat.le_of_ble_eq_true rfl) ?_
          repeat' first | refine Ra ⟨?_⟩ | ((first | refine Rc [] 0 rfl rfl (c0) ?_ | refine Rc [] 0 rfl rfl (c1) ?_ | refine Rc [] 0 rfl rfl (c2) ?_ | refine Rc [] 0 rfl rfl (c3) ?_ | refine Rc [] 1 rfl rfl (c4) ?_ | refine Rc [] 0 rfl rfl (c5) ?_ | refine Rc [] 1 rfl rfl (c6) ?_ | refine Rc [] 1 rfl rfl (c7) ?_ | refine Rc [] 0 rfl rfl (c9) ?_ | refine Rc [] 0 rfl rfl (ca) ?_ | (refine bd (fun h => ?_) (fun h => ?_) <;> (try simp only [List.length_map] at h)) | refine bsplit.mk (fun h => ?_) (fun h => ?_)) <;> conv => whnf) | refine Rb ⟨?_⟩ | fail
          exact Rf
    · refine con_of_cd tyOk mix Tryd.func8 rfl rfl rfl (Nat.le_of_ble_eq_true rfl) ?_
      repeat' first | refine Ra ⟨?_⟩ | ((first | (refine bd (fun h => ?_) (fun h => ?_) <;> (try simp only [List.length_map] at h)) | refine bsplit.mk (fun h => ?_) (fun h => ?_)) <;> conv => whnf) | refine Rb ⟨?_⟩ | fail
      exact Rf
  · refine con_of_cd tyOk mix Tryd.func8 rfl rfl rfl (Nat.le_of_ble_eq_true rfl) ?_
    repeat' first | refine Ra ⟨?_⟩ | ((first | (refine bd (fun h => ?_) (fun h => ?_) <;> (try simp only [List.length_map] at h)) | refine bsplit.mk (fun h => ?_) (fun h => ?_)) <;> conv => whnf) | refine Rb ⟨?_⟩ | fail
    exact Rf
theorem FnTreeText_con (cds : List D) (h : ShpAll Tryd.prog Tryd.f8.params.toList cds) : Con (E m) 8 0 cds [] (.b true) [] := by
  rw [Tryd.params8] at h
  match cds, h with
  | [d1, d2], ⟨h1, h2, _⟩ =>
    obtain ⟨l, rfl⟩ := bytes_shp h1
    obtain ⟨k, rfl⟩ := bytes_shp h2
    exact law_FnTreeText l k
open Go.ChangeShapes Go.WideShapes Go.ChangeAt in
theorem FnTreeText_lifted (os : Os) (started : os.Started) (H : Type) (enc : TypeId × Value → H) :
    ReturnsInHanded {} Tryd.checked os 8 .any (fun w args => (Rows.fnTreeTextSpec.pre enc Tryd.prog Tryd.f8 Rows.fnTreeTextRow.domain false w args ∧ laidMetH Tryd.prog Rows.fnTreeTextRow.laid w) ∧ sizedMet enc Tryd.prog Tryd.f8 (OpenSpec.ofChange Rows.fnTreeTextSpec) false w args)
      (Rows.fnTreeTextSpec.post enc Tryd.prog Tryd.f8 false true false false) := by
  refine returns_laid (C := Tryd.checked) (X := fun w _ => laidMetH Tryd.prog Rows.fnTreeTextRow.laid w) (fun _ _ _ hh h => h.of_heap hh) own0 started (by kernel_rfl) Tryd.func8
    (ChangeSpec.witness_shaped (enc := enc) (C := Tryd.checked) (os := os) (X := fun w _ => laidMetH Tryd.prog Rows.fnTreeTextRow.laid w) false (World.laidAll Tryd.prog os Rows.fnTreeTextRow.laid) #[.slice none 0 0, .slice none 0 0] 8 (World.laidAll_os _ _ _)
      (World.shaped_of_ZipB (by kernel_rfl) (by kernel_rfl)) (by kernel_rfl) (by kernel_rfl) (by kernel_rfl)
      (by rw [MakeChecks.laidMetH_plain _ _ _ (by kernel_rfl)]; exact laidMet_laidAll _ (by kernel_rfl) (by kernel_rfl))) ?_
  intro W base args ds gs before hval hW hsh _
  obtain ⟨m, hm⟩ := maxLen_shaped W hsh
  exact law_calls_gl (E := E m) (dp := 8) (bt := 4) laidOut0 (readB_mem (by kernel_rfl)) (by kernel_rfl) Tryd.underlying4 (by kernel_rfl) rfl (fun H ds hl => match ds, hl with
    | [d1, d2], _ => rfl) FnTreeText_con W (gl_m hm) base args ds gs before hval hW
theorem FnTreeText_holds : Rows.FnTreeTextSaid :=
  OpenClaim.holds_of_wide 8 Tryd.f8 rfl rfl rfl rfl rfl rfl rfl ⟨rfl, rfl, rfl, rfl, rfl⟩ rfl rfl rfl rfl rfl (by kernel_rfl) Tryd.func8 (by kernel_rfl)
    (of_decide_eq_true (by kernel_rfl)) (by unfold Func.isWrapper; first | (rw [if_pos (by decide +kernel)]; kernel_rfl) | (rw [if_neg (by decide +kernel)]; exact ⟨rfl, rfl⟩))
    (fun os started H enc _ => FnTreeText_lifted os started H enc)
theorem FnTreeText_card : Rows.FnTreeTextCardSaid :=
  Claim7.holds_tied_plain_at .later [] [.data, .pinned] true _ false FnTreeText_holds (fun _ h => by cases h) (by kernel_rfl) (fun _ h => by cases h) fnTreeText_row_tie rfl ⟨rfl, rfl⟩ (by kernel_rfl) rfl
    (fun f fn hf hfn => by
      obtain rfl : f = 8 := Option.some.inj ((show Tryd.prog.funcNamed "loop.example/pargeting/laws.FnTreeText" = some 8 by kernel_rfl).symm.trans hf) |>.symm
      obtain rfl : fn = Tryd.f8 := (Option.some.inj (Tryd.func8.symm.trans hfn)).symm
      exact ⟨by kernel_rfl, fun j t ht => by
        have hm : t ∈ Tryd.f8.params.toList := by simpa using Array.mem_of_getElem? ht
        have hall : (Tryd.f8.params.toList.all fun u => !Tryd.prog.wantsStandIn u) = true := by kernel_rfl
        exact (show Tryd.prog.wantsStandIn t = false by simpa using List.all_eq_true.1 hall t hm)⟩)
    (by kernel_rfl)
end Go.Proofs.YtmnjlhjpeebfdaaDoor
