/- 'laws.FnLayerText' returns true whatever its arguments are, and leaves the arguments as they were; the package variables that the row lists hold what the program's text lays. -/
import Derived.Test.YtmnjlhjpeebfdaaDoorLt
import Derived.Test.YtmnjlhjpeebfdaaDoorLw
import Derived.Test.YtmnjlhjpeebfdaaDoorLq
import Derived.Test.YtmnjlhjpeebfdaaDoorLv
set_option linter.unusedSimpArgs false
set_option linter.unusedVariables false
set_option maxHeartbeats 1000000
set_option maxRecDepth 100000
namespace Go.Proofs.YtmnjlhjpeebfdaaDoor
open Go Go.RowKit Go.Ab Go.Par
variable {m : Int}
theorem law_FnLayerText (l k : Bs) : Con (E m) 6 0 [.sl (bytesOf l), .sl (bytesOf k)] [] (.b true) [] := by
  have hbl : (bytesOf l).length = l.length := List.length_map ..
  have hbk : (bytesOf k).length = k.length := List.length_map ..
  by_cases hl : l.length ≤ 1048576
  · by_cases hk : k.length ≤ 1048576
    · have c0 := drawLayerText_con (m := m) l hl
      obtain ⟨h1, h2⟩ := drawLayerV_bd (m := m) l
      generalize drawLayerV m l = t at c0 h1 h2
      obtain ⟨s, hs, c1⟩ := drawLayerRead_any (m := m) k hk
      have kt : ∀ e ∈ t, e.path.length ≤ 1073741823 ∧ e.data.length ≤ 1073741823 := fun e he => by have := h2 e he; omega
      have c2 := iLayerText_con (m := m) t kt
      have c3 := sLayerText_con (m := m) t kt (by omega)
      have hlen := layerText_len t
      have c4 := iLayerRead_con (m := m) (layerText t) (by omega)
      rw [layerRead_eq, layerReadS_text] at c4
      have c5 := sLayerOk_con (m := m) t (by omega) kt
      have c6 := iLayerRead_con (m := m) s (by omega)
      rw [layerRead_eq] at c6
      have c7 := sLayerRead_con (m := m) s (by omega)
      have cs := fun (u v : List Mrk) (h1 : u.length ≤ 1048576) (h2 : v.length ≤ 1048576) => layerSame_con (m := m) u v h1 h2
      have bM : ∀ {y : List Mrk}, layerOk y = true → ∀ e ∈ y, e.path.length ≤ 1073741823 ∧ e.data.length ≤ 1073741823 := fun hy e he => by have := markOk_len (layerOk_mark hy e he); omega
      cases hok : layerOk t with
      | true =>
        rw [hok] at c4 c5
        rw [if_pos rfl] at c4
        have c8 := cs t t (by omega) (by omega)
        rw [decide_eq_true (rfl : t = t)] at c8
        cases hr : layerReadS s with
        | none =>
          rw [hr] at c6 c7
          have c9 := cs [] [] (by simp) (by simp)
          rw [decide_eq_true (rfl : ([] : List Mrk) = [])] at c9
          refine con_of_cd tyOk mix Tryd.func6 rfl rfl rfl (Nat.le_of_ble_eq_true rfl) ?_
          repeat' first | refine Ra ⟨?_⟩ | ((first | refine Rc [] 0 rfl rfl (c0) ?_ | refine Rc [] 0 rfl rfl (c1) ?_ | refine Rc [] 0 rfl rfl (c2) ?_ | refine Rc [] 0 rfl rfl (c3) ?_ | refine Rc [] 1 rfl rfl (c4) ?_ | refine Rc [] 0 rfl rfl (c5) ?_ | refine Rc [] 1 rfl rfl (c6) ?_ | refine Rc [] 1 rfl rfl (c7) ?_ | refine Rc [] 0 rfl rfl (c8) ?_ | refine Rc [] 0 rfl rfl (c9) ?_ | (refine bd (fun h => ?_) (fun h => ?_) <;> (try simp only [List.length_map] at h)) | refine bsplit.mk (fun h => ?_) (fun h => ?_)) <;> conv => whnf) | refine Rb ⟨?_⟩ | fail
          exact Rf
        | some y =>
          obtain ⟨g1, g2⟩ := layerReadS_iff.1 hr
          rw [hr] at c6 c7
          have ly := layerOk_len g1
          have c9 := cs y y (by omega) (by omega)
          rw [decide_eq_true (rfl : y = y)] at c9
          have ca := iLayerText_con (m := m) y (bM g1)
          have cb := iLayerOk_con (m := m) y (bM g1)
          rw [g2] at ca
          rw [g1] at cb
          refine con_of_cd tyOk mix Tryd.func6 rfl rfl rfl (Nat.le_of_ble_eq_true rfl) ?_
          repeat' first | refine Ra ⟨?_⟩ | ((first | refine Rc [] 0 rfl rfl (c0) ?_ | refine Rc [] 0 rfl rfl (c1) ?_ | refine Rc [] 0 rfl rfl (c2) ?_ | refine Rc [] 0 rfl rfl (c3) ?_ | refine Rc [] 1 rfl rfl (c4) ?_ | refine Rc [] 0 rfl rfl (c5) ?_ | refine Rc [] 1 rfl rfl (c6) ?_ | refine Rc [] 1 rfl rfl (c7) ?_ | refine Rc [] 0 rfl rfl (c8) ?_ | refine Rc [] 0 rfl rfl (c9) ?_ | refine Rc [] 0 rfl rfl (ca) ?_ | refine Rc [] 0 rfl rfl (cb) ?_ | (refine bd (fun h => ?_) (fun h => ?_) <;> (try simp only [List.length_map] at h)) | refine bsplit.mk (fun h => ?_) (fun h => ?_)) <;> conv => whnf) | refine Rb ⟨?_⟩ | fail
          exact Rf
      | false =>
        have hne : layerText t = [] := by rw [layerText, hok]; rfl
        rw [hok] at c4 c5
        rw [if_neg (by simp)] at c4
        rw [hne] at c2 c3 c4
        cases hr : layerReadS s with
        | none =>
          rw [hr] at c6 c7
          have c9 := cs [] [] (by simp) (by simp)
          rw [decide_eq_true (rfl : ([] : List Mrk) = [])] at c9
          refine con_of_cd tyOk mix Tryd.func6 rfl rfl rfl (Nat.le_of_ble_eq_true rfl) ?_
          repeat' first | refine Ra ⟨?_⟩ | ((first | refine Rc [] 0 rfl rfl (c0) ?_ | refine Rc [] 0 rfl rfl (c1) ?_ | refine Rc [] 0 rfl rfl (c2) ?_ | refine Rc [] 0 rfl rfl (c3) ?_ | refine Rc [] 1 rfl rfl (c4) ?_ | refine Rc [] 0 rfl rfl (c5) ?_ | refine Rc [] 1 rfl rfl (c6) ?_ | refine Rc [] 1 rfl rfl (c7) ?_ | refine Rc [] 0 rfl rfl (c9) ?_ | (refine bd (fun h => ?_) (fun h => ?_) <;> (try simp only [List.length_map] at h)) | refine bsplit.mk (fun h => ?_) (fun h => ?_)) <;> conv => whnf) | refine Rb ⟨?_⟩ | fail
          exact Rf
        | some y =>
          obtain ⟨g1, g2⟩ := layerReadS_iff.1 hr
          rw [hr] at c6 c7
          have ly := layerOk_len g1
          have c9 := cs y y (by omega) (by omega)
          rw [decide_eq_true (rfl : y = y)] at c9
          have ca := iLayerText_con (m := m) y (bM g1)
          have cb := iLayerOk_con (m := m) y (bM g1)
          rw [g2] at ca
          rw [g1] at cb
          refine con_of_cd tyOk mix Tryd.func6 rfl rfl rfl (Nat.le_of_ble_eq_true rfl) ?_
          repeat' first | refine Ra ⟨?_⟩ | ((first | refine Rc [] 0 rfl rfl (c0) ?_ | refine Rc [] 0 rfl rfl (c1) ?_ | refine Rc [] 0 rfl rfl (c2) ?_ | refine Rc [] 0 rfl rfl (c3) ?_ | refine Rc [] 1 rfl rfl (c4) ?_ | refine Rc [] 0 rfl rfl (c5) ?_ | refine Rc [] 1 rfl rfl (c6) ?_ | refine Rc [] 1 rfl rfl (c7) ?_ | refine Rc [] 0 rfl rfl (c9) ?_ | refine Rc [] 0 rfl rfl (ca) ?_ | refine Rc [] 0 rfl rfl (cb) ?_ | (refine bd (fun h => ?_) (fun h => ?_) <;> (try simp only [List.length_map] at h)) | refine bsplit.mk (fun h => ?_) (fun h => ?_)) <;> conv => whnf) | refine Rb ⟨?_⟩ | fail
          exact Rf
    · refine con_of_cd tyOk mix Tryd.func6 rfl rfl rfl (Nat.le_of_ble_eq_true rfl) ?_
      repeat' first | refine Ra ⟨?_⟩ | ((first | (refine bd (fun h => ?_) (fun h => ?_) <;> (try simp only [List.length_map] at h)) | refine bsplit.mk (fun h => ?_) (fun h => ?_)) <;> conv => whnf) | refine Rb ⟨?_⟩ | fail
      exact Rf
  · refine con_of_cd tyOk mix Tryd.func6 rfl rfl rfl (Nat.le_of_ble_eq_true rfl) ?_
    repeat' first | refine Ra ⟨?_⟩ | ((first | (refine bd (fun h => ?_) (fun h => ?_) <;> (try simp only [List.length_map] at h)) | refine bsplit.mk (fun h => ?_) (fun h => ?_)) <;> conv => whnf) | refine Rb ⟨?_⟩ | fail
    exact Rf
theorem FnLayerText_con (cds : List D) (h : ShpAll Tryd.prog Tryd.f6.params.toList cds) : Con (E m) 6 0 cds [] (.b true) [] := by
  rw [Tryd.params6] at h
  match cds, h with
  | [d1, d2], ⟨h1, h2, _⟩ =>
    obtain ⟨l, rfl⟩ := bytes_shp h1
    obtain ⟨k, rfl⟩ := bytes_shp h2
    exact law_FnLayerText l k
open Go.ChangeShapes Go.WideShapes Go.ChangeAt in
theorem FnLayerText_lifted (os : Os) (started : os.Started) (H : Type) (enc : TypeId × Value → H) :
    ReturnsInHanded {} Tryd.checked os 6 .any (fun w args => (Rows.fnLayerTextSpec.pre enc Tryd.prog Tryd.f6 Rows.fnLayerTextRow.domain false w args ∧ laidMetH Tryd.prog Rows.fnLayerTextRow.laid w) ∧ sizedMet enc Tryd.prog Tryd.f6 (OpenSpec.ofChange Rows.fnLayerTextSpec) false w args)
      (Rows.fnLayerTextSpec.post enc Tryd.prog Tryd.f6 false true false false) := by
  refine returns_laid (C := Tryd.checked) (X := fun w _ => laidMetH Tryd.prog Rows.fnLayerTextRow.laid w) (fun _ _ _ hh h => h.of_heap hh) own0 started (by kernel_rfl) Tryd.func6
    (ChangeSpec.witness_shaped (enc := enc) (C := Tryd.checked) (os := os) (X := fun w _ => laidMetH Tryd.prog Rows.fnLayerTextRow.laid w) false (World.laidAll Tryd.prog os Rows.fnLayerTextRow.laid) #[.slice none 0 0, .slice none 0 0] 8 (World.laidAll_os _ _ _)
      (World.shaped_of_ZipB (by kernel_rfl) (by kernel_rfl)) (by kernel_rfl) (by kernel_rfl) (by kernel_rfl)
      (by rw [MakeChecks.laidMetH_plain _ _ _ (by kernel_rfl)]; exact laidMet_laidAll _ (by kernel_rfl) (by kernel_rfl))) ?_
  intro W base args ds gs before hval hW hsh _
  obtain ⟨m, hm⟩ := maxLen_shaped W hsh
  exact law_calls_gl (E := E m) (dp := 8) (bt := 4) laidOut0 (readB_mem (by kernel_rfl)) (by kernel_rfl) Tryd.underlying4 (by kernel_rfl) rfl (fun H ds hl => match ds, hl with
    | [d1, d2], _ => rfl) FnLayerText_con W (gl_m hm) base args ds gs before hval hW
theorem FnLayerText_holds : Rows.FnLayerTextSaid :=
  OpenClaim.holds_of_wide 6 Tryd.f6 rfl rfl rfl rfl rfl rfl rfl ⟨rfl, rfl, rfl, rfl, rfl⟩ rfl rfl rfl rfl rfl (by kernel_rfl) Tryd.func6 (by kernel_rfl)
    (of_decide_eq_true (by kernel_rfl)) (by unfold Func.isWrapper; first | (rw [if_pos (by decide +kernel)]; kernel_rfl) | (rw [if_neg (by decide +kernel)]; exact ⟨rfl, rfl⟩))
    (fun os started H enc _ => FnLayerText_lifted os started H enc)
theorem FnLayerText_card : Rows.FnLayerTextCardSaid :=
  Claim7.holds_tied_plain_at .later [] [.data, .pinned] true _ false FnLayerText_holds (fun _ h => by cases h) (by kernel_rfl) (fun _ h => by cases h) fnLayerText_row_tie rfl ⟨rfl, rfl⟩ (by kernel_rfl) rfl
    (fun f fn hf hfn => by
      obtain rfl : f = 6 := Option.some.inj ((show Tryd.prog.funcNamed "loop.example/pargeting/laws.FnLayerText" = some 6 by kernel_rfl).symm.trans hf) |>.symm
      obtain rfl : fn = Tryd.f6 := (Option.some.inj (Tryd.func6.symm.trans hfn)).symm
      exact ⟨by kernel_rfl, fun j t ht => by
        have hm : t ∈ Tryd.f6.params.toList := by simpa using Array.mem_of_getElem? ht
        have hall : (Tryd.f6.params.toList.all fun u => !Tryd.prog.wantsStandIn u) = true := by kernel_rfl
        exact (show Tryd.prog.wantsStandIn t = false by simpa using List.all_eq_true.1 hall t hm)⟩)
    (by kernel_rfl)
end Go.Proofs.YtmnjlhjpeebfdaaDoor
