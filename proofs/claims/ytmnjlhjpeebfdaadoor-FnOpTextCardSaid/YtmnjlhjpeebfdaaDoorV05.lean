/- 'laws.FnOpText' returns true whatever its arguments are, and leaves the arguments as they were; the package variables that the row lists hold what the program's text lays. -/
import Derived.Test.YtmnjlhjpeebfdaaDoorLt
import Derived.Test.YtmnjlhjpeebfdaaDoorLo
import Derived.Test.YtmnjlhjpeebfdaaDoorLf
import Derived.Test.YtmnjlhjpeebfdaaDoorLv
set_option linter.unusedSimpArgs false
set_option linter.unusedVariables false
set_option maxHeartbeats 1000000
set_option maxRecDepth 100000
namespace Go.Proofs.YtmnjlhjpeebfdaaDoor
open Go Go.RowKit Go.Ab Go.Par
variable {m : Int}
theorem law_FnOpText (l k : Bs) : Con (Eo m) 3 0 [.sl (bytesOf l), .sl (bytesOf k)] [] (.b true) [] := by
  have hbl : (bytesOf l).length = l.length := List.length_map ..
  have hbk : (bytesOf k).length = k.length := List.length_map ..
  by_cases hl : l.length ≤ 1048576
  · by_cases hk : k.length ≤ 1048576
    · obtain ⟨⟨kd, p, t, d⟩, ⟨b1, b2, b3⟩, c0⟩ := drawOpText_any (m := m) l hl
      obtain ⟨s, hs, c1⟩ := drawOpRead_any (m := m) k hk
      simp only at b1 b2 b3
      have c0 := con_o c0
      have c1 := con_o c1
      have c2 := iOpText_con (m := m) kd p t d (by omega) (by omega) (by omega)
      have c3 := con_o (sOpText_con (m := m) kd p t d (by omega) (by omega) (by omega))
      have c4 := con_o (iOpOk_con (m := m) ⟨kd, p, t, d⟩ (by simp only; omega) (by simp only; omega) (by simp only; omega))
      have hlen : (opText ⟨kd, p, t, d⟩).length ≤ 40 := by
        cases h : opOk ⟨kd, p, t, d⟩ with
        | true => exact opOk_max h
        | false => simp [opText, h]
      have c5 := iOpRead_con (m := m) (opText ⟨kd, p, t, d⟩) (by omega)
      rw [opRead_text] at c5
      have c6 := iOpRead_con (m := m) s (by omega)
      have c7 := con_o (sOpRead_con (m := m) s (by omega))
      have q0 : ∀ o : Opn, (decide (o.kind = o.kind) && (decide (o.path = o.path) && (decide (o.to = o.to) && (decide (o.data = o.data) && true)))) = true := fun o => by simp
      have q1 := q0 ⟨kd, p, t, d⟩
      have q2 := q0 op0
      cases hok : opOk ⟨kd, p, t, d⟩ with
      | true =>
        have hne := opText_pos hok
        have hb0 : (!decide (opText ⟨kd, p, t, d⟩ = [])) = true := by rw [opText_nil, hok]; rfl
        rw [hok] at c4 c5
        rw [if_pos rfl] at c5
        cases hr : opRead s with
        | none =>
          rw [hr] at c6 c7
          refine con_of_cd tyOkO mixO Tryd.func3 rfl rfl rfl (Nat.le_of_ble_eq_true rfl) ?_
          repeat' first | refine Ra ⟨?_⟩ | ((first | refine Rc [] 0 rfl rfl (c0) ?_ | refine Rc [] 0 rfl rfl (c1) ?_ | refine Rc [] 0 rfl rfl (c2) ?_ | refine Rc [] 0 rfl rfl (c3) ?_ | refine Rc [] 0 rfl rfl (c4) ?_ | refine Rc [] 0 rfl rfl (c5) ?_ | refine Rc [] 0 rfl rfl (c6) ?_ | refine Rc [] 0 rfl rfl (c7) ?_ | (refine bd (fun h => ?_) (fun h => ?_) <;> (try simp only [List.length_map] at h)) | refine bsplit.mk (fun h => ?_) (fun h => ?_)) <;> conv => whnf) | refine Rb ⟨?_⟩ | fail
          exact Rf
        | some y =>
          obtain ⟨g1, g2⟩ := opRead_iff.1 hr
          rw [hr] at c6 c7
          have g3 := opOk_len g1
          obtain ⟨yk, yp, yt, yd⟩ := y
          simp only at g3
          have c8 := iOpText_con (m := m) yk yp yt yd (by omega) (by omega) (by omega)
          have c9 := con_o (iOpOk_con (m := m) ⟨yk, yp, yt, yd⟩ (by simp only; omega) (by simp only; omega) (by simp only; omega))
          rw [g2] at c8
          rw [g1] at c9
          have q3 := q0 ⟨yk, yp, yt, yd⟩
          refine con_of_cd tyOkO mixO Tryd.func3 rfl rfl rfl (Nat.le_of_ble_eq_true rfl) ?_
          repeat' first | refine Ra ⟨?_⟩ | ((first | refine Rc [] 0 rfl rfl (c0) ?_ | refine Rc [] 0 rfl rfl (c1) ?_ | refine Rc [] 0 rfl rfl (c2) ?_ | refine Rc [] 0 rfl rfl (c3) ?_ | refine Rc [] 0 rfl rfl (c4) ?_ | refine Rc [] 0 rfl rfl (c5) ?_ | refine Rc [] 0 rfl rfl (c6) ?_ | refine Rc [] 0 rfl rfl (c7) ?_ | refine Rc [] 0 rfl rfl (c8) ?_ | refine Rc [] 0 rfl rfl (c9) ?_ | (refine bd (fun h => ?_) (fun h => ?_) <;> (try simp only [List.length_map] at h)) | refine bsplit.mk (fun h => ?_) (fun h => ?_)) <;> conv => whnf) | refine Rb ⟨?_⟩ | fail
          exact Rf
      | false =>
        have hne : opText ⟨kd, p, t, d⟩ = [] := by rw [opText, hok]; rfl
        rw [hok] at c4 c5
        rw [if_neg (by simp)] at c5
        rw [hne] at c2 c3 c5
        cases hr : opRead s with
        | none =>
          rw [hr] at c6 c7
          refine con_of_cd tyOkO mixO Tryd.func3 rfl rfl rfl (Nat.le_of_ble_eq_true rfl) ?_
          repeat' first | refine Ra ⟨?_⟩ | ((first | refine Rc [] 0 rfl rfl (c0) ?_ | refine Rc [] 0 rfl rfl (c1) ?_ | refine Rc [] 0 rfl rfl (c2) ?_ | refine Rc [] 0 rfl rfl (c3) ?_ | refine Rc [] 0 rfl rfl (c4) ?_ | refine Rc [] 0 rfl rfl (c5) ?_ | refine Rc [] 0 rfl rfl (c6) ?_ | refine Rc [] 0 rfl rfl (c7) ?_ | (refine bd (fun h => ?_) (fun h => ?_) <;> (try simp only [List.length_map] at h)) | refine bsplit.mk (fun h => ?_) (fun h => ?_)) <;> conv => whnf) | refine Rb ⟨?_⟩ | fail
          exact Rf
        | some y =>
          obtain ⟨g1, g2⟩ := opRead_iff.1 hr
          rw [hr] at c6 c7
          have g3 := opOk_len g1
          obtain ⟨yk, yp, yt, yd⟩ := y
          simp only at g3
          have c8 := iOpText_con (m := m) yk yp yt yd (by omega) (by omega) (by omega)
          have c9 := con_o (iOpOk_con (m := m) ⟨yk, yp, yt, yd⟩ (by simp only; omega) (by simp only; omega) (by simp only; omega))
          rw [g2] at c8
          rw [g1] at c9
          have q3 := q0 ⟨yk, yp, yt, yd⟩
          refine con_of_cd tyOkO mixO Tryd.func3 rfl rfl rfl (Nat.le_of_ble_eq_true rfl) ?_
          repeat' first | refine Ra ⟨?_⟩ | ((first | refine Rc [] 0 rfl rfl (c0) ?_ | refine Rc [] 0 rfl rfl (c1) ?_ | refine Rc [] 0 rfl rfl (c2) ?_ | refine Rc [] 0 rfl rfl (c3) ?_ | refine Rc [] 0 rfl rfl (c4) ?_ | refine Rc [] 0 rfl rfl (c5) ?_ | refine Rc [] 0 rfl rfl (c6) ?_ | refine Rc [] 0 rfl rfl (c7) ?_ | refine Rc [] 0 rfl rfl (c8) ?_ | refine Rc [] 0 rfl rfl (c9) ?_ | (refine bd (fun h => ?_) (fun h => ?_) <;> (try simp only [List.length_map] at h)) | refine bsplit.mk (fun h => ?_) (fun h => ?_)) <;> conv => whnf) | refine Rb ⟨?_⟩ | fail
          exact Rf
    · refine con_of_cd tyOkO mixO Tryd.func3 rfl rfl rfl (Nat.le_of_ble_eq_true rfl) ?_
      repeat' first | refine Ra ⟨?_⟩ | ((first | (refine bd (fun h => ?_) (fun h => ?_) <;> (try simp only [List.length_map] at h)) | refine bsplit.mk (fun h => ?_) (fun h => ?_)) <;> conv => whnf) | refine Rb ⟨?_⟩ | fail
      exact Rf
  · refine con_of_cd tyOkO mixO Tryd.func3 rfl rfl rfl (Nat.le_of_ble_eq_true rfl) ?_
    repeat' first | refine Ra ⟨?_⟩ | ((first | (refine bd (fun h => ?_) (fun h => ?_) <;> (try simp only [List.length_map] at h)) | refine bsplit.mk (fun h => ?_) (fun h => ?_)) <;> conv => whnf) | refine Rb ⟨?_⟩ | fail
    exact Rf
theorem FnOpText_con (cds : List D) (h : ShpAll Tryd.prog Tryd.f3.params.toList cds) : Con (Eo m) 3 0 cds [] (.b true) [] := by
  rw [Tryd.params3] at h
  match cds, h with
  | [d1, d2], ⟨h1, h2, _⟩ =>
    obtain ⟨l, rfl⟩ := bytes_shp h1
    obtain ⟨k, rfl⟩ := bytes_shp h2
    exact law_FnOpText l k
open Go.ChangeShapes Go.WideShapes Go.ChangeAt in
theorem FnOpText_lifted (os : Os) (started : os.Started) (H : Type) (enc : TypeId × Value → H) :
    ReturnsInHanded {} Tryd.checked os 3 .any (fun w args => (Rows.fnOpTextSpec.pre enc Tryd.prog Tryd.f3 Rows.fnOpTextRow.domain false w args ∧ laidMetH Tryd.prog Rows.fnOpTextRow.laid w) ∧ sizedMet enc Tryd.prog Tryd.f3 (OpenSpec.ofChange Rows.fnOpTextSpec) false w args)
      (Rows.fnOpTextSpec.post enc Tryd.prog Tryd.f3 false true false false) := by
  refine returns_laid (C := Tryd.checked) (X := fun w _ => laidMetH Tryd.prog Rows.fnOpTextRow.laid w) (fun _ _ _ hh h => h.of_heap hh) own0 started (by kernel_rfl) Tryd.func3
    (ChangeSpec.witness_shaped (enc := enc) (C := Tryd.checked) (os := os) (X := fun w _ => laidMetH Tryd.prog Rows.fnOpTextRow.laid w) false (World.laidAll Tryd.prog os Rows.fnOpTextRow.laid) #[.slice none 0 0, .slice none 0 0] 8 (World.laidAll_os _ _ _)
      (World.shaped_of_ZipB (by kernel_rfl) (by kernel_rfl)) (by kernel_rfl) (by kernel_rfl) (by kernel_rfl)
      (by rw [MakeChecks.laidMetH_plain _ _ _ (by kernel_rfl)]; exact laidMet_laidAll _ (by kernel_rfl) (by kernel_rfl))) ?_
  intro W base args ds gs before hval hW hsh hx
  obtain ⟨m, hm⟩ := maxLen_shaped W hsh
  exact law_calls_gv (E := Eo m) (dp := 8) (bt := 4) (n := "loop.example/pargeting/impl.opWords") (g := 0) (tv := 69) laidOut0 (readB_mem (by kernel_rfl)) (by kernel_rfl) Tryd.underlying4 (by kernel_rfl) rfl (by kernel_rfl) (by kernel_rfl) (by kernel_rfl) (of_decide_eq_true (by kernel_rfl)) (fun H ds g hl => match ds, hl with
    | [d1, d2], _ => rfl) FnOpText_con W (glO_of hm (by kernel_rfl) (by simp [Rows.fnOpTextRow]) hx) base args ds gs before hval hW
theorem FnOpText_holds : Rows.FnOpTextSaid :=
  OpenClaim.holds_of_wide 3 Tryd.f3 rfl rfl rfl rfl rfl rfl rfl ⟨rfl, rfl, rfl, rfl, rfl⟩ rfl rfl rfl rfl rfl (by kernel_rfl) Tryd.func3 (by kernel_rfl)
    (of_decide_eq_true (by kernel_rfl)) (by unfold Func.isWrapper; first | (rw [if_pos (by decide +kernel)]; kernel_rfl) | (rw [if_neg (by decide +kernel)]; exact ⟨rfl, rfl⟩))
    (fun os started H enc _ => FnOpText_lifted os started H enc)
theorem FnOpText_card : Rows.FnOpTextCardSaid :=
  Claim7.holds_tied_plain_at .later [] [.data, .data, .pinned] true _ false FnOpText_holds (fun _ h => by cases h) (by kernel_rfl) (fun _ h => by cases h) fnOpText_row_tie rfl ⟨rfl, rfl⟩ (by kernel_rfl) rfl
    (fun f fn hf hfn => by
      obtain rfl : f = 3 := Option.some.inj ((show Tryd.prog.funcNamed "loop.example/pargeting/laws.FnOpText" = some 3 by kernel_rfl).symm.trans hf) |>.symm
      obtain rfl : fn = Tryd.f3 := (Option.some.inj (Tryd.func3.symm.trans hfn)).symm
      exact ⟨by kernel_rfl, fun j t ht => by
        have hm : t ∈ Tryd.f3.params.toList := by simpa using Array.mem_of_getElem? ht
        have hall : (Tryd.f3.params.toList.all fun u => !Tryd.prog.wantsStandIn u) = true := by kernel_rfl
        exact (show Tryd.prog.wantsStandIn t = false by simpa using List.all_eq_true.1 hall t hm)⟩)
    (by kernel_rfl)
end Go.Proofs.YtmnjlhjpeebfdaaDoor
