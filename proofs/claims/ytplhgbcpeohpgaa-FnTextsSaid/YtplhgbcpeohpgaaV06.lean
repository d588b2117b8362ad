/- 'laws.FnTexts' returns true whatever its argument is, and leaves the argument as it was. No condition. -/
import Derived.Test.YtplhgbcpeohpgaaMo
import Derived.Test.YtplhgbcpeohpgaaLa
import Derived.ProofKit
set_option linter.unusedSimpArgs false
set_option linter.unusedVariables false
set_option maxHeartbeats 1000000
set_option maxRecDepth 10000
namespace Go.Proofs.Ytplhgbcpeohpgaa
open Go Go.RowKit Go.Ab Go.Par
theorem bytes_cells : ∀ (xs : List (List D)), (∀ cs ∈ xs, Shp Try.prog 5 cs) → ∃ l : List UInt8, xs = bytesOf l
  | [], _ => ⟨[], rfl⟩
  | cs :: xs, h => by
    obtain ⟨n, rfl, hn⟩ := (h cs (by simp)).int_inv Try.underlying5
    obtain ⟨l, rfl⟩ := bytes_cells xs fun c hc => h c (by simp [hc])
    simp only [Lit.wf, Bool.and_eq_true, decide_eq_true_eq] at hn
    have h1 : 0 ≤ n := hn.1
    have h2 : n ≤ 255 := hn.2
    refine ⟨UInt8.ofNat n.toNat :: l, ?_⟩
    have : ((UInt8.ofNat n.toNat).toNat : Int) = n := by
      rw [UInt8.toNat_ofNat']
      omega
    simp only [bytesOf, List.map_cons, this]
theorem bytes_shp {d : D} (h : ShpV Try.prog 22 d) : ∃ l : List UInt8, d = .sl (bytesOf l) := by
  have h1 := h.one (fun fs => by rw [Try.underlying22]; simp)
  obtain ⟨xs, hx, hl, hc⟩ := h1.slice_inv Try.underlying22
  obtain ⟨l, rfl⟩ := bytes_cells xs hc
  cases hx
  exact ⟨l, rfl⟩
theorem law_FnTexts (l : Bs) : Con (E 0) 3 0 [.sl (bytesOf l)] [] (.b true) [] := by
  have hbl : (bytesOf l).length = l.length := List.length_map ..
  by_cases hl : l.length ≤ 1048576
  · obtain ⟨e, he, c0⟩ := drawEntText_any (m := 0) l hl
    obtain ⟨x, hx, c1⟩ := drawMarkText_any (m := 0) l hl
    have c2 := iEntText_con (m := 0) e (by omega) (by omega)
    have c3 := iMarkText_con (m := 0) x (by omega) (by omega)
    have c4 := sEntText_con (m := 0) e (by omega) (by omega)
    have c5 := sMarkText_con (m := 0) x (by omega) (by omega)
    have h1 : 2 ≤ (entText e).length := by unfold entText; split <;> (try split) <;> simp
    have h2 : 2 ≤ (markText x).length := by unfold markText entText; repeat' split
                                            all_goals simp
    cases hd : e.dir with
    | true =>
      have c6 := iMarkText_con (m := 0) ⟨e.path, 2, []⟩ (by simp only; omega) (by simp)
      have hm : markText ⟨e.path, 2, []⟩ = entText e := by simp [markText, entText, hd]
      have ht : entText e = [100, 32] ++ e.path := by simp [entText, hd]
      rw [hm] at c6
      refine con_of_cd tyOk mix Try.func3 rfl rfl rfl (Nat.le_of_ble_eq_true rfl) ?_
      repeat' first | refine Ra ⟨?_⟩ | ((first | refine Rc [] 0 rfl rfl (c0) ?_ | refine Rc [] 0 rfl rfl (c1) ?_ | refine Rc [] 0 rfl rfl (c2) ?_ | refine Rc [] 0 rfl rfl (c3) ?_ | refine Rc [] 0 rfl rfl (c4) ?_ | refine Rc [] 0 rfl rfl (c5) ?_ | refine Rc [] 0 rfl rfl (c6) ?_ | (refine bd (fun h => ?_) (fun h => ?_) <;> (try simp only [List.length_map] at h)) | refine bsplit.mk (fun h => ?_) (fun h => ?_)) <;> conv => whnf) | refine Rb ⟨?_⟩ | fail
      exact Rf
    | false =>
      have c6 := iMarkText_con (m := 0) ⟨e.path, 1, e.data⟩ (by simp only; omega) (by simp only; omega)
      have hm : markText ⟨e.path, 1, e.data⟩ = entText e := by
        obtain ⟨p, d, t⟩ := e
        simp only at hd
        subst hd
        simp [markText]
      have ht : (entText e).take 2 = [102, 32] := by unfold entText; rw [hd]; by_cases h : e.data = [] <;> simp [h]
      rw [hm] at c6
      refine con_of_cd tyOk mix Try.func3 rfl rfl rfl (Nat.le_of_ble_eq_true rfl) ?_
      repeat' first | refine Ra ⟨?_⟩ | ((first | refine Rc [] 0 rfl rfl (c0) ?_ | refine Rc [] 0 rfl rfl (c1) ?_ | refine Rc [] 0 rfl rfl (c2) ?_ | refine Rc [] 0 rfl rfl (c3) ?_ | refine Rc [] 0 rfl rfl (c4) ?_ | refine Rc [] 0 rfl rfl (c5) ?_ | refine Rc [] 0 rfl rfl (c6) ?_ | (refine bd (fun h => ?_) (fun h => ?_) <;> (try simp only [List.length_map] at h)) | refine bsplit.mk (fun h => ?_) (fun h => ?_)) <;> conv => whnf) | refine Rb ⟨?_⟩ | fail
      exact Rf
  · refine con_of_cd tyOk mix Try.func3 rfl rfl rfl (Nat.le_of_ble_eq_true rfl) ?_
    repeat' first | refine Ra ⟨?_⟩ | ((first | (refine bd (fun h => ?_) (fun h => ?_) <;> (try simp only [List.length_map] at h)) | refine bsplit.mk (fun h => ?_) (fun h => ?_)) <;> conv => whnf) | refine Rb ⟨?_⟩ | fail
    exact Rf
theorem FnTexts_con (cds : List D) (h : ShpAll Try.prog Try.f3.params.toList cds) : Con (E 0) 3 0 cds [] (.b true) [] := by
  rw [Try.params3] at h
  match cds, h with
  | [d1], ⟨h1, _⟩ =>
    obtain ⟨l, rfl⟩ := bytes_shp h1
    exact law_FnTexts l
open Go.ChangeShapes Go.WideShapes Go.ChangeAt in
theorem FnTexts_lifted (os : Os) (started : os.Started) (H : Type) (enc : TypeId × Value → H) :
    ReturnsInHanded {} Try.checked os 3 .any (Rows.fnTextsSpec.pre6 enc Try.prog Try.f3 Rows.fnTextsRow.domain false) (Rows.fnTextsSpec.post enc Try.prog Try.f3 false true false false) := by
  refine returnsInHanded_of_change (C := Try.checked) own0 started (by kernel_rfl) Try.func3
    (ChangeSpec.witness6 (enc := enc) (C := Try.checked) false ⟨#[], #[.slice none 0 0], []⟩ 8 (by kernel_rfl) (by kernel_rfl) (by kernel_rfl) (by kernel_rfl)) ?_
  intro W base args ds gs before hval hW _ _
  exact law_calls (E := E 0) (dp := 8) (bt := 4) (fun _ => rfl) laidOut0 (readB_mem (by kernel_rfl)) (by kernel_rfl) Try.underlying4 (by kernel_rfl) rfl (fun H ds hl => match ds, hl with
    | [d], _ => rfl) FnTexts_con W base args ds gs before hval hW
theorem FnTexts_holds : Rows.FnTextsSaid :=
  OpenClaim.holds_of_wide 3 Try.f3 rfl rfl rfl rfl rfl rfl rfl ⟨rfl, rfl, rfl, rfl, rfl⟩ rfl rfl rfl rfl rfl (by kernel_rfl) Try.func3 (by kernel_rfl)
    (of_decide_eq_true (by kernel_rfl)) (by unfold Func.isWrapper; first | (rw [if_pos (by decide +kernel)]; kernel_rfl) | (rw [if_neg (by decide +kernel)]; exact ⟨rfl, rfl⟩))
    (fun os started H enc _ => FnTexts_lifted os started H enc)
end Go.Proofs.Ytplhgbcpeohpgaa
