/- 'laws.FnExactMergeClash' returns true whatever its arguments are, and leaves the arguments as they were; the package variables that the row lists hold what the program's text lays. -/
import Derived.Test.YtmnjlhjpeebfdaaDoorLw
import Derived.Test.YtmnjlhjpeebfdaaDoorLr
import Derived.Test.YtmnjlhjpeebfdaaDoorLv
set_option linter.unusedSimpArgs false
set_option linter.unusedVariables false
set_option maxHeartbeats 1000000
set_option maxRecDepth 100000
namespace Go.Proofs.YtmnjlhjpeebfdaaDoor
open Go Go.RowKit Go.Ab Go.Par
variable {m : Int}
theorem law_exClash (t a b : List Ent) (ht : big t) (ha : big a) (hb : big b) : Con (E m) 10 0 [.sl (t.map Ent.c), .sl (a.map Ent.c), .sl (b.map Ent.c)] [] (.b true) [] := by
  obtain ⟨n1, z1, y1⟩ := szE_con (m := m) t 1048576 (by omega) ht
  by_cases g1 : n1 < 0
  · refine con_of_cd tyOk mix Tryd.func10 rfl rfl rfl (Nat.le_of_ble_eq_true rfl) ?_
    repeat' first | refine Ra ⟨?_⟩ | ((first | refine Rc [] 0 rfl rfl (z1) ?_ | (refine bd (fun h => ?_) (fun h => ?_) <;> (try simp only [List.length_map] at h)) | refine bsplit.mk (fun h => ?_) (fun h => ?_)) <;> conv => whnf) | refine Rb ⟨?_⟩ | fail
    exact Rf
  · obtain ⟨y1, y2, y3⟩ := y1.resolve_left g1
    obtain ⟨n2, z2, y4⟩ := szE_con (m := m) a n1 (by omega) ha
    by_cases g2 : n2 < 0
    · refine con_of_cd tyOk mix Tryd.func10 rfl rfl rfl (Nat.le_of_ble_eq_true rfl) ?_
      repeat' first | refine Ra ⟨?_⟩ | ((first | refine Rc [] 0 rfl rfl (z1) ?_ | refine Rc [] 0 rfl rfl (z2) ?_ | (refine bd (fun h => ?_) (fun h => ?_) <;> (try simp only [List.length_map] at h)) | refine bsplit.mk (fun h => ?_) (fun h => ?_)) <;> conv => whnf) | refine Rb ⟨?_⟩ | fail
      exact Rf
    · obtain ⟨y4, y5, y6⟩ := y4.resolve_left g2
      obtain ⟨n3, z3, y7⟩ := szE_con (m := m) b n2 (by omega) hb
      by_cases g3 : n3 < 0
      · refine con_of_cd tyOk mix Tryd.func10 rfl rfl rfl (Nat.le_of_ble_eq_true rfl) ?_
        repeat' first | refine Ra ⟨?_⟩ | ((first | refine Rc [] 0 rfl rfl (z1) ?_ | refine Rc [] 0 rfl rfl (z2) ?_ | refine Rc [] 0 rfl rfl (z3) ?_ | (refine bd (fun h => ?_) (fun h => ?_) <;> (try simp only [List.length_map] at h)) | refine bsplit.mk (fun h => ?_) (fun h => ?_)) <;> conv => whnf) | refine Rb ⟨?_⟩ | fail
        exact Rf
      · obtain ⟨y7, y8, y9⟩ := y7.resolve_left g3
        have c1 := toEntS_con (m := m) t (by omega)
        have c2 := toEntS_con (m := m) a (by omega)
        have c3 := toEntS_con (m := m) b (by omega)
        have c4 := sClash_con (m := m) t a b y3 y6 y9
        have c5 := iClash_con (m := m) t a b y3 y6 y9
        have hlen := clash_len t a b
        generalize clashL t a b = P at c4 c5 hlen
        have c6 := eqStringS_con (m := m) P (by omega)
        have c7 := eqEntS_con (m := m) t (by omega)
        have c8 := eqEntS_con (m := m) a (by omega)
        have c9 := eqEntS_con (m := m) b (by omega)
        have m1 := markEntS_con (m := m) t 1 (by omega) (by omega)
        have m2 := markEntS_con (m := m) a (1 + 3 * t.length) (by omega) (by omega)
        have m3 := markEntS_con (m := m) b (1 + 3 * t.length + 3 * a.length) (by omega) (by omega)
        have m4 := markStringS_con (m := m) P 1 (by omega) (by omega)
        have m5 := heldStringS_con (m := m) P.length 1 (by omega) (by omega)
        refine con_of_cd tyOk mix Tryd.func10 rfl rfl rfl (Nat.le_of_ble_eq_true rfl) ?_
        repeat' first | refine Ra ⟨?_⟩ | ((first | refine Rc [] 0 rfl rfl (z1) ?_ | refine Rc [] 0 rfl rfl (z2) ?_ | refine Rc [] 0 rfl rfl (z3) ?_ | refine Rc [] 1 rfl rfl (c1) ?_ | refine Rc [] 1 rfl rfl (c2) ?_ | refine Rc [] 1 rfl rfl (c3) ?_ | refine Rc [] 1 rfl rfl (c4) ?_ | refine ⟨[], _, _, _, _, 1, ⟨rfl, rfl, rfl, c5, rfl, rfl⟩, .inl ⟨by simp [NoImmD, NoImmG, NoImmA], by simp [NoImmS, NoImmB, NoImmA, Ent.c, Mrk.c, Opn.c], ?_⟩⟩ | refine ⟨[], _, _, _, _, 0, ⟨rfl, rfl, rfl, c6, rfl, rfl⟩, .inl ⟨by simp [NoImmD, NoImmG, NoImmA], by simp [NoImmS, NoImmB, NoImmA, Ent.c, Mrk.c, Opn.c], ?_⟩⟩ | refine ⟨[], _, _, _, _, 0, ⟨rfl, rfl, rfl, c7, rfl, rfl⟩, .inl ⟨by simp [NoImmD, NoImmG, NoImmA], by simp [NoImmS, NoImmB, NoImmA, Ent.c, Mrk.c, Opn.c], ?_⟩⟩ | refine ⟨[], _, _, _, _, 0, ⟨rfl, rfl, rfl, c8, rfl, rfl⟩, .inl ⟨by simp [NoImmD, NoImmG, NoImmA], by simp [NoImmS, NoImmB, NoImmA, Ent.c, Mrk.c, Opn.c], ?_⟩⟩ | refine ⟨[], _, _, _, _, 0, ⟨rfl, rfl, rfl, c9, rfl, rfl⟩, .inl ⟨by simp [NoImmD, NoImmG, NoImmA], by simp [NoImmS, NoImmB, NoImmA, Ent.c, Mrk.c, Opn.c], ?_⟩⟩ | refine Rc [4] 0 rfl rfl (m1) ?_ | refine Rc [5] 0 rfl rfl (m2) ?_ | refine Rc [6] 0 rfl rfl (m3) ?_ | refine Rc [7] 0 rfl rfl (m4) ?_ | refine ⟨[], _, _, _, _, 0, ⟨rfl, rfl, rfl, m5, rfl, rfl⟩, .inl ⟨by simp [NoImmD, NoImmG, NoImmA], by simp [NoImmS, NoImmB, NoImmA, Ent.c, Mrk.c, Opn.c], ?_⟩⟩ | (refine bd (fun h => ?_) (fun h => ?_) <;> (try simp only [List.length_map] at h)) | refine bsplit.mk (fun h => ?_) (fun h => ?_)) <;> conv => whnf) | refine Rb ⟨?_⟩ | fail
        exact Rf
theorem FnExactMergeClash_con (cds : List D) (h : ShpAll Tryd.prog Tryd.f10.params.toList cds) : Con (E m) 10 0 cds [] (.b true) [] := by
  rw [Tryd.params10] at h
  match cds, h with
  | [d1, d2, d3], ⟨h1, h2, h3, _⟩ =>
    obtain ⟨t, rfl, ht⟩ := lEnts_shp h1
    obtain ⟨a, rfl, ha⟩ := lEnts_shp h2
    obtain ⟨b, rfl, hb⟩ := lEnts_shp h3
    exact law_exClash t a b ht ha hb
open Go.ChangeShapes Go.WideShapes Go.ChangeAt in
theorem FnExactMergeClash_lifted (os : Os) (started : os.Started) (H : Type) (enc : TypeId × Value → H) :
    ReturnsInHanded {} Tryd.checked os 10 .any (fun w args => (Rows.fnExactMergeClashSpec.pre enc Tryd.prog Tryd.f10 Rows.fnExactMergeClashRow.domain false w args ∧ laidMetH Tryd.prog Rows.fnExactMergeClashRow.laid w) ∧ sizedMet enc Tryd.prog Tryd.f10 (OpenSpec.ofChange Rows.fnExactMergeClashSpec) false w args)
      (Rows.fnExactMergeClashSpec.post enc Tryd.prog Tryd.f10 false true false false) := by
  refine returns_laid (C := Tryd.checked) (X := fun w _ => laidMetH Tryd.prog Rows.fnExactMergeClashRow.laid w) (fun _ _ _ hh h => h.of_heap hh) own0 started (by kernel_rfl) Tryd.func10
    (ChangeSpec.witness_shaped (enc := enc) (C := Tryd.checked) (os := os) (X := fun w _ => laidMetH Tryd.prog Rows.fnExactMergeClashRow.laid w) false (World.laidAll Tryd.prog os Rows.fnExactMergeClashRow.laid) #[.slice none 0 0, .slice none 0 0, .slice none 0 0] 8 (World.laidAll_os _ _ _)
      (World.shaped_of_ZipB (by kernel_rfl) (by kernel_rfl)) (by kernel_rfl) (by kernel_rfl) (by kernel_rfl)
      (by rw [MakeChecks.laidMetH_plain _ _ _ (by kernel_rfl)]; exact laidMet_laidAll _ (by kernel_rfl) (by kernel_rfl))) ?_
  intro W base args ds gs before hval hW hsh _
  obtain ⟨m, hm⟩ := maxLen_shaped W hsh
  exact law_calls_gl (E := E m) (dp := 8) (bt := 4) laidOut0 (readB_mem (by kernel_rfl)) (by kernel_rfl) Tryd.underlying4 (by kernel_rfl) rfl (fun H ds hl => match ds, hl with
    | [d1, d2, d3], _ => rfl) FnExactMergeClash_con W (gl_m hm) base args ds gs before hval hW
theorem FnExactMergeClash_holds : Rows.FnExactMergeClashSaid :=
  OpenClaim.holds_of_wide 10 Tryd.f10 rfl rfl rfl rfl rfl rfl rfl ⟨rfl, rfl, rfl, rfl, rfl⟩ rfl rfl rfl rfl rfl (by kernel_rfl) Tryd.func10 (by kernel_rfl)
    (of_decide_eq_true (by kernel_rfl)) (by unfold Func.isWrapper; first | (rw [if_pos (by decide +kernel)]; kernel_rfl) | (rw [if_neg (by decide +kernel)]; exact ⟨rfl, rfl⟩))
    (fun os started H enc _ => FnExactMergeClash_lifted os started H enc)
theorem FnExactMergeClash_card : Rows.FnExactMergeClashCardSaid :=
  Claim7.holds_tied_plain_at .later [] [.data, .pinned] true _ false FnExactMergeClash_holds (fun _ h => by cases h) (by kernel_rfl) (fun _ h => by cases h) fnExactMergeClash_row_tie rfl ⟨rfl, rfl⟩ (by kernel_rfl) rfl
    (fun f fn hf hfn => by
      obtain rfl : f = 10 := Option.some.inj ((show Tryd.prog.funcNamed "loop.example/pargeting/laws.FnExactMergeClash" = some 10 by kernel_rfl).symm.trans hf) |>.symm
      obtain rfl : fn = Tryd.f10 := (Option.some.inj (Tryd.func10.symm.trans hfn)).symm
      exact ⟨by kernel_rfl, fun j t ht => by
        have hm : t ∈ Tryd.f10.params.toList := by simpa using Array.mem_of_getElem? ht
        have hall : (Tryd.f10.params.toList.all fun u => !Tryd.prog.wantsStandIn u) = true := by kernel_rfl
        exact (show Tryd.prog.wantsStandIn t = false by simpa using List.all_eq_true.1 hall t hm)⟩)
    (by kernel_rfl)
end Go.Proofs.YtmnjlhjpeebfdaaDoor
