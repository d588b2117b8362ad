/- 'laws.FnMergeFew' returns true whatever its arguments are, and leaves the arguments as they were; the package variables that the row lists hold what the program's text lays. -/
import Derived.Test.YtmnjlhjpeebfdaaGreatDoorLu
import Derived.Test.YtmnjlhjpeebfdaaGreatDoorLw
import Derived.Test.YtmnjlhjpeebfdaaGreatDoorLq
import Derived.Test.YtmnjlhjpeebfdaaGreatDoorLv
set_option linter.unusedSimpArgs false
set_option linter.unusedVariables false
set_option maxHeartbeats 1000000
set_option maxRecDepth 100000
namespace Go.Proofs.YtmnjlhjpeebfdaaGreatDoor
open Go Go.RowKit Go.Ab Go.Par
variable {m : Int}
theorem law_FnMergeFew (l : Bs) : Con (E m) 4 0 [.sl (bytesOf l)] [] (.b true) [] := by
  have hbl : (bytesOf l).length = l.length := List.length_map ..
  by_cases hl : l.length ≤ 1048576
  · obtain ⟨t, a, b, ⟨ht, ha, hb⟩, c0⟩ := drawMerge_any (m := m) l hl
    have kt : ∀ e ∈ t, e.path.length ≤ 1073741824 ∧ e.data.length ≤ 1073741824 := fun e he => by have := ht.bnd e he; omega
    have ka : ∀ e ∈ a, e.path.length ≤ 1073741824 ∧ e.data.length ≤ 1073741824 := fun e he => by have := ha.bnd e he; omega
    have kb : ∀ e ∈ b, e.path.length ≤ 1073741824 ∧ e.data.length ≤ 1073741824 := fun e he => by have := hb.bnd e he; omega
    have ln1 := ht.len
    have ln2 := ha.len
    have ln3 := hb.len
    have e1 : (t.map Ent.c).length = t.length := List.length_map ..
    have e2 : (a.map Ent.c).length = a.length := List.length_map ..
    have e3 : (b.map Ent.c).length = b.length := List.length_map ..
    have c1 := iMerge_con (m := m) t a b kt ka kb
    have c2 := sMerge_con (m := m) t a b kt ka kb
    have same : ∀ (z : List Ent), z.length ≤ 1048576 → Con (E m) 18 0 [.sl (z.map Ent.c), .sl (z.map Ent.c)] [] (.b true) [] := fun z hz => by
      have := treeSame_con (m := m) z z hz hz
      rwa [decide_eq_true rfl] at this
    cases hR : mergeL t a b with
    | none =>
      rw [hR] at c1 c2
      have c3 := same [] (by simp)
      refine con_of_cd tyOk mix Tryz.func4 rfl rfl rfl (Nat.le_of_ble_eq_true rfl) ?_
      repeat' first | refine Ra ⟨?_⟩ | ((first | refine Rc [] 0 rfl rfl (c0) ?_ | refine Rc [] 1 rfl rfl (c1) ?_ | refine Rc [] 1 rfl rfl (c2) ?_ | refine Rc [] 0 rfl rfl (c3) ?_ | (refine bd (fun h => ?_) (fun h => ?_) <;> (try simp only [List.length_map] at h)) | refine bsplit.mk (fun h => ?_) (fun h => ?_)) <;> conv => whnf) | refine Rb ⟨?_⟩ | fail
      refine Cd.loop2 (fun mq tm S nx => ∃ (i : Nat), mq = (0) ∧ tm = [(4, .sl (a.map Ent.c)), (5, .sl (b.map Ent.c)), (6, .sl (([] : List Ent).map Ent.c)), (10, .k .i64 i)] ∧ S = [] ∧ nx = 0 ∧ (i = 0)) ?_ ?_
      · refine li [6] [4, 5, 6, 10] ?_
        conv => whnf
        refine ⟨rfl, rfl, _, 0, rfl, rfl, rfl, rfl, rfl⟩
      · rintro mq tm S nx ⟨i, hn, rfl, rfl, rfl, hi⟩
        subst hi
        repeat' first | refine Ra ⟨?_⟩ | ((first | (refine bd (fun h => ?_) (fun h => ?_) <;> (try simp only [List.length_map] at h)) | refine bsplit.mk (fun h => ?_) (fun h => ?_)) <;> conv => whnf) | refine Rb ⟨?_⟩ | fail
        exact Rf
    | some X =>
      rw [hR] at c1 c2
      obtain ⟨h1, h2, h3, h4⟩ := merge_tree hR
      have hX := treeOk_len h4
      have c3 := same X (by omega)
      have hfew := merge_few hR
      have hlen := merge_few_len hR
      have e4 : (X.map Ent.c).length = X.length := List.length_map ..
      have c4 := fun p => iGet_con (m := m) a p ka
      have c5 := fun p => iGet_con (m := m) b p kb
      simp only [h2, h3, if_true] at c4 c5
      refine con_of_cd tyOk mix Tryz.func4 rfl rfl rfl (Nat.le_of_ble_eq_true rfl) ?_
      repeat' first | refine Ra ⟨?_⟩ | ((first | refine Rc [] 0 rfl rfl (c0) ?_ | refine Rc [] 1 rfl rfl (c1) ?_ | refine Rc [] 1 rfl rfl (c2) ?_ | refine Rc [] 0 rfl rfl (c3) ?_ | (refine bd (fun h => ?_) (fun h => ?_) <;> (try simp only [List.length_map] at h)) | refine bsplit.mk (fun h => ?_) (fun h => ?_)) <;> conv => whnf) | refine Rb ⟨?_⟩ | fail
      refine Cd.loop2 (fun mq tm S nx => ∃ (i : Nat), mq = (X.length - i) ∧ tm = [(4, .sl (a.map Ent.c)), (5, .sl (b.map Ent.c)), (6, .sl (X.map Ent.c)), (10, .k .i64 i)] ∧ S = [] ∧ nx = 0 ∧ (i ≤ X.length)) ?_ ?_
      · refine li [6] [4, 5, 6, 10] ?_
        conv => whnf
        refine ⟨rfl, rfl, _, 0, rfl, rfl, rfl, rfl, by omega⟩
      · rintro mq tm S nx ⟨i, hn, rfl, rfl, rfl, hi⟩
        by_cases hlt : i < X.length
        · have g1 : X[i]? = some X[i] := List.getElem?_eq_getElem hlt
          generalize X[i] = e at g1
          have hm := List.mem_of_getElem? g1
          have hne : e.path ≠ [47] := fun h => by
            have := treeOk_root h4
            rw [← h, entAt_self (treeOk_srt h4) hm] at this
            cases this
          have c6 := c4 e.path
          have c7 := c5 e.path
          rw [entGet_ne hne, entD_eq] at c6 c7
          have q := ee_eq e
          rcases hfew e hm with hh | hh
          · rw [hh] at c6
            generalize entAt b e.path = B at c7
            repeat' first | refine Ra ⟨?_⟩ | ((first | refine Rc [] 0 rfl rfl (c6) ?_ | refine Rc [] 0 rfl rfl (c7) ?_ | (refine bd (fun h => ?_) (fun h => ?_) <;> (try simp only [List.length_map] at h)) | refine bsplit.mk (fun h => ?_) (fun h => ?_)) <;> conv => whnf) | refine Rb ⟨?_⟩ | fail
            all_goals
              refine .here ⟨mq - 1, by omega, ?_⟩
              refine la [4, 5, 6, 10] ?_
              conv => whnf
              refine ⟨rfl, rfl, i + 1, (by omega), rfl, rfl, rfl, by omega⟩
          · rw [hh] at c7
            generalize entAt a e.path = A at c6
            repeat' first | refine Ra ⟨?_⟩ | ((first | refine Rc [] 0 rfl rfl (c6) ?_ | refine Rc [] 0 rfl rfl (c7) ?_ | (refine bd (fun h => ?_) (fun h => ?_) <;> (try simp only [List.length_map] at h)) | refine bsplit.mk (fun h => ?_) (fun h => ?_)) <;> conv => whnf) | refine Rb ⟨?_⟩ | fail
            all_goals
              refine .here ⟨mq - 1, by omega, ?_⟩
              refine la [4, 5, 6, 10] ?_
              conv => whnf
              refine ⟨rfl, rfl, i + 1, (by omega), rfl, rfl, rfl, by omega⟩
        · repeat' first | refine Ra ⟨?_⟩ | ((first | (refine bd (fun h => ?_) (fun h => ?_) <;> (try simp only [List.length_map] at h)) | refine bsplit.mk (fun h => ?_) (fun h => ?_)) <;> conv => whnf) | refine Rb ⟨?_⟩ | fail
          exact Rf
  · refine con_of_cd tyOk mix Tryz.func4 rfl rfl rfl (Nat.le_of_ble_eq_true rfl) ?_
    repeat' first | refine Ra ⟨?_⟩ | ((first | (refine bd (fun h => ?_) (fun h => ?_) <;> (try simp only [List.length_map] at h)) | refine bsplit.mk (fun h => ?_) (fun h => ?_)) <;> conv => whnf) | refine Rb ⟨?_⟩ | fail
    exact Rf
theorem FnMergeFew_con (cds : List D) (h : ShpAll Tryz.prog Tryz.f4.params.toList cds) : Con (E m) 4 0 cds [] (.b true) [] := by
  rw [Tryz.params4] at h
  match cds, h with
  | [d1], ⟨h1, _⟩ =>
    obtain ⟨l, rfl⟩ := bytes_shp h1
    exact law_FnMergeFew l
open Go.ChangeShapes Go.WideShapes Go.ChangeAt in
theorem FnMergeFew_lifted (os : Os) (started : os.Started) (H : Type) (enc : TypeId × Value → H) :
    ReturnsInHanded {} Tryz.checked os 4 .any (fun w args => (Rows.fnMergeFewSpec.pre enc Tryz.prog Tryz.f4 Rows.fnMergeFewRow.domain false w args ∧ laidMetH Tryz.prog Rows.fnMergeFewRow.laid w) ∧ sizedMet enc Tryz.prog Tryz.f4 (OpenSpec.ofChange Rows.fnMergeFewSpec) false w args)
      (Rows.fnMergeFewSpec.post enc Tryz.prog Tryz.f4 false true false false) := by
  refine returns_laid (C := Tryz.checked) (X := fun w _ => laidMetH Tryz.prog Rows.fnMergeFewRow.laid w) (fun _ _ _ hh h => h.of_heap hh) own0 started (by kernel_rfl) Tryz.func4
    (ChangeSpec.witness_shaped (enc := enc) (C := Tryz.checked) (os := os) (X := fun w _ => laidMetH Tryz.prog Rows.fnMergeFewRow.laid w) false (World.laidAll Tryz.prog os Rows.fnMergeFewRow.laid) #[.slice none 0 0] 8 (World.laidAll_os _ _ _)
      (World.shaped_of_ZipB (by kernel_rfl) (by kernel_rfl)) (by kernel_rfl) (by kernel_rfl) (by kernel_rfl)
      (by rw [MakeChecks.laidMetH_plain _ _ _ (by kernel_rfl)]; exact laidMet_laidAll _ (by kernel_rfl) (by kernel_rfl))) ?_
  intro W base args ds gs before hval hW hsh _
  obtain ⟨m, hm⟩ := maxLen_shaped W hsh
  exact law_calls_gl (E := E m) (dp := 8) (bt := 4) laidOut0 (readB_mem (by kernel_rfl)) (by kernel_rfl) Tryz.underlying4 (by kernel_rfl) rfl (fun H ds hl => match ds, hl with
    | [d1], _ => rfl) FnMergeFew_con W (gl_m hm) base args ds gs before hval hW
theorem FnMergeFew_holds : Rows.FnMergeFewSaid :=
  OpenClaim.holds_of_wide 4 Tryz.f4 rfl rfl rfl rfl rfl rfl rfl ⟨rfl, rfl, rfl, rfl, rfl⟩ rfl rfl rfl rfl rfl (by kernel_rfl) Tryz.func4 (by kernel_rfl)
    (of_decide_eq_true (by kernel_rfl)) (by unfold Func.isWrapper; first | (rw [if_pos (by decide +kernel)]; kernel_rfl) | (rw [if_neg (by decide +kernel)]; exact ⟨rfl, rfl⟩))
    (fun os started H enc _ => FnMergeFew_lifted os started H enc)
theorem FnMergeFew_card : Rows.FnMergeFewCardSaid :=
  Claim7.holds_tied_plain_at .later [] [.data, .pinned] true _ false FnMergeFew_holds (fun _ h => by cases h) (by kernel_rfl) (fun _ h => by cases h) fnMergeFew_row_tie rfl ⟨rfl, rfl⟩ (by kernel_rfl) rfl
    (fun f fn hf hfn => by
      obtain rfl : f = 4 := Option.some.inj ((show Tryz.prog.funcNamed "loop.example/pargeting/laws.FnMergeFew" = some 4 by kernel_rfl).symm.trans hf) |>.symm
      obtain rfl : fn = Tryz.f4 := (Option.some.inj (Tryz.func4.symm.trans hfn)).symm
      exact ⟨by kernel_rfl, fun j t ht => by
        have hm : t ∈ Tryz.f4.params.toList := by simpa using Array.mem_of_getElem? ht
        have hall : (Tryz.f4.params.toList.all fun u => !Tryz.prog.wantsStandIn u) = true := by kernel_rfl
        exact (show Tryz.prog.wantsStandIn t = false by simpa using List.all_eq_true.1 hall t hm)⟩)
    (by kernel_rfl)
end Go.Proofs.YtmnjlhjpeebfdaaGreatDoor
