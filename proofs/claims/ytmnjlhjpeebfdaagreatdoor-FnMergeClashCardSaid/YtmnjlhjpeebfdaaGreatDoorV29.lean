/- 'laws.FnMergeClash' returns true whatever its arguments are, and leaves the arguments as they were; the package variables that the row lists hold what the program's text lays. -/
import Derived.Test.YtmnjlhjpeebfdaaGreatDoorLu
import Derived.Test.YtmnjlhjpeebfdaaGreatDoorLw
import Derived.Test.YtmnjlhjpeebfdaaGreatDoorLq
import Derived.Test.YtmnjlhjpeebfdaaGreatDoorLv
set_option linter.unusedSimpArgs false
set_option linter.unusedVariables false
set_option maxHeartbeats 1000000
set_option maxRecDepth 100000
namespace Go.Proofs.YtmnjlhjpeebfdaaGreatDoor
open Go Go.RowKit Go.Ab Go.Par
variable {m : Int}
theorem law_FnMergeClash (l : Bs) : Con (E m) 10 0 [.sl (bytesOf l)] [] (.b true) [] := by
  have hbl : (bytesOf l).length = l.length := List.length_map ..
  by_cases hl : l.length ≤ 1048576
  · obtain ⟨t, a, b, ⟨ht, ha, hb⟩, c0⟩ := drawMergeClash_any (m := m) l hl
    have kt : ∀ e ∈ t, e.path.length ≤ 1073741824 ∧ e.data.length ≤ 1073741824 := fun e he => by have := ht.bnd e he; omega
    have ka : ∀ e ∈ a, e.path.length ≤ 1073741824 ∧ e.data.length ≤ 1073741824 := fun e he => by have := ha.bnd e he; omega
    have kb : ∀ e ∈ b, e.path.length ≤ 1073741824 ∧ e.data.length ≤ 1073741824 := fun e he => by have := hb.bnd e he; omega
    have ln1 := ht.len
    have ln2 := ha.len
    have ln3 := hb.len
    have e1 : (t.map Ent.c).length = t.length := List.length_map ..
    have e2 : (a.map Ent.c).length = a.length := List.length_map ..
    have e3 : (b.map Ent.c).length = b.length := List.length_map ..
    have c1 := iMerge_con (m := m) t a b kt ka kb
    have c2 := sMerge_con (m := m) t a b kt ka kb
    have same : ∀ (z : List Ent), z.length ≤ 1048576 → Con (E m) 18 0 [.sl (z.map Ent.c), .sl (z.map Ent.c)] [] (.b true) [] := fun z hz => by
      have := treeSame_con (m := m) z z hz hz
      rwa [decide_eq_true rfl] at this
    have c3 := iClash_con (m := m) t a b kt ka kb
    have c4 := sClash_con (m := m) t a b kt ka kb
    have hcl := clash_len t a b
    have c5 := wpWords_con (m := m) (clashL t a b) (clashL t a b) (by omega) (by omega)
    rw [decide_eq_true (rfl : clashL t a b = clashL t a b)] at c5
    have d1 := sTreeOk_con (m := m) t kt
    have d2 := sTreeOk_con (m := m) a ka
    have d3 := sTreeOk_con (m := m) b kb
    rcases right_cases t a b with hr | ⟨hr, hc⟩
    · obtain ⟨h1, h2, h3⟩ := right3_iff.1 hr
      rw [h1] at d1
      rw [h2] at d2
      rw [h3] at d3
      have c6 := iTurned_con (m := m) t a kt ka
      have c7 := iTurned_con (m := m) t b kt kb
      have c8 := iTurned_con (m := m) a b ka kb
      have hct := clash_turned hr
      have hcm := clash_merge (t := t) (a := a) (b := b)
      have l1 := turned_len t a
      have l2 := turned_len t b
      have l3 := turned_len a b
      have hno : (mergeL t a b).isSome = true → clashL t a b = [] := fun h => by
        cases hq : clashL t a b with
        | nil => rfl
        | cons x q => rw [hcm (by rw [hq]; simp)] at h; cases h
      generalize (mergeL t a b).isSome = ok at c1 hno
      generalize (mergeL t a b).getD [] = X at c1
      generalize clashL t a b = C at c3 c4 c5 hcl hct hno
      generalize turnedL t a = P at c6 hct l1
      generalize turnedL t b = Q at c7 hct l2
      generalize turnedL a b = U at c8 hct l3
      have e5 : (strs C).length = C.length := List.length_map ..
      have e6 : (strs P).length = P.length := List.length_map ..
      have e7 : (strs Q).length = Q.length := List.length_map ..
      have e8 : (strs U).length = U.length := List.length_map ..
      refine con_of_cd tyOk mix Tryz.func10 rfl rfl rfl (Nat.le_of_ble_eq_true rfl) ?_
      repeat' first | refine Ra ⟨?_⟩ | ((first | refine Rc [] 0 rfl rfl (c0) ?_ | refine Rc [] 1 rfl rfl (c1) ?_ | refine Rc [] 1 rfl rfl (c3) ?_ | refine Rc [] 1 rfl rfl (c4) ?_ | refine Rc [] 0 rfl rfl (c5) ?_ | refine Rc [] 0 rfl rfl (d1) ?_ | refine Rc [] 0 rfl rfl (d2) ?_ | refine Rc [] 0 rfl rfl (d3) ?_ | refine Rc [] 1 rfl rfl (c6) ?_ | refine Rc [] 1 rfl rfl (c7) ?_ | refine Rc [] 1 rfl rfl (c8) ?_ | (refine bd (fun h => ?_) (fun h => ?_) <;> (try simp only [List.length_map] at h)) | refine bsplit.mk (fun h => ?_) (fun h => ?_)) <;> conv => whnf) | refine Rb ⟨?_⟩ | fail
      refine Cd.loop2 (fun mq tm S nx => ∃ (i : Nat) (n : Nat), mq = (U.length - i) ∧ tm = [(6, .sl (strs C)), (8, .b ok), (9, .sl (strs P)), (10, .sl (strs Q)), (11, .sl (strs U)), (12, .k .i64 n), (13, .k .i64 i)] ∧ S = [] ∧ nx = 0 ∧ (i ≤ U.length) ∧ (n = ((U.take i).filter fun d => decide (d ∈ P) && decide (d ∈ Q)).length) ∧ (n ≤ i)) ?_ ?_
      · refine li [6, 9, 10, 11] [6, 8, 9, 10, 11, 12, 13] ?_
        conv => whnf
        refine ⟨rfl, rfl, _, 0, 0, rfl, rfl, rfl, rfl, by omega, by simp, by omega⟩
      · rintro mq tm S nx ⟨i, n, hn, rfl, rfl, rfl, hi, hcnt, hni⟩
        by_cases hlt : i < U.length
        · have g1 : U[i]? = some U[i] := List.getElem?_eq_getElem hlt
          generalize U[i] = s at g1
          have k1 := wpIn_con (m := m) P s (by omega)
          have k2 := wpIn_con (m := m) Q s (by omega)
          have k3 := wpIn_con (m := m) C s (by omega)
          have g2 := filter_step (fun d => decide (d ∈ P) && decide (d ∈ Q)) g1
          by_cases s1 : s ∈ P
          · rw [decide_eq_true s1] at k1
            by_cases s2 : s ∈ Q
            · rw [decide_eq_true s2] at k2
              have s3 : s ∈ C := by
                rw [← hct, List.mem_filter]
                exact ⟨List.mem_of_getElem? g1, by simp [s1, s2]⟩
              rw [decide_eq_true s3] at k3
              repeat' first | refine Ra ⟨?_⟩ | ((first | refine Rc [] 0 rfl rfl (k1) ?_ | refine Rc [] 0 rfl rfl (k2) ?_ | refine Rc [] 0 rfl rfl (k3) ?_ | (refine bd (fun h => ?_) (fun h => ?_) <;> (try simp only [List.length_map] at h)) | refine bsplit.mk (fun h => ?_) (fun h => ?_)) <;> conv => whnf) | refine Rb ⟨?_⟩ | fail
              refine .here ⟨mq - 1, by omega, ?_⟩
              refine la [6, 8, 9, 10, 11, 12, 13] ?_
              conv => whnf
              refine ⟨rfl, rfl, i + 1, n + 1, (by omega), rfl, rfl, rfl, by omega, (by rw [g2]; simp [s1, s2]; omega), by omega⟩
            · rw [decide_eq_false s2] at k2
              repeat' first | refine Ra ⟨?_⟩ | ((first | refine Rc [] 0 rfl rfl (k1) ?_ | refine Rc [] 0 rfl rfl (k2) ?_ | (refine bd (fun h => ?_) (fun h => ?_) <;> (try simp only [List.length_map] at h)) | refine bsplit.mk (fun h => ?_) (fun h => ?_)) <;> conv => whnf) | refine Rb ⟨?_⟩ | fail
              refine .here ⟨mq - 1, by omega, ?_⟩
              refine la [6, 8, 9, 10, 11, 12, 13] ?_
              conv => whnf
              refine ⟨rfl, rfl, i + 1, n, (by omega), rfl, rfl, rfl, by omega, (by rw [g2]; simp [s2]; omega), by omega⟩
          · rw [decide_eq_false s1] at k1
            repeat' first | refine Ra ⟨?_⟩ | ((first | refine Rc [] 0 rfl rfl (k1) ?_ | (refine bd (fun h => ?_) (fun h => ?_) <;> (try simp only [List.length_map] at h)) | refine bsplit.mk (fun h => ?_) (fun h => ?_)) <;> conv => whnf) | refine Rb ⟨?_⟩ | fail
            refine .here ⟨mq - 1, by omega, ?_⟩
            refine la [6, 8, 9, 10, 11, 12, 13] ?_
            conv => whnf
            refine ⟨rfl, rfl, i + 1, n, (by omega), rfl, rfl, rfl, by omega, (by rw [g2]; simp [s1]; omega), by omega⟩
        · rw [List.take_of_length_le (by omega), hct] at hcnt
          cases ok with
          | false =>
            repeat' first | refine Ra ⟨?_⟩ | ((first | (refine bd (fun h => ?_) (fun h => ?_) <;> (try simp only [List.length_map] at h)) | refine bsplit.mk (fun h => ?_) (fun h => ?_)) <;> conv => whnf) | refine Rb ⟨?_⟩ | fail
            all_goals exact Rf
          | true =>
            have hC := hno rfl
            have hn0 : n = 0 := by rw [hcnt, hC]; rfl
            have hC0 : C.length = 0 := by rw [hC]; rfl
            repeat' first | refine Ra ⟨?_⟩ | ((first | (refine bd (fun h => ?_) (fun h => ?_) <;> (try simp only [List.length_map] at h)) | refine bsplit.mk (fun h => ?_) (fun h => ?_)) <;> conv => whnf) | refine Rb ⟨?_⟩ | fail
            exact Rf
    · have hC : clashL t a b = [] := by rw [clashL, hr]; rfl
      have hM := merge_wrong hr
      rw [hC] at c3 c4 c5
      rw [hM] at c1
      rcases hc with h1 | ⟨h1, h2⟩ | ⟨h1, h2, h3⟩
      · rw [h1] at d1
        refine con_of_cd tyOk mix Tryz.func10 rfl rfl rfl (Nat.le_of_ble_eq_true rfl) ?_
        repeat' first | refine Ra ⟨?_⟩ | ((first | refine Rc [] 0 rfl rfl (c0) ?_ | refine Rc [] 1 rfl rfl (c1) ?_ | refine Rc [] 1 rfl rfl (c3) ?_ | refine Rc [] 1 rfl rfl (c4) ?_ | refine Rc [] 0 rfl rfl (c5) ?_ | refine Rc [] 0 rfl rfl (d1) ?_ | (refine bd (fun h => ?_) (fun h => ?_) <;> (try simp only [List.length_map] at h)) | refine bsplit.mk (fun h => ?_) (fun h => ?_)) <;> conv => whnf) | refine Rb ⟨?_⟩ | fail
        exact Rf
      · rw [h1] at d1
        rw [h2] at d2
        refine con_of_cd tyOk mix Tryz.func10 rfl rfl rfl (Nat.le_of_ble_eq_true rfl) ?_
        repeat' first | refine Ra ⟨?_⟩ | ((first | refine Rc [] 0 rfl rfl (c0) ?_ | refine Rc [] 1 rfl rfl (c1) ?_ | refine Rc [] 1 rfl rfl (c3) ?_ | refine Rc [] 1 rfl rfl (c4) ?_ | refine Rc [] 0 rfl rfl (c5) ?_ | refine Rc [] 0 rfl rfl (d1) ?_ | refine Rc [] 0 rfl rfl (d2) ?_ | (refine bd (fun h => ?_) (fun h => ?_) <;> (try simp only [List.length_map] at h)) | refine bsplit.mk (fun h => ?_) (fun h => ?_)) <;> conv => whnf) | refine Rb ⟨?_⟩ | fail
        exact Rf
      · rw [h1] at d1
        rw [h2] at d2
        rw [h3] at d3
        refine con_of_cd tyOk mix Tryz.func10 rfl rfl rfl (Nat.le_of_ble_eq_true rfl) ?_
        repeat' first | refine Ra ⟨?_⟩ | ((first | refine Rc [] 0 rfl rfl (c0) ?_ | refine Rc [] 1 rfl rfl (c1) ?_ | refine Rc [] 1 rfl rfl (c3) ?_ | refine Rc [] 1 rfl rfl (c4) ?_ | refine Rc [] 0 rfl rfl (c5) ?_ | refine Rc [] 0 rfl rfl (d1) ?_ | refine Rc [] 0 rfl rfl (d2) ?_ | refine Rc [] 0 rfl rfl (d3) ?_ | (refine bd (fun h => ?_) (fun h => ?_) <;> (try simp only [List.length_map] at h)) | refine bsplit.mk (fun h => ?_) (fun h => ?_)) <;> conv => whnf) | refine Rb ⟨?_⟩ | fail
        exact Rf
  · refine con_of_cd tyOk mix Tryz.func10 rfl rfl rfl (Nat.le_of_ble_eq_true rfl) ?_
    repeat' first | refine Ra ⟨?_⟩ | ((first | (refine bd (fun h => ?_) (fun h => ?_) <;> (try simp only [List.length_map] at h)) | refine bsplit.mk (fun h => ?_) (fun h => ?_)) <;> conv => whnf) | refine Rb ⟨?_⟩ | fail
    exact Rf
theorem FnMergeClash_con (cds : List D) (h : ShpAll Tryz.prog Tryz.f10.params.toList cds) : Con (E m) 10 0 cds [] (.b true) [] := by
  rw [Tryz.params10] at h
  match cds, h with
  | [d1], ⟨h1, _⟩ =>
    obtain ⟨l, rfl⟩ := bytes_shp h1
    exact law_FnMergeClash l
open Go.ChangeShapes Go.WideShapes Go.ChangeAt in
theorem FnMergeClash_lifted (os : Os) (started : os.Started) (H : Type) (enc : TypeId × Value → H) :
    ReturnsInHanded {} Tryz.checked os 10 .any (fun w args => (Rows.fnMergeClashSpec.pre enc Tryz.prog Tryz.f10 Rows.fnMergeClashRow.domain false w args ∧ laidMetH Tryz.prog Rows.fnMergeClashRow.laid w) ∧ sizedMet enc Tryz.prog Tryz.f10 (OpenSpec.ofChange Rows.fnMergeClashSpec) false w args)
      (Rows.fnMergeClashSpec.post enc Tryz.prog Tryz.f10 false true false false) := by
  refine returns_laid (C := Tryz.checked) (X := fun w _ => laidMetH Tryz.prog Rows.fnMergeClashRow.laid w) (fun _ _ _ hh h => h.of_heap hh) own0 started (by kernel_rfl) Tryz.func10
    (ChangeSpec.witness_shaped (enc := enc) (C := Tryz.checked) (os := os) (X := fun w _ => laidMetH Tryz.prog Rows.fnMergeClashRow.laid w) false (World.laidAll Tryz.prog os Rows.fnMergeClashRow.laid) #[.slice none 0 0] 8 (World.laidAll_os _ _ _)
      (World.shaped_of_ZipB (by kernel_rfl) (by kernel_rfl)) (by kernel_rfl) (by kernel_rfl) (by kernel_rfl)
      (by rw [MakeChecks.laidMetH_plain _ _ _ (by kernel_rfl)]; exact laidMet_laidAll _ (by kernel_rfl) (by kernel_rfl))) ?_
  intro W base args ds gs before hval hW hsh _
  obtain ⟨m, hm⟩ := maxLen_shaped W hsh
  exact law_calls_gl (E := E m) (dp := 8) (bt := 4) laidOut0 (readB_mem (by kernel_rfl)) (by kernel_rfl) Tryz.underlying4 (by kernel_rfl) rfl (fun H ds hl => match ds, hl with
    | [d1], _ => rfl) FnMergeClash_con W (gl_m hm) base args ds gs before hval hW
theorem FnMergeClash_holds : Rows.FnMergeClashSaid :=
  OpenClaim.holds_of_wide 10 Tryz.f10 rfl rfl rfl rfl rfl rfl rfl ⟨rfl, rfl, rfl, rfl, rfl⟩ rfl rfl rfl rfl rfl (by kernel_rfl) Tryz.func10 (by kernel_rfl)
    (of_decide_eq_true (by kernel_rfl)) (by unfold Func.isWrapper; first | (rw [if_pos (by decide +kernel)]; kernel_rfl) | (rw [if_neg (by decide +kernel)]; exact ⟨rfl, rfl⟩))
    (fun os started H enc _ => FnMergeClash_lifted os started H enc)
theorem FnMergeClash_card : Rows.FnMergeClashCardSaid :=
  Claim7.holds_tied_plain_at .later [] [.data, .pinned] true _ false FnMergeClash_holds (fun _ h => by cases h) (by kernel_rfl) (fun _ h => by cases h) fnMergeClash_row_tie rfl ⟨rfl, rfl⟩ (by kernel_rfl) rfl
    (fun f fn hf hfn => by
      obtain rfl : f = 10 := Option.some.inj ((show Tryz.prog.funcNamed "loop.example/pargeting/laws.FnMergeClash" = some 10 by kernel_rfl).symm.trans hf) |>.symm
      obtain rfl : fn = Tryz.f10 := (Option.some.inj (Tryz.func10.symm.trans hfn)).symm
      exact ⟨by kernel_rfl, fun j t ht => by
        have hm : t ∈ Tryz.f10.params.toList := by simpa using Array.mem_of_getElem? ht
        have hall : (Tryz.f10.params.toList.all fun u => !Tryz.prog.wantsStandIn u) = true := by kernel_rfl
        exact (show Tryz.prog.wantsStandIn t = false by simpa using List.all_eq_true.1 hall t hm)⟩)
    (by kernel_rfl)
end Go.Proofs.YtmnjlhjpeebfdaaGreatDoor
