/- 'laws.FnMergeTurned' returns true whatever its arguments are, and leaves the arguments as they were; the package variables that the row lists hold what the program's text lays. -/
import Derived.Test.YtmnjlhjpeebfdaaGreatDoorLu
import Derived.Test.YtmnjlhjpeebfdaaGreatDoorLw
import Derived.Test.YtmnjlhjpeebfdaaGreatDoorLq
import Derived.Test.YtmnjlhjpeebfdaaGreatDoorLv
set_option linter.unusedSimpArgs false
set_option linter.unusedVariables false
set_option maxHeartbeats 1000000
set_option maxRecDepth 100000
namespace Go.Proofs.YtmnjlhjpeebfdaaGreatDoor
open Go Go.RowKit Go.Ab Go.Par
variable {m : Int}
theorem law_FnMergeTurned (l : Bs) : Con (E m) 8 0 [.sl (bytesOf l)] [] (.b true) [] := by
  have hbl : (bytesOf l).length = l.length := List.length_map ..
  by_cases hl : l.length ≤ 1048576
  · obtain ⟨t, a, b, ⟨ht, ha, hb⟩, c0⟩ := drawMerge_any (m := m) l hl
    have kt : ∀ e ∈ t, e.path.length ≤ 1073741824 ∧ e.data.length ≤ 1073741824 := fun e he => by have := ht.bnd e he; omega
    have ka : ∀ e ∈ a, e.path.length ≤ 1073741824 ∧ e.data.length ≤ 1073741824 := fun e he => by have := ha.bnd e he; omega
    have kb : ∀ e ∈ b, e.path.length ≤ 1073741824 ∧ e.data.length ≤ 1073741824 := fun e he => by have := hb.bnd e he; omega
    have ln1 := ht.len
    have ln2 := ha.len
    have ln3 := hb.len
    have e1 : (t.map Ent.c).length = t.length := List.length_map ..
    have e2 : (a.map Ent.c).length = a.length := List.length_map ..
    have e3 : (b.map Ent.c).length = b.length := List.length_map ..
    have c1 := iMerge_con (m := m) t a b kt ka kb
    have c2 := sMerge_con (m := m) t a b kt ka kb
    have same : ∀ (z : List Ent), z.length ≤ 1048576 → Con (E m) 18 0 [.sl (z.map Ent.c), .sl (z.map Ent.c)] [] (.b true) [] := fun z hz => by
      have := treeSame_con (m := m) z z hz hz
      rwa [decide_eq_true rfl] at this
    cases hR : mergeL t a b with
    | none =>
      rw [hR] at c1 c2
      have c3 := same [] (by simp)
      refine con_of_cd tyOk mix Tryz.func8 rfl rfl rfl (Nat.le_of_ble_eq_true rfl) ?_
      repeat' first | refine Ra ⟨?_⟩ | ((first | refine Rc [] 0 rfl rfl (c0) ?_ | refine Rc [] 1 rfl rfl (c1) ?_ | refine Rc [] 1 rfl rfl (c2) ?_ | refine Rc [] 0 rfl rfl (c3) ?_ | (refine bd (fun h => ?_) (fun h => ?_) <;> (try simp only [List.length_map] at h)) | refine bsplit.mk (fun h => ?_) (fun h => ?_)) <;> conv => whnf) | refine Rb ⟨?_⟩ | fail
      exact Rf
    | some X =>
      rw [hR] at c1 c2
      obtain ⟨h1, h2, h3, h4⟩ := merge_tree hR
      have hX := treeOk_len h4
      have c3 := same X (by omega)
      have c4 := iTurned_con (m := m) t X kt (bE h4)
      have c5 := iTurned_con (m := m) t a kt ka
      have c6 := iTurned_con (m := m) t b kt kb
      have hu := union_len (turned_sorted (a := t) (b := X)) (turned_sorted (a := t) (b := a)) (turned_sorted (a := t) (b := b)) (merge_turned hR)
      have hmt := merge_turned hR
      have l1 := turned_len t X
      have l2 := turned_len t a
      have l3 := turned_len t b
      generalize turnedL t X = L at c4 hu hmt l1
      generalize turnedL t a = P at c5 hu hmt l2
      generalize turnedL t b = Q at c6 hu hmt l3
      have e5 : (strs L).length = L.length := List.length_map ..
      have e6 : (strs P).length = P.length := List.length_map ..
      have e7 : (strs Q).length = Q.length := List.length_map ..
      refine con_of_cd tyOk mix Tryz.func8 rfl rfl rfl (Nat.le_of_ble_eq_true rfl) ?_
      repeat' first | refine Ra ⟨?_⟩ | ((first | refine Rc [] 0 rfl rfl (c0) ?_ | refine Rc [] 1 rfl rfl (c1) ?_ | refine Rc [] 1 rfl rfl (c2) ?_ | refine Rc [] 0 rfl rfl (c3) ?_ | refine Rc [] 1 rfl rfl (c4) ?_ | refine Rc [] 1 rfl rfl (c5) ?_ | refine Rc [] 1 rfl rfl (c6) ?_ | (refine bd (fun h => ?_) (fun h => ?_) <;> (try simp only [List.length_map] at h)) | refine bsplit.mk (fun h => ?_) (fun h => ?_)) <;> conv => whnf) | refine Rb ⟨?_⟩ | fail
      refine Cd.loop2 (fun mq tm S nx => ∃ (i : Nat), mq = (P.length - i) ∧ tm = [(10, .sl (strs L)), (11, .sl (strs P)), (12, .sl (strs Q)), (13, .k .i64 0), (14, .k .i64 i)] ∧ S = [] ∧ nx = 0 ∧ (i ≤ P.length)) ?_ ?_
      · refine li [10, 11, 12] [10, 11, 12, 13, 14] ?_
        conv => whnf
        refine ⟨rfl, rfl, _, 0, rfl, rfl, rfl, rfl, by omega⟩
      · rintro mq tm S nx ⟨i, hn, rfl, rfl, rfl, hi⟩
        by_cases hlt : i < P.length
        · have g1 : P[i]? = some P[i] := List.getElem?_eq_getElem hlt
          generalize P[i] = s at g1
          have c7 := wpIn_con (m := m) L s (by omega)
          rw [decide_eq_true ((hmt s).2 (.inl (List.mem_of_getElem? g1)))] at c7
          repeat' first | refine Ra ⟨?_⟩ | ((first | refine Rc [] 0 rfl rfl (c7) ?_ | (refine bd (fun h => ?_) (fun h => ?_) <;> (try simp only [List.length_map] at h)) | refine bsplit.mk (fun h => ?_) (fun h => ?_)) <;> conv => whnf) | refine Rb ⟨?_⟩ | fail
          refine .here ⟨mq - 1, by omega, ?_⟩
          refine la [10, 11, 12, 13, 14] ?_
          conv => whnf
          refine ⟨rfl, rfl, i + 1, (by omega), rfl, rfl, rfl, by omega⟩
        · repeat' first | refine Ra ⟨?_⟩ | ((first | (refine bd (fun h => ?_) (fun h => ?_) <;> (try simp only [List.length_map] at h)) | refine bsplit.mk (fun h => ?_) (fun h => ?_)) <;> conv => whnf) | refine Rb ⟨?_⟩ | fail
          refine Cd.loop2 (fun mq tm S nx => ∃ (j : Nat) (n : Nat), mq = (Q.length - j) ∧ tm = [(10, .sl (strs L)), (11, .sl (strs P)), (12, .sl (strs Q)), (13, .k .i64 n), (15, .k .i64 j)] ∧ S = [] ∧ nx = 0 ∧ (j ≤ Q.length) ∧ (n = ((Q.take j).filter fun x => decide (x ∈ P)).length) ∧ (n ≤ j)) ?_ ?_
          · refine la [10, 11, 12, 13, 15] ?_
            conv => whnf
            refine ⟨rfl, rfl, _, 0, 0, rfl, rfl, rfl, rfl, by omega, by simp, by omega⟩
          · rintro mq tm S nx ⟨j, n, hn, rfl, rfl, rfl, hj, hcnt, hnj⟩
            by_cases hlt2 : j < Q.length
            · have g1 : Q[j]? = some Q[j] := List.getElem?_eq_getElem hlt2
              generalize Q[j] = s at g1
              have c7 := wpIn_con (m := m) L s (by omega)
              rw [decide_eq_true ((hmt s).2 (.inr (List.mem_of_getElem? g1)))] at c7
              have c8 := wpIn_con (m := m) P s (by omega)
              have g2 := filter_step (fun x => decide (x ∈ P)) g1
              by_cases hs : s ∈ P
              · rw [decide_eq_true hs] at c8 g2
                repeat' first | refine Ra ⟨?_⟩ | ((first | refine Rc [] 0 rfl rfl (c7) ?_ | refine Rc [] 0 rfl rfl (c8) ?_ | (refine bd (fun h => ?_) (fun h => ?_) <;> (try simp only [List.length_map] at h)) | refine bsplit.mk (fun h => ?_) (fun h => ?_)) <;> conv => whnf) | refine Rb ⟨?_⟩ | fail
                refine .here ⟨mq - 1, by omega, ?_⟩
                refine la [10, 11, 12, 13, 15] ?_
                conv => whnf
                refine ⟨rfl, rfl, j + 1, n + 1, (by omega), rfl, rfl, rfl, by omega, (by rw [g2]; simp; omega), by omega⟩
              · rw [decide_eq_false hs] at c8 g2
                repeat' first | refine Ra ⟨?_⟩ | ((first | refine Rc [] 0 rfl rfl (c7) ?_ | refine Rc [] 0 rfl rfl (c8) ?_ | (refine bd (fun h => ?_) (fun h => ?_) <;> (try simp only [List.length_map] at h)) | refine bsplit.mk (fun h => ?_) (fun h => ?_)) <;> conv => whnf) | refine Rb ⟨?_⟩ | fail
                refine .here ⟨mq - 1, by omega, ?_⟩
                refine la [10, 11, 12, 13, 15] ?_
                conv => whnf
                refine ⟨rfl, rfl, j + 1, n, (by omega), rfl, rfl, rfl, by omega, (by rw [g2]; simp; omega), by omega⟩
            · rw [List.take_of_length_le (by omega)] at hcnt
              rw [← hcnt] at hu
              repeat' first | refine Ra ⟨?_⟩ | ((first | (refine bd (fun h => ?_) (fun h => ?_) <;> (try simp only [List.length_map] at h)) | refine bsplit.mk (fun h => ?_) (fun h => ?_)) <;> conv => whnf) | refine Rb ⟨?_⟩ | fail
              exact Rf
  · refine con_of_cd tyOk mix Tryz.func8 rfl rfl rfl (Nat.le_of_ble_eq_true rfl) ?_
    repeat' first | refine Ra ⟨?_⟩ | ((first | (refine bd (fun h => ?_) (fun h => ?_) <;> (try simp only [List.length_map] at h)) | refine bsplit.mk (fun h => ?_) (fun h => ?_)) <;> conv => whnf) | refine Rb ⟨?_⟩ | fail
    exact Rf
theorem FnMergeTurned_con (cds : List D) (h : ShpAll Tryz.prog Tryz.f8.params.toList cds) : Con (E m) 8 0 cds [] (.b true) [] := by
  rw [Tryz.params8] at h
  match cds, h with
  | [d1], ⟨h1, _⟩ =>
    obtain ⟨l, rfl⟩ := bytes_shp h1
    exact law_FnMergeTurned l
open Go.ChangeShapes Go.WideShapes Go.ChangeAt in
theorem FnMergeTurned_lifted (os : Os) (started : os.Started) (H : Type) (enc : TypeId × Value → H) :
    ReturnsInHanded {} Tryz.checked os 8 .any (fun w args => (Rows.fnMergeTurnedSpec.pre enc Tryz.prog Tryz.f8 Rows.fnMergeTurnedRow.domain false w args ∧ laidMetH Tryz.prog Rows.fnMergeTurnedRow.laid w) ∧ sizedMet enc Tryz.prog Tryz.f8 (OpenSpec.ofChange Rows.fnMergeTurnedSpec) false w args)
      (Rows.fnMergeTurnedSpec.post enc Tryz.prog Tryz.f8 false true false false) := by
  refine returns_laid (C := Tryz.checked) (X := fun w _ => laidMetH Tryz.prog Rows.fnMergeTurnedRow.laid w) (fun _ _ _ hh h => h.of_heap hh) own0 started (by kernel_rfl) Tryz.func8
    (ChangeSpec.witness_shaped (enc := enc) (C := Tryz.checked) (os := os) (X := fun w _ => laidMetH Tryz.prog Rows.fnMergeTurnedRow.laid w) false (World.laidAll Tryz.prog os Rows.fnMergeTurnedRow.laid) #[.slice none 0 0] 8 (World.laidAll_os _ _ _)
      (World.shaped_of_ZipB (by kernel_rfl) (by kernel_rfl)) (by kernel_rfl) (by kernel_rfl) (by kernel_rfl)
      (by rw [MakeChecks.laidMetH_plain _ _ _ (by kernel_rfl)]; exact laidMet_laidAll _ (by kernel_rfl) (by kernel_rfl))) ?_
  intro W base args ds gs before hval hW hsh _
  obtain ⟨m, hm⟩ := maxLen_shaped W hsh
  exact law_calls_gl (E := E m) (dp := 8) (bt := 4) laidOut0 (readB_mem (by kernel_rfl)) (by kernel_rfl) Tryz.underlying4 (by kernel_rfl) rfl (fun H ds hl => match ds, hl with
    | [d1], _ => rfl) FnMergeTurned_con W (gl_m hm) base args ds gs before hval hW
theorem FnMergeTurned_holds : Rows.FnMergeTurnedSaid :=
  OpenClaim.holds_of_wide 8 Tryz.f8 rfl rfl rfl rfl rfl rfl rfl ⟨rfl, rfl, rfl, rfl, rfl⟩ rfl rfl rfl rfl rfl (by kernel_rfl) Tryz.func8 (by kernel_rfl)
    (of_decide_eq_true (by kernel_rfl)) (by unfold Func.isWrapper; first | (rw [if_pos (by decide +kernel)]; kernel_rfl) | (rw [if_neg (by decide +kernel)]; exact ⟨rfl, rfl⟩))
    (fun os started H enc _ => FnMergeTurned_lifted os started H enc)
theorem FnMergeTurned_card : Rows.FnMergeTurnedCardSaid :=
  Claim7.holds_tied_plain_at .later [] [.data, .pinned] true _ false FnMergeTurned_holds (fun _ h => by cases h) (by kernel_rfl) (fun _ h => by cases h) fnMergeTurned_row_tie rfl ⟨rfl, rfl⟩ (by kernel_rfl) rfl
    (fun f fn hf hfn => by
      obtain rfl : f = 8 := Option.some.inj ((show Tryz.prog.funcNamed "loop.example/pargeting/laws.FnMergeTurned" = some 8 by kernel_rfl).symm.trans hf) |>.symm
      obtain rfl : fn = Tryz.f8 := (Option.some.inj (Tryz.func8.symm.trans hfn)).symm
      exact ⟨by kernel_rfl, fun j t ht => by
        have hm : t ∈ Tryz.f8.params.toList := by simpa using Array.mem_of_getElem? ht
        have hall : (Tryz.f8.params.toList.all fun u => !Tryz.prog.wantsStandIn u) = true := by kernel_rfl
        exact (show Tryz.prog.wantsStandIn t = false by simpa using List.all_eq_true.1 hall t hm)⟩)
    (by kernel_rfl)
end Go.Proofs.YtmnjlhjpeebfdaaGreatDoor
