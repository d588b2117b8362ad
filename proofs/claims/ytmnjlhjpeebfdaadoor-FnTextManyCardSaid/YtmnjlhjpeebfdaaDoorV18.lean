/- 'laws.FnTextMany' returns true whatever its arguments are, and leaves the arguments as they were; the package variables that the row lists hold what the program's text lays. -/
import Derived.Test.YtmnjlhjpeebfdaaDoorLt
import Derived.Test.YtmnjlhjpeebfdaaDoorLq
import Derived.Test.YtmnjlhjpeebfdaaDoorLv
set_option linter.unusedSimpArgs false
set_option linter.unusedVariables false
set_option maxHeartbeats 1000000
set_option maxRecDepth 100000
namespace Go.Proofs.YtmnjlhjpeebfdaaDoor
open Go Go.RowKit Go.Ab Go.Par
variable {m : Int}
theorem law_FnTextMany (l k : Bs) : Con (E m) 9 0 [.sl (bytesOf l), .sl (bytesOf k)] [] (.b true) [] := by
  have hbl : (bytesOf l).length = l.length := List.length_map ..
  have hbk : (bytesOf k).length = k.length := List.length_map ..
  by_cases hl : l.length ≤ 1048576
  · by_cases hk : k.length ≤ 1048576
    · have c0 := drawTreeText_con (m := m) l hl
      obtain ⟨h1, h2⟩ := drawTreeV_bd (m := m) l
      generalize drawTreeV m l = t at c0 h1 h2
      have c1 := drawLayerText_con (m := m) k hk
      obtain ⟨h3, h4⟩ := drawLayerV_bd (m := m) k
      generalize drawLayerV m k = u at c1 h3 h4
      have kt : ∀ e ∈ t, e.path.length ≤ 1073741824 ∧ e.data.length ≤ 1073741824 := fun e he => by have := h2 e he; omega
      have ku : ∀ e ∈ u, e.path.length ≤ 1073741823 ∧ e.data.length ≤ 1073741823 := fun e he => by have := h4 e he; omega
      have c2 := iTreeText_con (m := m) t kt
      have c3 := sTreeText_con (m := m) t kt (by omega)
      have c4 := iLayerText_con (m := m) u ku
      have c5 := sLayerText_con (m := m) u ku (by omega)
      have c6 := sTreeOk_con (m := m) t kt
      have c7 := sLayerOk_con (m := m) u (by omega) ku
      have s1 := treeText_len t
      have s2 := layerText_len u
      have s3 := nls_tree t
      have s4 := nls_layer u
      have e1 : (t.map Ent.c).length = t.length := List.length_map ..
      have e2 : (u.map Mrk.c).length = u.length := List.length_map ..
      generalize treeText t = x at c2 c3 s1 s3
      generalize layerText u = y at c4 c5 s2 s4
      refine con_of_cd tyOk mix Tryd.func9 rfl rfl rfl (Nat.le_of_ble_eq_true rfl) ?_
      repeat' first | refine Ra ⟨?_⟩ | ((first | refine Rc [] 0 rfl rfl (c0) ?_ | refine Rc [] 0 rfl rfl (c1) ?_ | refine Rc [] 0 rfl rfl (c2) ?_ | refine Rc [] 0 rfl rfl (c3) ?_ | refine Rc [] 0 rfl rfl (c4) ?_ | refine Rc [] 0 rfl rfl (c5) ?_ | (refine bd (fun h => ?_) (fun h => ?_) <;> (try simp only [List.length_map] at h)) | refine bsplit.mk (fun h => ?_) (fun h => ?_)) <;> conv => whnf) | refine Rb ⟨?_⟩ | fail
      refine Cd.loop2 (fun mq tm S nx => ∃ (i : Nat) (n : Nat), mq = (x.length - i) ∧ tm = [(5, .sl (t.map Ent.c)), (6, .sl (u.map Mrk.c)), (7, .s x), (8, .s y), (9, .k .i64 n), (10, .k .i64 i)] ∧ S = [] ∧ nx = 0 ∧ (i ≤ x.length) ∧ (n = nls (x.take i)) ∧ (n ≤ i)) ?_ ?_
      · refine la [5, 6, 7, 8, 9, 10] ?_
        conv => whnf
        refine ⟨rfl, rfl, _, 0, 0, rfl, rfl, rfl, rfl, by omega, by simp [nls], by omega⟩
      · rintro mq tm S nx ⟨i, n, hn, rfl, rfl, rfl, hi, ha, hb⟩
        by_cases hlt : i < x.length
        · have g1 : x[i]? = some x[i] := List.getElem?_eq_getElem hlt
          generalize x[i] = c at g1
          have g2 := nls_step g1
          by_cases hc : c = 10
          · have hc1 : (c.toNat : Int) = 10 := by rw [hc]; rfl
            rw [if_pos hc] at g2
            repeat' first | refine Ra ⟨?_⟩ | ((first | (refine bd (fun h => ?_) (fun h => ?_) <;> (try simp only [List.length_map] at h)) | refine bsplit.mk (fun h => ?_) (fun h => ?_)) <;> conv => whnf) | refine Rb ⟨?_⟩ | fail
            refine .here ⟨mq - 1, by omega, ?_⟩
            refine la [5, 6, 7, 8, 9, 10] ?_
            conv => whnf
            refine ⟨rfl, rfl, i + 1, n + 1, (by omega), rfl, rfl, rfl, by omega, by omega, by omega⟩
          · have hc1 : ¬ (c.toNat : Int) = 10 := fun h => hc (UInt8.toNat_inj.1 (Int.ofNat_inj.1 h))
            rw [if_neg hc] at g2
            repeat' first | refine Ra ⟨?_⟩ | ((first | (refine bd (fun h => ?_) (fun h => ?_) <;> (try simp only [List.length_map] at h)) | refine bsplit.mk (fun h => ?_) (fun h => ?_)) <;> conv => whnf) | refine Rb ⟨?_⟩ | fail
            refine .here ⟨mq - 1, by omega, ?_⟩
            refine la [5, 6, 7, 8, 9, 10] ?_
            conv => whnf
            refine ⟨rfl, rfl, i + 1, n, (by omega), rfl, rfl, rfl, by omega, by omega, by omega⟩
        · rw [List.take_of_length_le (by omega)] at ha
          repeat' first | refine Ra ⟨?_⟩ | ((first | (refine bd (fun h => ?_) (fun h => ?_) <;> (try simp only [List.length_map] at h)) | refine bsplit.mk (fun h => ?_) (fun h => ?_)) <;> conv => whnf) | refine Rb ⟨?_⟩ | fail
          refine Cd.loop2 (fun mq tm S nx => ∃ (j : Nat) (q : Nat), mq = (y.length - j) ∧ tm = [(5, .sl (t.map Ent.c)), (6, .sl (u.map Mrk.c)), (8, .s y), (9, .k .i64 n), (11, .k .i64 q), (12, .k .i64 j)] ∧ S = [] ∧ nx = 0 ∧ (j ≤ y.length) ∧ (q = nls (y.take j)) ∧ (q ≤ j)) ?_ ?_
          · refine la [5, 6, 8, 9, 11, 12] ?_
            conv => whnf
            refine ⟨rfl, rfl, _, 0, 0, rfl, rfl, rfl, rfl, by omega, by simp [nls], by omega⟩
          · rintro mq tm S nx ⟨j, q, hn, rfl, rfl, rfl, hj, hq, hd⟩
            by_cases hlt2 : j < y.length
            · have g1 : y[j]? = some y[j] := List.getElem?_eq_getElem hlt2
              generalize y[j] = c at g1
              have g2 := nls_step g1
              by_cases hc : c = 10
              · have hc1 : (c.toNat : Int) = 10 := by rw [hc]; rfl
                rw [if_pos hc] at g2
                repeat' first | refine Ra ⟨?_⟩ | ((first | (refine bd (fun h => ?_) (fun h => ?_) <;> (try simp only [List.length_map] at h)) | refine bsplit.mk (fun h => ?_) (fun h => ?_)) <;> conv => whnf) | refine Rb ⟨?_⟩ | fail
                refine .here ⟨mq - 1, by omega, ?_⟩
                refine la [5, 6, 8, 9, 11, 12] ?_
                conv => whnf
                refine ⟨rfl, rfl, j + 1, q + 1, (by omega), rfl, rfl, rfl, by omega, by omega, by omega⟩
              · have hc1 : ¬ (c.toNat : Int) = 10 := fun h => hc (UInt8.toNat_inj.1 (Int.ofNat_inj.1 h))
                rw [if_neg hc] at g2
                repeat' first | refine Ra ⟨?_⟩ | ((first | (refine bd (fun h => ?_) (fun h => ?_) <;> (try simp only [List.length_map] at h)) | refine bsplit.mk (fun h => ?_) (fun h => ?_)) <;> conv => whnf) | refine Rb ⟨?_⟩ | fail
                refine .here ⟨mq - 1, by omega, ?_⟩
                refine la [5, 6, 8, 9, 11, 12] ?_
                conv => whnf
                refine ⟨rfl, rfl, j + 1, q, (by omega), rfl, rfl, rfl, by omega, by omega, by omega⟩
            · rw [List.take_of_length_le (by omega)] at hq
              cases ok1 : treeOk t <;> cases ok2 : layerOk u
              all_goals
                rw [ok1] at c6 s3
                rw [ok2] at c7 s4
                simp only [if_true, Bool.false_eq_true, if_false] at s3 s4
                repeat' first | refine Ra ⟨?_⟩ | ((first | refine Rc [] 0 rfl rfl (c6) ?_ | refine Rc [] 0 rfl rfl (c7) ?_ | (refine bd (fun h => ?_) (fun h => ?_) <;> (try simp only [List.length_map] at h)) | refine bsplit.mk (fun h => ?_) (fun h => ?_)) <;> conv => whnf) | refine Rb ⟨?_⟩ | fail
                all_goals exact Rf
    · refine con_of_cd tyOk mix Tryd.func9 rfl rfl rfl (Nat.le_of_ble_eq_true rfl) ?_
      repeat' first | refine Ra ⟨?_⟩ | ((first | (refine bd (fun h => ?_) (fun h => ?_) <;> (try simp only [List.length_map] at h)) | refine bsplit.mk (fun h => ?_) (fun h => ?_)) <;> conv => whnf) | refine Rb ⟨?_⟩ | fail
      exact Rf
  · refine con_of_cd tyOk mix Tryd.func9 rfl rfl rfl (Nat.le_of_ble_eq_true rfl) ?_
    repeat' first | refine Ra ⟨?_⟩ | ((first | (refine bd (fun h => ?_) (fun h => ?_) <;> (try simp only [List.length_map] at h)) | refine bsplit.mk (fun h => ?_) (fun h => ?_)) <;> conv => whnf) | refine Rb ⟨?_⟩ | fail
    exact Rf
theorem FnTextMany_con (cds : List D) (h : ShpAll Tryd.prog Tryd.f9.params.toList cds) : Con (E m) 9 0 cds [] (.b true) [] := by
  rw [Tryd.params9] at h
  match cds, h with
  | [d1, d2], ⟨h1, h2, _⟩ =>
    obtain ⟨l, rfl⟩ := bytes_shp h1
    obtain ⟨k, rfl⟩ := bytes_shp h2
    exact law_FnTextMany l k
open Go.ChangeShapes Go.WideShapes Go.ChangeAt in
theorem FnTextMany_lifted (os : Os) (started : os.Started) (H : Type) (enc : TypeId × Value → H) :
    ReturnsInHanded {} Tryd.checked os 9 .any (fun w args => (Rows.fnTextManySpec.pre enc Tryd.prog Tryd.f9 Rows.fnTextManyRow.domain false w args ∧ laidMetH Tryd.prog Rows.fnTextManyRow.laid w) ∧ sizedMet enc Tryd.prog Tryd.f9 (OpenSpec.ofChange Rows.fnTextManySpec) false w args)
      (Rows.fnTextManySpec.post enc Tryd.prog Tryd.f9 false true false false) := by
  refine returns_laid (C := Tryd.checked) (X := fun w _ => laidMetH Tryd.prog Rows.fnTextManyRow.laid w) (fun _ _ _ hh h => h.of_heap hh) own0 started (by kernel_rfl) Tryd.func9
    (ChangeSpec.witness_shaped (enc := enc) (C := Tryd.checked) (os := os) (X := fun w _ => laidMetH Tryd.prog Rows.fnTextManyRow.laid w) false (World.laidAll Tryd.prog os Rows.fnTextManyRow.laid) #[.slice none 0 0, .slice none 0 0] 8 (World.laidAll_os _ _ _)
      (World.shaped_of_ZipB (by kernel_rfl) (by kernel_rfl)) (by kernel_rfl) (by kernel_rfl) (by kernel_rfl)
      (by rw [MakeChecks.laidMetH_plain _ _ _ (by kernel_rfl)]; exact laidMet_laidAll _ (by kernel_rfl) (by kernel_rfl))) ?_
  intro W base args ds gs before hval hW hsh _
  obtain ⟨m, hm⟩ := maxLen_shaped W hsh
  exact law_calls_gl (E := E m) (dp := 8) (bt := 4) laidOut0 (readB_mem (by kernel_rfl)) (by kernel_rfl) Tryd.underlying4 (by kernel_rfl) rfl (fun H ds hl => match ds, hl with
    | [d1, d2], _ => rfl) FnTextMany_con W (gl_m hm) base args ds gs before hval hW
theorem FnTextMany_holds : Rows.FnTextManySaid :=
  OpenClaim.holds_of_wide 9 Tryd.f9 rfl rfl rfl rfl rfl rfl rfl ⟨rfl, rfl, rfl, rfl, rfl⟩ rfl rfl rfl rfl rfl (by kernel_rfl) Tryd.func9 (by kernel_rfl)
    (of_decide_eq_true (by kernel_rfl)) (by unfold Func.isWrapper; first | (rw [if_pos (by decide +kernel)]; kernel_rfl) | (rw [if_neg (by decide +kernel)]; exact ⟨rfl, rfl⟩))
    (fun os started H enc _ => FnTextMany_lifted os started H enc)
theorem FnTextMany_card : Rows.FnTextManyCardSaid :=
  Claim7.holds_tied_plain_at .later [] [.data, .pinned] true _ false FnTextMany_holds (fun _ h => by cases h) (by kernel_rfl) (fun _ h => by cases h) fnTextMany_row_tie rfl ⟨rfl, rfl⟩ (by kernel_rfl) rfl
    (fun f fn hf hfn => by
      obtain rfl : f = 9 := Option.some.inj ((show Tryd.prog.funcNamed "loop.example/pargeting/laws.FnTextMany" = some 9 by kernel_rfl).symm.trans hf) |>.symm
      obtain rfl : fn = Tryd.f9 := (Option.some.inj (Tryd.func9.symm.trans hfn)).symm
      exact ⟨by kernel_rfl, fun j t ht => by
        have hm : t ∈ Tryd.f9.params.toList := by simpa using Array.mem_of_getElem? ht
        have hall : (Tryd.f9.params.toList.all fun u => !Tryd.prog.wantsStandIn u) = true := by kernel_rfl
        exact (show Tryd.prog.wantsStandIn t = false by simpa using List.all_eq_true.1 hall t hm)⟩)
    (by kernel_rfl)
end Go.Proofs.YtmnjlhjpeebfdaaDoor
