/- 'laws.FnTextCut' returns true whatever its arguments are, and leaves the arguments as they were; the package variables that the row lists hold what the program's text lays. -/
import Derived.Test.YtmnjlhjpeebfdaaGreatDoorLt
import Derived.Test.YtmnjlhjpeebfdaaGreatDoorLw
import Derived.Test.YtmnjlhjpeebfdaaGreatDoorLq
import Derived.Test.YtmnjlhjpeebfdaaGreatDoorLv
set_option linter.unusedSimpArgs false
set_option linter.unusedVariables false
set_option maxHeartbeats 1000000
set_option maxRecDepth 100000
namespace Go.Proofs.YtmnjlhjpeebfdaaGreatDoor
open Go Go.RowKit Go.Ab Go.Par
variable {m : Int}
theorem law_FnTextCut (l k : Bs) : Con (E m) 3 0 [.sl (bytesOf l), .sl (bytesOf k)] [] (.b true) [] := by
  have hbl : (bytesOf l).length = l.length := List.length_map ..
  have hbk : (bytesOf k).length = k.length := List.length_map ..
  by_cases hl : l.length ≤ 1048576
  · by_cases hk : k.length ≤ 1048576
    · have c0 := drawTreeText_con (m := m) l hl
      obtain ⟨h1, h2⟩ := drawTreeV_bd (m := m) l
      generalize drawTreeV m l = t at c0 h1 h2
      have c1 := drawLayerText_con (m := m) k hk
      obtain ⟨h3, h4⟩ := drawLayerV_bd (m := m) k
      generalize drawLayerV m k = u at c1 h3 h4
      have kt : ∀ e ∈ t, e.path.length ≤ 1073741824 ∧ e.data.length ≤ 1073741824 := fun e he => by have := h2 e he; omega
      have ku : ∀ e ∈ u, e.path.length ≤ 1073741823 ∧ e.data.length ≤ 1073741823 := fun e he => by have := h4 e he; omega
      have c2 := iTreeText_con (m := m) t kt
      have c3 := sTreeText_con (m := m) t kt (by omega)
      have c4 := iLayerText_con (m := m) u ku
      have c5 := sLayerText_con (m := m) u ku (by omega)
      have s1 := treeText_len t
      have s2 := layerText_len u
      have s3 := fun i => treeText_cut (t := t) (i := i)
      have s4 := fun i => layerText_cut (t := u) (i := i)
      have e1 : (t.map Ent.c).length = t.length := List.length_map ..
      have e2 : (u.map Mrk.c).length = u.length := List.length_map ..
      generalize treeText t = x at c2 c3 s1 s3
      generalize layerText u = y at c4 c5 s2 s4
      refine con_of_cd tyOk mix Tryz.func3 rfl rfl rfl (Nat.le_of_ble_eq_true rfl) ?_
      repeat' first | refine Ra ⟨?_⟩ | ((first | refine Rc [] 0 rfl rfl (c0) ?_ | refine Rc [] 0 rfl rfl (c1) ?_ | refine Rc [] 0 rfl rfl (c2) ?_ | refine Rc [] 0 rfl rfl (c3) ?_ | refine Rc [] 0 rfl rfl (c4) ?_ | refine Rc [] 0 rfl rfl (c5) ?_ | (refine bd (fun h => ?_) (fun h => ?_) <;> (try simp only [List.length_map] at h)) | refine bsplit.mk (fun h => ?_) (fun h => ?_)) <;> conv => whnf) | refine Rb ⟨?_⟩ | fail
      refine Cd.loop2 (fun mq tm S nx => ∃ (i : Nat), mq = (x.length - i) ∧ tm = [(5, .sl (t.map Ent.c)), (6, .sl (u.map Mrk.c)), (7, .s x), (8, .s y), (9, .k .i64 i)] ∧ S = [] ∧ nx = 0 ∧ (i ≤ x.length)) ?_ ?_
      · refine la [5, 6, 7, 8, 9] ?_
        conv => whnf
        refine ⟨rfl, rfl, _, 0, rfl, rfl, rfl, rfl, by omega⟩
      · rintro mq tm S nx ⟨i, hn, rfl, rfl, rfl, hi⟩
        by_cases hlt : i < x.length
        · have g1 : x[i]? = some x[i] := List.getElem?_eq_getElem hlt
          generalize x[i] = c at g1
          by_cases hc : c = 10
          · have hc1 : (c.toNat : Int) = 10 := by rw [hc]; rfl
            rw [hc] at g1
            obtain ⟨n, q1, q2⟩ := s3 i g1
            have c6 := iTreeRead_con (m := m) (x.take (i + 1)) (by rw [List.length_take]; omega)
            rw [treeRead_eq, q2] at c6
            simp only [Option.getD_some, Option.isSome_some] at c6
            have hz : (t.take n).length = n := by rw [List.length_take]; omega
            have hz2 : (t.map Ent.c).take (((t.take n).map Ent.c).length) = (t.take n).map Ent.c := by rw [List.length_map, hz, List.map_take]
            generalize t.take n = z at c6 hz hz2
            have e3 : (z.map Ent.c).length = z.length := List.length_map ..
            have c7 : Con (E m) 18 0 [.sl (z.map Ent.c), .sl ((t.map Ent.c).take ((z.map Ent.c).length))] [] (.b true) [] := by
              rw [hz2]
              have := treeSame_con (m := m) z z (by omega) (by omega)
              rwa [decide_eq_true rfl] at this
            rw [hc] at *
            repeat' first | refine Ra ⟨?_⟩ | ((first | refine Rc [] 1 rfl rfl (c6) ?_ | refine Rc [] 0 rfl rfl (c7) ?_ | (refine bd (fun h => ?_) (fun h => ?_) <;> (try simp only [List.length_map] at h)) | refine bsplit.mk (fun h => ?_) (fun h => ?_)) <;> conv => whnf) | refine Rb ⟨?_⟩ | fail
            refine .here ⟨mq - 1, by omega, ?_⟩
            refine la [5, 6, 7, 8, 9] ?_
            conv => whnf
            refine ⟨rfl, rfl, i + 1, (by omega), rfl, rfl, rfl, by omega⟩
          · have hc1 : ¬ (c.toNat : Int) = 10 := fun h => hc (UInt8.toNat_inj.1 (Int.ofNat_inj.1 h))
            repeat' first | refine Ra ⟨?_⟩ | ((first | (refine bd (fun h => ?_) (fun h => ?_) <;> (try simp only [List.length_map] at h)) | refine bsplit.mk (fun h => ?_) (fun h => ?_)) <;> conv => whnf) | refine Rb ⟨?_⟩ | fail
            refine .here ⟨mq - 1, by omega, ?_⟩
            refine la [5, 6, 7, 8, 9] ?_
            conv => whnf
            refine ⟨rfl, rfl, i + 1, (by omega), rfl, rfl, rfl, by omega⟩
        · repeat' first | refine Ra ⟨?_⟩ | ((first | (refine bd (fun h => ?_) (fun h => ?_) <;> (try simp only [List.length_map] at h)) | refine bsplit.mk (fun h => ?_) (fun h => ?_)) <;> conv => whnf) | refine Rb ⟨?_⟩ | fail
          refine Cd.loop2 (fun mq tm S nx => ∃ (j : Nat), mq = (y.length - j) ∧ tm = [(6, .sl (u.map Mrk.c)), (8, .s y), (12, .k .i64 j)] ∧ S = [] ∧ nx = 0 ∧ (j ≤ y.length)) ?_ ?_
          · refine la [6, 8, 12] ?_
            conv => whnf
            refine ⟨rfl, rfl, _, 0, rfl, rfl, rfl, rfl, by omega⟩
          · rintro mq tm S nx ⟨j, hn, rfl, rfl, rfl, hj⟩
            by_cases hlt2 : j < y.length
            · have g1 : y[j]? = some y[j] := List.getElem?_eq_getElem hlt2
              generalize y[j] = c at g1
              by_cases hc : c = 10
              · have hc1 : (c.toNat : Int) = 10 := by rw [hc]; rfl
                rw [hc] at g1
                obtain ⟨n, q1, q2⟩ := s4 j g1
                have c6 := iLayerRead_con (m := m) (y.take (j + 1)) (by rw [List.length_take]; omega)
                rw [layerRead_eq, q2] at c6
                simp only [Option.getD_some, Option.isSome_some] at c6
                have hz : (u.take n).length = n := by rw [List.length_take]; omega
                have hz2 : (u.map Mrk.c).take (((u.take n).map Mrk.c).length) = (u.take n).map Mrk.c := by rw [List.length_map, hz, List.map_take]
                generalize u.take n = z at c6 hz hz2
                have e3 : (z.map Mrk.c).length = z.length := List.length_map ..
                have c7 : Con (E m) 20 0 [.sl (z.map Mrk.c), .sl ((u.map Mrk.c).take ((z.map Mrk.c).length))] [] (.b true) [] := by
                  rw [hz2]
                  have := layerSame_con (m := m) z z (by omega) (by omega)
                  rwa [decide_eq_true rfl] at this
                rw [hc] at *
                repeat' first | refine Ra ⟨?_⟩ | ((first | refine Rc [] 1 rfl rfl (c6) ?_ | refine Rc [] 0 rfl rfl (c7) ?_ | (refine bd (fun h => ?_) (fun h => ?_) <;> (try simp only [List.length_map] at h)) | refine bsplit.mk (fun h => ?_) (fun h => ?_)) <;> conv => whnf) | refine Rb ⟨?_⟩ | fail
                refine .here ⟨mq - 1, by omega, ?_⟩
                refine la [6, 8, 12] ?_
                conv => whnf
                refine ⟨rfl, rfl, j + 1, (by omega), rfl, rfl, rfl, by omega⟩
              · have hc1 : ¬ (c.toNat : Int) = 10 := fun h => hc (UInt8.toNat_inj.1 (Int.ofNat_inj.1 h))
                repeat' first | refine Ra ⟨?_⟩ | ((first | (refine bd (fun h => ?_) (fun h => ?_) <;> (try simp only [List.length_map] at h)) | refine bsplit.mk (fun h => ?_) (fun h => ?_)) <;> conv => whnf) | refine Rb ⟨?_⟩ | fail
                refine .here ⟨mq - 1, by omega, ?_⟩
                refine la [6, 8, 12] ?_
                conv => whnf
                refine ⟨rfl, rfl, j + 1, (by omega), rfl, rfl, rfl, by omega⟩
            · repeat' first | refine Ra ⟨?_⟩ | ((first | (refine bd (fun h => ?_) (fun h => ?_) <;> (try simp only [List.length_map] at h)) | refine bsplit.mk (fun h => ?_) (fun h => ?_)) <;> conv => whnf) | refine Rb ⟨?_⟩ | fail
              exact Rf
    · refine con_of_cd tyOk mix Tryz.func3 rfl rfl rfl (Nat.le_of_ble_eq_true rfl) ?_
      repeat' first | refine Ra ⟨?_⟩ | ((first | (refine bd (fun h => ?_) (fun h => ?_) <;> (try simp only [List.length_map] at h)) | refine bsplit.mk (fun h => ?_) (fun h => ?_)) <;> conv => whnf) | refine Rb ⟨?_⟩ | fail
      exact Rf
  · refine con_of_cd tyOk mix Tryz.func3 rfl rfl rfl (Nat.le_of_ble_eq_true rfl) ?_
    repeat' first | refine Ra ⟨?_⟩ | ((first | (refine bd (fun h => ?_) (fun h => ?_) <;> (try simp only [List.length_map] at h)) | refine bsplit.mk (fun h => ?_) (fun h => ?_)) <;> conv => whnf) | refine Rb ⟨?_⟩ | fail
    exact Rf
theorem FnTextCut_con (cds : List D) (h : ShpAll Tryz.prog Tryz.f3.params.toList cds) : Con (E m) 3 0 cds [] (.b true) [] := by
  rw [Tryz.params3] at h
  match cds, h with
  | [d1, d2], ⟨h1, h2, _⟩ =>
    obtain ⟨l, rfl⟩ := bytes_shp h1
    obtain ⟨k, rfl⟩ := bytes_shp h2
    exact law_FnTextCut l k
open Go.ChangeShapes Go.WideShapes Go.ChangeAt in
theorem FnTextCut_lifted (os : Os) (started : os.Started) (H : Type) (enc : TypeId × Value → H) :
    ReturnsInHanded {} Tryz.checked os 3 .any (fun w args => (Rows.fnTextCutSpec.pre enc Tryz.prog Tryz.f3 Rows.fnTextCutRow.domain false w args ∧ laidMetH Tryz.prog Rows.fnTextCutRow.laid w) ∧ sizedMet enc Tryz.prog Tryz.f3 (OpenSpec.ofChange Rows.fnTextCutSpec) false w args)
      (Rows.fnTextCutSpec.post enc Tryz.prog Tryz.f3 false true false false) := by
  refine returns_laid (C := Tryz.checked) (X := fun w _ => laidMetH Tryz.prog Rows.fnTextCutRow.laid w) (fun _ _ _ hh h => h.of_heap hh) own0 started (by kernel_rfl) Tryz.func3
    (ChangeSpec.witness_shaped (enc := enc) (C := Tryz.checked) (os := os) (X := fun w _ => laidMetH Tryz.prog Rows.fnTextCutRow.laid w) false (World.laidAll Tryz.prog os Rows.fnTextCutRow.laid) #[.slice none 0 0, .slice none 0 0] 8 (World.laidAll_os _ _ _)
      (World.shaped_of_ZipB (by kernel_rfl) (by kernel_rfl)) (by kernel_rfl) (by kernel_rfl) (by kernel_rfl)
      (by rw [MakeChecks.laidMetH_plain _ _ _ (by kernel_rfl)]; exact laidMet_laidAll _ (by kernel_rfl) (by kernel_rfl))) ?_
  intro W base args ds gs before hval hW hsh _
  obtain ⟨m, hm⟩ := maxLen_shaped W hsh
  exact law_calls_gl (E := E m) (dp := 8) (bt := 4) laidOut0 (readB_mem (by kernel_rfl)) (by kernel_rfl) Tryz.underlying4 (by kernel_rfl) rfl (fun H ds hl => match ds, hl with
    | [d1, d2], _ => rfl) FnTextCut_con W (gl_m hm) base args ds gs before hval hW
theorem FnTextCut_holds : Rows.FnTextCutSaid :=
  OpenClaim.holds_of_wide 3 Tryz.f3 rfl rfl rfl rfl rfl rfl rfl ⟨rfl, rfl, rfl, rfl, rfl⟩ rfl rfl rfl rfl rfl (by kernel_rfl) Tryz.func3 (by kernel_rfl)
    (of_decide_eq_true (by kernel_rfl)) (by unfold Func.isWrapper; first | (rw [if_pos (by decide +kernel)]; kernel_rfl) | (rw [if_neg (by decide +kernel)]; exact ⟨rfl, rfl⟩))
    (fun os started H enc _ => FnTextCut_lifted os started H enc)
theorem FnTextCut_card : Rows.FnTextCutCardSaid :=
  Claim7.holds_tied_plain_at .later [] [.data, .pinned] true _ false FnTextCut_holds (fun _ h => by cases h) (by kernel_rfl) (fun _ h => by cases h) fnTextCut_row_tie rfl ⟨rfl, rfl⟩ (by kernel_rfl) rfl
    (fun f fn hf hfn => by
      obtain rfl : f = 3 := Option.some.inj ((show Tryz.prog.funcNamed "loop.example/pargeting/laws.FnTextCut" = some 3 by kernel_rfl).symm.trans hf) |>.symm
      obtain rfl : fn = Tryz.f3 := (Option.some.inj (Tryz.func3.symm.trans hfn)).symm
      exact ⟨by kernel_rfl, fun j t ht => by
        have hm : t ∈ Tryz.f3.params.toList := by simpa using Array.mem_of_getElem? ht
        have hall : (Tryz.f3.params.toList.all fun u => !Tryz.prog.wantsStandIn u) = true := by kernel_rfl
        exact (show Tryz.prog.wantsStandIn t = false by simpa using List.all_eq_true.1 hall t hm)⟩)
    (by kernel_rfl)
end Go.Proofs.YtmnjlhjpeebfdaaGreatDoor
