/- 'laws.FnMergeLayer' returns true whatever its arguments are, and leaves the arguments as they were; the package variables that the row lists hold what the program's text lays. -/
import Derived.Test.YtoaiplobfellaaaGreatDoorMd
import Derived.Test.YtoaiplobfellaaaGreatDoorKh
import Derived.Test.YtoaiplobfellaaaGreatDoorLu
import Derived.Test.YtoaiplobfellaaaGreatDoorPz
import Derived.Test.YtoaiplobfellaaaGreatDoorLv
set_option linter.unusedSimpArgs false
set_option linter.unusedVariables false
set_option maxHeartbeats 1000000
set_option maxRecDepth 100000
namespace Go.Proofs.YtoaiplobfellaaaGreatDoor
open Go Go.RowKit Go.Ab Go.Par
variable {m : Int}
theorem law_FnMergeLayer (l : Bs) : Con (E m) 16 0 [.sl (bytesOf l)] [] (.b true) [] := by
  have hbl : (bytesOf l).length = l.length := List.length_map ..
  by_cases hl : l.length ≤ 1048576
  · obtain ⟨t, a, b, ⟨ht, ha, hb⟩, c0⟩ := drawMerge_any (m := m) l hl
    have kt : ∀ e ∈ t, e.path.length ≤ 1073741824 ∧ e.data.length ≤ 1073741824 := fun e he => by have := ht.bnd e he; omega
    have ka : ∀ e ∈ a, e.path.length ≤ 1073741824 ∧ e.data.length ≤ 1073741824 := fun e he => by have := ha.bnd e he; omega
    have kb : ∀ e ∈ b, e.path.length ≤ 1073741824 ∧ e.data.length ≤ 1073741824 := fun e he => by have := hb.bnd e he; omega
    have c1 := iMerge_con (m := m) t a b kt ka kb
    have c2 := sMerge_con (m := m) t a b kt ka kb
    have same : ∀ (z : List Ent), z.length ≤ 1048576 → Con (E m) 32 0 [.sl (z.map Ent.c), .sl (z.map Ent.c)] [] (.b true) [] := fun z hz => by
      have := treeSame_con (m := m) z z hz hz
      rwa [decide_eq_true rfl] at this
    cases hR : mergeL t a b with
    | none =>
      rw [hR] at c1 c2
      have c3 := same [] (by simp)
      refine con_of_cd tyOk mix Tryz.func16 rfl rfl rfl (Nat.le_of_ble_eq_true rfl) ?_
      repeat' first | refine Ra ⟨?_⟩ | ((first | refine Rc [] 0 rfl rfl (c0) ?_ | refine Rc [] 1 rfl rfl (c1) ?_ | refine Rc [] 1 rfl rfl (c2) ?_ | refine Rc [] 0 rfl rfl (c3) ?_ | (refine bd (fun h => ?_) (fun h => ?_) <;> (try simp only [List.length_map] at h)) | refine bsplit.mk (fun h => ?_) (fun h => ?_)) <;> conv => whnf) | refine Rb ⟨?_⟩ | fail
      exact Rf
    | some X =>
      rw [hR] at c1 c2
      simp only [Option.getD_some, Option.isSome_some] at c1 c2
      obtain ⟨h1, h2, h3, h4⟩ := merge_tree hR
      have hX := treeOk_len h4
      have c3 := same X (by omega)
      have d1 := iLayerDiff_con (m := m) a X h2 h4
      have d2 := iLayerDiff_con (m := m) b X h3 h4
      have o1 := diff_ok h2 h4
      have o2 := diff_ok h3 h4
      have hb1 : ∀ e ∈ diffL a X, e.path.length ≤ 1073741823 ∧ e.data.length ≤ 1073741823 := fun e he => by have := layer_bnd o1 e he; omega
      have hb2 : ∀ e ∈ diffL b X, e.path.length ≤ 1073741823 ∧ e.data.length ≤ 1073741823 := fun e he => by have := layer_bnd o2 e he; omega
      have d3 := iLayerOn_con (m := m) (diffL a X) a hb1 ka
      have d4 := iLayerOn_con (m := m) (diffL b X) b hb2 kb
      rw [diff_on h2 h4] at d3
      rw [diff_on h3 h4] at d4
      simp only [Option.getD_some, Option.isSome_some] at d3 d4
      have hoth : ∀ x ∈ diffL a X, x.kind ≠ 2 → entGet X x.path = entGet b x.path := fun x hx hk => merge_other hR (markAt_self (layer_srt o1) hx) hk
      have c5 := fun p => iGet_con (m := m) X p (bE0 h4)
      have c6 := fun p => iGet_con (m := m) b p kb
      simp only [h4, h3, if_true] at c5 c6
      have hDl := layer_len o1
      generalize diffL a X = D at d1 d3 hoth hDl
      generalize diffL b X = D2 at d2 d4
      have e1 : (D.map Mrk.c).length = D.length := List.length_map ..
      refine con_of_cd tyOk mix Tryz.func16 rfl rfl rfl (Nat.le_of_ble_eq_true rfl) ?_
      repeat' first | refine Ra ⟨?_⟩ | ((first | refine Rc [] 0 rfl rfl (c0) ?_ | refine Rc [] 1 rfl rfl (c1) ?_ | refine Rc [] 1 rfl rfl (c2) ?_ | refine Rc [] 0 rfl rfl (c3) ?_ | refine Rc [] 1 rfl rfl (d1) ?_ | refine Rc [] 1 rfl rfl (d3) ?_ | refine Rc [] 1 rfl rfl (d2) ?_ | refine Rc [] 1 rfl rfl (d4) ?_ | (refine bd (fun h => ?_) (fun h => ?_) <;> (try simp only [List.length_map] at h)) | refine bsplit.mk (fun h => ?_) (fun h => ?_)) <;> conv => whnf) | refine Rb ⟨?_⟩ | fail
      refine Cd.loop2 (fun mq tm S nx => ∃ (i : Nat), mq = (D.length - i) ∧ tm = [(5, .sl (b.map Ent.c)), (6, .sl (X.map Ent.c)), (10, .sl (X.map Ent.c)), (11, .b true), (12, .sl (X.map Ent.c)), (13, .b true), (14, .sl (D.map Mrk.c)), (15, .k .i64 i)] ∧ S = [] ∧ nx = 0 ∧ (i ≤ D.length)) ?_ ?_
      · refine li [6, 10, 12, 14] [5, 6, 10, 11, 12, 13, 14, 15] ?_
        conv => whnf
        refine ⟨rfl, rfl, _, 0, rfl, rfl, rfl, rfl, by omega⟩
      · rintro mq tm S nx ⟨i, hn, rfl, rfl, rfl, hi⟩
        by_cases hlt : i < D.length
        · have r1 : D[i]? = some D[i] := List.getElem?_eq_getElem hlt
          have r2 := hoth _ (List.getElem_mem hlt)
          generalize D[i] = x at r1 r2
          have c7 := c5 x.path
          have c8 := c6 x.path
          by_cases hk : x.kind = 2
          · rw [entD_eq] at c7 c8
            generalize entGet X x.path = A at c7
            generalize entGet b x.path = B at c8
            repeat' first | refine Ra ⟨?_⟩ | ((first | refine Rc [] 0 rfl rfl (c7) ?_ | refine Rc [] 0 rfl rfl (c8) ?_ | (refine bd (fun h => ?_) (fun h => ?_) <;> (try simp only [List.length_map] at h)) | refine bsplit.mk (fun h => ?_) (fun h => ?_)) <;> conv => whnf) | refine Rb ⟨?_⟩ | fail
            all_goals
              refine .here ⟨mq - 1, by omega, ?_⟩
              refine la [5, 6, 10, 11, 12, 13, 14, 15] ?_
              conv => whnf
              refine ⟨rfl, rfl, i + 1, (by omega), rfl, rfl, rfl, by omega⟩
          · rw [← r2 hk] at c8
            cases g1 : entGet X x.path with
            | none =>
              rw [g1] at c7 c8
              repeat' first | refine Ra ⟨?_⟩ | ((first | refine Rc [] 0 rfl rfl (c7) ?_ | refine Rc [] 0 rfl rfl (c8) ?_ | (refine bd (fun h => ?_) (fun h => ?_) <;> (try simp only [List.length_map] at h)) | refine bsplit.mk (fun h => ?_) (fun h => ?_)) <;> conv => whnf) | refine Rb ⟨?_⟩ | fail
              refine .here ⟨mq - 1, by omega, ?_⟩
              refine la [5, 6, 10, 11, 12, 13, 14, 15] ?_
              conv => whnf
              refine ⟨rfl, rfl, i + 1, (by omega), rfl, rfl, rfl, by omega⟩
            | some e =>
              rw [g1] at c7 c8
              have f2 : (decide (e.path = e.path) && ((e.dir == e.dir) && (decide (e.data = e.data) && true))) = true := by simp
              repeat' first | refine Ra ⟨?_⟩ | ((first | refine Rc [] 0 rfl rfl (c7) ?_ | refine Rc [] 0 rfl rfl (c8) ?_ | (refine bd (fun h => ?_) (fun h => ?_) <;> (try simp only [List.length_map] at h)) | refine bsplit.mk (fun h => ?_) (fun h => ?_)) <;> conv => whnf) | refine Rb ⟨?_⟩ | fail
              refine .here ⟨mq - 1, by omega, ?_⟩
              refine la [5, 6, 10, 11, 12, 13, 14, 15] ?_
              conv => whnf
              refine ⟨rfl, rfl, i + 1, (by omega), rfl, rfl, rfl, by omega⟩
        · repeat' first | refine Ra ⟨?_⟩ | ((first | refine Rc [] 0 rfl rfl (c3) ?_ | (refine bd (fun h => ?_) (fun h => ?_) <;> (try simp only [List.length_map] at h)) | refine bsplit.mk (fun h => ?_) (fun h => ?_)) <;> conv => whnf) | refine Rb ⟨?_⟩ | fail
          exact Rf
  · refine con_of_cd tyOk mix Tryz.func16 rfl rfl rfl (Nat.le_of_ble_eq_true rfl) ?_
    repeat' first | refine Ra ⟨?_⟩ | ((first | (refine bd (fun h => ?_) (fun h => ?_) <;> (try simp only [List.length_map] at h)) | refine bsplit.mk (fun h => ?_) (fun h => ?_)) <;> conv => whnf) | refine Rb ⟨?_⟩ | fail
    exact Rf
theorem FnMergeLayer_con (cds : List D) (h : ShpAll Tryz.prog Tryz.f16.params.toList cds) : Con (E m) 16 0 cds [] (.b true) [] := by
  rw [Tryz.params16] at h
  match cds, h with
  | [d1], ⟨h1, _⟩ =>
    obtain ⟨l, rfl⟩ := bytes_shp h1
    exact law_FnMergeLayer l
open Go.ChangeShapes Go.WideShapes Go.ChangeAt in
theorem FnMergeLayer_lifted (os : Os) (started : os.Started) (H : Type) (enc : TypeId × Value → H) :
    ReturnsInHanded {} Tryz.checked os 16 .any (fun w args => (Rows.fnMergeLayerSpec.pre enc Tryz.prog Tryz.f16 Rows.fnMergeLayerRow.domain false w args ∧ laidMetH Tryz.prog Rows.fnMergeLayerRow.laid w) ∧ sizedMet enc Tryz.prog Tryz.f16 (OpenSpec.ofChange Rows.fnMergeLayerSpec) false w args)
      (Rows.fnMergeLayerSpec.post enc Tryz.prog Tryz.f16 false true false false) := by
  refine returns_laid (C := Tryz.checked) (X := fun w _ => laidMetH Tryz.prog Rows.fnMergeLayerRow.laid w) (fun _ _ _ hh h => h.of_heap hh) own0 started (by kernel_rfl) Tryz.func16
    (ChangeSpec.witness_shaped (enc := enc) (C := Tryz.checked) (os := os) (X := fun w _ => laidMetH Tryz.prog Rows.fnMergeLayerRow.laid w) false (World.laidAll Tryz.prog os Rows.fnMergeLayerRow.laid) #[.slice none 0 0] 8 (World.laidAll_os _ _ _)
      (World.shaped_of_ZipB (by kernel_rfl) (by kernel_rfl)) (by kernel_rfl) (by kernel_rfl) (by kernel_rfl)
      (by rw [MakeChecks.laidMetH_plain _ _ _ (by kernel_rfl)]; exact laidMet_laidAll _ (by kernel_rfl) (by kernel_rfl))) ?_
  intro W base args ds gs before hval hW hsh _
  obtain ⟨m, hm⟩ := maxLen_shaped W hsh
  exact law_calls_gl (E := E m) (dp := 8) (bt := 4) laidOut0 (readB_mem (by kernel_rfl)) (by kernel_rfl) Tryz.underlying4 (by kernel_rfl) rfl (fun H ds hl => match ds, hl with
    | [d1], _ => rfl) FnMergeLayer_con W (gl_m hm) base args ds gs before hval hW
theorem FnMergeLayer_place : (Rows.fnMergeLayerRow.inPlace == Tryz.prog.inPlace 16) = true := by kernel_rfl
theorem FnMergeLayer_unf : (Rows.fnMergeLayerRow.unfollowed == Tryz.prog.unfollowed 16) = true := by kernel_rfl
theorem FnMergeLayer_rec : (Rows.fnMergeLayerRow.recurses == Tryz.prog.recurses 16) = true := by kernel_rfl
theorem FnMergeLayer_named : (Rows.fnMergeLayerRow.named == Tryz.prog.varsNamed 16) = true := by kernel_rfl
theorem FnMergeLayer_joined : joinedFacts Tryz.prog 16 Tryz.f16 Rows.fnMergeLayerSpec Rows.fnMergeLayerRow = true :=
  joined_of (by kernel_rfl) laidOut0 rowed0 (by kernel_rfl) (by kernel_rfl) (by kernel_rfl) (by rw [stops0]; rfl) (by kernel_rfl) (by rw [knobs0]; rfl) FnMergeLayer_place FnMergeLayer_unf FnMergeLayer_rec FnMergeLayer_named
    (by kernel_rfl) (by kernel_rfl) (by kernel_rfl) (by kernel_rfl) (by kernel_rfl) (by kernel_rfl) (by kernel_rfl) (by kernel_rfl) (by kernel_rfl) (by rw [plainKeys0]; rfl) (by kernel_rfl) heard0 may0 (by rw [lifts0]; rfl) (by rw [make0]; rfl) (by kernel_rfl) (by kernel_rfl) (by kernel_rfl) (by kernel_rfl)
theorem FnMergeLayer_holds : Rows.FnMergeLayerSaid :=
  OpenClaim.holds_of_wide 16 Tryz.f16 rfl rfl rfl rfl rfl rfl rfl ⟨rfl, rfl, rfl, rfl, rfl⟩ rfl rfl rfl rfl rfl (by kernel_rfl) Tryz.func16 FnMergeLayer_joined
    (of_decide_eq_true (by kernel_rfl)) (by unfold Func.isWrapper; first | (rw [if_pos (by decide +kernel)]; kernel_rfl) | (rw [if_neg (by decide +kernel)]; exact ⟨rfl, rfl⟩))
    (fun os started H enc _ => FnMergeLayer_lifted os started H enc)
theorem FnMergeLayer_card : Rows.FnMergeLayerCardSaid :=
  Claim7.holds_tied_plain_at .later [] [.data, .pinned] true _ false FnMergeLayer_holds (fun _ h => by cases h) (by kernel_rfl) (fun _ h => by cases h) fnMergeLayer_row_tie rfl ⟨rfl, rfl⟩ (mainIs0.trans (by kernel_rfl)) rfl
    (fun f fn hf hfn => by
      obtain rfl : f = 16 := Option.some.inj ((show Tryz.prog.funcNamed "loop.example/pargeting/laws.FnMergeLayer" = some 16 by kernel_rfl).symm.trans hf) |>.symm
      obtain rfl : fn = Tryz.f16 := (Option.some.inj (Tryz.func16.symm.trans hfn)).symm
      exact ⟨looks0.symm, fun j t ht => by
        have hm : t ∈ Tryz.f16.params.toList := by simpa using Array.mem_of_getElem? ht
        have hall : (Tryz.f16.params.toList.all fun u => !Tryz.prog.wantsStandIn u) = true := by kernel_rfl
        exact (show Tryz.prog.wantsStandIn t = false by simpa using List.all_eq_true.1 hall t hm)⟩)
    (goes0 _ rfl)
end Go.Proofs.YtoaiplobfellaaaGreatDoor
