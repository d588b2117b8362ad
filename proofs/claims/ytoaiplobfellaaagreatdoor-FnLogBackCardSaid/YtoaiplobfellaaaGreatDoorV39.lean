/- 'laws.FnLogBack' returns true whatever its arguments are, and leaves the arguments as they were; the package variables that the row lists hold what the program's text lays. -/
import Derived.Test.YtoaiplobfellaaaGreatDoorMc
import Derived.Test.YtoaiplobfellaaaGreatDoorKh
import Derived.Test.YtoaiplobfellaaaGreatDoorLv
set_option linter.unusedSimpArgs false
set_option linter.unusedVariables false
set_option maxHeartbeats 1000000
set_option maxRecDepth 100000
namespace Go.Proofs.YtoaiplobfellaaaGreatDoor
open Go Go.RowKit Go.Ab Go.Par
variable {m : Int}
theorem law_FnLogBack (l : Bs) : Con (E m) 12 0 [.sl (bytesOf l)] [] (.b true) [] := by
  have hbl : (bytesOf l).length = l.length := List.length_map ..
  by_cases hl : l.length ≤ 1048576
  · obtain ⟨t, ops, ⟨ht, hn, hb⟩, c0⟩ := drawLogBack_any (m := m) l hl
    have hln := ht.len
    have hbig : ∀ o ∈ ops, bndO 1073741823 o := fun o h => (hb o h).big
    have e1 : (ops.map Opn.c).length = ops.length := List.length_map ..
    have c1 := iLogBack_con (m := m) t ops ht.bE (by omega) hbig (by omega)
    have c2 := sLogBack_con (m := m) t ops ht.bB (by omega) hbig (by omega)
    have c5 := sTreeOk_con (m := m) t ht.bE
    have c6 := iLogClean_con (m := m) t ops ht.bE hbig (by omega)
    have c3 := iLogDo_con (m := m) t ops ht.bE hbig (by omega)
    rcases log_cases t ops with ⟨hg, h1, h2⟩ | ⟨hg, hbad⟩
    · rw [h1] at c5
      have g1 : logDo t ops = logRun t ops := by rw [logDo, hg]; rfl
      have g2 : logClean t ops = cleanRun t ops := by rw [logClean, hg]; rfl
      have gb : logBack t ops = backRun t (cleanRun t ops) := by rw [logBack, g2]
      obtain ⟨k1, k2, k3⟩ := clean_run ops h1
      obtain ⟨b1, b2, b3⟩ := back_run _ h1 k2
      rw [k1] at b1 b2
      have hx := run_ok ops h1
      have hB : ∀ o ∈ backRun t (cleanRun t ops), bndO 1073741823 o := backRun_bnd _ h1 fun o h => hbig o (clean_mem h)
      have hxl := treeOk_len hx
      have hg3 : logBad (logRun t ops).1 (backRun t (cleanRun t ops)) = false := logBad_iff.2 ⟨hx, by omega⟩
      have c4 := iLogDo_con (m := m) (logRun t ops).1 (backRun t (cleanRun t ops)) (bE0 hx) hB (by omega)
      have g3 : logDo (logRun t ops).1 (backRun t (cleanRun t ops)) = logRun (logRun t ops).1 (backRun t (cleanRun t ops)) := by rw [logDo, hg3]; rfl
      have k4 := run_len (backRun t (cleanRun t ops)) (logRun t ops).1
      rw [g1] at c3
      rw [gb] at c1 c2
      rw [g2] at c6
      rw [g3, b1] at c4
      have s1 := treeSame_con (m := m) t t (by omega) (by omega)
      rw [decide_eq_true rfl] at s1
      generalize (logRun (logRun t ops).1 (backRun t (cleanRun t ops))).2 = cy at c4 b2 k4
      generalize (logRun t ops).1 = x at c3 c4
      generalize (logRun t ops).2 = cx at c3
      generalize backRun t (cleanRun t ops) = B at c1 c2 c4 b3 k4
      generalize cleanRun t ops = C at c6 b3 k3
      have e2 : (B.map Opn.c).length = B.length := List.length_map ..
      have e4 : (C.map Opn.c).length = C.length := List.length_map ..
      have e3 : (ints cy).length = cy.length := List.length_map ..
      refine con_of_cd tyOk mix Tryz.func12 rfl rfl rfl (Nat.le_of_ble_eq_true rfl) ?_
      repeat' first | refine Ra ⟨?_⟩ | ((first | refine Rc [] 0 rfl rfl (c0) ?_ | refine Rc [] 1 rfl rfl (c1) ?_ | refine Rc [] 1 rfl rfl (c2) ?_ | (refine bd (fun h => ?_) (fun h => ?_) <;> (try simp only [List.length_map] at h)) | refine bsplit.mk (fun h => ?_) (fun h => ?_)) <;> conv => whnf) | refine Rb ⟨?_⟩ | fail
      refine Cd.loop2 (fun mq tm S nx => ∃ (i : Nat), mq = (B.length - i) ∧ tm = [(3, .sl (t.map Ent.c)), (4, .sl (ops.map Opn.c)), (5, .sl (B.map Opn.c)), (6, .sl (B.map Opn.c)), (7, .k .i64 i)] ∧ S = [] ∧ nx = 0 ∧ (i ≤ B.length)) ?_ ?_
      · refine li [5, 6] [3, 4, 5, 6, 7] ?_
        conv => whnf
        refine ⟨rfl, rfl, _, 0, rfl, rfl, rfl, rfl, by omega⟩
      · rintro mq tm S nx ⟨i, hn, rfl, rfl, rfl, hi⟩
        by_cases hlt : i < B.length
        · have f1 : B[i]? = some B[i] := List.getElem?_eq_getElem hlt
          generalize B[i] = o at f1
          have f2 := q0 o
          repeat' first | refine Ra ⟨?_⟩ | ((first | (refine bd (fun h => ?_) (fun h => ?_) <;> (try simp only [List.length_map] at h)) | refine bsplit.mk (fun h => ?_) (fun h => ?_)) <;> conv => whnf) | refine Rb ⟨?_⟩ | fail
          refine .here ⟨mq - 1, by omega, ?_⟩
          refine la [3, 4, 5, 6, 7] ?_
          conv => whnf
          refine ⟨rfl, rfl, i + 1, (by omega), rfl, rfl, rfl, by omega⟩
        · repeat' first | refine Ra ⟨?_⟩ | ((first | refine Rc [] 0 rfl rfl (c5) ?_ | refine Rc [] 2 rfl rfl (c3) ?_ | refine Rc [] 2 rfl rfl (c4) ?_ | (refine bd (fun h => ?_) (fun h => ?_) <;> (try simp only [List.length_map] at h)) | refine bsplit.mk (fun h => ?_) (fun h => ?_)) <;> conv => whnf) | refine Rb ⟨?_⟩ | fail
          refine Cd.loop2 (fun mq tm S nx => ∃ (j : Nat), mq = (cy.length - j) ∧ tm = [(3, .sl (t.map Ent.c)), (4, .sl (ops.map Opn.c)), (5, .sl (B.map Opn.c)), (10, .sl (t.map Ent.c)), (11, .sl (ints cy)), (12, .k .i64 j)] ∧ S = [] ∧ nx = 0 ∧ (j ≤ cy.length)) ?_ ?_
          · refine li [10, 11] [3, 4, 5, 10, 11, 12] ?_
            conv => whnf
            refine ⟨rfl, rfl, _, 0, rfl, rfl, rfl, rfl, by omega⟩
          · rintro mq tm S nx ⟨j, hn, rfl, rfl, rfl, hj⟩
            by_cases hlt2 : j < cy.length
            · have f1 : cy[j]? = some cy[j] := List.getElem?_eq_getElem hlt2
              have f2 := b2 _ (List.getElem_mem hlt2)
              rw [f2] at f1
              repeat' first | refine Ra ⟨?_⟩ | ((first | (refine bd (fun h => ?_) (fun h => ?_) <;> (try simp only [List.length_map] at h)) | refine bsplit.mk (fun h => ?_) (fun h => ?_)) <;> conv => whnf) | refine Rb ⟨?_⟩ | fail
              refine .here ⟨mq - 1, by omega, ?_⟩
              refine la [3, 4, 5, 10, 11, 12] ?_
              conv => whnf
              refine ⟨rfl, rfl, j + 1, (by omega), rfl, rfl, rfl, by omega⟩
            · repeat' first | refine Ra ⟨?_⟩ | ((first | refine Rc [] 0 rfl rfl (s1) ?_ | refine Rc [] 1 rfl rfl (c6) ?_ | (refine bd (fun h => ?_) (fun h => ?_) <;> (try simp only [List.length_map] at h)) | refine bsplit.mk (fun h => ?_) (fun h => ?_)) <;> conv => whnf) | refine Rb ⟨?_⟩ | fail
              exact Rf
    · have g2 : logClean t ops = [] := by rw [logClean, hg]; rfl
      have gb : logBack t ops = [] := by rw [logBack, g2]; rfl
      rw [gb] at c1 c2
      refine con_of_cd tyOk mix Tryz.func12 rfl rfl rfl (Nat.le_of_ble_eq_true rfl) ?_
      repeat' first | refine Ra ⟨?_⟩ | ((first | refine Rc [] 0 rfl rfl (c0) ?_ | refine Rc [] 1 rfl rfl (c1) ?_ | refine Rc [] 1 rfl rfl (c2) ?_ | (refine bd (fun h => ?_) (fun h => ?_) <;> (try simp only [List.length_map] at h)) | refine bsplit.mk (fun h => ?_) (fun h => ?_)) <;> conv => whnf) | refine Rb ⟨?_⟩ | fail
      refine Cd.loop2 (fun mq tm S nx => mq = (0) ∧ tm = [(3, .sl (t.map Ent.c)), (4, .sl (ops.map Opn.c)), (5, .sl []), (6, .sl []), (7, .k .i64 0)] ∧ S = [] ∧ nx = 0) ?_ ?_
      · refine li [5, 6] [3, 4, 5, 6, 7] ?_
        conv => whnf
        refine ⟨rfl, rfl, _, rfl, rfl, rfl, rfl⟩
      · rintro mq tm S nx ⟨hn, rfl, rfl, rfl⟩
        rcases hbad with h1 | ⟨h1, h2⟩
        · rw [h1] at c5
          repeat' first | refine Ra ⟨?_⟩ | ((first | refine Rc [] 0 rfl rfl (c5) ?_ | (refine bd (fun h => ?_) (fun h => ?_) <;> (try simp only [List.length_map] at h)) | refine bsplit.mk (fun h => ?_) (fun h => ?_)) <;> conv => whnf) | refine Rb ⟨?_⟩ | fail
          exact Rf
        · rw [h1] at c5
          repeat' first | refine Ra ⟨?_⟩ | ((first | refine Rc [] 0 rfl rfl (c5) ?_ | (refine bd (fun h => ?_) (fun h => ?_) <;> (try simp only [List.length_map] at h)) | refine bsplit.mk (fun h => ?_) (fun h => ?_)) <;> conv => whnf) | refine Rb ⟨?_⟩ | fail
          exact Rf
  · refine con_of_cd tyOk mix Tryz.func12 rfl rfl rfl (Nat.le_of_ble_eq_true rfl) ?_
    repeat' first | refine Ra ⟨?_⟩ | ((first | (refine bd (fun h => ?_) (fun h => ?_) <;> (try simp only [List.length_map] at h)) | refine bsplit.mk (fun h => ?_) (fun h => ?_)) <;> conv => whnf) | refine Rb ⟨?_⟩ | fail
    exact Rf
theorem FnLogBack_con (cds : List D) (h : ShpAll Tryz.prog Tryz.f12.params.toList cds) : Con (E m) 12 0 cds [] (.b true) [] := by
  rw [Tryz.params12] at h
  match cds, h with
  | [d1], ⟨h1, _⟩ =>
    obtain ⟨l, rfl⟩ := bytes_shp h1
    exact law_FnLogBack l
open Go.ChangeShapes Go.WideShapes Go.ChangeAt in
theorem FnLogBack_lifted (os : Os) (started : os.Started) (H : Type) (enc : TypeId × Value → H) :
    ReturnsInHanded {} Tryz.checked os 12 .any (fun w args => (Rows.fnLogBackSpec.pre enc Tryz.prog Tryz.f12 Rows.fnLogBackRow.domain false w args ∧ laidMetH Tryz.prog Rows.fnLogBackRow.laid w) ∧ sizedMet enc Tryz.prog Tryz.f12 (OpenSpec.ofChange Rows.fnLogBackSpec) false w args)
      (Rows.fnLogBackSpec.post enc Tryz.prog Tryz.f12 false true false false) := by
  refine returns_laid (C := Tryz.checked) (X := fun w _ => laidMetH Tryz.prog Rows.fnLogBackRow.laid w) (fun _ _ _ hh h => h.of_heap hh) own0 started (by kernel_rfl) Tryz.func12
    (ChangeSpec.witness_shaped (enc := enc) (C := Tryz.checked) (os := os) (X := fun w _ => laidMetH Tryz.prog Rows.fnLogBackRow.laid w) false (World.laidAll Tryz.prog os Rows.fnLogBackRow.laid) #[.slice none 0 0] 8 (World.laidAll_os _ _ _)
      (World.shaped_of_ZipB (by kernel_rfl) (by kernel_rfl)) (by kernel_rfl) (by kernel_rfl) (by kernel_rfl)
      (by rw [MakeChecks.laidMetH_plain _ _ _ (by kernel_rfl)]; exact laidMet_laidAll _ (by kernel_rfl) (by kernel_rfl))) ?_
  intro W base args ds gs before hval hW hsh _
  obtain ⟨m, hm⟩ := maxLen_shaped W hsh
  exact law_calls_gl (E := E m) (dp := 8) (bt := 4) laidOut0 (readB_mem (by kernel_rfl)) (by kernel_rfl) Tryz.underlying4 (by kernel_rfl) rfl (fun H ds hl => match ds, hl with
    | [d1], _ => rfl) FnLogBack_con W (gl_m hm) base args ds gs before hval hW
theorem FnLogBack_place : (Rows.fnLogBackRow.inPlace == Tryz.prog.inPlace 12) = true := by kernel_rfl
theorem FnLogBack_unf : (Rows.fnLogBackRow.unfollowed == Tryz.prog.unfollowed 12) = true := by kernel_rfl
theorem FnLogBack_rec : (Rows.fnLogBackRow.recurses == Tryz.prog.recurses 12) = true := by kernel_rfl
theorem FnLogBack_named : (Rows.fnLogBackRow.named == Tryz.prog.varsNamed 12) = true := by kernel_rfl
theorem FnLogBack_joined : joinedFacts Tryz.prog 12 Tryz.f12 Rows.fnLogBackSpec Rows.fnLogBackRow = true :=
  joined_of (by kernel_rfl) laidOut0 rowed0 (by kernel_rfl) (by kernel_rfl) (by kernel_rfl) (by rw [stops0]; rfl) (by kernel_rfl) (by rw [knobs0]; rfl) FnLogBack_place FnLogBack_unf FnLogBack_rec FnLogBack_named
    (by kernel_rfl) (by kernel_rfl) (by kernel_rfl) (by kernel_rfl) (by kernel_rfl) (by kernel_rfl) (by kernel_rfl) (by kernel_rfl) (by kernel_rfl) (by rw [plainKeys0]; rfl) (by kernel_rfl) heard0 may0 (by rw [lifts0]; rfl) (by rw [make0]; rfl) (by kernel_rfl) (by kernel_rfl) (by kernel_rfl) (by kernel_rfl)
theorem FnLogBack_holds : Rows.FnLogBackSaid :=
  OpenClaim.holds_of_wide 12 Tryz.f12 rfl rfl rfl rfl rfl rfl rfl ⟨rfl, rfl, rfl, rfl, rfl⟩ rfl rfl rfl rfl rfl (by kernel_rfl) Tryz.func12 FnLogBack_joined
    (of_decide_eq_true (by kernel_rfl)) (by unfold Func.isWrapper; first | (rw [if_pos (by decide +kernel)]; kernel_rfl) | (rw [if_neg (by decide +kernel)]; exact ⟨rfl, rfl⟩))
    (fun os started H enc _ => FnLogBack_lifted os started H enc)
theorem FnLogBack_card : Rows.FnLogBackCardSaid :=
  Claim7.holds_tied_plain_at .later [] [.data, .pinned] true _ false FnLogBack_holds (fun _ h => by cases h) (by kernel_rfl) (fun _ h => by cases h) fnLogBack_row_tie rfl ⟨rfl, rfl⟩ (mainIs0.trans (by kernel_rfl)) rfl
    (fun f fn hf hfn => by
      obtain rfl : f = 12 := Option.some.inj ((show Tryz.prog.funcNamed "loop.example/pargeting/laws.FnLogBack" = some 12 by kernel_rfl).symm.trans hf) |>.symm
      obtain rfl : fn = Tryz.f12 := (Option.some.inj (Tryz.func12.symm.trans hfn)).symm
      exact ⟨looks0.symm, fun j t ht => by
        have hm : t ∈ Tryz.f12.params.toList := by simpa using Array.mem_of_getElem? ht
        have hall : (Tryz.f12.params.toList.all fun u => !Tryz.prog.wantsStandIn u) = true := by kernel_rfl
        exact (show Tryz.prog.wantsStandIn t = false by simpa using List.all_eq_true.1 hall t hm)⟩)
    (goes0 _ rfl)
end Go.Proofs.YtoaiplobfellaaaGreatDoor
