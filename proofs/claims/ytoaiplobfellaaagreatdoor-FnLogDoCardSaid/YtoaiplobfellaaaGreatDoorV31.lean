/- 'laws.FnLogDo' returns true whatever its arguments are, and leaves the arguments as they were; the package variables that the row lists hold what the program's text lays. -/
import Derived.Test.YtoaiplobfellaaaGreatDoorMb
import Derived.Test.YtoaiplobfellaaaGreatDoorKh
import Derived.Test.YtoaiplobfellaaaGreatDoorLv
set_option linter.unusedSimpArgs false
set_option linter.unusedVariables false
set_option maxHeartbeats 1000000
set_option maxRecDepth 100000
namespace Go.Proofs.YtoaiplobfellaaaGreatDoor
open Go Go.RowKit Go.Ab Go.Par
variable {m : Int}
theorem law_FnLogDo (l k : Bs) : Con (E m) 4 0 [.sl (bytesOf l), .sl (bytesOf k)] [] (.b true) [] := by
  have hbl : (bytesOf l).length = l.length := List.length_map ..
  have hbk : (bytesOf k).length = k.length := List.length_map ..
  by_cases hl : l.length ≤ 1048576
  · by_cases hk : k.length ≤ 1048576
    · obtain ⟨t, ops, ⟨ht, hn, hb⟩, c0⟩ := drawLogDo_any (m := m) l hl
      have hbig : ∀ o ∈ ops, bndO 1073741823 o := fun o h => (hb o h).big
      have e1 : (ops.map Opn.c).length = ops.length := List.length_map ..
      have c1 := iLogDo_con (m := m) t ops ht.bE hbig (by omega)
      have c2 := sLogDo_con (m := m) t ops ht.bE hbig (by omega)
      have c3 := sTreeOk_con (m := m) t ht.bE
      have hlen := logDo_len t ops
      have s1 := treeSame_con (m := m) (logDo t ops).1 (logDo t ops).1 (by omega) (by omega)
      have s2 := wpCodes_con (m := m) (logDo t ops).2 (logDo t ops).2 (by omega) (by omega)
      rw [decide_eq_true rfl] at s1 s2
      rcases log_cases t ops with ⟨hg, h1, h2⟩ | ⟨hg, h1 | ⟨h1, h2⟩⟩
      · rw [h1] at c3
        obtain ⟨j, hj, hj2⟩ : ∃ j, j = k.length % (ops.length + 1) ∧ j ≤ ops.length := ⟨_, rfl, by have := Nat.mod_lt k.length (show 0 < ops.length + 1 by omega); omega⟩
        have hm : ((bytesOf k).length : Int).tmod (((ops.map Opn.c).length : Int) + 1) = (j : Int) := by
          rw [hbk, e1, hj]
          norm_cast
        have g1 : logDo t ops = logRun t ops := by rw [logDo, hg]; rfl
        have hgj : logBad t (ops.take j) = false := logBad_iff.2 ⟨h1, by rw [List.length_take]; omega⟩
        have g2 : logDo t (ops.take j) = logRun t (ops.take j) := by rw [logDo, hgj]; rfl
        have hou := run_ok (ops.take j) h1
        have hgd : logBad (logRun t (ops.take j)).1 (ops.drop j) = false := logBad_iff.2 ⟨hou, by rw [List.length_drop]; omega⟩
        have g3 : logDo (logRun t (ops.take j)).1 (ops.drop j) = logRun (logRun t (ops.take j)).1 (ops.drop j) := by rw [logDo, hgd]; rfl
        have c4 := iLogDo_con (m := m) t (ops.take j) ht.bE (fun o h => hbig o (List.mem_of_mem_take h)) (by rw [List.length_take]; omega)
        have c5 := iLogDo_con (m := m) (logRun t (ops.take j)).1 (ops.drop j) (bE0 hou) (fun o h => hbig o (List.mem_of_mem_drop h)) (by rw [List.length_drop]; omega)
        have happ := run_app (ops.take j) (ops.drop j) t
        rw [List.take_append_drop] at happ
        have hrl := run_len ops t
        have hov := run_ok (ops.drop j) hou
        rw [g2] at c4
        rw [g3] at c5
        rw [g1, happ] at c1 c2 s1 s2
        rw [happ] at hrl
        have la := run_len (ops.take j) t
        have lb := run_len (ops.drop j) (logRun t (ops.take j)).1
        rw [List.length_take] at la
        rw [List.length_drop] at lb
        generalize (logRun t (ops.take j)).2 = a at c1 c2 c4 s1 s2 hrl la
        generalize (logRun t (ops.take j)).1 = u at c1 c2 c4 c5 s1 s2 hrl hou hov lb
        generalize (logRun u (ops.drop j)).2 = b at c1 c2 c5 s1 s2 hrl lb
        generalize (logRun u (ops.drop j)).1 = v at c1 c2 c5 s1 s2 hrl hov
        simp only at c1 c2 s1 s2 hrl
        have c6 := iTreeOk_con (m := m) v (bE0 hov)
        rw [hov] at c6
        rw [List.map_take] at c4
        rw [List.map_drop] at c5
        have hia : ints (a ++ b) = ints a ++ ints b := List.map_append
        have s3 : Con (E m) 33 0 [.sl (ints a ++ ints b), .sl (ints (a ++ b))] [] (.b true) [] := by
          rw [← hia]; exact s2
        have el : (ints (a ++ b)).length = (ops.map Opn.c).length := by rw [List.length_map, e1]; exact hrl
        have e6 : (ints a).length = a.length := List.length_map ..
        have e7 : (ints b).length = b.length := List.length_map ..
        have c5' : Con (E m) 30 0 [.sl (u.map Ent.c), .sl (((ops.map Opn.c).take (ops.map Opn.c).length).drop j)] [] (.tup [.own 0, .own 1]) [(0, .own 76 (v.map Ent.c)), (1, .own 3 (ints b))] := by
          rw [List.take_length]; exact c5
        refine con_of_cd tyOk mix Tryz.func4 rfl rfl rfl (Nat.le_of_ble_eq_true rfl) ?_
        repeat' first | refine Ra ⟨?_⟩ | ((first | refine Rc [] 0 rfl rfl (c0) ?_ | refine Rc [] 2 rfl rfl (c1) ?_ | refine Rc [] 2 rfl rfl (c2) ?_ | refine Rc [] 0 rfl rfl (s1) ?_ | refine Rc [] 0 rfl rfl (s2) ?_ | refine Rc [] 0 rfl rfl (c3) ?_ | refine Rc [] 2 rfl rfl (c4) ?_ | refine Rc [] 2 rfl rfl (c5') ?_ | refine Rc [] 0 rfl rfl (c6) ?_ | refine Rc [] 0 rfl rfl (s3) ?_ | refine ⟨j, hm, ?_⟩ | (refine bd (fun h => ?_) (fun h => ?_) <;> (try simp only [List.length_map] at h)) | refine bsplit.mk (fun h => ?_) (fun h => ?_)) <;> conv => whnf) | refine Rb ⟨?_⟩ | fail
        exact Rf
      · rw [h1] at c3
        have hx : logDo t ops = ([], []) := by rw [logDo, hg]; rfl
        rw [hx] at c1 c2 s1 s2
        refine con_of_cd tyOk mix Tryz.func4 rfl rfl rfl (Nat.le_of_ble_eq_true rfl) ?_
        repeat' first | refine Ra ⟨?_⟩ | ((first | refine Rc [] 0 rfl rfl (c0) ?_ | refine Rc [] 2 rfl rfl (c1) ?_ | refine Rc [] 2 rfl rfl (c2) ?_ | refine Rc [] 0 rfl rfl (s1) ?_ | refine Rc [] 0 rfl rfl (s2) ?_ | refine Rc [] 0 rfl rfl (c3) ?_ | (refine bd (fun h => ?_) (fun h => ?_) <;> (try simp only [List.length_map] at h)) | refine bsplit.mk (fun h => ?_) (fun h => ?_)) <;> conv => whnf) | refine Rb ⟨?_⟩ | fail
        exact Rf
      · rw [h1] at c3
        have hx : logDo t ops = ([], []) := by rw [logDo, hg]; rfl
        rw [hx] at c1 c2 s1 s2
        refine con_of_cd tyOk mix Tryz.func4 rfl rfl rfl (Nat.le_of_ble_eq_true rfl) ?_
        repeat' first | refine Ra ⟨?_⟩ | ((first | refine Rc [] 0 rfl rfl (c0) ?_ | refine Rc [] 2 rfl rfl (c1) ?_ | refine Rc [] 2 rfl rfl (c2) ?_ | refine Rc [] 0 rfl rfl (s1) ?_ | refine Rc [] 0 rfl rfl (s2) ?_ | refine Rc [] 0 rfl rfl (c3) ?_ | (refine bd (fun h => ?_) (fun h => ?_) <;> (try simp only [List.length_map] at h)) | refine bsplit.mk (fun h => ?_) (fun h => ?_)) <;> conv => whnf) | refine Rb ⟨?_⟩ | fail
        exact Rf
    · refine con_of_cd tyOk mix Tryz.func4 rfl rfl rfl (Nat.le_of_ble_eq_true rfl) ?_
      repeat' first | refine Ra ⟨?_⟩ | ((first | (refine bd (fun h => ?_) (fun h => ?_) <;> (try simp only [List.length_map] at h)) | refine bsplit.mk (fun h => ?_) (fun h => ?_)) <;> conv => whnf) | refine Rb ⟨?_⟩ | fail
      exact Rf
  · refine con_of_cd tyOk mix Tryz.func4 rfl rfl rfl (Nat.le_of_ble_eq_true rfl) ?_
    repeat' first | refine Ra ⟨?_⟩ | ((first | (refine bd (fun h => ?_) (fun h => ?_) <;> (try simp only [List.length_map] at h)) | refine bsplit.mk (fun h => ?_) (fun h => ?_)) <;> conv => whnf) | refine Rb ⟨?_⟩ | fail
    exact Rf
theorem FnLogDo_con (cds : List D) (h : ShpAll Tryz.prog Tryz.f4.params.toList cds) : Con (E m) 4 0 cds [] (.b true) [] := by
  rw [Tryz.params4] at h
  match cds, h with
  | [d1, d2], ⟨h1, h2, _⟩ =>
    obtain ⟨l, rfl⟩ := bytes_shp h1
    obtain ⟨k, rfl⟩ := bytes_shp h2
    exact law_FnLogDo l k
open Go.ChangeShapes Go.WideShapes Go.ChangeAt in
theorem FnLogDo_lifted (os : Os) (started : os.Started) (H : Type) (enc : TypeId × Value → H) :
    ReturnsInHanded {} Tryz.checked os 4 .any (fun w args => (Rows.fnLogDoSpec.pre enc Tryz.prog Tryz.f4 Rows.fnLogDoRow.domain false w args ∧ laidMetH Tryz.prog Rows.fnLogDoRow.laid w) ∧ sizedMet enc Tryz.prog Tryz.f4 (OpenSpec.ofChange Rows.fnLogDoSpec) false w args)
      (Rows.fnLogDoSpec.post enc Tryz.prog Tryz.f4 false true false false) := by
  refine returns_laid (C := Tryz.checked) (X := fun w _ => laidMetH Tryz.prog Rows.fnLogDoRow.laid w) (fun _ _ _ hh h => h.of_heap hh) own0 started (by kernel_rfl) Tryz.func4
    (ChangeSpec.witness_shaped (enc := enc) (C := Tryz.checked) (os := os) (X := fun w _ => laidMetH Tryz.prog Rows.fnLogDoRow.laid w) false (World.laidAll Tryz.prog os Rows.fnLogDoRow.laid) #[.slice none 0 0, .slice none 0 0] 8 (World.laidAll_os _ _ _)
      (World.shaped_of_ZipB (by kernel_rfl) (by kernel_rfl)) (by kernel_rfl) (by kernel_rfl) (by kernel_rfl)
      (by rw [MakeChecks.laidMetH_plain _ _ _ (by kernel_rfl)]; exact laidMet_laidAll _ (by kernel_rfl) (by kernel_rfl))) ?_
  intro W base args ds gs before hval hW hsh _
  obtain ⟨m, hm⟩ := maxLen_shaped W hsh
  exact law_calls_gl (E := E m) (dp := 8) (bt := 4) laidOut0 (readB_mem (by kernel_rfl)) (by kernel_rfl) Tryz.underlying4 (by kernel_rfl) rfl (fun H ds hl => match ds, hl with
    | [d1, d2], _ => rfl) FnLogDo_con W (gl_m hm) base args ds gs before hval hW
theorem FnLogDo_place : (Rows.fnLogDoRow.inPlace == Tryz.prog.inPlace 4) = true := by kernel_rfl
theorem FnLogDo_unf : (Rows.fnLogDoRow.unfollowed == Tryz.prog.unfollowed 4) = true := by kernel_rfl
theorem FnLogDo_rec : (Rows.fnLogDoRow.recurses == Tryz.prog.recurses 4) = true := by kernel_rfl
theorem FnLogDo_named : (Rows.fnLogDoRow.named == Tryz.prog.varsNamed 4) = true := by kernel_rfl
theorem FnLogDo_joined : joinedFacts Tryz.prog 4 Tryz.f4 Rows.fnLogDoSpec Rows.fnLogDoRow = true :=
  joined_of (by kernel_rfl) laidOut0 rowed0 (by kernel_rfl) (by kernel_rfl) (by kernel_rfl) (by rw [stops0]; rfl) (by kernel_rfl) (by rw [knobs0]; rfl) FnLogDo_place FnLogDo_unf FnLogDo_rec FnLogDo_named
    (by kernel_rfl) (by kernel_rfl) (by kernel_rfl) (by kernel_rfl) (by kernel_rfl) (by kernel_rfl) (by kernel_rfl) (by kernel_rfl) (by kernel_rfl) (by rw [plainKeys0]; rfl) (by kernel_rfl) heard0 may0 (by rw [lifts0]; rfl) (by rw [make0]; rfl) (by kernel_rfl) (by kernel_rfl) (by kernel_rfl) (by kernel_rfl)
theorem FnLogDo_holds : Rows.FnLogDoSaid :=
  OpenClaim.holds_of_wide 4 Tryz.f4 rfl rfl rfl rfl rfl rfl rfl ⟨rfl, rfl, rfl, rfl, rfl⟩ rfl rfl rfl rfl rfl (by kernel_rfl) Tryz.func4 FnLogDo_joined
    (of_decide_eq_true (by kernel_rfl)) (by unfold Func.isWrapper; first | (rw [if_pos (by decide +kernel)]; kernel_rfl) | (rw [if_neg (by decide +kernel)]; exact ⟨rfl, rfl⟩))
    (fun os started H enc _ => FnLogDo_lifted os started H enc)
theorem FnLogDo_card : Rows.FnLogDoCardSaid :=
  Claim7.holds_tied_plain_at .later [] [.data, .pinned] true _ false FnLogDo_holds (fun _ h => by cases h) (by kernel_rfl) (fun _ h => by cases h) fnLogDo_row_tie rfl ⟨rfl, rfl⟩ (mainIs0.trans (by kernel_rfl)) rfl
    (fun f fn hf hfn => by
      obtain rfl : f = 4 := Option.some.inj ((show Tryz.prog.funcNamed "loop.example/pargeting/laws.FnLogDo" = some 4 by kernel_rfl).symm.trans hf) |>.symm
      obtain rfl : fn = Tryz.f4 := (Option.some.inj (Tryz.func4.symm.trans hfn)).symm
      exact ⟨looks0.symm, fun j t ht => by
        have hm : t ∈ Tryz.f4.params.toList := by simpa using Array.mem_of_getElem? ht
        have hall : (Tryz.f4.params.toList.all fun u => !Tryz.prog.wantsStandIn u) = true := by kernel_rfl
        exact (show Tryz.prog.wantsStandIn t = false by simpa using List.all_eq_true.1 hall t hm)⟩)
    (goes0 _ rfl)
end Go.Proofs.YtoaiplobfellaaaGreatDoor
