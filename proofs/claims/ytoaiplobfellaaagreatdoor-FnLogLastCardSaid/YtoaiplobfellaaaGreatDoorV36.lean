/- 'laws.FnLogLast' returns true whatever its arguments are, and leaves the arguments as they were; the package variables that the row lists hold what the program's text lays. -/
import Derived.Test.YtoaiplobfellaaaGreatDoorMc
import Derived.Test.YtoaiplobfellaaaGreatDoorKh
import Derived.Test.YtoaiplobfellaaaGreatDoorLv
set_option linter.unusedSimpArgs false
set_option linter.unusedVariables false
set_option maxHeartbeats 1000000
set_option maxRecDepth 100000
namespace Go.Proofs.YtoaiplobfellaaaGreatDoor
open Go Go.RowKit Go.Ab Go.Par
variable {m : Int}
theorem law_FnLogLast (l : Bs) : Con (E m) 9 0 [.sl (bytesOf l)] [] (.b true) [] := by
  have hbl : (bytesOf l).length = l.length := List.length_map ..
  by_cases hl : l.length ≤ 1048576
  · obtain ⟨t, ops, ⟨ht, hn, hb⟩, c0⟩ := drawLogBack_any (m := m) l hl
    have hln := ht.len
    have hbig : ∀ o ∈ ops, bndO 1073741823 o := fun o h => (hb o h).big
    have e1 : (ops.map Opn.c).length = ops.length := List.length_map ..
    have c1 := iLogBack_con (m := m) t ops ht.bE (by omega) hbig (by omega)
    have c2 := sLogBack_con (m := m) t ops ht.bB (by omega) hbig (by omega)
    have c3 := iLogBack_con (m := m) t [] ht.bE (by omega) (fun _ h => by cases h) (by simp)
    have c4 := sTreeOk_con (m := m) t ht.bE
    rw [logBack_nil] at c3
    rcases log_cases t ops with ⟨hg, h1, h2⟩ | ⟨hg, hbad⟩
    · rw [h1] at c4
      rcases ops.eq_nil_or_concat with h0 | ⟨a, o, h0⟩
      · subst h0
        rw [logBack_nil] at c1 c2
        refine con_of_cd tyOk mix Tryz.func9 rfl rfl rfl (Nat.le_of_ble_eq_true rfl) ?_
        repeat' first | refine Ra ⟨?_⟩ | ((first | refine Rc [] 0 rfl rfl (c0) ?_ | refine Rc [] 1 rfl rfl (c1) ?_ | refine Rc [] 1 rfl rfl (c2) ?_ | refine Rc [] 1 rfl rfl (c3) ?_ | refine Rc [] 0 rfl rfl (c4) ?_ | (refine bd (fun h => ?_) (fun h => ?_) <;> (try simp only [List.length_map] at h)) | refine bsplit.mk (fun h => ?_) (fun h => ?_)) <;> conv => whnf) | refine Rb ⟨?_⟩ | fail
        exact Rf
      · rw [List.concat_eq_append] at h0
        subst h0
        have e2 : (a ++ [o]).length = a.length + 1 := by simp
        have hba : ∀ x ∈ a, bndO 1073741823 x := fun x hx => hbig x (by simp [hx])
        have hga : logBad t a = false := logBad_iff.2 ⟨h1, by omega⟩
        have g1 : logBack t (a ++ [o]) = backRun t (cleanRun t (a ++ [o])) := by rw [logBack, logClean, hg]; rfl
        have g2 : logBack t a = backRun t (cleanRun t a) := by rw [logBack, logClean, hga]; rfl
        have g3 : logDo t a = logRun t a := by rw [logDo, hga]; rfl
        have hx := run_ok a h1
        have hba' : ((a ++ [o]).map Opn.c).take a.length = a.map Opn.c := by simp
        have hlo : ((a ++ [o]).map Opn.c).length = a.length + 1 := by simp
        have hj : (((a ++ [o]).map Opn.c).length : Int) - 1 = ((a.length : Nat) : Int) := by omega
        have f0 : (a ++ [o])[a.length]? = some o := by simp
        have c5 := iLogBack_con (m := m) t a ht.bE (by omega) hba (by omega)
        have c6 := iLogDo_con (m := m) t a ht.bE hba (by omega)
        have c7 := iOpBack_con (m := m) (logRun t a).1 o (bE0 hx) (hbig o (by simp))
        have hcl := clean_len a t
        have hbl2 := back_len h1 a
        rw [g1, back_last h1] at c1 c2
        rw [g2] at c5
        rw [g3] at c6
        rw [opD_eq] at c7
        rw [← hba'] at c5 c6
        generalize backRun t (cleanRun t a) = L at c1 c2 c5 hbl2
        generalize (logRun t a).1 = x at c1 c2 c6 c7
        generalize (logRun t a).2 = cx at c6
        have e3 : (L.map Opn.c).length = L.length := List.length_map ..
        cases ho : opBack x o with
        | none =>
          rw [ho] at c1 c2 c7
          simp only [List.nil_append, Option.getD_none, Option.isSome_none] at c1 c2 c7
          refine con_of_cd tyOk mix Tryz.func9 rfl rfl rfl (Nat.le_of_ble_eq_true rfl) ?_
          repeat' first | refine Ra ⟨?_⟩ | ((first | refine Rc [] 0 rfl rfl (c0) ?_ | refine Rc [] 1 rfl rfl (c1) ?_ | refine Rc [] 1 rfl rfl (c2) ?_ | refine Rc [] 1 rfl rfl (c3) ?_ | refine Rc [] 0 rfl rfl (c4) ?_ | refine Rc [] 1 rfl rfl (c5) ?_ | refine Rc [] 2 rfl rfl (c6) ?_ | refine Rc [] 0 rfl rfl (c7) ?_ | refine ⟨a.length, hj, ?_⟩ | refine ⟨Nat.zero_le _, (by omega), ?_⟩ | refine ⟨_, _, hj, mg f0, rfl, ?_⟩ | (refine bd (fun h => ?_) (fun h => ?_) <;> (try simp only [List.length_map] at h)) | refine bsplit.mk (fun h => ?_) (fun h => ?_)) <;> conv => whnf) | refine Rb ⟨?_⟩ | fail
          refine Cd.loop2 (fun mq tm S nx => ∃ (i : Nat), mq = (L.length - i) ∧ tm = [(5, .sl (L.map Opn.c)), (6, .sl (L.map Opn.c)), (8, .sl (L.map Opn.c)), (13, .k .i64 0), (14, .k .i64 i)] ∧ S = [] ∧ nx = 0 ∧ (i ≤ L.length)) ?_ ?_
          · refine li [5, 6, 8] [5, 6, 8, 13, 14] ?_
            conv => whnf
            refine ⟨rfl, rfl, _, 0, rfl, rfl, rfl, rfl, by omega⟩
          · rintro mq tm S nx ⟨i, hn, rfl, rfl, rfl, hi⟩
            by_cases hlt : i < L.length
            · have f1 : L[i]? = some L[i] := List.getElem?_eq_getElem hlt
              generalize L[i] = y at f1
              have f2 := q0 y
              repeat' first | refine Ra ⟨?_⟩ | ((first | (refine bd (fun h => ?_) (fun h => ?_) <;> (try simp only [List.length_map] at h)) | refine bsplit.mk (fun h => ?_) (fun h => ?_)) <;> conv => whnf) | refine Rb ⟨?_⟩ | fail
              refine .here ⟨mq - 1, by omega, ?_⟩
              refine la [5, 6, 8, 13, 14] ?_
              conv => whnf
              refine ⟨rfl, rfl, i + 1, (by omega), rfl, rfl, rfl, by omega⟩
            · repeat' first | refine Ra ⟨?_⟩ | ((first | (refine bd (fun h => ?_) (fun h => ?_) <;> (try simp only [List.length_map] at h)) | refine bsplit.mk (fun h => ?_) (fun h => ?_)) <;> conv => whnf) | refine Rb ⟨?_⟩ | fail
              exact Rf
        | some b =>
          rw [ho] at c1 c2 c7
          simp only [List.cons_append, List.nil_append, Option.getD_some, Option.isSome_some] at c1 c2 c7
          have e4 : ((b :: L).map Opn.c).length = L.length + 1 := by simp
          have f3 := q0 b
          have f4 : (b :: L)[0]? = some b := rfl
          refine con_of_cd tyOk mix Tryz.func9 rfl rfl rfl (Nat.le_of_ble_eq_true rfl) ?_
          repeat' first | refine Ra ⟨?_⟩ | ((first | refine Rc [] 0 rfl rfl (c0) ?_ | refine Rc [] 1 rfl rfl (c1) ?_ | refine Rc [] 1 rfl rfl (c2) ?_ | refine Rc [] 1 rfl rfl (c3) ?_ | refine Rc [] 0 rfl rfl (c4) ?_ | refine Rc [] 1 rfl rfl (c5) ?_ | refine Rc [] 2 rfl rfl (c6) ?_ | refine Rc [] 0 rfl rfl (c7) ?_ | refine ⟨a.length, hj, ?_⟩ | refine ⟨Nat.zero_le _, (by omega), ?_⟩ | refine ⟨_, _, hj, mg f0, rfl, ?_⟩ | (refine bd (fun h => ?_) (fun h => ?_) <;> (try simp only [List.length_map] at h)) | refine bsplit.mk (fun h => ?_) (fun h => ?_)) <;> conv => whnf) | refine Rb ⟨?_⟩ | fail
          refine Cd.loop2 (fun mq tm S nx => ∃ (i : Nat), mq = (L.length - i) ∧ tm = [(5, .sl ((b :: L).map Opn.c)), (6, .sl ((b :: L).map Opn.c)), (8, .sl (L.map Opn.c)), (13, .k .i64 1), (14, .k .i64 i)] ∧ S = [] ∧ nx = 0 ∧ (i ≤ L.length)) ?_ ?_
          · refine li [5, 6, 8] [5, 6, 8, 13, 14] ?_
            conv => whnf
            refine ⟨rfl, rfl, _, 0, rfl, rfl, rfl, rfl, by omega⟩
          · rintro mq tm S nx ⟨i, hn, rfl, rfl, rfl, hi⟩
            by_cases hlt : i < L.length
            · have f1 : L[i]? = some L[i] := List.getElem?_eq_getElem hlt
              have f5 : (b :: L)[i + 1]? = some L[i] := by rw [List.getElem?_cons_succ]; exact f1
              have f6 : (b :: L)[i]? = some ((b :: L)[i]'(by simp; omega)) := List.getElem?_eq_getElem _
              generalize L[i] = y at f1 f5
              generalize (b :: L)[i]'(by simp; omega) = z at f6
              have f2 := q0 y
              have f7 := q0 z
              repeat' first | refine Ra ⟨?_⟩ | ((first | (refine bd (fun h => ?_) (fun h => ?_) <;> (try simp only [List.length_map] at h)) | refine bsplit.mk (fun h => ?_) (fun h => ?_)) <;> conv => whnf) | refine Rb ⟨?_⟩ | fail
              refine .here ⟨mq - 1, by omega, ?_⟩
              refine la [5, 6, 8, 13, 14] ?_
              conv => whnf
              refine ⟨rfl, rfl, i + 1, (by omega), rfl, rfl, rfl, by omega⟩
            · repeat' first | refine Ra ⟨?_⟩ | ((first | (refine bd (fun h => ?_) (fun h => ?_) <;> (try simp only [List.length_map] at h)) | refine bsplit.mk (fun h => ?_) (fun h => ?_)) <;> conv => whnf) | refine Rb ⟨?_⟩ | fail
              exact Rf
    · have g2 : logClean t ops = [] := by rw [logClean, hg]; rfl
      have gb : logBack t ops = [] := by rw [logBack, g2]; rfl
      rw [gb] at c1 c2
      rcases hbad with h1 | ⟨h1, h2⟩
      · rw [h1] at c4
        refine con_of_cd tyOk mix Tryz.func9 rfl rfl rfl (Nat.le_of_ble_eq_true rfl) ?_
        repeat' first | refine Ra ⟨?_⟩ | ((first | refine Rc [] 0 rfl rfl (c0) ?_ | refine Rc [] 1 rfl rfl (c1) ?_ | refine Rc [] 1 rfl rfl (c2) ?_ | refine Rc [] 1 rfl rfl (c3) ?_ | refine Rc [] 0 rfl rfl (c4) ?_ | (refine bd (fun h => ?_) (fun h => ?_) <;> (try simp only [List.length_map] at h)) | refine bsplit.mk (fun h => ?_) (fun h => ?_)) <;> conv => whnf) | refine Rb ⟨?_⟩ | fail
        exact Rf
      · rw [h1] at c4
        refine con_of_cd tyOk mix Tryz.func9 rfl rfl rfl (Nat.le_of_ble_eq_true rfl) ?_
        repeat' first | refine Ra ⟨?_⟩ | ((first | refine Rc [] 0 rfl rfl (c0) ?_ | refine Rc [] 1 rfl rfl (c1) ?_ | refine Rc [] 1 rfl rfl (c2) ?_ | refine Rc [] 1 rfl rfl (c3) ?_ | refine Rc [] 0 rfl rfl (c4) ?_ | (refine bd (fun h => ?_) (fun h => ?_) <;> (try simp only [List.length_map] at h)) | refine bsplit.mk (fun h => ?_) (fun h => ?_)) <;> conv => whnf) | refine Rb ⟨?_⟩ | fail
        exact Rf
  · refine con_of_cd tyOk mix Tryz.func9 rfl rfl rfl (Nat.le_of_ble_eq_true rfl) ?_
    repeat' first | refine Ra ⟨?_⟩ | ((first | (refine bd (fun h => ?_) (fun h => ?_) <;> (try simp only [List.length_map] at h)) | refine bsplit.mk (fun h => ?_) (fun h => ?_)) <;> conv => whnf) | refine Rb ⟨?_⟩ | fail
    exact Rf
theorem FnLogLast_con (cds : List D) (h : ShpAll Tryz.prog Tryz.f9.params.toList cds) : Con (E m) 9 0 cds [] (.b true) [] := by
  rw [Tryz.params9] at h
  match cds, h with
  | [d1], ⟨h1, _⟩ =>
    obtain ⟨l, rfl⟩ := bytes_shp h1
    exact law_FnLogLast l
open Go.ChangeShapes Go.WideShapes Go.ChangeAt in
theorem FnLogLast_lifted (os : Os) (started : os.Started) (H : Type) (enc : TypeId × Value → H) :
    ReturnsInHanded {} Tryz.checked os 9 .any (fun w args => (Rows.fnLogLastSpec.pre enc Tryz.prog Tryz.f9 Rows.fnLogLastRow.domain false w args ∧ laidMetH Tryz.prog Rows.fnLogLastRow.laid w) ∧ sizedMet enc Tryz.prog Tryz.f9 (OpenSpec.ofChange Rows.fnLogLastSpec) false w args)
      (Rows.fnLogLastSpec.post enc Tryz.prog Tryz.f9 false true false false) := by
  refine returns_laid (C := Tryz.checked) (X := fun w _ => laidMetH Tryz.prog Rows.fnLogLastRow.laid w) (fun _ _ _ hh h => h.of_heap hh) own0 started (by kernel_rfl) Tryz.func9
    (ChangeSpec.witness_shaped (enc := enc) (C := Tryz.checked) (os := os) (X := fun w _ => laidMetH Tryz.prog Rows.fnLogLastRow.laid w) false (World.laidAll Tryz.prog os Rows.fnLogLastRow.laid) #[.slice none 0 0] 8 (World.laidAll_os _ _ _)
      (World.shaped_of_ZipB (by kernel_rfl) (by kernel_rfl)) (by kernel_rfl) (by kernel_rfl) (by kernel_rfl)
      (by rw [MakeChecks.laidMetH_plain _ _ _ (by kernel_rfl)]; exact laidMet_laidAll _ (by kernel_rfl) (by kernel_rfl))) ?_
  intro W base args ds gs before hval hW hsh _
  obtain ⟨m, hm⟩ := maxLen_shaped W hsh
  exact law_calls_gl (E := E m) (dp := 8) (bt := 4) laidOut0 (readB_mem (by kernel_rfl)) (by kernel_rfl) Tryz.underlying4 (by kernel_rfl) rfl (fun H ds hl => match ds, hl with
    | [d1], _ => rfl) FnLogLast_con W (gl_m hm) base args ds gs before hval hW
theorem FnLogLast_place : (Rows.fnLogLastRow.inPlace == Tryz.prog.inPlace 9) = true := by kernel_rfl
theorem FnLogLast_unf : (Rows.fnLogLastRow.unfollowed == Tryz.prog.unfollowed 9) = true := by kernel_rfl
theorem FnLogLast_rec : (Rows.fnLogLastRow.recurses == Tryz.prog.recurses 9) = true := by kernel_rfl
theorem FnLogLast_named : (Rows.fnLogLastRow.named == Tryz.prog.varsNamed 9) = true := by kernel_rfl
theorem FnLogLast_joined : joinedFacts Tryz.prog 9 Tryz.f9 Rows.fnLogLastSpec Rows.fnLogLastRow = true :=
  joined_of (by kernel_rfl) laidOut0 rowed0 (by kernel_rfl) (by kernel_rfl) (by kernel_rfl) (by rw [stops0]; rfl) (by kernel_rfl) (by rw [knobs0]; rfl) FnLogLast_place FnLogLast_unf FnLogLast_rec FnLogLast_named
    (by kernel_rfl) (by kernel_rfl) (by kernel_rfl) (by kernel_rfl) (by kernel_rfl) (by kernel_rfl) (by kernel_rfl) (by kernel_rfl) (by kernel_rfl) (by rw [plainKeys0]; rfl) (by kernel_rfl) heard0 may0 (by rw [lifts0]; rfl) (by rw [make0]; rfl) (by kernel_rfl) (by kernel_rfl) (by kernel_rfl) (by kernel_rfl)
theorem FnLogLast_holds : Rows.FnLogLastSaid :=
  OpenClaim.holds_of_wide 9 Tryz.f9 rfl rfl rfl rfl rfl rfl rfl ⟨rfl, rfl, rfl, rfl, rfl⟩ rfl rfl rfl rfl rfl (by kernel_rfl) Tryz.func9 FnLogLast_joined
    (of_decide_eq_true (by kernel_rfl)) (by unfold Func.isWrapper; first | (rw [if_pos (by decide +kernel)]; kernel_rfl) | (rw [if_neg (by decide +kernel)]; exact ⟨rfl, rfl⟩))
    (fun os started H enc _ => FnLogLast_lifted os started H enc)
theorem FnLogLast_card : Rows.FnLogLastCardSaid :=
  Claim7.holds_tied_plain_at .later [] [.data, .pinned] true _ false FnLogLast_holds (fun _ h => by cases h) (by kernel_rfl) (fun _ h => by cases h) fnLogLast_row_tie rfl ⟨rfl, rfl⟩ (mainIs0.trans (by kernel_rfl)) rfl
    (fun f fn hf hfn => by
      obtain rfl : f = 9 := Option.some.inj ((show Tryz.prog.funcNamed "loop.example/pargeting/laws.FnLogLast" = some 9 by kernel_rfl).symm.trans hf) |>.symm
      obtain rfl : fn = Tryz.f9 := (Option.some.inj (Tryz.func9.symm.trans hfn)).symm
      exact ⟨looks0.symm, fun j t ht => by
        have hm : t ∈ Tryz.f9.params.toList := by simpa using Array.mem_of_getElem? ht
        have hall : (Tryz.f9.params.toList.all fun u => !Tryz.prog.wantsStandIn u) = true := by kernel_rfl
        exact (show Tryz.prog.wantsStandIn t = false by simpa using List.all_eq_true.1 hall t hm)⟩)
    (goes0 _ rfl)
end Go.Proofs.YtoaiplobfellaaaGreatDoor
