/- 'laws.FnLogTurned' returns true whatever its arguments are, and leaves the arguments as they were; the package variables that the row lists hold what the program's text lays. -/
import Derived.Test.YtoaiplobfellaaaGreatDoorMa
import Derived.Test.YtoaiplobfellaaaGreatDoorPw
import Derived.Test.YtoaiplobfellaaaGreatDoorPu
import Derived.Test.YtoaiplobfellaaaGreatDoorKh
import Derived.Test.YtoaiplobfellaaaGreatDoorLv
set_option linter.unusedSimpArgs false
set_option linter.unusedVariables false
set_option maxHeartbeats 1000000
set_option maxRecDepth 100000
namespace Go.Proofs.YtoaiplobfellaaaGreatDoor
open Go Go.RowKit Go.Ab Go.Par
variable {m : Int}
theorem no_hit {ops : List Opn} {p : Bs} {k k0 : Nat} {o o0 : Opn} (hk : k ≤ k0) (r1 : ops[k]? = some o) (w1 : ops[k0]? = some o0) (w3 : touch o0 p = true) (hnt : touch o p = false) : k0 < k + 1 → false = true := by
  intro h
  have : k0 = k := by omega
  subst this
  rw [r1] at w1
  cases w1
  rw [hnt] at w3
  cases w3
theorem law_FnLogTurned (l : Bs) : Con (E m) 7 0 [.sl (bytesOf l)] [] (.b true) [] := by
  have hbl : (bytesOf l).length = l.length := List.length_map ..
  by_cases hl : l.length ≤ 1048576
  · obtain ⟨t, ops, ⟨ht, hn, hb⟩, c0⟩ := drawLogDo_any (m := m) l hl
    have hbig : ∀ o ∈ ops, bndO 1073741823 o := fun o h => (hb o h).big
    have e1 : (ops.map Opn.c).length = ops.length := List.length_map ..
    have c1 := iLogDo_con (m := m) t ops ht.bE hbig (by omega)
    have c2 := sLogDo_con (m := m) t ops ht.bE hbig (by omega)
    have hlen := logDo_len t ops
    have s2 := wpCodes_con (m := m) (logDo t ops).2 (logDo t ops).2 (by omega) (by omega)
    rw [decide_eq_true rfl] at s2
    rcases log_cases t ops with ⟨hg, h1, h2⟩ | ⟨hg, hbad⟩
    · have g1 : logDo t ops = logRun t ops := by rw [logDo, hg]; rfl
      have hok := run_ok ops h1
      have hrl := run_len ops t
      have htt := fun p hp hne => turned_touch ops (t := t) (p := p) h1 hp hne
      have htp := fun p (hp : p ∈ turnedL t (logRun t ops).1) => turned_ok h1 hok hp
      have htn := fun p (hp : p ∈ turnedL t (logRun t ops).1) => (turned_mem h1 hok).1 hp
      have hln := turned_len t (logRun t ops).1
      have c3 := iTurned_con (m := m) t (logRun t ops).1 ht.bE (bE0 hok)
      rw [g1] at c1 c2 s2
      generalize (logRun t ops).1 = x at c1 c2 hok htt htp htn hln c3
      generalize (logRun t ops).2 = cs at c1 c2 s2 hrl htt
      generalize turnedL t x = L at htp htn hln c3
      have e2 : (ints cs).length = cs.length := List.length_map ..
      have e3 : (strs L).length = L.length := List.length_map ..
      refine con_of_cd tyOk mix Tryz.func7 rfl rfl rfl (Nat.le_of_ble_eq_true rfl) ?_
      repeat' first | refine Ra ⟨?_⟩ | ((first | refine Rc [] 0 rfl rfl (c0) ?_ | refine Rc [] 2 rfl rfl (c1) ?_ | refine Rc [] 2 rfl rfl (c2) ?_ | refine Rc [] 0 rfl rfl (s2) ?_ | refine Rc [] 1 rfl rfl (c3) ?_ | (refine bd (fun h => ?_) (fun h => ?_) <;> (try simp only [List.length_map] at h)) | refine bsplit.mk (fun h => ?_) (fun h => ?_)) <;> conv => whnf) | refine Rb ⟨?_⟩ | fail
      refine Cd.loop2 (fun mq tm S nx => ∃ (i : Nat), mq = (L.length - i) ∧ tm = [(4, .sl (ops.map Opn.c)), (6, .sl (ints cs)), (9, .sl (strs L)), (10, .k .i64 i)] ∧ S = [] ∧ nx = 0 ∧ (i ≤ L.length)) ?_ ?_
      · refine li [6, 9] [4, 6, 9, 10] ?_
        conv => whnf
        refine ⟨rfl, rfl, _, 0, rfl, rfl, rfl, rfl, by omega⟩
      · rintro mq tm S nx ⟨i, hn, rfl, rfl, rfl, hi⟩
        by_cases hlt : i < L.length
        · have f1 : L[i]? = some L[i] := List.getElem?_eq_getElem hlt
          have f2 := htp _ (List.getElem_mem hlt)
          have f3 := htn _ (List.getElem_mem hlt)
          generalize L[i] = p at f1 f2 f3
          have hpl := (pathOk_pos f2).2
          obtain ⟨k0, o0, w1, w2, w3⟩ := htt p f2 (fun h => f3 h.symm)
          have w0 : k0 < ops.length := (List.getElem?_eq_some_iff.1 w1).1
          obtain ⟨mo, hmo⟩ : ∃ mo, mo = mq := ⟨_, rfl⟩
          subst hmo
          have hno := hn
          repeat' first | refine Ra ⟨?_⟩ | ((first | (refine bd (fun h => ?_) (fun h => ?_) <;> (try simp only [List.length_map] at h)) | refine bsplit.mk (fun h => ?_) (fun h => ?_)) <;> conv => whnf) | refine Rb ⟨?_⟩ | fail
          refine Cd.loop2 (fun mq tm S nx => ∃ (k : Nat) (has : Bool), mq = (ops.length - k) ∧ tm = [(4, .sl (ops.map Opn.c)), (6, .sl (ints cs)), (9, .sl (strs L)), (10, .k .i64 i), (11, .b has), (12, .k .i64 k)] ∧ S = [] ∧ nx = 0 ∧ (k ≤ ops.length) ∧ (k0 < k → has = true)) ?_ ?_
          · refine la [4, 6, 9, 10, 11, 12] ?_
            conv => whnf
            refine ⟨rfl, rfl, _, 0, false, rfl, rfl, rfl, rfl, by omega, by omega⟩
          · rintro mq tm S nx ⟨k, has, hn, rfl, rfl, rfl, hk, hhas⟩
            by_cases hkl : k < ops.length
            · have r1 : ops[k]? = some ops[k] := List.getElem?_eq_getElem hkl
              have r2 : cs[k]? = some (cs[k]'(by omega)) := List.getElem?_eq_getElem (by omega)
              have r3 := hb _ (List.getElem_mem hkl)
              generalize ops[k] = o at r1 r3
              generalize cs[k]'(by omega) = c at r2
              have u1 := iUnder_con (m := m) p o.path (by omega) (by have := r3.1; omega)
              have u2 := iUnder_con (m := m) p o.to (by omega) (by have := r3.2.1; omega)
              cases has with
              | true =>
                repeat' first | refine Ra ⟨?_⟩ | ((first | (refine bd (fun h => ?_) (fun h => ?_) <;> (try simp only [List.length_map] at h)) | refine bsplit.mk (fun h => ?_) (fun h => ?_)) <;> conv => whnf) | refine Rb ⟨?_⟩ | fail
                refine .here ⟨mq - 1, by omega, ?_⟩
                refine la [4, 6, 9, 10, 11, 12] ?_
                conv => whnf
                refine ⟨rfl, rfl, k + 1, true, (by omega), rfl, rfl, rfl, by omega, fun _ => rfl⟩
              | false =>
                have hk0 : k ≤ k0 := by
                  apply Decidable.byContradiction
                  intro h
                  have := hhas (by omega)
                  cases this
                by_cases hc : c = 0
                · by_cases v1 : o.path = p
                  · repeat' first | refine Ra ⟨?_⟩ | ((first | (refine bd (fun h => ?_) (fun h => ?_) <;> (try simp only [List.length_map] at h)) | refine bsplit.mk (fun h => ?_) (fun h => ?_)) <;> conv => whnf) | refine Rb ⟨?_⟩ | fail
                    refine .here ⟨mq - 1, by omega, ?_⟩
                    refine la [4, 6, 9, 10, 11, 12] ?_
                    conv => whnf
                    refine ⟨rfl, rfl, k + 1, true, (by omega), rfl, rfl, rfl, by omega, fun _ => rfl⟩
                  · by_cases v2 : o.to = p
                    · repeat' first | refine Ra ⟨?_⟩ | ((first | (refine bd (fun h => ?_) (fun h => ?_) <;> (try simp only [List.length_map] at h)) | refine bsplit.mk (fun h => ?_) (fun h => ?_)) <;> conv => whnf) | refine Rb ⟨?_⟩ | fail
                      refine .here ⟨mq - 1, by omega, ?_⟩
                      refine la [4, 6, 9, 10, 11, 12] ?_
                      conv => whnf
                      refine ⟨rfl, rfl, k + 1, true, (by omega), rfl, rfl, rfl, by omega, fun _ => rfl⟩
                    · cases v3 : pathUnder p o.path with
                      | true =>
                        rw [v3] at u1
                        repeat' first | refine Ra ⟨?_⟩ | ((first | refine Rc [] 0 rfl rfl (u1) ?_ | (refine bd (fun h => ?_) (fun h => ?_) <;> (try simp only [List.length_map] at h)) | refine bsplit.mk (fun h => ?_) (fun h => ?_)) <;> conv => whnf) | refine Rb ⟨?_⟩ | fail
                        refine .here ⟨mq - 1, by omega, ?_⟩
                        refine la [4, 6, 9, 10, 11, 12] ?_
                        conv => whnf
                        refine ⟨rfl, rfl, k + 1, true, (by omega), rfl, rfl, rfl, by omega, fun _ => rfl⟩
                      | false =>
                        rw [v3] at u1
                        by_cases v4 : o.to = []
                        · have v6 : ¬ p = [] := fun h => v2 (v4.trans h.symm)
                          have hnt : touch o p = false := by simp [touch, v1, v3, v4, v6]
                          have w9 := no_hit hk0 r1 w1 w3 hnt
                          repeat' first | refine Ra ⟨?_⟩ | ((first | refine Rc [] 0 rfl rfl (u1) ?_ | (refine bd (fun h => ?_) (fun h => ?_) <;> (try simp only [List.length_map] at h)) | refine bsplit.mk (fun h => ?_) (fun h => ?_)) <;> conv => whnf) | refine Rb ⟨?_⟩ | fail
                          refine .here ⟨mq - 1, by omega, ?_⟩
                          refine la [4, 6, 9, 10, 11, 12] ?_
                          conv => whnf
                          refine ⟨rfl, rfl, k + 1, false, (by omega), rfl, rfl, rfl, by omega, w9⟩
                        · cases v5 : pathUnder p o.to with
                          | true =>
                            rw [v5] at u2
                            repeat' first | refine Ra ⟨?_⟩ | ((first | refine Rc [] 0 rfl rfl (u1) ?_ | refine Rc [] 0 rfl rfl (u2) ?_ | (refine bd (fun h => ?_) (fun h => ?_) <;> (try simp only [List.length_map] at h)) | refine bsplit.mk (fun h => ?_) (fun h => ?_)) <;> conv => whnf) | refine Rb ⟨?_⟩ | fail
                            refine .here ⟨mq - 1, by omega, ?_⟩
                            refine la [4, 6, 9, 10, 11, 12] ?_
                            conv => whnf
                            refine ⟨rfl, rfl, k + 1, true, (by omega), rfl, rfl, rfl, by omega, fun _ => rfl⟩
                          | false =>
                            rw [v5] at u2
                            have hnt : touch o p = false := by simp [touch, v1, v2, v3, v5]
                            have w9 := no_hit hk0 r1 w1 w3 hnt
                            repeat' first | refine Ra ⟨?_⟩ | ((first | refine Rc [] 0 rfl rfl (u1) ?_ | refine Rc [] 0 rfl rfl (u2) ?_ | (refine bd (fun h => ?_) (fun h => ?_) <;> (try simp only [List.length_map] at h)) | refine bsplit.mk (fun h => ?_) (fun h => ?_)) <;> conv => whnf) | refine Rb ⟨?_⟩ | fail
                            refine .here ⟨mq - 1, by omega, ?_⟩
                            refine la [4, 6, 9, 10, 11, 12] ?_
                            conv => whnf
                            refine ⟨rfl, rfl, k + 1, false, (by omega), rfl, rfl, rfl, by omega, w9⟩
                · have w9 : k0 < k + 1 → false = true := by
                    intro h
                    exfalso
                    have : k0 = k := by omega
                    subst this
                    rw [r2] at w2
                    exact hc (Option.some.inj w2)
                  repeat' first | refine Ra ⟨?_⟩ | ((first | (refine bd (fun h => ?_) (fun h => ?_) <;> (try simp only [List.length_map] at h)) | refine bsplit.mk (fun h => ?_) (fun h => ?_)) <;> conv => whnf) | refine Rb ⟨?_⟩ | fail
                  refine .here ⟨mq - 1, by omega, ?_⟩
                  refine la [4, 6, 9, 10, 11, 12] ?_
                  conv => whnf
                  refine ⟨rfl, rfl, k + 1, false, (by omega), rfl, rfl, rfl, by omega, w9⟩
            · have hz := hhas (by omega)
              subst hz
              repeat' first | refine Ra ⟨?_⟩ | ((first | (refine bd (fun h => ?_) (fun h => ?_) <;> (try simp only [List.length_map] at h)) | refine bsplit.mk (fun h => ?_) (fun h => ?_)) <;> conv => whnf) | refine Rb ⟨?_⟩ | fail
              refine .here ⟨mo - 1, by omega, ?_⟩
              refine la [4, 6, 9, 10] ?_
              conv => whnf
              refine ⟨rfl, rfl, i + 1, (by omega), rfl, rfl, rfl, by omega⟩
        · repeat' first | refine Ra ⟨?_⟩ | ((first | (refine bd (fun h => ?_) (fun h => ?_) <;> (try simp only [List.length_map] at h)) | refine bsplit.mk (fun h => ?_) (fun h => ?_)) <;> conv => whnf) | refine Rb ⟨?_⟩ | fail
          exact Rf
    · have g1 : logDo t ops = ([], []) := by rw [logDo, hg]; rfl
      rw [g1] at c1 c2 s2
      by_cases hz : ops.length = 0
      · have hz2 : ops = [] := List.length_eq_zero_iff.1 hz
        subst hz2
        rcases hbad with h1 | ⟨h1, h2⟩
        · have hT : turnedL t [] = [] := by rw [turnedL, h1]; rfl
          have c3 := iTurned_con (m := m) t [] ht.bE (by simp)
          rw [hT] at c3
          refine con_of_cd tyOk mix Tryz.func7 rfl rfl rfl (Nat.le_of_ble_eq_true rfl) ?_
          repeat' first | refine Ra ⟨?_⟩ | ((first | refine Rc [] 0 rfl rfl (c0) ?_ | refine Rc [] 2 rfl rfl (c1) ?_ | refine Rc [] 2 rfl rfl (c2) ?_ | refine Rc [] 0 rfl rfl (s2) ?_ | refine Rc [] 1 rfl rfl (c3) ?_ | (refine bd (fun h => ?_) (fun h => ?_) <;> (try simp only [List.length_map] at h)) | refine bsplit.mk (fun h => ?_) (fun h => ?_)) <;> conv => whnf) | refine Rb ⟨?_⟩ | fail
          refine Cd.loop2 (fun mq tm S nx => mq = (0) ∧ tm = [(4, .sl []), (6, .sl []), (9, .sl []), (10, .k .i64 0)] ∧ S = [] ∧ nx = 0) ?_ ?_
          · refine li [6, 9] [4, 6, 9, 10] ?_
            conv => whnf
            refine ⟨rfl, rfl, _, rfl, rfl, rfl, rfl⟩
          · rintro mq tm S nx ⟨hn, rfl, rfl, rfl⟩
            repeat' first | refine Ra ⟨?_⟩ | ((first | (refine bd (fun h => ?_) (fun h => ?_) <;> (try simp only [List.length_map] at h)) | refine bsplit.mk (fun h => ?_) (fun h => ?_)) <;> conv => whnf) | refine Rb ⟨?_⟩ | fail
            exact Rf
        · simp at h2
      · refine con_of_cd tyOk mix Tryz.func7 rfl rfl rfl (Nat.le_of_ble_eq_true rfl) ?_
        repeat' first | refine Ra ⟨?_⟩ | ((first | refine Rc [] 0 rfl rfl (c0) ?_ | refine Rc [] 2 rfl rfl (c1) ?_ | refine Rc [] 2 rfl rfl (c2) ?_ | refine Rc [] 0 rfl rfl (s2) ?_ | (refine bd (fun h => ?_) (fun h => ?_) <;> (try simp only [List.length_map] at h)) | refine bsplit.mk (fun h => ?_) (fun h => ?_)) <;> conv => whnf) | refine Rb ⟨?_⟩ | fail
        exact Rf
  · refine con_of_cd tyOk mix Tryz.func7 rfl rfl rfl (Nat.le_of_ble_eq_true rfl) ?_
    repeat' first | refine Ra ⟨?_⟩ | ((first | (refine bd (fun h => ?_) (fun h => ?_) <;> (try simp only [List.length_map] at h)) | refine bsplit.mk (fun h => ?_) (fun h => ?_)) <;> conv => whnf) | refine Rb ⟨?_⟩ | fail
    exact Rf
theorem FnLogTurned_con (cds : List D) (h : ShpAll Tryz.prog Tryz.f7.params.toList cds) : Con (E m) 7 0 cds [] (.b true) [] := by
  rw [Tryz.params7] at h
  match cds, h with
  | [d1], ⟨h1, _⟩ =>
    obtain ⟨l, rfl⟩ := bytes_shp h1
    exact law_FnLogTurned l
open Go.ChangeShapes Go.WideShapes Go.ChangeAt in
theorem FnLogTurned_lifted (os : Os) (started : os.Started) (H : Type) (enc : TypeId × Value → H) :
    ReturnsInHanded {} Tryz.checked os 7 .any (fun w args => (Rows.fnLogTurnedSpec.pre enc Tryz.prog Tryz.f7 Rows.fnLogTurnedRow.domain false w args ∧ laidMetH Tryz.prog Rows.fnLogTurnedRow.laid w) ∧ sizedMet enc Tryz.prog Tryz.f7 (OpenSpec.ofChange Rows.fnLogTurnedSpec) false w args)
      (Rows.fnLogTurnedSpec.post enc Tryz.prog Tryz.f7 false true false false) := by
  refine returns_laid (C := Tryz.checked) (X := fun w _ => laidMetH Tryz.prog Rows.fnLogTurnedRow.laid w) (fun _ _ _ hh h => h.of_heap hh) own0 started (by kernel_rfl) Tryz.func7
    (ChangeSpec.witness_shaped (enc := enc) (C := Tryz.checked) (os := os) (X := fun w _ => laidMetH Tryz.prog Rows.fnLogTurnedRow.laid w) false (World.laidAll Tryz.prog os Rows.fnLogTurnedRow.laid) #[.slice none 0 0] 8 (World.laidAll_os _ _ _)
      (World.shaped_of_ZipB (by kernel_rfl) (by kernel_rfl)) (by kernel_rfl) (by kernel_rfl) (by kernel_rfl)
      (by rw [MakeChecks.laidMetH_plain _ _ _ (by kernel_rfl)]; exact laidMet_laidAll _ (by kernel_rfl) (by kernel_rfl))) ?_
  intro W base args ds gs before hval hW hsh _
  obtain ⟨m, hm⟩ := maxLen_shaped W hsh
  exact law_calls_gl (E := E m) (dp := 8) (bt := 4) laidOut0 (readB_mem (by kernel_rfl)) (by kernel_rfl) Tryz.underlying4 (by kernel_rfl) rfl (fun H ds hl => match ds, hl with
    | [d1], _ => rfl) FnLogTurned_con W (gl_m hm) base args ds gs before hval hW
theorem FnLogTurned_place : (Rows.fnLogTurnedRow.inPlace == Tryz.prog.inPlace 7) = true := by kernel_rfl
theorem FnLogTurned_unf : (Rows.fnLogTurnedRow.unfollowed == Tryz.prog.unfollowed 7) = true := by kernel_rfl
theorem FnLogTurned_rec : (Rows.fnLogTurnedRow.recurses == Tryz.prog.recurses 7) = true := by kernel_rfl
theorem FnLogTurned_named : (Rows.fnLogTurnedRow.named == Tryz.prog.varsNamed 7) = true := by kernel_rfl
theorem FnLogTurned_joined : joinedFacts Tryz.prog 7 Tryz.f7 Rows.fnLogTurnedSpec Rows.fnLogTurnedRow = true :=
  joined_of (by kernel_rfl) laidOut0 rowed0 (by kernel_rfl) (by kernel_rfl) (by kernel_rfl) (by rw [stops0]; rfl) (by kernel_rfl) (by rw [knobs0]; rfl) FnLogTurned_place FnLogTurned_unf FnLogTurned_rec FnLogTurned_named
    (by kernel_rfl) (by kernel_rfl) (by kernel_rfl) (by kernel_rfl) (by kernel_rfl) (by kernel_rfl) (by kernel_rfl) (by kernel_rfl) (by kernel_rfl) (by rw [plainKeys0]; rfl) (by kernel_rfl) heard0 may0 (by rw [lifts0]; rfl) (by rw [make0]; rfl) (by kernel_rfl) (by kernel_rfl) (by kernel_rfl) (by kernel_rfl)
theorem FnLogTurned_holds : Rows.FnLogTurnedSaid :=
  OpenClaim.holds_of_wide 7 Tryz.f7 rfl rfl rfl rfl rfl rfl rfl ⟨rfl, rfl, rfl, rfl, rfl⟩ rfl rfl rfl rfl rfl (by kernel_rfl) Tryz.func7 FnLogTurned_joined
    (of_decide_eq_true (by kernel_rfl)) (by unfold Func.isWrapper; first | (rw [if_pos (by decide +kernel)]; kernel_rfl) | (rw [if_neg (by decide +kernel)]; exact ⟨rfl, rfl⟩))
    (fun os started H enc _ => FnLogTurned_lifted os started H enc)
theorem FnLogTurned_card : Rows.FnLogTurnedCardSaid :=
  Claim7.holds_tied_plain_at .later [] [.data, .pinned] true _ false FnLogTurned_holds (fun _ h => by cases h) (by kernel_rfl) (fun _ h => by cases h) fnLogTurned_row_tie rfl ⟨rfl, rfl⟩ (mainIs0.trans (by kernel_rfl)) rfl
    (fun f fn hf hfn => by
      obtain rfl : f = 7 := Option.some.inj ((show Tryz.prog.funcNamed "loop.example/pargeting/laws.FnLogTurned" = some 7 by kernel_rfl).symm.trans hf) |>.symm
      obtain rfl : fn = Tryz.f7 := (Option.some.inj (Tryz.func7.symm.trans hfn)).symm
      exact ⟨looks0.symm, fun j t ht => by
        have hm : t ∈ Tryz.f7.params.toList := by simpa using Array.mem_of_getElem? ht
        have hall : (Tryz.f7.params.toList.all fun u => !Tryz.prog.wantsStandIn u) = true := by kernel_rfl
        exact (show Tryz.prog.wantsStandIn t = false by simpa using List.all_eq_true.1 hall t hm)⟩)
    (goes0 _ rfl)
end Go.Proofs.YtoaiplobfellaaaGreatDoor
