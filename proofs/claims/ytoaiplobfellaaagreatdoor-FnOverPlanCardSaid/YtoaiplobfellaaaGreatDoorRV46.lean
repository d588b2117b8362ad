/- 'laws.FnOverPlan' returns true whatever its arguments are, and leaves the arguments as they were; the package variables that the row lists hold what the program's text lays. -/
import Derived.Test.YtoaiplobfellaaaGreatDoorRMn
import Derived.Test.YtoaiplobfellaaaGreatDoorRKh
import Derived.Test.YtoaiplobfellaaaGreatDoorRLv
set_option linter.unusedSimpArgs false
set_option linter.unusedVariables false
set_option maxHeartbeats 1000000
set_option maxRecDepth 100000
namespace Go.Proofs.YtoaiplobfellaaaGreatDoor
open Go Go.RowKit Go.Ab Go.Par
variable {m : Int}
theorem law_FnOverPlan (l k : Bs) : Con (E m) 19 0 [.sl (bytesOf l), .sl (bytesOf k)] [] (.b true) [] := by
  have hbl : (bytesOf l).length = l.length := List.length_map ..
  have hbk : (bytesOf k).length = k.length := List.length_map ..
  by_cases hl : l.length ≤ 1048576
  · by_cases hk : k.length ≤ 1048576
    · obtain ⟨o, ops, ⟨hV, hn, hb⟩, c0⟩ := drawLogOver_any (m := m) l hl
      have hbig : ∀ o ∈ ops, bndO 1073741823 o := fun o h => (hb o h).big
      have e1 : (ops.map Opn.c).length = ops.length := List.length_map ..
      have c1 := iLogOver_con (m := m) o ops hV hbig (by omega)
      have c2 := sLogOver_con (m := m) o ops hV hbig (by omega)
      have hRl := logOver_len o ops
      have hRb := logOver_bnd (o := o) (ops := ops)
      have s1 := overSame_con (m := m) (logOver o ops).1 (logOver o ops).1 hRb hRb
      rw [decide_eq_true rfl] at s1
      have s2 := wpCodes_con (m := m) (logOver o ops).2 (logOver o ops).2 (by omega) (by omega)
      rw [decide_eq_true rfl] at s2
      have c3 := sOverOk_con (m := m) o hV
      rcases over_cases o ops with ⟨t, v, hg, h1, h2, h3⟩ | ⟨hg, hbad⟩
      · have hx : logOver o ops = overRun o ops := by rw [logOver, hg]; rfl
        rw [hx] at c1 c2 s1 s2 hRl
        rw [h1] at c3
        obtain ⟨_, _, k3, k4⟩ := overT_ok h2
        obtain ⟨r1, r2, r3, r4⟩ := over_run ops h2
        have c6 := iOverView_con (m := m) (overRun o ops).1 (bndV_ok r1)
        rw [r1] at c6
        have hok := run_ok ops k4
        have hul := treeOk_len hok
        have s3 := treeSame_con (m := m) (logRun v ops).1 (logRun v ops).1 (by omega) (by omega)
        rw [decide_eq_true rfl] at s3
        have hrl := run_len ops v
        have hcg := fun i o h => code_get (t := v) (ops := ops) (i := i) (o := o) h
        have hfin : (logRun v (ops.take ops.length)).1 = (logRun v ops).1 := by rw [List.take_length]
        have hst : ∀ i p, ops[i]? = some p → (logRun v (ops.take (i + 1))).1 = (treeDo (logRun v (ops.take i)).1 p).1 := fun i p h => by
          rw [List.take_add_one, h, run_app]
          rfl
        rw [r2] at c1 c2 s2
        generalize (overRun o ops).1 = X at c1 c2 s1 c6
        generalize (logRun v ops).2 = cs at c1 c2 s2 hrl hcg
        generalize (logRun v ops).1 = u at c6 s3 hfin
        have e2 : (ints cs).length = cs.length := List.length_map ..
        have hf0 : (logRun v (ops.take 0)).1 = v := rfl
        refine con_of_cd tyOk mix Tryz.func19 rfl rfl rfl (Nat.le_of_ble_eq_true rfl) ?_
        repeat' first | refine Ra ⟨?_⟩ | ((first | refine Rc [] 0 rfl rfl (c0) ?_ | refine Rc [] 0 rfl rfl (c1) ?_ | refine Rc [] 0 rfl rfl (c2) ?_ | refine Rc [] 0 rfl rfl (s1) ?_ | refine Rc [] 0 rfl rfl (s2) ?_ | refine Rc [] 0 rfl rfl (c3) ?_ | (refine bd (fun h => ?_) (fun h => ?_) <;> (try simp only [List.length_map] at h)) | refine bsplit.mk (fun h => ?_) (fun h => ?_)) <;> conv => whnf) | refine Rb ⟨?_⟩ | fail
        refine Cd.loop2 (fun mq tm S nx => ∃ (i : Nat) (z : Ovr) (tz : List Ent), mq = (ops.length - i) ∧ tm = [(1, .sl (bytesOf k)), (6, .sl (ops.map Opn.c)), (7, .bp 0 0), (8, .sl (ints cs)), (11, .bp 1 0), (12, .k .i64 i)] ∧ S = [(0, .box 83 X.c), (1, .box 83 z.c)] ∧ nx = 2 ∧ (i ≤ ops.length) ∧ (overT z = some (tz, (logRun v (ops.take i)).1))) ?_ ?_
        · refine la [1, 6, 7, 8, 11, 12] ?_
          conv => whnf
          refine ⟨rfl, rfl, _, 0, o, t, rfl, rfl, rfl, rfl, by omega, (by rw [hf0]; exact h2)⟩
        · rintro mq tm S nx ⟨i, z, tz, hn, rfl, rfl, rfl, hi, hz⟩
          by_cases hlt : i < ops.length
          · have f1 : ops[i]? = some ops[i] := List.getElem?_eq_getElem hlt
            generalize ops[i] = p at f1
            have f2 := hcg i p f1
            have f3 := hst i p f1
            obtain ⟨d1, d2, _, _⟩ := over_do hz p
            have c7 := iOverDo_con (m := m) z p (bndV_ok hz) (hbig p (List.mem_of_getElem? f1))
            rw [d2] at c7
            rw [← f3] at d1
            generalize (overDo z p).1 = Y at c7 d1
            generalize (treeDo (logRun v (ops.take i)).1 p).2 = cc at f2 c7
            have cP := iOverPush_con (m := m) Y (bndV_ok d1)
            obtain ⟨tp, dP⟩ := over_push d1
            have cF := iOverFlat_con (m := m) Y (bndV_ok d1)
            have dF := over_flat d1
            have cS := iOverSink_con (m := m) Y (bndV_ok d1)
            have dS := over_sink d1
            generalize overPush Y = YP at cP dP
            generalize overFlat Y = YF at cF dF
            generalize overSink Y = YS at cS dS
            by_cases hm : i < k.length
            · have f4 : (bytesOf k)[i]? = some [.k .u8 ((k[i]).toNat : Int)] := by rw [bytesOf, List.getElem?_map, List.getElem?_eq_getElem hm]; rfl
              have f5 : (k[i]).toNat ≤ 255 := by have := (k[i]).toNat_lt; omega
              generalize (k[i]).toNat = bt at f4 f5
              have f6 : (0 : Int) ≤ bt := by omega
              by_cases q0 : (bt : Int) % 6 = 0
              · repeat' first | refine Ra ⟨?_⟩ | ((first | refine Rc [] 0 rfl rfl (c7) ?_ | refine Rc [] 0 rfl rfl (cP) ?_ | refine wr (by omega) (by omega) ?_ | refine ⟨(rfl : [D.k IntKind.u8 (bt : Int)].length = _), ?_⟩ | (refine bd (fun h => ?_) (fun h => ?_) <;> (try simp only [List.length_map] at h)) | refine bsplit.mk (fun h => ?_) (fun h => ?_)) <;> conv => whnf) | refine Rb ⟨?_⟩ | fail
                any_goals (exfalso; omega)
                refine .here ⟨mq - 1, by omega, ?_⟩
                refine la [1, 6, 7, 8, 11, 12] ?_
                conv => whnf
                refine ⟨rfl, rfl, i + 1, YP.1, tp, (by omega), rfl, rfl, rfl, by omega, dP⟩
              · by_cases q1 : (bt : Int) % 6 = 1
                · repeat' first | refine Ra ⟨?_⟩ | ((first | refine Rc [] 0 rfl rfl (c7) ?_ | refine Rc [] 0 rfl rfl (cP) ?_ | refine wr (by omega) (by omega) ?_ | refine ⟨(rfl : [D.k IntKind.u8 (bt : Int)].length = _), ?_⟩ | (refine bd (fun h => ?_) (fun h => ?_) <;> (try simp only [List.length_map] at h)) | refine bsplit.mk (fun h => ?_) (fun h => ?_)) <;> conv => whnf) | refine Rb ⟨?_⟩ | fail
                  any_goals (exfalso; omega)
                  refine .here ⟨mq - 1, by omega, ?_⟩
                  refine la [1, 6, 7, 8, 11, 12] ?_
                  conv => whnf
                  refine ⟨rfl, rfl, i + 1, YP.1, tp, (by omega), rfl, rfl, rfl, by omega, dP⟩
                · by_cases q2 : (bt : Int) % 6 = 2
                  · repeat' first | refine Ra ⟨?_⟩ | ((first | refine Rc [] 0 rfl rfl (c7) ?_ | refine Rc [] 0 rfl rfl (cF) ?_ | refine wr (by omega) (by omega) ?_ | refine ⟨(rfl : [D.k IntKind.u8 (bt : Int)].length = _), ?_⟩ | (refine bd (fun h => ?_) (fun h => ?_) <;> (try simp only [List.length_map] at h)) | refine bsplit.mk (fun h => ?_) (fun h => ?_)) <;> conv => whnf) | refine Rb ⟨?_⟩ | fail
                    any_goals (exfalso; omega)
                    refine .here ⟨mq - 1, by omega, ?_⟩
                    refine la [1, 6, 7, 8, 11, 12] ?_
                    conv => whnf
                    refine ⟨rfl, rfl, i + 1, YF.1, tz, (by omega), rfl, rfl, rfl, by omega, dF⟩
                  · by_cases q3 : (bt : Int) % 6 = 3
                    · repeat' first | refine Ra ⟨?_⟩ | ((first | refine Rc [] 0 rfl rfl (c7) ?_ | refine Rc [] 0 rfl rfl (cS) ?_ | refine wr (by omega) (by omega) ?_ | refine ⟨(rfl : [D.k IntKind.u8 (bt : Int)].length = _), ?_⟩ | (refine bd (fun h => ?_) (fun h => ?_) <;> (try simp only [List.length_map] at h)) | refine bsplit.mk (fun h => ?_) (fun h => ?_)) <;> conv => whnf) | refine Rb ⟨?_⟩ | fail
                      any_goals (exfalso; omega)
                      refine .here ⟨mq - 1, by omega, ?_⟩
                      refine la [1, 6, 7, 8, 11, 12] ?_
                      conv => whnf
                      refine ⟨rfl, rfl, i + 1, YS, tz, (by omega), rfl, rfl, rfl, by omega, dS⟩
                    · repeat' first | refine Ra ⟨?_⟩ | ((first | refine Rc [] 0 rfl rfl (c7) ?_ | refine wr (by omega) (by omega) ?_ | refine ⟨(rfl : [D.k IntKind.u8 (bt : Int)].length = _), ?_⟩ | (refine bd (fun h => ?_) (fun h => ?_) <;> (try simp only [List.length_map] at h)) | refine bsplit.mk (fun h => ?_) (fun h => ?_)) <;> conv => whnf) | refine Rb ⟨?_⟩ | fail
                      any_goals (exfalso; omega)
                      refine .here ⟨mq - 1, by omega, ?_⟩
                      refine la [1, 6, 7, 8, 11, 12] ?_
                      conv => whnf
                      refine ⟨rfl, rfl, i + 1, Y, tz, (by omega), rfl, rfl, rfl, by omega, d1⟩
            · repeat' first | refine Ra ⟨?_⟩ | ((first | refine Rc [] 0 rfl rfl (c7) ?_ | (refine bd (fun h => ?_) (fun h => ?_) <;> (try simp only [List.length_map] at h)) | refine bsplit.mk (fun h => ?_) (fun h => ?_)) <;> conv => whnf) | refine Rb ⟨?_⟩ | fail
              refine .here ⟨mq - 1, by omega, ?_⟩
              refine la [1, 6, 7, 8, 11, 12] ?_
              conv => whnf
              refine ⟨rfl, rfl, i + 1, Y, tz, (by omega), rfl, rfl, rfl, by omega, d1⟩
          · obtain rfl : i = ops.length := by omega
            rw [hfin] at hz
            have c8 := iOverView_con (m := m) z (bndV_ok hz)
            rw [hz] at c8
            repeat' first | refine Ra ⟨?_⟩ | ((first | refine Rc [] 0 rfl rfl (c6) ?_ | refine Rc [] 0 rfl rfl (c8) ?_ | refine Rc [] 0 rfl rfl (s3) ?_ | (refine bd (fun h => ?_) (fun h => ?_) <;> (try simp only [List.length_map] at h)) | refine bsplit.mk (fun h => ?_) (fun h => ?_)) <;> conv => whnf) | refine Rb ⟨?_⟩ | fail
            exact Rf
      · have hx : logOver o ops = (ov0, []) := by rw [logOver, hg]; rfl
        rw [hx] at c1 c2 s1 s2
        by_cases h0 : ops.length = 0
        · rcases hbad with h1 | ⟨h1, h2⟩
          · rw [h1] at c3
            refine con_of_cd tyOk mix Tryz.func19 rfl rfl rfl (Nat.le_of_ble_eq_true rfl) ?_
            repeat' first | refine Ra ⟨?_⟩ | ((first | refine Rc [] 0 rfl rfl (c0) ?_ | refine Rc [] 0 rfl rfl (c1) ?_ | refine Rc [] 0 rfl rfl (c2) ?_ | refine Rc [] 0 rfl rfl (s1) ?_ | refine Rc [] 0 rfl rfl (s2) ?_ | refine Rc [] 0 rfl rfl (c3) ?_ | (refine bd (fun h => ?_) (fun h => ?_) <;> (try simp only [List.length_map] at h)) | refine bsplit.mk (fun h => ?_) (fun h => ?_)) <;> conv => whnf) | refine Rb ⟨?_⟩ | fail
            exact Rf
          · omega
        · refine con_of_cd tyOk mix Tryz.func19 rfl rfl rfl (Nat.le_of_ble_eq_true rfl) ?_
          repeat' first | refine Ra ⟨?_⟩ | ((first | refine Rc [] 0 rfl rfl (c0) ?_ | refine Rc [] 0 rfl rfl (c1) ?_ | refine Rc [] 0 rfl rfl (c2) ?_ | refine Rc [] 0 rfl rfl (s1) ?_ | refine Rc [] 0 rfl rfl (s2) ?_ | (refine bd (fun h => ?_) (fun h => ?_) <;> (try simp only [List.length_map] at h)) | refine bsplit.mk (fun h => ?_) (fun h => ?_)) <;> conv => whnf) | refine Rb ⟨?_⟩ | fail
          exact Rf
    · refine con_of_cd tyOk mix Tryz.func19 rfl rfl rfl (Nat.le_of_ble_eq_true rfl) ?_
      repeat' first | refine Ra ⟨?_⟩ | ((first | (refine bd (fun h => ?_) (fun h => ?_) <;> (try simp only [List.length_map] at h)) | refine bsplit.mk (fun h => ?_) (fun h => ?_)) <;> conv => whnf) | refine Rb ⟨?_⟩ | fail
      exact Rf
  · refine con_of_cd tyOk mix Tryz.func19 rfl rfl rfl (Nat.le_of_ble_eq_true rfl) ?_
    repeat' first | refine Ra ⟨?_⟩ | ((first | (refine bd (fun h => ?_) (fun h => ?_) <;> (try simp only [List.length_map] at h)) | refine bsplit.mk (fun h => ?_) (fun h => ?_)) <;> conv => whnf) | refine Rb ⟨?_⟩ | fail
    exact Rf
theorem FnOverPlan_con (cds : List D) (h : ShpAll Tryz.prog Tryz.f19.params.toList cds) : Con (E m) 19 0 cds [] (.b true) [] := by
  rw [Tryz.params19] at h
  match cds, h with
  | [d1, d2], ⟨h1, h2, _⟩ =>
    obtain ⟨l, rfl⟩ := bytes_shp h1
    obtain ⟨k, rfl⟩ := bytes_shp h2
    exact law_FnOverPlan l k
open Go.ChangeShapes Go.WideShapes Go.ChangeAt in
theorem FnOverPlan_lifted (os : Os) (started : os.Started) (H : Type) (enc : TypeId × Value → H) :
    ReturnsInHanded {} Tryz.checked os 19 .any (fun w args => (Rows.fnOverPlanSpec.pre enc Tryz.prog Tryz.f19 Rows.fnOverPlanRow.domain false w args ∧ laidMetH Tryz.prog Rows.fnOverPlanRow.laid w) ∧ sizedMet enc Tryz.prog Tryz.f19 (OpenSpec.ofChange Rows.fnOverPlanSpec) false w args)
      (Rows.fnOverPlanSpec.post enc Tryz.prog Tryz.f19 false true false false) := by
  refine returns_laid (C := Tryz.checked) (X := fun w _ => laidMetH Tryz.prog Rows.fnOverPlanRow.laid w) (fun _ _ _ hh h => h.of_heap hh) own0 started (by kernel_rfl) Tryz.func19
    (ChangeSpec.witness_shaped (enc := enc) (C := Tryz.checked) (os := os) (X := fun w _ => laidMetH Tryz.prog Rows.fnOverPlanRow.laid w) false (World.laidAll Tryz.prog os Rows.fnOverPlanRow.laid) #[.slice none 0 0, .slice none 0 0] 8 (World.laidAll_os _ _ _)
      (World.shaped_of_ZipB (by kernel_rfl) (by kernel_rfl)) (by kernel_rfl) (by kernel_rfl) (by kernel_rfl)
      (by rw [MakeChecks.laidMetH_plain _ _ _ (by kernel_rfl)]; exact laidMet_laidAll _ (by kernel_rfl) (by kernel_rfl))) ?_
  intro W base args ds gs before hval hW hsh _
  obtain ⟨m, hm⟩ := maxLen_shaped W hsh
  exact law_calls_gl (E := E m) (dp := 8) (bt := 4) laidOut0 (readB_mem (by kernel_rfl)) (by kernel_rfl) Tryz.underlying4 (by kernel_rfl) rfl (fun H ds hl => match ds, hl with
    | [d1, d2], _ => rfl) FnOverPlan_con W (gl_m hm) base args ds gs before hval hW
theorem FnOverPlan_place : (Rows.fnOverPlanRow.inPlace == Tryz.prog.inPlace 19) = true := by kernel_rfl
theorem FnOverPlan_unf : (Rows.fnOverPlanRow.unfollowed == Tryz.prog.unfollowed 19) = true := by kernel_rfl
theorem FnOverPlan_rec : (Rows.fnOverPlanRow.recurses == Tryz.prog.recurses 19) = true := by kernel_rfl
theorem FnOverPlan_named : (Rows.fnOverPlanRow.named == Tryz.prog.varsNamed 19) = true := by kernel_rfl
theorem FnOverPlan_joined : joinedFacts Tryz.prog 19 Tryz.f19 Rows.fnOverPlanSpec Rows.fnOverPlanRow = true :=
  joined_of (by kernel_rfl) laidOut0 rowed0 (by kernel_rfl) (by kernel_rfl) (by kernel_rfl) (by rw [stops0]; rfl) (by kernel_rfl) (by rw [knobs0]; rfl) FnOverPlan_place FnOverPlan_unf FnOverPlan_rec FnOverPlan_named
    (by kernel_rfl) (by kernel_rfl) (by kernel_rfl) (by kernel_rfl) (by kernel_rfl) (by kernel_rfl) (by kernel_rfl) (by kernel_rfl) (by kernel_rfl) (by rw [plainKeys0]; rfl) (by kernel_rfl) heard0 may0 (by rw [lifts0]; rfl) (by rw [make0]; rfl) (by kernel_rfl) (by kernel_rfl) (by kernel_rfl) (by kernel_rfl)
theorem FnOverPlan_holds : Rows.FnOverPlanSaid :=
  OpenClaim.holds_of_wide 19 Tryz.f19 rfl rfl rfl rfl rfl rfl rfl ⟨rfl, rfl, rfl, rfl, rfl⟩ rfl rfl rfl rfl rfl (by kernel_rfl) Tryz.func19 FnOverPlan_joined
    (of_decide_eq_true (by kernel_rfl)) (by unfold Func.isWrapper; first | (rw [if_pos (by decide +kernel)]; kernel_rfl) | (rw [if_neg (by decide +kernel)]; exact ⟨rfl, rfl⟩))
    (fun os started H enc _ => FnOverPlan_lifted os started H enc)
theorem FnOverPlan_card : Rows.FnOverPlanCardSaid :=
  Claim7.holds_tied_plain_at .later [] [.data, .pinned] true _ false FnOverPlan_holds (fun _ h => by cases h) (by kernel_rfl) (fun _ h => by cases h) fnOverPlan_row_tie rfl ⟨rfl, rfl⟩ (mainIs0.trans (by kernel_rfl)) rfl
    (fun f fn hf hfn => by
      obtain rfl : f = 19 := Option.some.inj ((show Tryz.prog.funcNamed "loop.example/pargeting/laws.FnOverPlan" = some 19 by kernel_rfl).symm.trans hf) |>.symm
      obtain rfl : fn = Tryz.f19 := (Option.some.inj (Tryz.func19.symm.trans hfn)).symm
      exact ⟨looks0.symm, fun j t ht => by
        have hm : t ∈ Tryz.f19.params.toList := by simpa using Array.mem_of_getElem? ht
        have hall : (Tryz.f19.params.toList.all fun u => !Tryz.prog.wantsStandIn u) = true := by kernel_rfl
        exact (show Tryz.prog.wantsStandIn t = false by simpa using List.all_eq_true.1 hall t hm)⟩)
    (goes0 _ rfl)
end Go.Proofs.YtoaiplobfellaaaGreatDoor
