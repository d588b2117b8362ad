/- 'laws.FnOverPlain' returns true whatever its arguments are, and leaves the arguments as they were; the package variables that the row lists hold what the program's text lays. -/
import Derived.Test.YtoaiplobfellaaaGreatDoorQMj
import Derived.Test.YtoaiplobfellaaaGreatDoorQMa
import Derived.Test.YtoaiplobfellaaaGreatDoorQKh
import Derived.Test.YtoaiplobfellaaaGreatDoorQLv
set_option linter.unusedSimpArgs false
set_option linter.unusedVariables false
set_option maxHeartbeats 1000000
set_option maxRecDepth 100000
namespace Go.Proofs.YtoaiplobfellaaaGreatDoor
open Go Go.RowKit Go.Ab Go.Par
variable {m : Int}
theorem logOver_bnd {o : Ovr} {ops : List Opn} : BndV (logOver o ops).1 := by
  rcases over_cases o ops with ⟨t, v, hg, h1, h2, h3⟩ | ⟨hg, hbad⟩
  · have hx : logOver o ops = overRun o ops := by rw [logOver, hg]; rfl
    rw [hx]
    exact bndV_ok (over_run ops h2).1
  · have hx : logOver o ops = (ov0, []) := by rw [logOver, hg]; rfl
    rw [hx]
    exact bndV_0
theorem logOver_len (o : Ovr) (ops : List Opn) : (logOver o ops).2.length ≤ 30 := by
  rcases over_cases o ops with ⟨t, v, hg, h1, h2, h3⟩ | ⟨hg, hbad⟩
  · have hx : logOver o ops = overRun o ops := by rw [logOver, hg]; rfl
    rw [hx, overRun_len]
    exact h3
  · have hx : logOver o ops = (ov0, []) := by rw [logOver, hg]; rfl
    rw [hx]
    exact Nat.zero_le _
theorem law_FnOverPlain (l : Bs) : Con (E m) 17 0 [.sl (bytesOf l)] [] (.b true) [] := by
  have hbl : (bytesOf l).length = l.length := List.length_map ..
  by_cases hl : l.length ≤ 1048576
  · obtain ⟨t, ops, ⟨ht, hn, hb⟩, c0⟩ := drawLogDo_any (m := m) l hl
    have hln := ht.len
    have hbig : ∀ o ∈ ops, bndO 1073741823 o := fun o h => (hb o h).big
    have e1 : (ops.map Opn.c).length = ops.length := List.length_map ..
    have hV : BndV ⟨t, [], []⟩ := ⟨ht.bB, by simp, by simp, by simp only; omega, by simp, by simp⟩
    have c1 := iLogOver_con (m := m) ⟨t, [], []⟩ ops hV hbig (by omega)
    have c2 := sLogOver_con (m := m) ⟨t, [], []⟩ ops hV hbig (by omega)
    have hRl := logOver_len ⟨t, [], []⟩ ops
    have hRb := logOver_bnd (o := ⟨t, [], []⟩) (ops := ops)
    have s1 := overSame_con (m := m) (logOver ⟨t, [], []⟩ ops).1 (logOver ⟨t, [], []⟩ ops).1 hRb hRb
    rw [decide_eq_true rfl] at s1
    have s2 := wpCodes_con (m := m) (logOver ⟨t, [], []⟩ ops).2 (logOver ⟨t, [], []⟩ ops).2 (by omega) (by omega)
    rw [decide_eq_true rfl] at s2
    have c3 := sTreeOk_con (m := m) t ht.bE
    rcases log_cases t ops with ⟨hg, h1, h2⟩ | ⟨hg, hbad⟩
    · rw [h1] at c3
      have hT := over_plain h1
      obtain ⟨r1, r2, r3, r4⟩ := over_run ops hT
      have hbd : overBad ⟨t, [], []⟩ ops = false := by unfold overBad overOk; rw [hT]; simp; omega
      have hx : logOver ⟨t, [], []⟩ ops = overRun ⟨t, [], []⟩ ops := by rw [logOver, hbd]; rfl
      have g1 : logDo t ops = logRun t ops := by rw [logDo, hg]; rfl
      have c4 := iLogDo_con (m := m) t ops ht.bE hbig (by omega)
      rw [g1] at c4
      rw [hx] at c1 c2 s1 s2 hRl
      rw [r2] at c1 c2 s2 hRl
      have hok := run_ok ops h1
      have c5 := iLayerDiff_con (m := m) t (logRun t ops).1 h1 hok
      have hu := (overT_iff.1 r1).2.2
      have kd := layer_len (diff_ok h1 hok)
      have c6 := layerSame_con (m := m) (diffL t (logRun t ops).1) (diffL t (logRun t ops).1) (by omega) (by omega)
      rw [decide_eq_true rfl] at c6
      have c7 := treeSame_con (m := m) t t (by omega) (by omega)
      rw [decide_eq_true rfl] at c7
      have hX : (overRun ⟨t, [], []⟩ ops).1 = ⟨t, [], diffL t (logRun t ops).1⟩ := ovr_eq.2 ⟨r3, r4, hu⟩
      rw [hX] at c1 c2 s1
      generalize (logRun t ops).2 = cs at c1 c2 s2 c4
      generalize diffL t (logRun t ops).1 = D at c1 c2 s1 c5 c6
      generalize (logRun t ops).1 = u at c4 c5
      refine con_of_cd tyOk mix Tryz.func17 rfl rfl rfl (Nat.le_of_ble_eq_true rfl) ?_
      repeat' first | refine Ra ⟨?_⟩ | ((first | refine Rc [] 0 rfl rfl (c0) ?_ | refine Rc [] 0 rfl rfl (c1) ?_ | refine Rc [] 0 rfl rfl (c2) ?_ | refine Rc [] 0 rfl rfl (s1) ?_ | refine Rc [] 0 rfl rfl (s2) ?_ | refine Rc [] 0 rfl rfl (c3) ?_ | refine Rc [] 2 rfl rfl (c4) ?_ | refine Rc [] 1 rfl rfl (c5) ?_ | refine Rc [] 0 rfl rfl (c6) ?_ | refine Rc [] 0 rfl rfl (c7) ?_ | (refine bd (fun h => ?_) (fun h => ?_) <;> (try simp only [List.length_map] at h)) | refine bsplit.mk (fun h => ?_) (fun h => ?_)) <;> conv => whnf) | refine Rb ⟨?_⟩ | fail
      exact Rf
    · generalize logOver ⟨t, [], []⟩ ops = X at c1 c2 s1 s2
      rcases hbad with h1 | ⟨h1, h2⟩
      · rw [h1] at c3
        refine con_of_cd tyOk mix Tryz.func17 rfl rfl rfl (Nat.le_of_ble_eq_true rfl) ?_
        repeat' first | refine Ra ⟨?_⟩ | ((first | refine Rc [] 0 rfl rfl (c0) ?_ | refine Rc [] 0 rfl rfl (c1) ?_ | refine Rc [] 0 rfl rfl (c2) ?_ | refine Rc [] 0 rfl rfl (s1) ?_ | refine Rc [] 0 rfl rfl (s2) ?_ | refine Rc [] 0 rfl rfl (c3) ?_ | (refine bd (fun h => ?_) (fun h => ?_) <;> (try simp only [List.length_map] at h)) | refine bsplit.mk (fun h => ?_) (fun h => ?_)) <;> conv => whnf) | refine Rb ⟨?_⟩ | fail
        exact Rf
      · rw [h1] at c3
        refine con_of_cd tyOk mix Tryz.func17 rfl rfl rfl (Nat.le_of_ble_eq_true rfl) ?_
        repeat' first | refine Ra ⟨?_⟩ | ((first | refine Rc [] 0 rfl rfl (c0) ?_ | refine Rc [] 0 rfl rfl (c1) ?_ | refine Rc [] 0 rfl rfl (c2) ?_ | refine Rc [] 0 rfl rfl (s1) ?_ | refine Rc [] 0 rfl rfl (s2) ?_ | refine Rc [] 0 rfl rfl (c3) ?_ | (refine bd (fun h => ?_) (fun h => ?_) <;> (try simp only [List.length_map] at h)) | refine bsplit.mk (fun h => ?_) (fun h => ?_)) <;> conv => whnf) | refine Rb ⟨?_⟩ | fail
        exact Rf
  · refine con_of_cd tyOk mix Tryz.func17 rfl rfl rfl (Nat.le_of_ble_eq_true rfl) ?_
    repeat' first | refine Ra ⟨?_⟩ | ((first | (refine bd (fun h => ?_) (fun h => ?_) <;> (try simp only [List.length_map] at h)) | refine bsplit.mk (fun h => ?_) (fun h => ?_)) <;> conv => whnf) | refine Rb ⟨?_⟩ | fail
    exact Rf
theorem FnOverPlain_con (cds : List D) (h : ShpAll Tryz.prog Tryz.f17.params.toList cds) : Con (E m) 17 0 cds [] (.b true) [] := by
  rw [Tryz.params17] at h
  match cds, h with
  | [d1], ⟨h1, _⟩ =>
    obtain ⟨l, rfl⟩ := bytes_shp h1
    exact law_FnOverPlain l
open Go.ChangeShapes Go.WideShapes Go.ChangeAt in
theorem FnOverPlain_lifted (os : Os) (started : os.Started) (H : Type) (enc : TypeId × Value → H) :
    ReturnsInHanded {} Tryz.checked os 17 .any (fun w args => (Rows.fnOverPlainSpec.pre enc Tryz.prog Tryz.f17 Rows.fnOverPlainRow.domain false w args ∧ laidMetH Tryz.prog Rows.fnOverPlainRow.laid w) ∧ sizedMet enc Tryz.prog Tryz.f17 (OpenSpec.ofChange Rows.fnOverPlainSpec) false w args)
      (Rows.fnOverPlainSpec.post enc Tryz.prog Tryz.f17 false true false false) := by
  refine returns_laid (C := Tryz.checked) (X := fun w _ => laidMetH Tryz.prog Rows.fnOverPlainRow.laid w) (fun _ _ _ hh h => h.of_heap hh) own0 started (by kernel_rfl) Tryz.func17
    (ChangeSpec.witness_shaped (enc := enc) (C := Tryz.checked) (os := os) (X := fun w _ => laidMetH Tryz.prog Rows.fnOverPlainRow.laid w) false (World.laidAll Tryz.prog os Rows.fnOverPlainRow.laid) #[.slice none 0 0] 8 (World.laidAll_os _ _ _)
      (World.shaped_of_ZipB (by kernel_rfl) (by kernel_rfl)) (by kernel_rfl) (by kernel_rfl) (by kernel_rfl)
      (by rw [MakeChecks.laidMetH_plain _ _ _ (by kernel_rfl)]; exact laidMet_laidAll _ (by kernel_rfl) (by kernel_rfl))) ?_
  intro W base args ds gs before hval hW hsh _
  obtain ⟨m, hm⟩ := maxLen_shaped W hsh
  exact law_calls_gl (E := E m) (dp := 8) (bt := 4) laidOut0 (readB_mem (by kernel_rfl)) (by kernel_rfl) Tryz.underlying4 (by kernel_rfl) rfl (fun H ds hl => match ds, hl with
    | [d1], _ => rfl) FnOverPlain_con W (gl_m hm) base args ds gs before hval hW
theorem FnOverPlain_place : (Rows.fnOverPlainRow.inPlace == Tryz.prog.inPlace 17) = true := by kernel_rfl
theorem FnOverPlain_unf : (Rows.fnOverPlainRow.unfollowed == Tryz.prog.unfollowed 17) = true := by kernel_rfl
theorem FnOverPlain_rec : (Rows.fnOverPlainRow.recurses == Tryz.prog.recurses 17) = true := by kernel_rfl
theorem FnOverPlain_named : (Rows.fnOverPlainRow.named == Tryz.prog.varsNamed 17) = true := by kernel_rfl
theorem FnOverPlain_joined : joinedFacts Tryz.prog 17 Tryz.f17 Rows.fnOverPlainSpec Rows.fnOverPlainRow = true :=
  joined_of (by kernel_rfl) laidOut0 rowed0 (by kernel_rfl) (by kernel_rfl) (by kernel_rfl) (by rw [stops0]; rfl) (by kernel_rfl) (by rw [knobs0]; rfl) FnOverPlain_place FnOverPlain_unf FnOverPlain_rec FnOverPlain_named
    (by kernel_rfl) (by kernel_rfl) (by kernel_rfl) (by kernel_rfl) (by kernel_rfl) (by kernel_rfl) (by kernel_rfl) (by kernel_rfl) (by kernel_rfl) (by rw [plainKeys0]; rfl) (by kernel_rfl) heard0 may0 (by rw [lifts0]; rfl) (by rw [make0]; rfl) (by kernel_rfl) (by kernel_rfl) (by kernel_rfl) (by kernel_rfl)
theorem FnOverPlain_holds : Rows.FnOverPlainSaid :=
  OpenClaim.holds_of_wide 17 Tryz.f17 rfl rfl rfl rfl rfl rfl rfl ⟨rfl, rfl, rfl, rfl, rfl⟩ rfl rfl rfl rfl rfl (by kernel_rfl) Tryz.func17 FnOverPlain_joined
    (of_decide_eq_true (by kernel_rfl)) (by unfold Func.isWrapper; first | (rw [if_pos (by decide +kernel)]; kernel_rfl) | (rw [if_neg (by decide +kernel)]; exact ⟨rfl, rfl⟩))
    (fun os started H enc _ => FnOverPlain_lifted os started H enc)
theorem FnOverPlain_card : Rows.FnOverPlainCardSaid :=
  Claim7.holds_tied_plain_at .later [] [.data, .pinned] true _ false FnOverPlain_holds (fun _ h => by cases h) (by kernel_rfl) (fun _ h => by cases h) fnOverPlain_row_tie rfl ⟨rfl, rfl⟩ (mainIs0.trans (by kernel_rfl)) rfl
    (fun f fn hf hfn => by
      obtain rfl : f = 17 := Option.some.inj ((show Tryz.prog.funcNamed "loop.example/pargeting/laws.FnOverPlain" = some 17 by kernel_rfl).symm.trans hf) |>.symm
      obtain rfl : fn = Tryz.f17 := (Option.some.inj (Tryz.func17.symm.trans hfn)).symm
      exact ⟨looks0.symm, fun j t ht => by
        have hm : t ∈ Tryz.f17.params.toList := by simpa using Array.mem_of_getElem? ht
        have hall : (Tryz.f17.params.toList.all fun u => !Tryz.prog.wantsStandIn u) = true := by kernel_rfl
        exact (show Tryz.prog.wantsStandIn t = false by simpa using List.all_eq_true.1 hall t hm)⟩)
    (goes0 _ rfl)
end Go.Proofs.YtoaiplobfellaaaGreatDoor
