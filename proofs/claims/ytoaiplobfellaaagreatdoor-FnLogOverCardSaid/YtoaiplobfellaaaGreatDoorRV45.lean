/- What undoes a log: bounds; and the two ends of a log. -/
import Derived.Test.YtoaiplobfellaaaGreatDoorRMa
import Derived.Test.YtoaiplobfellaaaGreatDoorRMn
import Derived.Test.YtoaiplobfellaaaGreatDoorRKh
import Derived.Test.YtoaiplobfellaaaGreatDoorRLv
set_option linter.unusedSimpArgs false
set_option linter.unusedVariables false
set_option maxHeartbeats 1000000
set_option maxRecDepth 10000
namespace Go.Proofs.YtoaiplobfellaaaGreatDoor
open Go Go.RowKit Go.Ab Go.Par
theorem backV_bnd {t : List Ent} {o : Opn} (ht : treeOk t = true) (ho : bndO 1073741823 o) : bndO 1073741823 (backV t o) := by
  have h0 : ((entGet t o.path).getD ent0).data.length ≤ 1073741823 := by
    cases hg : entGet t o.path with
    | none => simp [ent0]
    | some e =>
      show e.data.length ≤ _
      rcases entGet_mem hg with rfl | hm
      · exact Nat.zero_le _
      · have := entOk_len (treeOk_ent ht e hm)
        omega
  obtain ⟨p1, p2, p3⟩ := ho
  unfold backV
  repeat' split
  all_goals exact ⟨by first | exact p1 | exact p2, by first | exact p1 | exact Nat.zero_le _, by first | exact h0 | exact Nat.zero_le _⟩
theorem backRun_bnd : ∀ (a : List Opn) {t : List Ent}, treeOk t = true → (∀ o ∈ a, bndO 1073741823 o) → ∀ o ∈ backRun t a, bndO 1073741823 o
  | [], t, _, _ => by simp [backRun]
  | o :: a, t, h, hb => by
    intro x hx
    simp only [backRun] at hx
    rcases List.mem_append.1 hx with hx | hx
    · exact backRun_bnd a (treeDo_ok h o) (fun y hy => hb y (by simp [hy])) x hx
    · rw [List.mem_singleton] at hx
      subst hx
      unfold opBack
      split
      · exact backV_bnd h (hb o (by simp))
      · exact ⟨Nat.zero_le _, Nat.zero_le _, Nat.zero_le _⟩
end Go.Proofs.YtoaiplobfellaaaGreatDoor
set_option linter.unusedSimpArgs false
set_option linter.unusedVariables false
set_option maxHeartbeats 1000000
set_option maxRecDepth 100000
namespace Go.Proofs.YtoaiplobfellaaaGreatDoor
open Go Go.RowKit Go.Ab Go.Par
variable {m : Int}
theorem law_FnLogOver (l : Bs) : Con (E m) 18 0 [.sl (bytesOf l)] [] (.b true) [] := by
  have hbl : (bytesOf l).length = l.length := List.length_map ..
  by_cases hl : l.length ≤ 1048576
  · obtain ⟨o, ops, ⟨hV, hn, hb⟩, c0⟩ := drawLogOver_any (m := m) l hl
    have hbig : ∀ o ∈ ops, bndO 1073741823 o := fun o h => (hb o h).big
    have e1 : (ops.map Opn.c).length = ops.length := List.length_map ..
    have c1 := iLogOver_con (m := m) o ops hV hbig (by omega)
    have c2 := sLogOver_con (m := m) o ops hV hbig (by omega)
    have hRl := logOver_len o ops
    have hRb := logOver_bnd (o := o) (ops := ops)
    have s1 := overSame_con (m := m) (logOver o ops).1 (logOver o ops).1 hRb hRb
    rw [decide_eq_true rfl] at s1
    have s2 := wpCodes_con (m := m) (logOver o ops).2 (logOver o ops).2 (by omega) (by omega)
    rw [decide_eq_true rfl] at s2
    have c3 := sOverOk_con (m := m) o hV
    rcases over_cases o ops with ⟨t, v, hg, h1, h2, h3⟩ | ⟨hg, hbad⟩
    · have hx : logOver o ops = overRun o ops := by rw [logOver, hg]; rfl
      rw [hx] at c1 c2 s1 s2 hRl
      rw [h1] at c3
      obtain ⟨_, _, k3, k4⟩ := overT_ok h2
      obtain ⟨r1, r2, r3, r4⟩ := over_run ops h2
      have c4 := iOverView_con (m := m) o hV
      rw [h2] at c4
      have hlb : logBad v ops = false := logBad_iff.2 ⟨k4, h3⟩
      have g1 : logDo v ops = logRun v ops := by rw [logDo, hlb]; rfl
      have c5 := iLogDo_con (m := m) v ops (bE0 k4) hbig (by omega)
      rw [g1] at c5
      have c6 := iOverView_con (m := m) (overRun o ops).1 (bndV_ok r1)
      rw [r1] at c6
      have hvl := treeOk_len k4
      have c7 := iLogBack_con (m := m) v ops (bE0 k4) (by omega) hbig (by omega)
      have g2 : logBack v ops = backRun v (cleanRun v ops) := by rw [logBack, logClean, hlb]; rfl
      rw [g2] at c7
      have hB : ∀ o ∈ backRun v (cleanRun v ops), bndO 1073741823 o := backRun_bnd _ k4 fun o h => hbig o (clean_mem h)
      have hBl := back_len k4 ops
      have hcl := clean_len ops v
      have c8 := iLogOver_con (m := m) (overRun o ops).1 (backRun v (cleanRun v ops)) (bndV_ok r1) hB (by omega)
      rw [overRun_ok r1 (by omega), over_undo h2 ops] at c8
      have hok := run_ok ops k4
      have hul := treeOk_len hok
      have s3 := treeSame_con (m := m) (logRun v ops).1 (logRun v ops).1 (by omega) (by omega)
      rw [decide_eq_true rfl] at s3
      have s4 := overSame_con (m := m) o o hV hV
      rw [decide_eq_true rfl] at s4
      rw [r2] at c1 c2 s2
      generalize (overRun (overRun o ops).1 (backRun v (cleanRun v ops))).2 = cz at c8
      generalize (overRun o ops).1 = X at c1 c2 s1 c6 c8
      generalize (logRun v ops).2 = cs at c1 c2 s2 c5
      generalize (logRun v ops).1 = u at c5 c6 s3
      generalize backRun v (cleanRun v ops) = B at c7 c8
      refine con_of_cd tyOk mix Tryz.func18 rfl rfl rfl (Nat.le_of_ble_eq_true rfl) ?_
      repeat' first | refine Ra ⟨?_⟩ | ((first | refine Rc [] 0 rfl rfl (c0) ?_ | refine Rc [] 0 rfl rfl (c1) ?_ | refine Rc [] 0 rfl rfl (c2) ?_ | refine Rc [] 0 rfl rfl (s1) ?_ | refine Rc [] 0 rfl rfl (s2) ?_ | refine Rc [] 0 rfl rfl (c3) ?_ | refine Rc [] 0 rfl rfl (c4) ?_ | refine Rc [] 2 rfl rfl (c5) ?_ | refine Rc [] 0 rfl rfl (c6) ?_ | refine Rc [] 1 rfl rfl (c7) ?_ | refine Rc [] 0 rfl rfl (c8) ?_ | refine Rc [] 0 rfl rfl (s3) ?_ | refine Rc [] 0 rfl rfl (s4) ?_ | (refine bd (fun h => ?_) (fun h => ?_) <;> (try simp only [List.length_map] at h)) | refine bsplit.mk (fun h => ?_) (fun h => ?_)) <;> conv => whnf) | refine Rb ⟨?_⟩ | fail
      exact Rf
    · have hx : logOver o ops = (ov0, []) := by rw [logOver, hg]; rfl
      rw [hx] at c1 c2 s1 s2
      rcases hbad with h1 | ⟨h1, h2⟩
      · rw [h1] at c3
        refine con_of_cd tyOk mix Tryz.func18 rfl rfl rfl (Nat.le_of_ble_eq_true rfl) ?_
        repeat' first | refine Ra ⟨?_⟩ | ((first | refine Rc [] 0 rfl rfl (c0) ?_ | refine Rc [] 0 rfl rfl (c1) ?_ | refine Rc [] 0 rfl rfl (c2) ?_ | refine Rc [] 0 rfl rfl (s1) ?_ | refine Rc [] 0 rfl rfl (s2) ?_ | refine Rc [] 0 rfl rfl (c3) ?_ | (refine bd (fun h => ?_) (fun h => ?_) <;> (try simp only [List.length_map] at h)) | refine bsplit.mk (fun h => ?_) (fun h => ?_)) <;> conv => whnf) | refine Rb ⟨?_⟩ | fail
        exact Rf
      · rw [h1] at c3
        refine con_of_cd tyOk mix Tryz.func18 rfl rfl rfl (Nat.le_of_ble_eq_true rfl) ?_
        repeat' first | refine Ra ⟨?_⟩ | ((first | refine Rc [] 0 rfl rfl (c0) ?_ | refine Rc [] 0 rfl rfl (c1) ?_ | refine Rc [] 0 rfl rfl (c2) ?_ | refine Rc [] 0 rfl rfl (s1) ?_ | refine Rc [] 0 rfl rfl (s2) ?_ | refine Rc [] 0 rfl rfl (c3) ?_ | (refine bd (fun h => ?_) (fun h => ?_) <;> (try simp only [List.length_map] at h)) | refine bsplit.mk (fun h => ?_) (fun h => ?_)) <;> conv => whnf) | refine Rb ⟨?_⟩ | fail
        exact Rf
  · refine con_of_cd tyOk mix Tryz.func18 rfl rfl rfl (Nat.le_of_ble_eq_true rfl) ?_
    repeat' first | refine Ra ⟨?_⟩ | ((first | (refine bd (fun h => ?_) (fun h => ?_) <;> (try simp only [List.length_map] at h)) | refine bsplit.mk (fun h => ?_) (fun h => ?_)) <;> conv => whnf) | refine Rb ⟨?_⟩ | fail
    exact Rf
theorem FnLogOver_con (cds : List D) (h : ShpAll Tryz.prog Tryz.f18.params.toList cds) : Con (E m) 18 0 cds [] (.b true) [] := by
  rw [Tryz.params18] at h
  match cds, h with
  | [d1], ⟨h1, _⟩ =>
    obtain ⟨l, rfl⟩ := bytes_shp h1
    exact law_FnLogOver l
open Go.ChangeShapes Go.WideShapes Go.ChangeAt in
theorem FnLogOver_lifted (os : Os) (started : os.Started) (H : Type) (enc : TypeId × Value → H) :
    ReturnsInHanded {} Tryz.checked os 18 .any (fun w args => (Rows.fnLogOverSpec.pre enc Tryz.prog Tryz.f18 Rows.fnLogOverRow.domain false w args ∧ laidMetH Tryz.prog Rows.fnLogOverRow.laid w) ∧ sizedMet enc Tryz.prog Tryz.f18 (OpenSpec.ofChange Rows.fnLogOverSpec) false w args)
      (Rows.fnLogOverSpec.post enc Tryz.prog Tryz.f18 false true false false) := by
  refine returns_laid (C := Tryz.checked) (X := fun w _ => laidMetH Tryz.prog Rows.fnLogOverRow.laid w) (fun _ _ _ hh h => h.of_heap hh) own0 started (by kernel_rfl) Tryz.func18
    (ChangeSpec.witness_shaped (enc := enc) (C := Tryz.checked) (os := os) (X := fun w _ => laidMetH Tryz.prog Rows.fnLogOverRow.laid w) false (World.laidAll Tryz.prog os Rows.fnLogOverRow.laid) #[.slice none 0 0] 8 (World.laidAll_os _ _ _)
      (World.shaped_of_ZipB (by kernel_rfl) (by kernel_rfl)) (by kernel_rfl) (by kernel_rfl) (by kernel_rfl)
      (by rw [MakeChecks.laidMetH_plain _ _ _ (by kernel_rfl)]; exact laidMet_laidAll _ (by kernel_rfl) (by kernel_rfl))) ?_
  intro W base args ds gs before hval hW hsh _
  obtain ⟨m, hm⟩ := maxLen_shaped W hsh
  exact law_calls_gl (E := E m) (dp := 8) (bt := 4) laidOut0 (readB_mem (by kernel_rfl)) (by kernel_rfl) Tryz.underlying4 (by kernel_rfl) rfl (fun H ds hl => match ds, hl with
    | [d1], _ => rfl) FnLogOver_con W (gl_m hm) base args ds gs before hval hW
theorem FnLogOver_place : (Rows.fnLogOverRow.inPlace == Tryz.prog.inPlace 18) = true := by kernel_rfl
theorem FnLogOver_unf : (Rows.fnLogOverRow.unfollowed == Tryz.prog.unfollowed 18) = true := by kernel_rfl
theorem FnLogOver_rec : (Rows.fnLogOverRow.recurses == Tryz.prog.recurses 18) = true := by kernel_rfl
theorem FnLogOver_named : (Rows.fnLogOverRow.named == Tryz.prog.varsNamed 18) = true := by kernel_rfl
theorem FnLogOver_joined : joinedFacts Tryz.prog 18 Tryz.f18 Rows.fnLogOverSpec Rows.fnLogOverRow = true :=
  joined_of (by kernel_rfl) laidOut0 rowed0 (by kernel_rfl) (by kernel_rfl) (by kernel_rfl) (by rw [stops0]; rfl) (by kernel_rfl) (by rw [knobs0]; rfl) FnLogOver_place FnLogOver_unf FnLogOver_rec FnLogOver_named
    (by kernel_rfl) (by kernel_rfl) (by kernel_rfl) (by kernel_rfl) (by kernel_rfl) (by kernel_rfl) (by kernel_rfl) (by kernel_rfl) (by kernel_rfl) (by rw [plainKeys0]; rfl) (by kernel_rfl) heard0 may0 (by rw [lifts0]; rfl) (by rw [make0]; rfl) (by kernel_rfl) (by kernel_rfl) (by kernel_rfl) (by kernel_rfl)
theorem FnLogOver_holds : Rows.FnLogOverSaid :=
  OpenClaim.holds_of_wide 18 Tryz.f18 rfl rfl rfl rfl rfl rfl rfl ⟨rfl, rfl, rfl, rfl, rfl⟩ rfl rfl rfl rfl rfl (by kernel_rfl) Tryz.func18 FnLogOver_joined
    (of_decide_eq_true (by kernel_rfl)) (by unfold Func.isWrapper; first | (rw [if_pos (by decide +kernel)]; kernel_rfl) | (rw [if_neg (by decide +kernel)]; exact ⟨rfl, rfl⟩))
    (fun os started H enc _ => FnLogOver_lifted os started H enc)
theorem FnLogOver_card : Rows.FnLogOverCardSaid :=
  Claim7.holds_tied_plain_at .later [] [.data, .pinned] true _ false FnLogOver_holds (fun _ h => by cases h) (by kernel_rfl) (fun _ h => by cases h) fnLogOver_row_tie rfl ⟨rfl, rfl⟩ (mainIs0.trans (by kernel_rfl)) rfl
    (fun f fn hf hfn => by
      obtain rfl : f = 18 := Option.some.inj ((show Tryz.prog.funcNamed "loop.example/pargeting/laws.FnLogOver" = some 18 by kernel_rfl).symm.trans hf) |>.symm
      obtain rfl : fn = Tryz.f18 := (Option.some.inj (Tryz.func18.symm.trans hfn)).symm
      exact ⟨looks0.symm, fun j t ht => by
        have hm : t ∈ Tryz.f18.params.toList := by simpa using Array.mem_of_getElem? ht
        have hall : (Tryz.f18.params.toList.all fun u => !Tryz.prog.wantsStandIn u) = true := by kernel_rfl
        exact (show Tryz.prog.wantsStandIn t = false by simpa using List.all_eq_true.1 hall t hm)⟩)
    (goes0 _ rfl)
end Go.Proofs.YtoaiplobfellaaaGreatDoor
