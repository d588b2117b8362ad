/- 'laws.FnExactOpRead' returns true whatever its argument is, and leaves the argument as it was; the package variables that the row lists hold what the program's text lays. -/
import Derived.Test.YtgeieehampfkcaaDoorLo
import Derived.Test.YtgeieehampfkcaaDoorLv
set_option linter.unusedSimpArgs false
set_option linter.unusedVariables false
set_option maxHeartbeats 1000000
set_option maxRecDepth 100000
namespace Go.Proofs.YtgeieehampfkcaaDoor
open Go Go.RowKit Go.Ab Go.Par
variable {m : Int}
theorem law_opRead (s : Bs) (h1 : s.length ≤ 9223372036854775807) : Con (Eo m) 4 0 [.s s] [] (.b true) [] := by
  by_cases hs : s.length ≤ 1048576
  · have c1 := con_o (sOpRead_con (m := m) s (by omega))
    have c2 := iOpRead_con (m := m) s (by omega)
    cases ho : opRead s with
    | none =>
      rw [ho] at c1 c2
      have c3 := con_o (eqOp_con (m := m) op0 op0)
      rw [eqO_self] at c3
      refine con_of_cd tyOkO mixO Tryd.func4 rfl rfl rfl (Nat.le_of_ble_eq_true rfl) ?_
      repeat' ((first
        | refine Ops.none rfl ?_
        | refine Cd.seq ?_
        | refine Ops.nil ?_
        | refine Cd.region ?_
        | refine Ops.guard rfl rfl rfl ?_
        | refine Ops.off rfl rfl rfl ?_
        | refine Cd.cond rfl ?_
        | refine Cd.block ?_
        | refine Cd.exit ?_
        | refine Cd.ret ?_
        | refine Cd.skip ?_
        | refine Cd.drawn ?_
        | refine And.intro (a := drawB _ _ = true) (by kernel_rfl) ?_
        | refine CallEnd.out ?_
        | refine AnyEnd.out ?_
        | refine bsplit.tt ?_
        | refine bsplit.ff ?_
        | refine bn ?_
        | with_reducible refine bR ?_
        | with_reducible refine bS ?_
        | refine bt ‹_› ?_
        | refine bf ‹_› ?_
        | refine bt (by first | omega | (simp only [List.length_map]; first | done | omega)) ?_
        | refine bf (by first | omega | (simp only [List.length_map]; first | done | omega)) ?_
        | refine bT ‹_› ?_
        | refine bF ‹_› ?_
        | refine ⟨[], _, _, _, _, 0, ⟨rfl, rfl, rfl, c1, rfl, rfl⟩, .inr ?_⟩
        | refine ⟨[], _, _, _, _, 0, ⟨rfl, rfl, rfl, c2, rfl, rfl⟩, .inr ?_⟩
        | refine ⟨[], _, _, _, _, 0, ⟨rfl, rfl, rfl, c3, rfl, rfl⟩, .inr ?_⟩
        | refine bd (fun h => ?_) (fun h => ?_) <;> (try simp only [List.length_map] at h)
        | refine bsplit.mk (fun h => ?_) (fun h => ?_)
        | refine wi (by first | omega | (simp only [List.length_map]; first | done | omega)) ?_
        | refine ⟨_, _, rfl, mg ‹_›, rfl, ?_⟩
        | refine ⟨_, _, rfl, ‹_›, ?_⟩
        | refine ⟨0, _, rfl, rfl, rfl, ?_⟩
        | refine ⟨0, _, rfl, rfl, ?_⟩
        | refine ⟨_, _, rfl, map_get (by omega), rfl, ?_⟩
        | refine ⟨_, mg ‹_›, ?_⟩
        | refine ⟨_, map_get (by omega), ?_⟩
        | refine ⟨_, (rfl : getElem? (_ : List (List D)) _ = some _), ?_⟩
        | refine ⟨map_len fun _ => rfl, ?_⟩
        | refine ⟨Nat.le_of_ble_eq_true rfl, Nat.le_of_ble_eq_true rfl, one_len rfl, ?_⟩
        | refine ⟨Nat.le_of_ble_eq_true rfl, Nat.le_of_ble_eq_true rfl, ?_⟩
        | refine ⟨(by refine Decidable.byContradiction fun hbnd => ?_; (try unfold room at hbnd); (try simp only [bytesOf, List.length_map, List.length_append, List.length_cons, List.length_nil, List.length_take, List.length_drop, List.length_replicate] at hbnd); omega), ?_⟩
        | refine ⟨(Nat.le_of_ble_eq_true rfl : _ ≤ wide), ?_⟩
        | refine ⟨(rfl : isByte _ = true), ?_⟩
        | refine ⟨(rfl : memB _ _ = false), ?_⟩
        | refine ⟨_, (rfl : (_ : Int) = ((_ : Nat) : Int)), ?_⟩
        | fail) <;> conv => whnf)
      first | refine CallEnd.here (fa ?_) | refine fa ?_
      conv => whnf
      first
        | exact ⟨rfl, rfl, rfl, rfl⟩
        | refine ⟨rfl, rfl, congrArg some (congrArg D.s ?_), rfl⟩
        | refine ⟨rfl, rfl, congrArg some (congrArg D.b ?_), rfl⟩
        | refine ⟨rfl, rfl, congrArg some (congrArg (D.k _) ?_), rfl⟩
        | refine ⟨rfl, rfl, congrArg some (congrArg D.agg ?_), rfl⟩
        | refine ⟨rfl, rfl, rfl, ?_⟩
      all_goals first
        | rfl
        | (simp_all []; done)
        | (simp [] <;> (repeat' split) <;> omega)
        | (rw [Bool.eq_iff_iff]; simp [*] <;> omega)
    | some o =>
      rw [ho] at c1 c2
      have c3 := con_o (eqOp_con (m := m) o o)
      rw [eqO_self] at c3
      refine con_of_cd tyOkO mixO Tryd.func4 rfl rfl rfl (Nat.le_of_ble_eq_true rfl) ?_
      repeat' ((first
        | refine Ops.none rfl ?_
        | refine Cd.seq ?_
        | refine Ops.nil ?_
        | refine Cd.region ?_
        | refine Ops.guard rfl rfl rfl ?_
        | refine Ops.off rfl rfl rfl ?_
        | refine Cd.cond rfl ?_
        | refine Cd.block ?_
        | refine Cd.exit ?_
        | refine Cd.ret ?_
        | refine Cd.skip ?_
        | refine Cd.drawn ?_
        | refine And.intro (a := drawB _ _ = true) (by kernel_rfl) ?_
        | refine CallEnd.out ?_
        | refine AnyEnd.out ?_
        | refine bsplit.tt ?_
        | refine bsplit.ff ?_
        | refine bn ?_
        | with_reducible refine bR ?_
        | with_reducible refine bS ?_
        | refine bt ‹_› ?_
        | refine bf ‹_› ?_
        | refine bt (by first | omega | (simp only [List.length_map]; first | done | omega)) ?_
        | refine bf (by first | omega | (simp only [List.length_map]; first | done | omega)) ?_
        | refine bT ‹_› ?_
        | refine bF ‹_› ?_
        | refine ⟨[], _, _, _, _, 0, ⟨rfl, rfl, rfl, c1, rfl, rfl⟩, .inr ?_⟩
        | refine ⟨[], _, _, _, _, 0, ⟨rfl, rfl, rfl, c2, rfl, rfl⟩, .inr ?_⟩
        | refine ⟨[], _, _, _, _, 0, ⟨rfl, rfl, rfl, c3, rfl, rfl⟩, .inr ?_⟩
        | refine bd (fun h => ?_) (fun h => ?_) <;> (try simp only [List.length_map] at h)
        | refine bsplit.mk (fun h => ?_) (fun h => ?_)
        | refine wi (by first | omega | (simp only [List.length_map]; first | done | omega)) ?_
        | refine ⟨_, _, rfl, mg ‹_›, rfl, ?_⟩
        | refine ⟨_, _, rfl, ‹_›, ?_⟩
        | refine ⟨0, _, rfl, rfl, rfl, ?_⟩
        | refine ⟨0, _, rfl, rfl, ?_⟩
        | refine ⟨_, _, rfl, map_get (by omega), rfl, ?_⟩
        | refine ⟨_, mg ‹_›, ?_⟩
        | refine ⟨_, map_get (by omega), ?_⟩
        | refine ⟨_, (rfl : getElem? (_ : List (List D)) _ = some _), ?_⟩
        | refine ⟨map_len fun _ => rfl, ?_⟩
        | refine ⟨Nat.le_of_ble_eq_true rfl, Nat.le_of_ble_eq_true rfl, one_len rfl, ?_⟩
        | refine ⟨Nat.le_of_ble_eq_true rfl, Nat.le_of_ble_eq_true rfl, ?_⟩
        | refine ⟨(by refine Decidable.byContradiction fun hbnd => ?_; (try unfold room at hbnd); (try simp only [bytesOf, List.length_map, List.length_append, List.length_cons, List.length_nil, List.length_take, List.length_drop, List.length_replicate] at hbnd); omega), ?_⟩
        | refine ⟨(Nat.le_of_ble_eq_true rfl : _ ≤ wide), ?_⟩
        | refine ⟨(rfl : isByte _ = true), ?_⟩
        | refine ⟨(rfl : memB _ _ = false), ?_⟩
        | refine ⟨_, (rfl : (_ : Int) = ((_ : Nat) : Int)), ?_⟩
        | fail) <;> conv => whnf)
      first | refine CallEnd.here (fa ?_) | refine fa ?_
      conv => whnf
      first
        | exact ⟨rfl, rfl, rfl, rfl⟩
        | refine ⟨rfl, rfl, congrArg some (congrArg D.s ?_), rfl⟩
        | refine ⟨rfl, rfl, congrArg some (congrArg D.b ?_), rfl⟩
        | refine ⟨rfl, rfl, congrArg some (congrArg (D.k _) ?_), rfl⟩
        | refine ⟨rfl, rfl, congrArg some (congrArg D.agg ?_), rfl⟩
        | refine ⟨rfl, rfl, rfl, ?_⟩
      all_goals first
        | rfl
        | (simp_all []; done)
        | (simp [] <;> (repeat' split) <;> omega)
        | (rw [Bool.eq_iff_iff]; simp [*] <;> omega)
  · refine con_of_cd tyOkO mixO Tryd.func4 rfl rfl rfl (Nat.le_of_ble_eq_true rfl) ?_
    repeat' ((first
      | refine Ops.none rfl ?_
      | refine Cd.seq ?_
      | refine Ops.nil ?_
      | refine Cd.region ?_
      | refine Ops.guard rfl rfl rfl ?_
      | refine Ops.off rfl rfl rfl ?_
      | refine Cd.cond rfl ?_
      | refine Cd.block ?_
      | refine Cd.exit ?_
      | refine Cd.ret ?_
      | refine Cd.skip ?_
      | refine Cd.drawn ?_
      | refine And.intro (a := drawB _ _ = true) (by kernel_rfl) ?_
      | refine CallEnd.out ?_
      | refine AnyEnd.out ?_
      | refine bsplit.tt ?_
      | refine bsplit.ff ?_
      | refine bn ?_
      | with_reducible refine bR ?_
      | with_reducible refine bS ?_
      | refine bt ‹_› ?_
      | refine bf ‹_› ?_
      | refine bt (by first | omega | (simp only [List.length_map]; first | done | omega)) ?_
      | refine bf (by first | omega | (simp only [List.length_map]; first | done | omega)) ?_
      | refine bT ‹_› ?_
      | refine bF ‹_› ?_
      | refine bd (fun h => ?_) (fun h => ?_) <;> (try simp only [List.length_map] at h)
      | refine bsplit.mk (fun h => ?_) (fun h => ?_)
      | refine wi (by first | omega | (simp only [List.length_map]; first | done | omega)) ?_
      | refine ⟨_, _, rfl, mg ‹_›, rfl, ?_⟩
      | refine ⟨_, _, rfl, ‹_›, ?_⟩
      | refine ⟨0, _, rfl, rfl, rfl, ?_⟩
      | refine ⟨0, _, rfl, rfl, ?_⟩
      | refine ⟨_, _, rfl, map_get (by omega), rfl, ?_⟩
      | refine ⟨_, mg ‹_›, ?_⟩
      | refine ⟨_, map_get (by omega), ?_⟩
      | refine ⟨_, (rfl : getElem? (_ : List (List D)) _ = some _), ?_⟩
      | refine ⟨map_len fun _ => rfl, ?_⟩
      | refine ⟨Nat.le_of_ble_eq_true rfl, Nat.le_of_ble_eq_true rfl, one_len rfl, ?_⟩
      | refine ⟨Nat.le_of_ble_eq_true rfl, Nat.le_of_ble_eq_true rfl, ?_⟩
      | refine ⟨(by refine Decidable.byContradiction fun hbnd => ?_; (try unfold room at hbnd); (try simp only [bytesOf, List.length_map, List.length_append, List.length_cons, List.length_nil, List.length_take, List.length_drop, List.length_replicate] at hbnd); omega), ?_⟩
      | refine ⟨(Nat.le_of_ble_eq_true rfl : _ ≤ wide), ?_⟩
      | refine ⟨(rfl : isByte _ = true), ?_⟩
      | refine ⟨(rfl : memB _ _ = false), ?_⟩
      | refine ⟨_, (rfl : (_ : Int) = ((_ : Nat) : Int)), ?_⟩
      | fail) <;> conv => whnf)
    first | refine CallEnd.here (fa ?_) | refine fa ?_
    conv => whnf
    first
      | exact ⟨rfl, rfl, rfl, rfl⟩
      | refine ⟨rfl, rfl, congrArg some (congrArg D.s ?_), rfl⟩
      | refine ⟨rfl, rfl, congrArg some (congrArg D.b ?_), rfl⟩
      | refine ⟨rfl, rfl, congrArg some (congrArg (D.k _) ?_), rfl⟩
      | refine ⟨rfl, rfl, congrArg some (congrArg D.agg ?_), rfl⟩
      | refine ⟨rfl, rfl, rfl, ?_⟩
    all_goals first
      | rfl
      | (simp_all []; done)
      | (simp [] <;> (repeat' split) <;> omega)
      | (rw [Bool.eq_iff_iff]; simp [*] <;> omega)
theorem FnExactOpRead_con (cds : List D) (h : ShpAll Tryd.prog Tryd.f4.params.toList cds) : Con (Eo m) 4 0 cds [] (.b true) [] := by
  rw [Tryd.params4] at h
  match cds, h with
  | [d], ⟨h, _⟩ =>
    obtain ⟨s, hs, h1⟩ := (h.one (fun fs => by rw [Tryd.underlying9]; simp)).str_inv Tryd.underlying9
    cases hs
    exact law_opRead s h1
open Go.ChangeShapes Go.WideShapes Go.ChangeAt in
theorem FnExactOpRead_lifted (os : Os) (started : os.Started) (H : Type) (enc : TypeId × Value → H) :
    ReturnsInHanded {} Tryd.checked os 4 .any (fun w args => (Rows.fnExactOpReadSpec.pre enc Tryd.prog Tryd.f4 Rows.fnExactOpReadRow.domain false w args ∧ laidMetH Tryd.prog Rows.fnExactOpReadRow.laid w) ∧ sizedMet enc Tryd.prog Tryd.f4 (OpenSpec.ofChange Rows.fnExactOpReadSpec) false w args)
      (Rows.fnExactOpReadSpec.post enc Tryd.prog Tryd.f4 false true false false) := by
  refine returns_laid (C := Tryd.checked) (X := fun w _ => laidMetH Tryd.prog Rows.fnExactOpReadRow.laid w) (fun _ _ _ hh h => h.of_heap hh) own0 started (by kernel_rfl) Tryd.func4
    (ChangeSpec.witness_shaped (enc := enc) (C := Tryd.checked) (os := os) (X := fun w _ => laidMetH Tryd.prog Rows.fnExactOpReadRow.laid w) false (World.laidAll Tryd.prog os Rows.fnExactOpReadRow.laid) #[.string ⟨#[]⟩] 8 (World.laidAll_os _ _ _)
      (World.shaped_of_ZipB (by kernel_rfl) (by kernel_rfl)) (by kernel_rfl) (by kernel_rfl) (by kernel_rfl)
      (by rw [MakeChecks.laidMetH_plain _ _ _ (by kernel_rfl)]; exact laidMet_laidAll _ (by kernel_rfl) (by kernel_rfl))) ?_
  intro W base args ds gs before hval hW hsh hx
  obtain ⟨m, hm⟩ := maxLen_shaped W hsh
  exact law_calls_gv (E := Eo m) (dp := 8) (bt := 4) (n := "loop.example/pargeting/impl.opWords") (g := 0) (tv := 76) laidOut0 (readB_mem (by kernel_rfl)) (by kernel_rfl) Tryd.underlying4 (by kernel_rfl) rfl (by kernel_rfl) (by kernel_rfl) (by kernel_rfl) (of_decide_eq_true (by kernel_rfl)) (fun H ds g hl => match ds, hl with
    | [d], _ => rfl) FnExactOpRead_con W (glO_of hm (by kernel_rfl) (by simp [Rows.fnExactOpReadRow]) hx) base args ds gs before hval hW
theorem FnExactOpRead_holds : Rows.FnExactOpReadSaid :=
  OpenClaim.holds_of_wide 4 Tryd.f4 rfl rfl rfl rfl rfl rfl rfl ⟨rfl, rfl, rfl, rfl, rfl⟩ rfl rfl rfl rfl rfl (by kernel_rfl) Tryd.func4 (by kernel_rfl)
    (of_decide_eq_true (by kernel_rfl)) (by unfold Func.isWrapper; first | (rw [if_pos (by decide +kernel)]; kernel_rfl) | (rw [if_neg (by decide +kernel)]; exact ⟨rfl, rfl⟩))
    (fun os started H enc _ => FnExactOpRead_lifted os started H enc)
theorem FnExactOpRead_card : Rows.FnExactOpReadCardSaid :=
  Claim7.holds_tied_plain_at .later [] [.data, .data, .pinned] true _ false FnExactOpRead_holds (fun _ h => by cases h) (by kernel_rfl) (fun _ h => by cases h) fnExactOpRead_row_tie rfl ⟨rfl, rfl⟩ (by kernel_rfl) rfl
    (fun f fn hf hfn => by
      obtain rfl : f = 4 := Option.some.inj ((show Tryd.prog.funcNamed "loop.example/pargeting/laws.FnExactOpRead" = some 4 by kernel_rfl).symm.trans hf) |>.symm
      obtain rfl : fn = Tryd.f4 := (Option.some.inj (Tryd.func4.symm.trans hfn)).symm
      exact ⟨by kernel_rfl, fun j t ht => by
        have hm : t ∈ Tryd.f4.params.toList := by simpa using Array.mem_of_getElem? ht
        have hall : (Tryd.f4.params.toList.all fun u => !Tryd.prog.wantsStandIn u) = true := by kernel_rfl
        exact (show Tryd.prog.wantsStandIn t = false by simpa using List.all_eq_true.1 hall t hm)⟩)
    (by kernel_rfl)
end Go.Proofs.YtgeieehampfkcaaDoor
