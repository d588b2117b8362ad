/- 'laws.FnExactTreeText' returns true whatever its argument is, and leaves the argument as it was; the package variables that the row lists hold what the program's text lays. -/
import Derived.Test.YtgkhjehgodnlbaaDoorLe
import Derived.Test.YtgkhjehgodnlbaaDoorTie
import Derived.Test.YtgkhjehgodnlbaaDoorCards
import Derived.ProofKit
import Derived.LaidMore
import Derived.Lay
import Derived.SevenTiedAt
import Derived.Stop.Joined
set_option linter.unusedSimpArgs false
set_option linter.unusedVariables false
set_option maxRecDepth 100000
namespace Go.Proofs.YtgkhjehgodnlbaaDoor
open Go Go.RowKit Go.Ab Go.Par
variable {m : Int}
theorem law_treeText (es : List Ent) (hl : es.length ≤ 9223372036854775807) (hb : ∀ e ∈ es, e.path.length ≤ 9223372036854775807 ∧ e.data.length ≤ 9223372036854775807) : Con (E m) 6 0 [.sl (es.map Ent.c)] [] (.b true) [] := by
  have h1 := szEntS_con (m := m) es 1048576 (by omega) hl hb
  rcases szEnts_or es 1048576 with hz | ⟨hz, hz2⟩
  · refine con_of_cd tyOk mix Tryd.func6 rfl rfl rfl (Nat.le_of_ble_eq_true rfl) ?_
    repeat' first
      | (refine Ops.none rfl ?_; conv => whnf)
      | (refine Cd.seq ?_)
      | (refine Ops.nil ?_; conv => whnf)
      | (refine Cd.region ?_)
      | (refine Ops.guard rfl rfl rfl ?_)
      | (refine Ops.off rfl rfl rfl ?_)
      | (refine Cd.cond rfl ?_)
      | (refine Cd.block ?_)
      | (refine Cd.exit ?_; conv => whnf)
      | (refine Cd.ret ?_; conv => whnf)
      | (refine Cd.skip ?_; conv => whnf)
      | (refine Cd.drawn ?_)
      | (refine And.intro (a := drawB _ _ = true) (by kernel_rfl) ?_; conv => whnf)
      | refine CallEnd.out ?_
      | (refine bsplit.mk (fun h => ?_) (fun h => ?_) <;> (try simp only [decide_eq_true_eq, decide_eq_false_iff_not, Bool.not_eq_true', Bool.not_eq_false', Bool.not_true, Bool.not_false, Bool.true_eq_false, Bool.false_eq_true, List.length_map] at h) <;> conv => whnf)
      | (refine ⟨[], _, _, _, _, 0, ⟨rfl, rfl, rfl, h1, rfl, rfl⟩, .inr ?_⟩; conv => whnf)
      | (refine ⟨_, Go.IntWalk.i64_in _ (by (try simp only [List.length_map]); omega), ?_⟩; conv => whnf)
      | (refine ⟨_, _, rfl, List.getElem?_eq_getElem (by omega), ?_⟩; conv => whnf)
      | (refine ⟨0, _, rfl, rfl, ?_⟩; conv => whnf)
      | (refine ⟨_, _, rfl, map_get (by omega), rfl, ?_⟩; conv => whnf)
      | (refine ⟨_, map_get (by omega), ?_⟩; conv => whnf)
      | (refine ⟨map_len fun _ => rfl, ?_⟩; conv => whnf)
      | (refine ⟨Nat.le_of_ble_eq_true rfl, Nat.le_of_ble_eq_true rfl, one_len rfl, ?_⟩; conv => whnf)
      | (refine ⟨Nat.le_of_ble_eq_true rfl, Nat.le_of_ble_eq_true rfl, ?_⟩; conv => whnf)
      | (refine ⟨(by refine Decidable.byContradiction fun hbnd => ?_; (try unfold room at hbnd); (try simp only [bytesOf, List.length_map, List.length_append, List.length_cons, List.length_nil, List.length_take, List.length_drop, List.length_replicate] at hbnd); omega), ?_⟩; conv => whnf)
      | (refine ⟨(Nat.le_of_ble_eq_true rfl : _ ≤ wide), ?_⟩; conv => whnf)
      | (refine ⟨(rfl : isByte _ = true), ?_⟩; conv => whnf)
      | (refine ⟨(rfl : memB _ _ = false), ?_⟩; conv => whnf)
      | (refine ⟨_, (rfl : (_ : Int) = ((_ : Nat) : Int)), ?_⟩; conv => whnf)
    · first | refine CallEnd.here (finK.auto ?_) | refine finK.auto ?_
      conv => whnf
      first
        | exact ⟨rfl, rfl, rfl, rfl⟩
        | refine ⟨rfl, rfl, congrArg some (congrArg D.s ?_), rfl⟩
        | refine ⟨rfl, rfl, congrArg some (congrArg D.b ?_), rfl⟩
        | refine ⟨rfl, rfl, congrArg some (congrArg (D.k _) ?_), rfl⟩
        | refine ⟨rfl, rfl, congrArg some (congrArg D.agg ?_), rfl⟩
        | refine ⟨rfl, rfl, rfl, ?_⟩
      all_goals first
        | rfl
        | (simp_all []; done)
        | (simp [] <;> (repeat' split) <;> omega)
        | (rw [Bool.eq_iff_iff]; simp [*] <;> omega)
    · exact absurd hz ‹_›
  · have hb2 : ∀ e ∈ es, e.path.length ≤ 1073741824 ∧ e.data.length ≤ 1073741824 := fun e he => by have := hz2 e he; omega
    have h2 := toEntS_con (m := m) es (by omega)
    have h3 := sTreeText_con (m := m) es hb2 (by omega)
    have h4 := iTreeText_con (m := m) es hb2
    have h5 := eqEntS_con (m := m) es (by omega)
    refine con_of_cd tyOk mix Tryd.func6 rfl rfl rfl (Nat.le_of_ble_eq_true rfl) ?_
    repeat' first
      | (refine Ops.none rfl ?_; conv => whnf)
      | (refine Cd.seq ?_)
      | (refine Ops.nil ?_; conv => whnf)
      | (refine Cd.region ?_)
      | (refine Ops.guard rfl rfl rfl ?_)
      | (refine Ops.off rfl rfl rfl ?_)
      | (refine Cd.cond rfl ?_)
      | (refine Cd.block ?_)
      | (refine Cd.exit ?_; conv => whnf)
      | (refine Cd.ret ?_; conv => whnf)
      | (refine Cd.skip ?_; conv => whnf)
      | (refine Cd.drawn ?_)
      | (refine And.intro (a := drawB _ _ = true) (by kernel_rfl) ?_; conv => whnf)
      | refine CallEnd.out ?_
      | (refine bsplit.mk (fun h => ?_) (fun h => ?_) <;> (try simp only [decide_eq_true_eq, decide_eq_false_iff_not, Bool.not_eq_true', Bool.not_eq_false', Bool.not_true, Bool.not_false, Bool.true_eq_false, Bool.false_eq_true, List.length_map] at h) <;> conv => whnf)
      | (refine ⟨[], _, _, _, _, 0, ⟨rfl, rfl, rfl, h1, rfl, rfl⟩, .inr ?_⟩; conv => whnf)
      | (refine ⟨[], _, _, _, _, 1, ⟨rfl, rfl, rfl, h2, rfl, rfl⟩, .inr ?_⟩; conv => whnf)
      | (refine ⟨[], _, _, _, _, 0, ⟨rfl, rfl, rfl, h3, rfl, rfl⟩, .inr ?_⟩; conv => whnf)
      | (refine ⟨[], _, _, _, _, 0, ⟨rfl, rfl, rfl, h4, rfl, rfl⟩, .inr ?_⟩; conv => whnf)
      | (refine ⟨[], _, _, _, _, 0, ⟨rfl, rfl, rfl, h5, rfl, rfl⟩, .inr ?_⟩; conv => whnf)
      | (refine ⟨_, Go.IntWalk.i64_in _ (by (try simp only [List.length_map]); omega), ?_⟩; conv => whnf)
      | (refine ⟨_, _, rfl, List.getElem?_eq_getElem (by omega), ?_⟩; conv => whnf)
      | (refine ⟨0, _, rfl, rfl, ?_⟩; conv => whnf)
      | (refine ⟨_, _, rfl, map_get (by omega), rfl, ?_⟩; conv => whnf)
      | (refine ⟨_, map_get (by omega), ?_⟩; conv => whnf)
      | (refine ⟨map_len fun _ => rfl, ?_⟩; conv => whnf)
      | (refine ⟨Nat.le_of_ble_eq_true rfl, Nat.le_of_ble_eq_true rfl, one_len rfl, ?_⟩; conv => whnf)
      | (refine ⟨Nat.le_of_ble_eq_true rfl, Nat.le_of_ble_eq_true rfl, ?_⟩; conv => whnf)
      | (refine ⟨(by refine Decidable.byContradiction fun hbnd => ?_; (try unfold room at hbnd); (try simp only [bytesOf, List.length_map, List.length_append, List.length_cons, List.length_nil, List.length_take, List.length_drop, List.length_replicate] at hbnd); omega), ?_⟩; conv => whnf)
      | (refine ⟨(Nat.le_of_ble_eq_true rfl : _ ≤ wide), ?_⟩; conv => whnf)
      | (refine ⟨(rfl : isByte _ = true), ?_⟩; conv => whnf)
      | (refine ⟨(rfl : memB _ _ = false), ?_⟩; conv => whnf)
      | (refine ⟨_, (rfl : (_ : Int) = ((_ : Nat) : Int)), ?_⟩; conv => whnf)
    all_goals first
      | (refine CallEnd.here (finK.auto ?_)
         conv => whnf
         exact ⟨rfl, rfl, rfl, rfl⟩)
      | exact absurd rfl ‹¬treeText es = treeText es›
      | exact absurd trivial ‹¬True›
theorem FnExactTreeText_con (cds : List D) (h : ShpAll Tryd.prog Tryd.f6.params.toList cds) : Con (E m) 6 0 cds [] (.b true) [] := by
  rw [Tryd.params6] at h
  match cds, h with
  | [d], ⟨h, _⟩ =>
    obtain ⟨es, rfl, hl, hb⟩ := lEnts_shp h
    exact law_treeText es hl hb
theorem gl_m {W : World} (hm : W.cell? ⟨1, 0, none⟩ = some (.int .i64 m)) : ∀ g cs, (E m).gl g = some cs → VI W noAv (.ep cs) (.pointer (some ⟨g, 0, none⟩)) := by
  intro g cs h
  have h' : lk (gls m) g = some cs := h
  unfold gls at h'
  rw [lk_cons] at h'
  split at h'
  · rename_i hg
    subst hg
    cases h'
    exact gl_one hm rfl (.k _ _)
  · simp [lk] at h'
open Go.ChangeShapes Go.WideShapes Go.ChangeAt in
theorem FnExactTreeText_lifted (os : Os) (started : os.Started) (H : Type) (enc : TypeId × Value → H) :
    ReturnsInHanded {} Tryd.checked os 6 .any (fun w args => (Rows.fnExactTreeTextSpec.pre enc Tryd.prog Tryd.f6 Rows.fnExactTreeTextRow.domain false w args ∧ laidMetH Tryd.prog Rows.fnExactTreeTextRow.laid w) ∧ sizedMet enc Tryd.prog Tryd.f6 (OpenSpec.ofChange Rows.fnExactTreeTextSpec) false w args)
      (Rows.fnExactTreeTextSpec.post enc Tryd.prog Tryd.f6 false true false false) := by
  refine returns_laid (C := Tryd.checked) (X := fun w _ => laidMetH Tryd.prog Rows.fnExactTreeTextRow.laid w) (fun _ _ _ hh h => h.of_heap hh) own0 started (by kernel_rfl) Tryd.func6
    (ChangeSpec.witness_shaped (enc := enc) (C := Tryd.checked) (os := os) (X := fun w _ => laidMetH Tryd.prog Rows.fnExactTreeTextRow.laid w) false (World.laidAll Tryd.prog os Rows.fnExactTreeTextRow.laid) #[.slice none 0 0] 8 (World.laidAll_os _ _ _)
      (World.shaped_of_ZipB (by kernel_rfl) (by kernel_rfl)) (by kernel_rfl) (by kernel_rfl) (by kernel_rfl)
      (by rw [MakeChecks.laidMetH_plain _ _ _ (by kernel_rfl)]; exact laidMet_laidAll _ (by kernel_rfl) (by kernel_rfl))) ?_
  intro W base args ds gs before hval hW hsh _
  obtain ⟨m, hm⟩ := Tryd.laysM146.s1_3 W hsh
  exact law_calls_gl (E := E m) (dp := 8) (bt := 4) laidOut0 (readB_mem (by kernel_rfl)) (by kernel_rfl) Tryd.underlying4 (by kernel_rfl) rfl (fun H ds hl => match ds, hl with
    | [d], _ => rfl) FnExactTreeText_con W (gl_m hm) base args ds gs before hval hW
theorem FnExactTreeText_holds : Rows.FnExactTreeTextSaid :=
  OpenClaim.holds_of_wide 6 Tryd.f6 rfl rfl rfl rfl rfl rfl rfl ⟨rfl, rfl, rfl, rfl, rfl⟩ rfl rfl rfl rfl rfl (by kernel_rfl) Tryd.func6 (by kernel_rfl)
    (of_decide_eq_true (by kernel_rfl)) (by unfold Func.isWrapper; first | (rw [if_pos (by decide +kernel)]; kernel_rfl) | (rw [if_neg (by decide +kernel)]; exact ⟨rfl, rfl⟩))
    (fun os started H enc _ => FnExactTreeText_lifted os started H enc)
theorem FnExactTreeText_card : Rows.FnExactTreeTextCardSaid :=
  Claim7.holds_tied_plain_at .later [] [.data, .pinned] true _ false FnExactTreeText_holds (fun _ h => by cases h) (by kernel_rfl) (fun _ h => by cases h) fnExactTreeText_row_tie rfl ⟨rfl, rfl⟩ (by kernel_rfl) rfl
    (fun f fn hf hfn => by
      obtain rfl : f = 6 := Option.some.inj ((show Tryd.prog.funcNamed "loop.example/pargeting/laws.FnExactTreeText" = some 6 by kernel_rfl).symm.trans hf) |>.symm
      obtain rfl : fn = Tryd.f6 := (Option.some.inj (Tryd.func6.symm.trans hfn)).symm
      exact ⟨by kernel_rfl, fun j t ht => by
        have hm : t ∈ Tryd.f6.params.toList := by simpa using Array.mem_of_getElem? ht
        have hall : (Tryd.f6.params.toList.all fun u => !Tryd.prog.wantsStandIn u) = true := by kernel_rfl
        exact (show Tryd.prog.wantsStandIn t = false by simpa using List.all_eq_true.1 hall t hm)⟩)
    (by kernel_rfl)
end Go.Proofs.YtgkhjehgodnlbaaDoor
