/- What the texts of this seat share: the table of its types, its package variables, and facts of the program as a whole. -/
import Derived.Test.YtgeieehampfkcaaDoorXW113
import Derived.Test.YtgeieehampfkcaaDoorRows
import Derived.Test.YtgeieehampfkcaaDoorSh
import Derived.Test.YtgeieehampfkcaaDoorTie
import Derived.Test.YtgeieehampfkcaaDoorCards
import Derived.ProofKit
import Derived.LaidMore
import Derived.Lay
import Derived.SevenTiedAt
import Derived.Stop.Joined
namespace Go.Proofs.YtgeieehampfkcaaDoor
open Go Go.RowKit Go.Ab
noncomputable def tys : List (Nat × TD) := [(2, ⟨.int .i64, 1, 8, .k .i64 0, none⟩),
  (3, ⟨.int .i64, 1, 8, .k .i64 0, none⟩),
  (4, ⟨.bool, 1, 1, .b false, none⟩),
  (5, ⟨.int .u8, 1, 1, .k .u8 0, none⟩),
  (6, ⟨.int .u8, 1, 1, .k .u8 0, none⟩),
  (7, ⟨.struct [(0, 1), (1, 1), (2, 1), (3, 1)], 4, 24, .agg [.k .i64 0, .k .i64 0, .b false, .k .u8 0], some [1, 1, 0, 1]⟩),
  (8, ⟨.struct [(0, 1), (1, 1), (2, 1), (3, 1)], 4, 24, .agg [.k .i64 0, .k .i64 0, .b false, .k .u8 0], some [1, 1, 0, 1]⟩),
  (9, ⟨.str, 1, 16, .s [], none⟩),
  (10, ⟨.str, 1, 16, .s [], none⟩),
  (11, ⟨.str, 1, 16, .s [], none⟩),
  (12, ⟨.int .u64, 1, 8, .k .u64 0, none⟩),
  (13, ⟨.struct [(0, 1), (1, 1)], 2, 24, .agg [.s [], .k .u64 0], none⟩),
  (14, ⟨.struct [(0, 1), (1, 1)], 2, 24, .agg [.s [], .k .u64 0], none⟩),
  (21, ⟨.int .i32, 1, 4, .k .i32 0, none⟩),
  (22, ⟨.struct [(0, 1), (1, 1), (2, 1), (3, 1)], 4, 56, .agg [.k .i64 0, .s [], .s [], .s []], some [1, 2, 2, 2]⟩),
  (23, ⟨.struct [(0, 1), (1, 1), (2, 1), (3, 1)], 4, 56, .agg [.k .i64 0, .s [], .s [], .s []], some [1, 2, 2, 2]⟩),
  (26, ⟨.struct [(0, 1), (1, 1), (2, 1), (3, 1)], 4, 56, .agg [.k .i64 0, .s [], .s [], .s []], some [1, 2, 2, 2]⟩),
  (33, ⟨.slice 5, 1, 24, .nil, none⟩),
  (38, ⟨.slice 86, 1, 24, .nil, none⟩),
  (40, ⟨.struct [(0, 1), (1, 1), (2, 1)], 3, 40, .agg [.s [], .b false, .s []], some [2, 0, 2]⟩),
  (41, ⟨.struct [(0, 1), (1, 1), (2, 1)], 3, 40, .agg [.s [], .b false, .s []], some [2, 0, 2]⟩),
  (44, ⟨.slice 41, 1, 24, .nil, none⟩),
  (49, ⟨.slice 94, 1, 24, .nil, none⟩),
  (52, ⟨.slice 96, 1, 24, .nil, none⟩),
  (74, ⟨.slice 9, 1, 24, .nil, none⟩),
  (76, ⟨.parr 6 9, 6, 96, .agg [.s [], .s [], .s [], .s [], .s [], .s []], none⟩),
  (86, ⟨.struct [(0, 1), (1, 1), (2, 1)], 3, 40, .agg [.s [], .b false, .s []], some [2, 0, 2]⟩),
  (89, ⟨.struct [(0, 3), (3, 1)], 4, 48, .agg [.s [], .b false, .s [], .b false], some [2, 0, 2, 0]⟩),
  (90, ⟨.struct [(0, 3), (3, 1)], 4, 48, .agg [.s [], .b false, .s [], .b false], some [2, 0, 2, 0]⟩),
  (93, ⟨.struct [(0, 1), (1, 1), (2, 1)], 3, 40, .agg [.s [], .k .i64 0, .s []], some [2, 1, 2]⟩),
  (94, ⟨.struct [(0, 1), (1, 1), (2, 1)], 3, 40, .agg [.s [], .k .i64 0, .s []], some [2, 1, 2]⟩),
  (96, ⟨.struct [(0, 1), (1, 1), (2, 1)], 3, 40, .agg [.s [], .k .i64 0, .s []], some [2, 1, 2]⟩),
  (101, ⟨.slice 74, 1, 24, .nil, none⟩),
  (123, ⟨.struct [(0, 1), (1, 1)], 2, 32, .agg [.nil, .k .i64 0], none⟩),
  (124, ⟨.struct [(0, 1), (1, 1)], 2, 32, .agg [.nil, .k .i64 0], none⟩),
  (128, ⟨.slice 3, 1, 24, .nil, none⟩),
  (161, ⟨.int .u64, 1, 8, .k .u64 0, none⟩),
  (168, ⟨.parr 256 5, 256, 256, .agg [.k .u8 0, .k .u8 0, .k .u8 0, .k .u8 0, .k .u8 0, .k .u8 0, .k .u8 0, .k .u8 0, .k .u8 0, .k .u8 0, .k .u8 0, .k .u8 0, .k .u8 0, .k .u8 0, .k .u8 0, .k .u8 0, .k .u8 0, .k .u8 0, .k .u8 0, .k .u8 0, .k .u8 0, .k .u8 0, .k .u8 0, .k .u8 0, .k .u8 0, .k .u8 0, .k .u8 0, .k .u8 0, .k .u8 0, .k .u8 0, .k .u8 0, .k .u8 0, .k .u8 0, .k .u8 0, .k .u8 0, .k .u8 0, .k .u8 0, .k .u8 0, .k .u8 0, .k .u8 0, .k .u8 0, .k .u8 0, .k .u8 0, .k .u8 0, .k .u8 0, .k .u8 0, .k .u8 0, .k .u8 0, .k .u8 0, .k .u8 0, .k .u8 0, .k .u8 0, .k .u8 0, .k .u8 0, .k .u8 0, .k .u8 0, .k .u8 0, .k .u8 0, .k .u8 0, .k .u8 0, .k .u8 0, .k .u8 0, .k .u8 0, .k .u8 0, .k .u8 0, .k .u8 0, .k .u8 0, .k .u8 0, .k .u8 0, .k .u8 0, .k .u8 0, .k .u8 0, .k .u8 0, .k .u8 0, .k .u8 0, .k .u8 0, .k .u8 0, .k .u8 0, .k .u8 0, .k .u8 0, .k .u8 0, .k .u8 0, .k .u8 0, .k .u8 0, .k .u8 0, .k .u8 0, .k .u8 0, .k .u8 0, .k .u8 0, .k .u8 0, .k .u8 0, .k .u8 0, .k .u8 0, .k .u8 0, .k .u8 0, .k .u8 0, .k .u8 0, .k .u8 0, .k .u8 0, .k .u8 0, .k .u8 0, .k .u8 0, .k .u8 0, .k .u8 0, .k .u8 0, .k .u8 0, .k .u8 0, .k .u8 0, .k .u8 0, .k .u8 0, .k .u8 0, .k .u8 0, .k .u8 0, .k .u8 0, .k .u8 0, .k .u8 0, .k .u8 0, .k .u8 0, .k .u8 0, .k .u8 0, .k .u8 0, .k .u8 0, .k .u8 0, .k .u8 0, .k .u8 0, .k .u8 0, .k .u8 0, .k .u8 0, .k .u8 0, .k .u8 0, .k .u8 0, .k .u8 0, .k .u8 0, .k .u8 0, .k .u8 0, .k .u8 0, .k .u8 0, .k .u8 0, .k .u8 0, .k .u8 0, .k .u8 0, .k .u8 0, .k .u8 0, .k .u8 0, .k .u8 0, .k .u8 0, .k .u8 0, .k .u8 0, .k .u8 0, .k .u8 0, .k .u8 0, .k .u8 0, .k .u8 0, .k .u8 0, .k .u8 0, .k .u8 0, .k .u8 0, .k .u8 0, .k .u8 0, .k .u8 0, .k .u8 0, .k .u8 0, .k .u8 0, .k .u8 0, .k .u8 0, .k .u8 0, .k .u8 0, .k .u8 0, .k .u8 0, .k .u8 0, .k .u8 0, .k .u8 0, .k .u8 0, .k .u8 0, .k .u8 0, .k .u8 0, .k .u8 0, .k .u8 0, .k .u8 0, .k .u8 0, .k .u8 0, .k .u8 0, .k .u8 0, .k .u8 0, .k .u8 0, .k .u8 0, .k .u8 0, .k .u8 0, .k .u8 0, .k .u8 0, .k .u8 0, .k .u8 0, .k .u8 0, .k .u8 0, .k .u8 0, .k .u8 0, .k .u8 0, .k .u8 0, .k .u8 0, .k .u8 0, .k .u8 0, .k .u8 0, .k .u8 0, .k .u8 0, .k .u8 0, .k .u8 0, .k .u8 0, .k .u8 0, .k .u8 0, .k .u8 0, .k .u8 0, .k .u8 0, .k .u8 0, .k .u8 0, .k .u8 0, .k .u8 0, .k .u8 0, .k .u8 0, .k .u8 0, .k .u8 0, .k .u8 0, .k .u8 0, .k .u8 0, .k .u8 0, .k .u8 0, .k .u8 0, .k .u8 0, .k .u8 0, .k .u8 0, .k .u8 0, .k .u8 0, .k .u8 0, .k .u8 0, .k .u8 0, .k .u8 0, .k .u8 0, .k .u8 0, .k .u8 0, .k .u8 0, .k .u8 0, .k .u8 0, .k .u8 0, .k .u8 0, .k .u8 0, .k .u8 0, .k .u8 0, .k .u8 0, .k .u8 0, .k .u8 0, .k .u8 0, .k .u8 0, .k .u8 0, .k .u8 0, .k .u8 0, .k .u8 0, .k .u8 0], none⟩),
  (169, ⟨.struct [(0, 1), (1, 1)], 2, 2, .agg [.k .u8 0, .k .u8 0], some [1, 1]⟩),
  (170, ⟨.struct [(0, 1), (1, 1)], 2, 2, .agg [.k .u8 0, .k .u8 0], some [1, 1]⟩),
  (171, ⟨.parr 16 170, 32, 32, .agg [.k .u8 0, .k .u8 0, .k .u8 0, .k .u8 0, .k .u8 0, .k .u8 0, .k .u8 0, .k .u8 0, .k .u8 0, .k .u8 0, .k .u8 0, .k .u8 0, .k .u8 0, .k .u8 0, .k .u8 0, .k .u8 0, .k .u8 0, .k .u8 0, .k .u8 0, .k .u8 0, .k .u8 0, .k .u8 0, .k .u8 0, .k .u8 0, .k .u8 0, .k .u8 0, .k .u8 0, .k .u8 0, .k .u8 0, .k .u8 0, .k .u8 0, .k .u8 0], none⟩),
  (172, ⟨.int .u32, 1, 4, .k .u32 0, none⟩),
  (181, ⟨.int .u8, 1, 1, .k .u8 0, none⟩),
  (182, ⟨.int .u8, 1, 1, .k .u8 0, none⟩),
  (184, ⟨.int .i32, 1, 4, .k .i32 0, none⟩),
  (185, ⟨.int .i32, 1, 4, .k .i32 0, none⟩),
  (189, ⟨.int .u64, 1, 8, .k .u64 0, none⟩)]
noncomputable def gls (_m : Int) : List (Nat × List D) := [
  (1, [.k .i64 _m])
  ]
noncomputable abbrev E (m : Int) : Env := ⟨Tryd.prog, lk tys, lk (gls m)⟩
theorem tyChk0 : tysChk Tryd.prog tys = true := by kernel_rfl
theorem mix0 : Tryd.prog.follows .mixedOrders = true := by kernel_rfl
theorem tyOk {m : Int} : TyOk (E m) := tyOk_of rfl tyChk0
theorem mix {m : Int} : (E m).P.follows .mixedOrders = true := mix0
/-- with the words of what is done -/
noncomputable def glsO (_m : Int) : List (Nat × List D) := [(1, [.k .i64 _m]), (0, [.s [], .s [109, 97, 107, 101], .s [112, 117, 116], .s [114, 109], .s [114, 109, 100, 105, 114], .s [109, 111, 118, 101]])]
noncomputable abbrev Eo (m : Int) : Env := ⟨Tryd.prog, lk tys, lk (glsO m)⟩
theorem tyOkO {m : Int} : TyOk (Eo m) := tyOk_of rfl tyChk0
theorem mixO {m : Int} : (Eo m).P.follows .mixedOrders = true := mix0
theorem con_o {m : Int} {f : FuncId} {k : Nat} {cds : List D} {Sa : Store} {d : D} {S' : Store} (h : Con (E m) f k cds Sa d S') : Con (Eo m) f k cds Sa d S' := by
  refine Con.wide (fun g cs e => ?_) h
  unfold gls at e
  unfold glsO
  rw [lk_cons] at e ⊢
  split at e
  · rename_i hg
    rw [if_pos hg]
    exact e
  · simp [lk] at e
theorem own0 : ownKnob Tryd.prog.godebug = none := by kernel_rfl
theorem laidOut0 : laidOutB Tryd.prog = true := by kernel_rfl
end Go.Proofs.YtgeieehampfkcaaDoor
/- The contracts of the functions of entries' and marks' texts. -/
set_option linter.unusedSimpArgs false
set_option linter.unusedVariables false
set_option maxHeartbeats 1000000
set_option maxRecDepth 10000
namespace Go.Proofs.YtgeieehampfkcaaDoor
open Go Go.RowKit Go.Ab Go.Par
variable {m : Int}
theorem lEnt_shp {d : D} (h : ShpV Tryd.prog 86 d) : ∃ e : Ent, d = .agg e.c ∧ e.path.length ≤ 9223372036854775807 ∧ e.data.length ≤ 9223372036854775807 := by
  obtain ⟨ds, rfl, h1⟩ := h.struct Tryd.underlying86
  have h2 : ShpF Tryd.prog [9, 4, 9] ds := h1
  obtain ⟨a, _, rfl, ha, b, _, rfl, hb, c, _, rfl, hc, rfl⟩ := h2
  obtain ⟨p, rfl, hp⟩ := ha.str_inv Tryd.underlying9
  obtain ⟨x, rfl⟩ := hb.bool_inv Tryd.underlying4
  obtain ⟨q, rfl, hq⟩ := hc.str_inv Tryd.underlying9
  exact ⟨⟨p, x, q⟩, rfl, hp, hq⟩
theorem lMark_shp {d : D} (h : ShpV Tryd.prog 94 d) : ∃ e : Mrk, d = .agg e.c ∧ e.path.length ≤ 9223372036854775807 ∧ e.data.length ≤ 9223372036854775807 := by
  obtain ⟨ds, rfl, h1⟩ := h.struct Tryd.underlying94
  have h2 : ShpF Tryd.prog [9, 3, 9] ds := h1
  obtain ⟨a, _, rfl, ha, b, _, rfl, hb, c, _, rfl, hc, rfl⟩ := h2
  obtain ⟨p, rfl, hp⟩ := ha.str_inv Tryd.underlying9
  obtain ⟨x, rfl, _⟩ := hb.int_inv Tryd.underlying3
  obtain ⟨q, rfl, hq⟩ := hc.str_inv Tryd.underlying9
  exact ⟨⟨p, x, q⟩, rfl, hp, hq⟩
theorem toEnt_con (e : Ent) : Con (E m) 72 0 [.agg e.c] [] (.agg e.c) [] := by
  refine con_of_cd tyOk mix Tryd.func72 rfl rfl rfl (Nat.le_of_ble_eq_true rfl) ?_
  repeat' first | refine Rw ⟨?_⟩ | (refine bsplit.mk (fun h => ?_) (fun h => ?_) <;> (try simp only [decide_eq_true_eq, decide_eq_false_iff_not, Bool.not_eq_true', Bool.not_eq_false', Bool.not_true, Bool.not_false, Bool.true_eq_false, Bool.false_eq_true, List.length_map] at h) <;> conv => whnf) | refine Rs ⟨?_⟩ | fail
  first | refine CallEnd.here (fa ?_) | refine fa ?_
  conv => whnf
  first | exact ⟨rfl, rfl, rfl, rfl⟩ | refine ⟨rfl, rfl, congrArg some (congrArg D.s ?_), rfl⟩ | refine ⟨rfl, rfl, congrArg some (congrArg D.b ?_), rfl⟩ | refine ⟨rfl, rfl, congrArg some (congrArg (D.k _) ?_), rfl⟩ | refine ⟨rfl, rfl, congrArg some (congrArg D.agg ?_), rfl⟩ | refine ⟨rfl, rfl, rfl, ?_⟩
  all_goals first | rfl | (simp_all [Ent.c]; done) | (simp [Ent.c] <;> (repeat' split) <;> omega) | (simp only [Ent.c]; repeat' split) <;> first | omega | (simp_all; done) | (simp_all; omega) | (rw [Bool.eq_iff_iff]; simp [*, Ent.c] <;> omega)
theorem szEnt_con (e : Ent) (n : Int) (hn : 0 ≤ n ∧ n ≤ 1048576) (hp : e.path.length ≤ 9223372036854775807) (hd : e.data.length ≤ 9223372036854775807) :
    Con (E m) 69 0 [.agg e.c, .k .i64 n] [] (.k .i64 (less2 n e.path.length e.data.length)) [] := by
  refine con_of_cd tyOk mix Tryd.func69 rfl rfl rfl (Nat.le_of_ble_eq_true rfl) ?_
  repeat' first | refine Rw ⟨?_⟩ | (refine bsplit.mk (fun h => ?_) (fun h => ?_) <;> (try simp only [decide_eq_true_eq, decide_eq_false_iff_not, Bool.not_eq_true', Bool.not_eq_false', Bool.not_true, Bool.not_false, Bool.true_eq_false, Bool.false_eq_true, List.length_map] at h) <;> conv => whnf) | refine Rs ⟨?_⟩ | fail
  all_goals
    first | refine CallEnd.here (fa ?_) | refine fa ?_
    conv => whnf
    first | exact ⟨rfl, rfl, rfl, rfl⟩ | refine ⟨rfl, rfl, congrArg some (congrArg D.s ?_), rfl⟩ | refine ⟨rfl, rfl, congrArg some (congrArg D.b ?_), rfl⟩ | refine ⟨rfl, rfl, congrArg some (congrArg (D.k _) ?_), rfl⟩ | refine ⟨rfl, rfl, congrArg some (congrArg D.agg ?_), rfl⟩ | refine ⟨rfl, rfl, rfl, ?_⟩
    all_goals first | rfl | (simp_all [less2]; done) | (simp [less2] <;> (repeat' split) <;> omega) | (simp only [less2]; repeat' split) <;> first | omega | (simp_all; done) | (simp_all; omega) | (rw [Bool.eq_iff_iff]; simp [*, less2] <;> omega)
theorem toMark_con (e : Mrk) : Con (E m) 77 0 [.agg e.c] [] (.agg e.c) [] := by
  refine con_of_cd tyOk mix Tryd.func77 rfl rfl rfl (Nat.le_of_ble_eq_true rfl) ?_
  repeat' first | refine Rw ⟨?_⟩ | (refine bsplit.mk (fun h => ?_) (fun h => ?_) <;> (try simp only [decide_eq_true_eq, decide_eq_false_iff_not, Bool.not_eq_true', Bool.not_eq_false', Bool.not_true, Bool.not_false, Bool.true_eq_false, Bool.false_eq_true, List.length_map] at h) <;> conv => whnf) | refine Rs ⟨?_⟩ | fail
  first | refine CallEnd.here (fa ?_) | refine fa ?_
  conv => whnf
  first | exact ⟨rfl, rfl, rfl, rfl⟩ | refine ⟨rfl, rfl, congrArg some (congrArg D.s ?_), rfl⟩ | refine ⟨rfl, rfl, congrArg some (congrArg D.b ?_), rfl⟩ | refine ⟨rfl, rfl, congrArg some (congrArg (D.k _) ?_), rfl⟩ | refine ⟨rfl, rfl, congrArg some (congrArg D.agg ?_), rfl⟩ | refine ⟨rfl, rfl, rfl, ?_⟩
  all_goals first | rfl | (simp_all [Mrk.c]; done) | (simp [Mrk.c] <;> (repeat' split) <;> omega) | (simp only [Mrk.c]; repeat' split) <;> first | omega | (simp_all; done) | (simp_all; omega) | (rw [Bool.eq_iff_iff]; simp [*, Mrk.c] <;> omega)
theorem szMark_con (e : Mrk) (n : Int) (hn : 0 ≤ n ∧ n ≤ 1048576) (hp : e.path.length ≤ 9223372036854775807) (hd : e.data.length ≤ 9223372036854775807) :
    Con (E m) 75 0 [.agg e.c, .k .i64 n] [] (.k .i64 (less2 n e.path.length e.data.length)) [] := by
  refine con_of_cd tyOk mix Tryd.func75 rfl rfl rfl (Nat.le_of_ble_eq_true rfl) ?_
  repeat' first | refine Rw ⟨?_⟩ | (refine bsplit.mk (fun h => ?_) (fun h => ?_) <;> (try simp only [decide_eq_true_eq, decide_eq_false_iff_not, Bool.not_eq_true', Bool.not_eq_false', Bool.not_true, Bool.not_false, Bool.true_eq_false, Bool.false_eq_true, List.length_map] at h) <;> conv => whnf) | refine Rs ⟨?_⟩ | fail
  all_goals
    first | refine CallEnd.here (fa ?_) | refine fa ?_
    conv => whnf
    first | exact ⟨rfl, rfl, rfl, rfl⟩ | refine ⟨rfl, rfl, congrArg some (congrArg D.s ?_), rfl⟩ | refine ⟨rfl, rfl, congrArg some (congrArg D.b ?_), rfl⟩ | refine ⟨rfl, rfl, congrArg some (congrArg (D.k _) ?_), rfl⟩ | refine ⟨rfl, rfl, congrArg some (congrArg D.agg ?_), rfl⟩ | refine ⟨rfl, rfl, rfl, ?_⟩
    all_goals first | rfl | (simp_all [less2]; done) | (simp [less2] <;> (repeat' split) <;> omega) | (simp only [less2]; repeat' split) <;> first | omega | (simp_all; done) | (simp_all; omega) | (rw [Bool.eq_iff_iff]; simp [*, less2] <;> omega)
theorem sEntText_con (e : Ent) (hp : e.path.length ≤ 2147483648) (hd : e.data.length ≤ 2147483648) : Con (E m) 106 0 [.agg e.c] [] (.s (entText e)) [] := by
  refine con_of_cd tyOk mix Tryd.func106 rfl rfl rfl (Nat.le_of_ble_eq_true rfl) ?_
  repeat' first | refine Rw ⟨?_⟩ | (refine bsplit.mk (fun h => ?_) (fun h => ?_) <;> (try simp only [decide_eq_true_eq, decide_eq_false_iff_not, Bool.not_eq_true', Bool.not_eq_false', Bool.not_true, Bool.not_false, Bool.true_eq_false, Bool.false_eq_true, List.length_map] at h) <;> conv => whnf) | refine Rs ⟨?_⟩ | fail
  all_goals
    first | refine CallEnd.here (fa ?_) | refine fa ?_
    conv => whnf
    first | exact ⟨rfl, rfl, rfl, rfl⟩ | refine ⟨rfl, rfl, congrArg some (congrArg D.s ?_), rfl⟩ | refine ⟨rfl, rfl, congrArg some (congrArg D.b ?_), rfl⟩ | refine ⟨rfl, rfl, congrArg some (congrArg (D.k _) ?_), rfl⟩ | refine ⟨rfl, rfl, congrArg some (congrArg D.agg ?_), rfl⟩ | refine ⟨rfl, rfl, rfl, ?_⟩
    all_goals first | rfl | (simp_all [entText]; done) | (simp [entText] <;> (repeat' split) <;> omega) | (simp only [entText]; repeat' split) <;> first | omega | (simp_all; done) | (simp_all; omega) | (rw [Bool.eq_iff_iff]; simp [*, entText] <;> omega)
theorem iEntText_con (e : Ent) (hp : e.path.length ≤ 2147483648) (hd : e.data.length ≤ 2147483648) : Con (E m) 105 0 [.agg e.c] [] (.s (entText e)) [] := by
  refine con_of_cd tyOk mix Tryd.func105 rfl rfl rfl (Nat.le_of_ble_eq_true rfl) ?_
  repeat' first | refine Rw ⟨?_⟩ | (refine bsplit.mk (fun h => ?_) (fun h => ?_) <;> (try simp only [decide_eq_true_eq, decide_eq_false_iff_not, Bool.not_eq_true', Bool.not_eq_false', Bool.not_true, Bool.not_false, Bool.true_eq_false, Bool.false_eq_true, List.length_map] at h) <;> conv => whnf) | refine Rs ⟨?_⟩ | fail
  all_goals
    first | refine CallEnd.here (fa ?_) | refine fa ?_
    conv => whnf
    first | exact ⟨rfl, rfl, rfl, rfl⟩ | refine ⟨rfl, rfl, congrArg some (congrArg D.s ?_), rfl⟩ | refine ⟨rfl, rfl, congrArg some (congrArg D.b ?_), rfl⟩ | refine ⟨rfl, rfl, congrArg some (congrArg (D.k _) ?_), rfl⟩ | refine ⟨rfl, rfl, congrArg some (congrArg D.agg ?_), rfl⟩ | refine ⟨rfl, rfl, rfl, ?_⟩
    all_goals first | rfl | (simp_all [entText]; done) | (simp [entText] <;> (repeat' split) <;> omega) | (simp only [entText]; repeat' split) <;> first | omega | (simp_all; done) | (simp_all; omega) | (rw [Bool.eq_iff_iff]; simp [*, entText] <;> omega)
theorem sMarkText_con (e : Mrk) (hp : e.path.length ≤ 2147483648) (hd : e.data.length ≤ 2147483648) : Con (E m) 76 0 [.agg e.c] [] (.s (markText e)) [] := by
  refine con_of_cd tyOk mix Tryd.func76 rfl rfl rfl (Nat.le_of_ble_eq_true rfl) ?_
  repeat' first | refine Rw ⟨?_⟩ | (refine bsplit.mk (fun h => ?_) (fun h => ?_) <;> (try simp only [decide_eq_true_eq, decide_eq_false_iff_not, Bool.not_eq_true', Bool.not_eq_false', Bool.not_true, Bool.not_false, Bool.true_eq_false, Bool.false_eq_true, List.length_map] at h) <;> conv => whnf) | (refine Rc [] 0 rfl rfl (sEntText_con ⟨e.path, false, e.data⟩ hp hd) ?_; conv => whnf) | refine Rs ⟨?_⟩ | fail
  all_goals
    first | refine CallEnd.here (fa ?_) | refine fa ?_
    conv => whnf
    first | exact ⟨rfl, rfl, rfl, rfl⟩ | refine ⟨rfl, rfl, congrArg some (congrArg D.s ?_), rfl⟩ | refine ⟨rfl, rfl, congrArg some (congrArg D.b ?_), rfl⟩ | refine ⟨rfl, rfl, congrArg some (congrArg (D.k _) ?_), rfl⟩ | refine ⟨rfl, rfl, congrArg some (congrArg D.agg ?_), rfl⟩ | refine ⟨rfl, rfl, rfl, ?_⟩
    all_goals first | rfl | (simp_all [markText]; done) | (simp [markText] <;> (repeat' split) <;> omega) | (simp only [markText]; repeat' split) <;> first | omega | (simp_all; done) | (simp_all; omega) | (rw [Bool.eq_iff_iff]; simp [*, markText] <;> omega)
theorem iMarkText_con (e : Mrk) (hp : e.path.length ≤ 2147483648) (hd : e.data.length ≤ 2147483648) : Con (E m) 78 0 [.agg e.c] [] (.s (markText e)) [] := by
  refine con_of_cd tyOk mix Tryd.func78 rfl rfl rfl (Nat.le_of_ble_eq_true rfl) ?_
  repeat' first | refine Rw ⟨?_⟩ | (refine bsplit.mk (fun h => ?_) (fun h => ?_) <;> (try simp only [decide_eq_true_eq, decide_eq_false_iff_not, Bool.not_eq_true', Bool.not_eq_false', Bool.not_true, Bool.not_false, Bool.true_eq_false, Bool.false_eq_true, List.length_map] at h) <;> conv => whnf) | (refine Rc [] 0 rfl rfl (iEntText_con ⟨e.path, false, e.data⟩ hp hd) ?_; conv => whnf) | refine Rs ⟨?_⟩ | fail
  all_goals
    first | refine CallEnd.here (fa ?_) | refine fa ?_
    conv => whnf
    first | exact ⟨rfl, rfl, rfl, rfl⟩ | refine ⟨rfl, rfl, congrArg some (congrArg D.s ?_), rfl⟩ | refine ⟨rfl, rfl, congrArg some (congrArg D.b ?_), rfl⟩ | refine ⟨rfl, rfl, congrArg some (congrArg (D.k _) ?_), rfl⟩ | refine ⟨rfl, rfl, congrArg some (congrArg D.agg ?_), rfl⟩ | refine ⟨rfl, rfl, rfl, ?_⟩
    all_goals first | rfl | (simp_all [markText]; done) | (simp [markText] <;> (repeat' split) <;> omega) | (simp only [markText]; repeat' split) <;> first | omega | (simp_all; done) | (simp_all; omega) | (rw [Bool.eq_iff_iff]; simp [*, markText] <;> omega)
end Go.Proofs.YtgeieehampfkcaaDoor
/- Contracts: names, cuts, paths, as the document's package has them. -/
set_option linter.unusedSimpArgs false
set_option linter.unusedVariables false
set_option maxHeartbeats 1000000
set_option maxRecDepth 10000
namespace Go.Proofs.YtgeieehampfkcaaDoor
open Go Go.RowKit Go.Ab Go.Par
variable {m : Int}
theorem not_lower {b : UInt8} (h : (b.toNat : Int) < 97 ∨ (b.toNat : Int) > 122) : lower b = false := by
  unfold lower
  rcases h with h | h
  · have : ¬ 97 ≤ b.toNat := by omega
    simp [this]
  · have : ¬ b.toNat ≤ 122 := by omega
    simp [this]
theorem is_lower {b : UInt8} (h1 : ¬ (b.toNat : Int) < 97) (h2 : ¬ (b.toNat : Int) > 122) : lower b = true := by
  unfold lower
  have : 97 ≤ b.toNat := by omega
  have : b.toNat ≤ 122 := by omega
  simp [*]
theorem sName_con (s : Bs) (hs : s.length ≤ 9223372036854775806) : Con (E m) 125 0 [.s s] [] (.b (nameOk s)) [] := by
  refine con_of_cd tyOk mix Tryd.func125 rfl rfl rfl (Nat.le_of_ble_eq_true rfl) ?_
  repeat' first | refine Rw ⟨?_⟩ | (refine bsplit.mk (fun h => ?_) (fun h => ?_) <;> (try simp only [decide_eq_true_eq, decide_eq_false_iff_not, Bool.not_eq_true', Bool.not_eq_false', Bool.not_true, Bool.not_false, Bool.true_eq_false, Bool.false_eq_true, List.length_map] at h) <;> conv => whnf) | refine Rs ⟨?_⟩ | fail
  refine Cd.loop (fun n tm S nx => ∃ i : Nat, i ≤ s.length ∧ n = s.length - i ∧ tm = [(0, .s s), (3, .k .i64 i)] ∧ S = [] ∧ nx = 0 ∧ (s.take i).all lower = true) ⟨s.length, ?_⟩ ?_
  · refine la [0, 3] ?_
    conv => whnf
    refine ⟨rfl, rfl, 0, Nat.zero_le _, rfl, rfl, rfl, rfl, rfl⟩
  · rintro n tm S nx ⟨i, hi, hn, rfl, rfl, rfl, hp⟩
    repeat' first | refine Rw ⟨?_⟩ | (refine bsplit.mk (fun h => ?_) (fun h => ?_) <;> (try simp only [decide_eq_true_eq, decide_eq_false_iff_not, Bool.not_eq_true', Bool.not_eq_false', Bool.not_true, Bool.not_false, Bool.true_eq_false, Bool.false_eq_true, List.length_map] at h) <;> conv => whnf) | refine Rs ⟨?_⟩ | fail
    · have hf : s.all lower = false := all_false (List.getElem?_eq_getElem (by omega : i < s.length)) (not_lower (.inl ‹_›))
      first | refine CallEnd.here (fa ?_) | refine fa ?_
      conv => whnf
      first | exact ⟨rfl, rfl, rfl, rfl⟩ | refine ⟨rfl, rfl, congrArg some (congrArg D.s ?_), rfl⟩ | refine ⟨rfl, rfl, congrArg some (congrArg D.b ?_), rfl⟩ | refine ⟨rfl, rfl, congrArg some (congrArg (D.k _) ?_), rfl⟩ | refine ⟨rfl, rfl, congrArg some (congrArg D.agg ?_), rfl⟩ | refine ⟨rfl, rfl, rfl, ?_⟩
      all_goals first | rfl | (simp_all [nameOk]; done) | (simp [nameOk] <;> (repeat' split) <;> omega) | (simp only [nameOk]; repeat' split) <;> first | omega | (simp_all; done) | (simp_all; omega) | (rw [Bool.eq_iff_iff]; simp [*, nameOk] <;> omega)
    · have hf : s.all lower = false := all_false (List.getElem?_eq_getElem (by omega : i < s.length)) (not_lower (.inr ‹_›))
      first | refine CallEnd.here (fa ?_) | refine fa ?_
      conv => whnf
      first | exact ⟨rfl, rfl, rfl, rfl⟩ | refine ⟨rfl, rfl, congrArg some (congrArg D.s ?_), rfl⟩ | refine ⟨rfl, rfl, congrArg some (congrArg D.b ?_), rfl⟩ | refine ⟨rfl, rfl, congrArg some (congrArg (D.k _) ?_), rfl⟩ | refine ⟨rfl, rfl, congrArg some (congrArg D.agg ?_), rfl⟩ | refine ⟨rfl, rfl, rfl, ?_⟩
      all_goals first | rfl | (simp_all [nameOk]; done) | (simp [nameOk] <;> (repeat' split) <;> omega) | (simp only [nameOk]; repeat' split) <;> first | omega | (simp_all; done) | (simp_all; omega) | (rw [Bool.eq_iff_iff]; simp [*, nameOk] <;> omega)
    · refine .here ⟨n - 1, by omega, ?_⟩
      refine la [0, 3] ?_
      conv => whnf
      refine ⟨rfl, rfl, i + 1, by omega, by omega, rfl, rfl, rfl, all_take_succ hp (List.getElem?_eq_getElem (by omega : i < s.length)) (is_lower ‹_› ‹_›)⟩
    all_goals
      have ha : s.all lower = true := all_take_full hp (by omega)
      first | refine CallEnd.here (fa ?_) | refine fa ?_
      conv => whnf
      first | exact ⟨rfl, rfl, rfl, rfl⟩ | refine ⟨rfl, rfl, congrArg some (congrArg D.s ?_), rfl⟩ | refine ⟨rfl, rfl, congrArg some (congrArg D.b ?_), rfl⟩ | refine ⟨rfl, rfl, congrArg some (congrArg (D.k _) ?_), rfl⟩ | refine ⟨rfl, rfl, congrArg some (congrArg D.agg ?_), rfl⟩ | refine ⟨rfl, rfl, rfl, ?_⟩
      all_goals first | rfl | (simp_all [nameOk]; done) | (simp [nameOk] <;> (repeat' split) <;> omega) | (simp only [nameOk]; repeat' split) <;> first | omega | (simp_all; done) | (simp_all; omega) | (rw [Bool.eq_iff_iff]; simp [*, nameOk] <;> omega)
theorem iName_con (s : Bs) (hs : s.length ≤ 9223372036854775806) : Con (E m) 136 0 [.s s] [] (.b (nameOk s)) [] := by
  refine con_of_cd tyOk mix Tryd.func136 rfl rfl rfl (Nat.le_of_ble_eq_true rfl) ?_
  repeat' first | refine Rw ⟨?_⟩ | (refine bsplit.mk (fun h => ?_) (fun h => ?_) <;> (try simp only [decide_eq_true_eq, decide_eq_false_iff_not, Bool.not_eq_true', Bool.not_eq_false', Bool.not_true, Bool.not_false, Bool.true_eq_false, Bool.false_eq_true, List.length_map] at h) <;> conv => whnf) | refine Rs ⟨?_⟩ | fail
  · first | refine CallEnd.here (fa ?_) | refine fa ?_
    conv => whnf
    first | exact ⟨rfl, rfl, rfl, rfl⟩ | refine ⟨rfl, rfl, congrArg some (congrArg D.s ?_), rfl⟩ | refine ⟨rfl, rfl, congrArg some (congrArg D.b ?_), rfl⟩ | refine ⟨rfl, rfl, congrArg some (congrArg (D.k _) ?_), rfl⟩ | refine ⟨rfl, rfl, congrArg some (congrArg D.agg ?_), rfl⟩ | refine ⟨rfl, rfl, rfl, ?_⟩
    all_goals first | rfl | (simp_all [nameOk]; done) | (simp [nameOk] <;> (repeat' split) <;> omega) | (simp only [nameOk]; repeat' split) <;> first | omega | (simp_all; done) | (simp_all; omega) | (rw [Bool.eq_iff_iff]; simp [*, nameOk] <;> omega)
  · first | refine CallEnd.here (fa ?_) | refine fa ?_
    conv => whnf
    first | exact ⟨rfl, rfl, rfl, rfl⟩ | refine ⟨rfl, rfl, congrArg some (congrArg D.s ?_), rfl⟩ | refine ⟨rfl, rfl, congrArg some (congrArg D.b ?_), rfl⟩ | refine ⟨rfl, rfl, congrArg some (congrArg (D.k _) ?_), rfl⟩ | refine ⟨rfl, rfl, congrArg some (congrArg D.agg ?_), rfl⟩ | refine ⟨rfl, rfl, rfl, ?_⟩
    all_goals first | rfl | (simp_all [nameOk]; done) | (simp [nameOk] <;> (repeat' split) <;> omega) | (simp only [nameOk]; repeat' split) <;> first | omega | (simp_all; done) | (simp_all; omega) | (rw [Bool.eq_iff_iff]; simp [*, nameOk] <;> omega)
  refine Cd.loop (fun n tm S nx => ∃ i : Nat, i ≤ s.length ∧ n = s.length - i ∧ tm = [(0, .s s), (3, .k .i64 i)] ∧ S = [] ∧ nx = 0 ∧ (s.take i).all lower = true) ⟨s.length, ?_⟩ ?_
  · refine la [0, 3] ?_
    conv => whnf
    refine ⟨rfl, rfl, 0, Nat.zero_le _, rfl, rfl, rfl, rfl, rfl⟩
  · rintro n tm S nx ⟨i, hi, hn, rfl, rfl, rfl, hp⟩
    repeat' first | refine Rw ⟨?_⟩ | (refine bsplit.mk (fun h => ?_) (fun h => ?_) <;> (try simp only [decide_eq_true_eq, decide_eq_false_iff_not, Bool.not_eq_true', Bool.not_eq_false', Bool.not_true, Bool.not_false, Bool.true_eq_false, Bool.false_eq_true, List.length_map] at h) <;> conv => whnf) | refine Rs ⟨?_⟩ | fail
    · have hf : s.all lower = false := all_false (List.getElem?_eq_getElem (by omega : i < s.length)) (not_lower (.inl ‹_›))
      first | refine CallEnd.here (fa ?_) | refine fa ?_
      conv => whnf
      first | exact ⟨rfl, rfl, rfl, rfl⟩ | refine ⟨rfl, rfl, congrArg some (congrArg D.s ?_), rfl⟩ | refine ⟨rfl, rfl, congrArg some (congrArg D.b ?_), rfl⟩ | refine ⟨rfl, rfl, congrArg some (congrArg (D.k _) ?_), rfl⟩ | refine ⟨rfl, rfl, congrArg some (congrArg D.agg ?_), rfl⟩ | refine ⟨rfl, rfl, rfl, ?_⟩
      all_goals first | rfl | (simp_all [nameOk]; done) | (simp [nameOk] <;> (repeat' split) <;> omega) | (simp only [nameOk]; repeat' split) <;> first | omega | (simp_all; done) | (simp_all; omega) | (rw [Bool.eq_iff_iff]; simp [*, nameOk] <;> omega)
    · have hf : s.all lower = false := all_false (List.getElem?_eq_getElem (by omega : i < s.length)) (not_lower (.inr ‹_›))
      first | refine CallEnd.here (fa ?_) | refine fa ?_
      conv => whnf
      first | exact ⟨rfl, rfl, rfl, rfl⟩ | refine ⟨rfl, rfl, congrArg some (congrArg D.s ?_), rfl⟩ | refine ⟨rfl, rfl, congrArg some (congrArg D.b ?_), rfl⟩ | refine ⟨rfl, rfl, congrArg some (congrArg (D.k _) ?_), rfl⟩ | refine ⟨rfl, rfl, congrArg some (congrArg D.agg ?_), rfl⟩ | refine ⟨rfl, rfl, rfl, ?_⟩
      all_goals first | rfl | (simp_all [nameOk]; done) | (simp [nameOk] <;> (repeat' split) <;> omega) | (simp only [nameOk]; repeat' split) <;> first | omega | (simp_all; done) | (simp_all; omega) | (rw [Bool.eq_iff_iff]; simp [*, nameOk] <;> omega)
    · refine .here ⟨n - 1, by omega, ?_⟩
      refine la [0, 3] ?_
      conv => whnf
      refine ⟨rfl, rfl, i + 1, by omega, by omega, rfl, rfl, rfl, all_take_succ hp (List.getElem?_eq_getElem (by omega : i < s.length)) (is_lower ‹_› ‹_›)⟩
    all_goals
      have ha : s.all lower = true := all_take_full hp (by omega)
      first | refine CallEnd.here (fa ?_) | refine fa ?_
      conv => whnf
      first | exact ⟨rfl, rfl, rfl, rfl⟩ | refine ⟨rfl, rfl, congrArg some (congrArg D.s ?_), rfl⟩ | refine ⟨rfl, rfl, congrArg some (congrArg D.b ?_), rfl⟩ | refine ⟨rfl, rfl, congrArg some (congrArg (D.k _) ?_), rfl⟩ | refine ⟨rfl, rfl, congrArg some (congrArg D.agg ?_), rfl⟩ | refine ⟨rfl, rfl, rfl, ?_⟩
      all_goals first | rfl | (simp_all [nameOk]; done) | (simp [nameOk] <;> (repeat' split) <;> omega) | (simp only [nameOk]; repeat' split) <;> first | omega | (simp_all; done) | (simp_all; omega) | (rw [Bool.eq_iff_iff]; simp [*, nameOk] <;> omega)
theorem sCut_con (s : Bs) (c : UInt8) (hs : s.length ≤ 1073741824) : Con (E m) 109 0 [.s s, .k .u8 c.toNat] [] (.own 0) [(0, .own 9 ((cut c s).map fun l => [.s l]))] := by
  refine con_of_cd tyOk mix Tryd.func109 rfl rfl rfl (Nat.le_of_ble_eq_true rfl) ?_
  repeat' first | refine Rw ⟨?_⟩ | (refine bsplit.mk (fun h => ?_) (fun h => ?_) <;> (try simp only [decide_eq_true_eq, decide_eq_false_iff_not, Bool.not_eq_true', Bool.not_eq_false', Bool.not_true, Bool.not_false, Bool.true_eq_false, Bool.false_eq_true, List.length_map] at h) <;> conv => whnf) | refine Rs ⟨?_⟩ | fail
  refine Cd.loop (fun n tm S nx => ∃ (i fr : Nat) (done : List Bs), n = s.length + 1 - i ∧ tm = [(0, .s s), (1, .k .u8 c.toNat), (5, .own 0), (6, .k .i64 fr), (7, .k .i64 i)] ∧ S = [(0, .own 9 (done.map fun l => [.s l]))] ∧ nx = 1 ∧ cutting s c i fr done) ⟨s.length + 1, ?_⟩ ?_
  · refine la [0, 1, 5, 6, 7] ?_
    conv => whnf
    refine ⟨rfl, rfl, 0, 0, [], rfl, rfl, rfl, rfl, cutting_none s c⟩
  · rintro n tm S nx ⟨i, fr, done, hn, rfl, rfl, rfl, hp⟩
    have hd := hp.len
    have hfi := hp.le
    repeat' first | refine Rw ⟨?_⟩ | (refine bsplit.mk (fun h => ?_) (fun h => ?_) <;> (try simp only [decide_eq_true_eq, decide_eq_false_iff_not, Bool.not_eq_true', Bool.not_eq_false', Bool.not_true, Bool.not_false, Bool.true_eq_false, Bool.false_eq_true, List.length_map] at h) <;> conv => whnf) | refine Rs ⟨?_⟩ | fail
    · obtain rfl : i = s.length := by omega
      refine .here ⟨n - 1, by omega, ?_⟩
      refine la [0, 1, 5, 6, 7] ?_
      conv => whnf
      refine ⟨rfl, rfl, s.length + 1, s.length + 1, done ++ [(s.take s.length).drop fr], by omega, rfl, by rw [List.map_append]; rfl, rfl, hp.last⟩
    · have hb : s[i] = c := UInt8.toNat_inj.1 (by omega)
      refine .here ⟨n - 1, by omega, ?_⟩
      refine la [0, 1, 5, 6, 7] ?_
      conv => whnf
      refine ⟨rfl, rfl, i + 1, i + 1, done ++ [(s.take i).drop fr], by omega, rfl, by rw [List.map_append]; rfl, rfl, hp.hit (by omega) (by rw [List.getElem?_eq_getElem (by omega), hb])⟩
    · have hb : s[i] ≠ c := fun e => ‹¬((s[i].toNat : Int) = c.toNat)› (by rw [e])
      refine .here ⟨n - 1, by omega, ?_⟩
      refine la [0, 1, 5, 6, 7] ?_
      conv => whnf
      refine ⟨rfl, rfl, i + 1, fr, done, by omega, rfl, rfl, rfl, hp.miss (by omega) (by rw [List.getElem?_eq_getElem (by omega)]; exact fun e => hb (Option.some.inj e))⟩
    · have he := hp.all (by omega)
      first | refine CallEnd.here (fa ?_) | refine fa ?_
      conv => whnf
      first | exact ⟨rfl, rfl, rfl, rfl⟩ | refine ⟨rfl, rfl, congrArg some (congrArg D.s ?_), rfl⟩ | refine ⟨rfl, rfl, congrArg some (congrArg D.b ?_), rfl⟩ | refine ⟨rfl, rfl, congrArg some (congrArg (D.k _) ?_), rfl⟩ | refine ⟨rfl, rfl, congrArg some (congrArg D.agg ?_), rfl⟩ | refine ⟨rfl, rfl, rfl, ?_⟩
      rw [he]
      rfl
theorem sNames_con (s : Bs) (hs : s.length ≤ 1073741824) : Con (E m) 124 0 [.s s] [] (.own 0) [(0, .own 9 ((names s).map fun l => [.s l]))] := by
  match s, hs with
  | [], hs =>
    refine con_of_cd tyOk mix Tryd.func124 rfl rfl rfl (Nat.le_of_ble_eq_true rfl) ?_
    repeat' first | refine Rw ⟨?_⟩ | (refine bsplit.mk (fun h => ?_) (fun h => ?_) <;> (try simp only [decide_eq_true_eq, decide_eq_false_iff_not, Bool.not_eq_true', Bool.not_eq_false', Bool.not_true, Bool.not_false, Bool.true_eq_false, Bool.false_eq_true, List.length_map] at h) <;> conv => whnf) | refine Rs ⟨?_⟩ | fail
    · first | refine CallEnd.here (fa ?_) | refine fa ?_
      conv => whnf
      first | exact ⟨rfl, rfl, rfl, rfl⟩ | refine ⟨rfl, rfl, congrArg some (congrArg D.s ?_), rfl⟩ | refine ⟨rfl, rfl, congrArg some (congrArg D.b ?_), rfl⟩ | refine ⟨rfl, rfl, congrArg some (congrArg (D.k _) ?_), rfl⟩ | refine ⟨rfl, rfl, congrArg some (congrArg D.agg ?_), rfl⟩ | refine ⟨rfl, rfl, rfl, ?_⟩
      all_goals first | rfl | (simp_all [names]; done) | (simp [names] <;> (repeat' split) <;> omega) | (simp only [names]; repeat' split) <;> first | omega | (simp_all; done) | (simp_all; omega) | (rw [Bool.eq_iff_iff]; simp [*, names] <;> omega)
    · exact absurd (by decide : ((([] : Bs).length : Int) < 2)) ‹_›
  | x :: r, hs =>
    refine con_of_cd tyOk mix Tryd.func124 rfl rfl rfl (Nat.le_of_ble_eq_true rfl) ?_
    have hs' : (((x :: r).take (x :: r).length).drop 1).length ≤ 1073741824 := by simp at hs ⊢; omega
    have hc := sCut_con (m := m) (((x :: r).take (x :: r).length).drop 1) 47 hs'
    rw [show cut 47 (((x :: r).take (x :: r).length).drop 1) = cut 47 r by rw [List.take_length]; rfl] at hc
    repeat' first | refine Rw ⟨?_⟩ | (refine bsplit.mk (fun h => ?_) (fun h => ?_) <;> (try simp only [decide_eq_true_eq, decide_eq_false_iff_not, Bool.not_eq_true', Bool.not_eq_false', Bool.not_true, Bool.not_false, Bool.true_eq_false, Bool.false_eq_true, List.length_map] at h) <;> conv => whnf) | (refine Rc [] 1 rfl rfl (hc) ?_; conv => whnf) | refine Rs ⟨?_⟩ | fail
    · have hr : r = [] := by
        have h : ((x :: r).length : Int) < 2 := ‹_›
        simp only [List.length_cons] at h
        exact List.eq_nil_of_length_eq_zero (by omega)
      have hn : names (x :: r) = [] := by simp [names, hr]
      rw [hn]
      exact Rf
    · have hx : x ≠ 47 := fun e => ‹¬((x.toNat : Int) = 47)› (by rw [e]; rfl)
      have hn : names (x :: r) = [] := by simp [names, hx]
      rw [hn]
      exact Rf
    · have hx : x = 47 := UInt8.toNat_inj.1 (by have h : (x.toNat : Int) = 47 := ‹_›; exact Int.ofNat_inj.1 h)
      have hr : r ≠ [] := by
        rintro rfl
        have h : ¬ (([x] : Bs).length : Int) < 2 := ‹_›
        simp at h
      have hn : names (x :: r) = cut 47 r := by simp [names, hx, hr]
      rw [hn]
      exact Rf
theorem sPathOk_con (s : Bs) (hs : s.length ≤ 1073741824) : Con (E m) 95 0 [.s s] [] (.b (pathOk s)) [] := by
  have hl := names_len s
  have hp := names_piece s
  refine con_of_cd tyOk mix Tryd.func95 rfl rfl rfl (Nat.le_of_ble_eq_true rfl) ?_
  repeat' first | refine Rw ⟨?_⟩ | (refine bsplit.mk (fun h => ?_) (fun h => ?_) <;> (try simp only [decide_eq_true_eq, decide_eq_false_iff_not, Bool.not_eq_true', Bool.not_eq_false', Bool.not_true, Bool.not_false, Bool.true_eq_false, Bool.false_eq_true, List.length_map] at h) <;> conv => whnf) | (refine Rc [] 1 rfl rfl (sNames_con s hs) ?_; conv => whnf) | refine Rs ⟨?_⟩ | fail
  · first | refine CallEnd.here (fa ?_) | refine fa ?_
    conv => whnf
    first | exact ⟨rfl, rfl, rfl, rfl⟩ | refine ⟨rfl, rfl, congrArg some (congrArg D.s ?_), rfl⟩ | refine ⟨rfl, rfl, congrArg some (congrArg D.b ?_), rfl⟩ | refine ⟨rfl, rfl, congrArg some (congrArg (D.k _) ?_), rfl⟩ | refine ⟨rfl, rfl, congrArg some (congrArg D.agg ?_), rfl⟩ | refine ⟨rfl, rfl, rfl, ?_⟩
    all_goals first | rfl | (simp_all [pathOk]; done) | (simp [pathOk] <;> (repeat' split) <;> omega) | (simp only [pathOk]; repeat' split) <;> first | omega | (simp_all; done) | (simp_all; omega) | (rw [Bool.eq_iff_iff]; simp [*, pathOk] <;> omega)
  · refine Cd.loop (fun n tm S nx => ∃ i : Nat, i ≤ (names s).length ∧ n = (names s).length - i ∧ tm = [(0, .s s), (3, .own 0), (4, .k .i64 i)] ∧ S = [(0, .own 9 ((names s).map fun l => [.s l]))] ∧ nx = 1 ∧ ((names s).take i).all nameOk = true) ⟨(names s).length, ?_⟩ ?_
    · refine la [0, 3, 4] ?_
      conv => whnf
      refine ⟨rfl, rfl, 0, Nat.zero_le _, rfl, rfl, rfl, rfl, rfl⟩
    · rintro n tm S nx ⟨i, hi, hn, rfl, rfl, rfl, ha⟩
      repeat' first | refine Rw ⟨?_⟩ | (refine bsplit.mk (fun h => ?_) (fun h => ?_) <;> (try simp only [decide_eq_true_eq, decide_eq_false_iff_not, Bool.not_eq_true', Bool.not_eq_false', Bool.not_true, Bool.not_false, Bool.true_eq_false, Bool.false_eq_true, List.length_map] at h) <;> conv => whnf) | (refine Rc [] 0 rfl rfl (sName_con _ (by have := hp _ (List.getElem_mem (by omega : i < (names s).length)); omega)) ?_; conv => whnf) | refine Rs ⟨?_⟩ | fail
      · have hf : (names s).all nameOk = false := all_false (List.getElem?_eq_getElem (by omega : i < (names s).length)) ‹_›
        first | refine CallEnd.here (fa ?_) | refine fa ?_
        conv => whnf
        first | exact ⟨rfl, rfl, rfl, rfl⟩ | refine ⟨rfl, rfl, congrArg some (congrArg D.s ?_), rfl⟩ | refine ⟨rfl, rfl, congrArg some (congrArg D.b ?_), rfl⟩ | refine ⟨rfl, rfl, congrArg some (congrArg (D.k _) ?_), rfl⟩ | refine ⟨rfl, rfl, congrArg some (congrArg D.agg ?_), rfl⟩ | refine ⟨rfl, rfl, rfl, ?_⟩
        all_goals first | rfl | (simp_all [pathOk]; done) | (simp [pathOk] <;> (repeat' split) <;> omega) | (simp only [pathOk]; repeat' split) <;> first | omega | (simp_all; done) | (simp_all; omega) | (rw [Bool.eq_iff_iff]; simp [*, pathOk] <;> omega)
      · refine .here ⟨n - 1, by omega, ?_⟩
        refine la [0, 3, 4] ?_
        conv => whnf
        refine ⟨rfl, rfl, i + 1, by omega, by omega, rfl, rfl, rfl, all_take_succ ha (List.getElem?_eq_getElem (by omega : i < (names s).length)) ‹_›⟩
      all_goals
        have hf : (names s).all nameOk = true := all_take_full ha (by omega)
        first | refine CallEnd.here (fa ?_) | refine fa ?_
        conv => whnf
        first | exact ⟨rfl, rfl, rfl, rfl⟩ | refine ⟨rfl, rfl, congrArg some (congrArg D.s ?_), rfl⟩ | refine ⟨rfl, rfl, congrArg some (congrArg D.b ?_), rfl⟩ | refine ⟨rfl, rfl, congrArg some (congrArg (D.k _) ?_), rfl⟩ | refine ⟨rfl, rfl, congrArg some (congrArg D.agg ?_), rfl⟩ | refine ⟨rfl, rfl, rfl, ?_⟩
        all_goals first | rfl | (simp_all [pathOk]; done) | (simp [pathOk] <;> (repeat' split) <;> omega) | (simp only [pathOk]; repeat' split) <;> first | omega | (simp_all; done) | (simp_all; omega) | (rw [Bool.eq_iff_iff]; simp [*, pathOk] <;> omega)
theorem sSlash_con (s : Bs) (h1 : 1 ≤ s.length) (hs : s.length ≤ 1073741824) : Con (E m) 132 0 [.s s] [] (.k .i64 (slash s)) [] := by
  refine con_of_cd tyOk mix Tryd.func132 rfl rfl rfl (Nat.le_of_ble_eq_true rfl) ?_
  repeat' first | refine Rw ⟨?_⟩ | (refine bsplit.mk (fun h => ?_) (fun h => ?_) <;> (try simp only [decide_eq_true_eq, decide_eq_false_iff_not, Bool.not_eq_true', Bool.not_eq_false', Bool.not_true, Bool.not_false, Bool.true_eq_false, Bool.false_eq_true, List.length_map] at h) <;> conv => whnf) | refine Rs ⟨?_⟩ | fail
  refine Cd.loop (fun n tm S nx => ∃ (k : Nat) (j : Int), j = k ∧ k + 1 ≤ s.length ∧ n = k ∧ tm = [(0, .s s), (3, .k .i64 j)] ∧ S = [] ∧ nx = 0 ∧ slash s = slashAt s k) ⟨s.length - 1, ?_⟩ ?_
  · refine la [0, 3] ?_
    conv => whnf
    refine ⟨rfl, rfl, s.length - 1, (s.length : Int) - 1, by omega, by omega, rfl, rfl, rfl, rfl, rfl⟩
  · rintro n tm S nx ⟨k, j, rfl, hk, hn, rfl, rfl, rfl, ha⟩
    repeat' first | refine Rw ⟨?_⟩ | (refine bsplit.mk (fun h => ?_) (fun h => ?_) <;> (try simp only [decide_eq_true_eq, decide_eq_false_iff_not, Bool.not_eq_true', Bool.not_eq_false', Bool.not_true, Bool.not_false, Bool.true_eq_false, Bool.false_eq_true, List.length_map] at h) <;> conv => whnf) | refine Rs ⟨?_⟩ | fail
    · obtain ⟨k, rfl⟩ : ∃ q, k = q + 1 := ⟨k - 1, by omega⟩
      have hb : s[k + 1] ≠ 47 := fun e => ‹¬((s[k + 1].toNat : Int) = 47)› (by rw [e]; rfl)
      refine .here ⟨n - 1, by omega, ?_⟩
      refine la [0, 3] ?_
      conv => whnf
      refine ⟨rfl, rfl, k, ((k + 1 : Nat) : Int) - 1, by omega, by omega, by omega, rfl, rfl, rfl, ?_⟩
      rw [ha, slashAt, if_neg (by rw [List.getElem?_eq_getElem (by omega)]; exact fun e => hb (Option.some.inj e))]
    · obtain ⟨k, rfl⟩ : ∃ q, k = q + 1 := ⟨k - 1, by omega⟩
      have hb : s[k + 1] = 47 := UInt8.toNat_inj.1 (by have h : (s[k + 1].toNat : Int) = 47 := ‹_›; exact Int.ofNat_inj.1 h)
      have h2 : s[k + 1]? = some 47 := (List.getElem?_eq_getElem (by omega)).trans (congrArg some hb)
      have he : slash s = k + 1 := by rw [ha, slashAt, if_pos h2]
      rw [he]
      exact Rf
    · have h0 : k = 0 := by omega
      subst h0
      have he : slash s = 0 := ha
      rw [he]
      exact Rf
theorem sUp_con (s : Bs) (hs : s.length ≤ 1073741824) : Con (E m) 102 0 [.s s] [] (.s (pathUp s)) [] := by
  have h1 := sPathOk_con (m := m) s hs
  have hl := slash_le s
  cases hok : pathOk s with
  | false =>
    rw [hok] at h1
    refine con_of_cd tyOk mix Tryd.func102 rfl rfl rfl (Nat.le_of_ble_eq_true rfl) ?_
    repeat' first | refine Rw ⟨?_⟩ | (refine bsplit.mk (fun h => ?_) (fun h => ?_) <;> (try simp only [decide_eq_true_eq, decide_eq_false_iff_not, Bool.not_eq_true', Bool.not_eq_false', Bool.not_true, Bool.not_false, Bool.true_eq_false, Bool.false_eq_true, List.length_map] at h) <;> conv => whnf) | (refine Rc [] 0 rfl rfl (h1) ?_; conv => whnf) | refine Rs ⟨?_⟩ | fail
    first | refine CallEnd.here (fa ?_) | refine fa ?_
    conv => whnf
    first | exact ⟨rfl, rfl, rfl, rfl⟩ | refine ⟨rfl, rfl, congrArg some (congrArg D.s ?_), rfl⟩ | refine ⟨rfl, rfl, congrArg some (congrArg D.b ?_), rfl⟩ | refine ⟨rfl, rfl, congrArg some (congrArg (D.k _) ?_), rfl⟩ | refine ⟨rfl, rfl, congrArg some (congrArg D.agg ?_), rfl⟩ | refine ⟨rfl, rfl, rfl, ?_⟩
    all_goals first | rfl | (simp_all [pathUp]; done) | (simp [pathUp] <;> (repeat' split) <;> omega) | (simp only [pathUp]; repeat' split) <;> first | omega | (simp_all; done) | (simp_all; omega) | (rw [Bool.eq_iff_iff]; simp [*, pathUp] <;> omega)
  | true =>
    rw [hok] at h1
    have hp := pathOk_pos hok
    refine con_of_cd tyOk mix Tryd.func102 rfl rfl rfl (Nat.le_of_ble_eq_true rfl) ?_
    repeat' first | refine Rw ⟨?_⟩ | (refine bsplit.mk (fun h => ?_) (fun h => ?_) <;> (try simp only [decide_eq_true_eq, decide_eq_false_iff_not, Bool.not_eq_true', Bool.not_eq_false', Bool.not_true, Bool.not_false, Bool.true_eq_false, Bool.false_eq_true, List.length_map] at h) <;> conv => whnf) | (refine Rc [] 0 rfl rfl (h1) ?_; conv => whnf) | (refine Rc [] 0 rfl rfl (sSlash_con s hp.1 hs) ?_; conv => whnf) | refine Rs ⟨?_⟩ | fail
    · have h0 : slash s = 0 := by omega
      first | refine CallEnd.here (fa ?_) | refine fa ?_
      conv => whnf
      first | exact ⟨rfl, rfl, rfl, rfl⟩ | refine ⟨rfl, rfl, congrArg some (congrArg D.s ?_), rfl⟩ | refine ⟨rfl, rfl, congrArg some (congrArg D.b ?_), rfl⟩ | refine ⟨rfl, rfl, congrArg some (congrArg (D.k _) ?_), rfl⟩ | refine ⟨rfl, rfl, congrArg some (congrArg D.agg ?_), rfl⟩ | refine ⟨rfl, rfl, rfl, ?_⟩
      all_goals first | rfl | (simp_all [pathUp]; done) | (simp [pathUp] <;> (repeat' split) <;> omega) | (simp only [pathUp]; repeat' split) <;> first | omega | (simp_all; done) | (simp_all; omega) | (rw [Bool.eq_iff_iff]; simp [*, pathUp] <;> omega)
    · have h0 : slash s ≠ 0 := by omega
      first | refine CallEnd.here (fa ?_) | refine fa ?_
      conv => whnf
      first | exact ⟨rfl, rfl, rfl, rfl⟩ | refine ⟨rfl, rfl, congrArg some (congrArg D.s ?_), rfl⟩ | refine ⟨rfl, rfl, congrArg some (congrArg D.b ?_), rfl⟩ | refine ⟨rfl, rfl, congrArg some (congrArg (D.k _) ?_), rfl⟩ | refine ⟨rfl, rfl, congrArg some (congrArg D.agg ?_), rfl⟩ | refine ⟨rfl, rfl, rfl, ?_⟩
      all_goals first | rfl | (simp_all [pathUp]; done) | (simp [pathUp] <;> (repeat' split) <;> omega) | (simp only [pathUp]; repeat' split) <;> first | omega | (simp_all; done) | (simp_all; omega) | (rw [Bool.eq_iff_iff]; simp [*, pathUp] <;> omega)
theorem sData_con (s : Bs) (hs : s.length ≤ 1073741824) : Con (E m) 96 0 [.s s] [] (.b (dataOk s)) [] := by
  refine con_of_cd tyOk mix Tryd.func96 rfl rfl rfl (Nat.le_of_ble_eq_true rfl) ?_
  repeat' first | refine Rw ⟨?_⟩ | (refine bsplit.mk (fun h => ?_) (fun h => ?_) <;> (try simp only [decide_eq_true_eq, decide_eq_false_iff_not, Bool.not_eq_true', Bool.not_eq_false', Bool.not_true, Bool.not_false, Bool.true_eq_false, Bool.false_eq_true, List.length_map] at h) <;> conv => whnf) | refine Rs ⟨?_⟩ | fail
  refine Cd.loop (fun n tm S nx => ∃ i : Nat, i ≤ s.length ∧ n = s.length - i ∧ tm = [(0, .s s), (3, .k .i64 i)] ∧ S = [] ∧ nx = 0 ∧ (s.take i).all (fun b => lower b || digit b) = true) ⟨s.length, ?_⟩ ?_
  · refine la [0, 3] ?_
    conv => whnf
    refine ⟨rfl, rfl, 0, Nat.zero_le _, rfl, rfl, rfl, rfl, rfl⟩
  · rintro n tm S nx ⟨i, hi, hn, rfl, rfl, rfl, ha⟩
    repeat' first | refine Rw ⟨?_⟩ | (refine bsplit.mk (fun h => ?_) (fun h => ?_) <;> (try simp only [decide_eq_true_eq, decide_eq_false_iff_not, Bool.not_eq_true', Bool.not_eq_false', Bool.not_true, Bool.not_false, Bool.true_eq_false, Bool.false_eq_true, List.length_map] at h) <;> conv => whnf) | refine Rs ⟨?_⟩ | fail
    all_goals first
      | (have hf : s.all (fun b => lower b || digit b) = false := all_false (List.getElem?_eq_getElem (by omega : i < s.length)) (ld_false (by omega))
         (first | refine CallEnd.here (fa ?_) | refine fa ?_)
         conv => whnf
         refine ⟨rfl, rfl, congrArg some (congrArg D.b ?_), rfl⟩
         first | (simp_all [dataOk]; done) | (rw [Bool.eq_iff_iff]; simp [*, dataOk] <;> omega))
      | (refine .here ⟨n - 1, by omega, ?_⟩
         refine la [0, 3] ?_
         conv => whnf
         refine ⟨rfl, rfl, i + 1, by omega, by omega, rfl, rfl, rfl, all_take_succ ha (List.getElem?_eq_getElem (by omega : i < s.length)) (ld_true (by omega))⟩)
      | (have hf : s.all (fun b => lower b || digit b) = true := all_take_full ha (by omega)
         (first | refine CallEnd.here (fa ?_) | refine fa ?_)
         conv => whnf
         refine ⟨rfl, rfl, congrArg some (congrArg D.b ?_), rfl⟩
         first | (simp_all [dataOk]; done) | (rw [Bool.eq_iff_iff]; simp [*, dataOk] <;> omega))
theorem sFind_con (t : List Ent) (p : Bs) (ht : t.length ≤ 1073741824) : Con (E m) 131 0 [.sl (t.map Ent.c), .s p] [] (.k .i64 (entIx t p)) [] := by
  refine con_of_cd tyOk mix Tryd.func131 rfl rfl rfl (Nat.le_of_ble_eq_true rfl) ?_
  repeat' first | refine Rw ⟨?_⟩ | (refine bsplit.mk (fun h => ?_) (fun h => ?_) <;> (try simp only [decide_eq_true_eq, decide_eq_false_iff_not, Bool.not_eq_true', Bool.not_eq_false', Bool.not_true, Bool.not_false, Bool.true_eq_false, Bool.false_eq_true, List.length_map] at h) <;> conv => whnf) | refine Rs ⟨?_⟩ | fail
  refine Cd.loop (fun n tm S nx => ∃ i : Nat, i ≤ t.length ∧ n = t.length - i ∧ tm = [(0, .sl (t.map Ent.c)), (1, .s p), (5, .k .i64 i)] ∧ S = [] ∧ nx = 0 ∧ ∀ k e, k < i → t[k]? = some e → e.path ≠ p) ⟨t.length, ?_⟩ ?_
  · refine la [0, 1, 5] ?_
    conv => whnf
    refine ⟨rfl, rfl, 0, Nat.zero_le _, rfl, rfl, rfl, rfl, fun k e h => absurd h (Nat.not_lt_zero _)⟩
  · rintro n tm S nx ⟨i, hi, hn, rfl, rfl, rfl, ha⟩
    repeat' first | refine Rw ⟨?_⟩ | (refine bsplit.mk (fun h => ?_) (fun h => ?_) <;> (try simp only [decide_eq_true_eq, decide_eq_false_iff_not, Bool.not_eq_true', Bool.not_eq_false', Bool.not_true, Bool.not_false, Bool.true_eq_false, Bool.false_eq_true, List.length_map] at h) <;> conv => whnf) | refine Rs ⟨?_⟩ | fail
    · have he : entIx t p = i := entIx_at (List.getElem?_eq_getElem (by omega)) ‹_› ha
      rw [he]
      exact Rf
    · refine .here ⟨n - 1, by omega, ?_⟩
      refine la [0, 1, 5] ?_
      conv => whnf
      refine ⟨rfl, rfl, i + 1, by omega, by omega, rfl, rfl, rfl, fun k e h1 h2 => ?_⟩
      by_cases hk : k = i
      · subst hk
        rw [List.getElem?_eq_getElem (by omega)] at h2
        cases h2
        assumption
      · exact ha k e (by omega) h2
    · have he : entIx t p = -1 := entIx_none fun k e h => ha k e (by have := (List.getElem?_eq_some_iff.1 h).1; omega) h
      rw [he]
      exact Rf
theorem sDir_con (t : List Ent) (p : Bs) (ht : t.length ≤ 1073741824) : Con (E m) 101 0 [.sl (t.map Ent.c), .s p] [] (.b (dirAt t p)) [] := by
  have h1 := sFind_con (m := m) t p ht
  rcases entIx_or t p with ⟨i, hx, hi, he⟩ | ⟨hx, he⟩
  · rw [hx] at h1
    refine con_of_cd tyOk mix Tryd.func101 rfl rfl rfl (Nat.le_of_ble_eq_true rfl) ?_
    repeat' first | refine Rw ⟨?_⟩ | (refine bsplit.mk (fun h => ?_) (fun h => ?_) <;> (try simp only [decide_eq_true_eq, decide_eq_false_iff_not, Bool.not_eq_true', Bool.not_eq_false', Bool.not_true, Bool.not_false, Bool.true_eq_false, Bool.false_eq_true, List.length_map] at h) <;> conv => whnf) | (refine Rc [] 0 rfl rfl (h1) ?_; conv => whnf) | refine Rs ⟨?_⟩ | fail
    · first | refine CallEnd.here (fa ?_) | refine fa ?_
      conv => whnf
      first | exact ⟨rfl, rfl, rfl, rfl⟩ | refine ⟨rfl, rfl, congrArg some (congrArg D.s ?_), rfl⟩ | refine ⟨rfl, rfl, congrArg some (congrArg D.b ?_), rfl⟩ | refine ⟨rfl, rfl, congrArg some (congrArg (D.k _) ?_), rfl⟩ | refine ⟨rfl, rfl, congrArg some (congrArg D.agg ?_), rfl⟩ | refine ⟨rfl, rfl, rfl, ?_⟩
      all_goals first | rfl | (simp_all [dirAt]; done) | (simp [dirAt] <;> (repeat' split) <;> omega) | (simp only [dirAt]; repeat' split) <;> first | omega | (simp_all; done) | (simp_all; omega) | (rw [Bool.eq_iff_iff]; simp [*, dirAt] <;> omega)
    · have hd : dirAt t p = t[i].dir := by
        unfold dirAt
        rw [he]
        simp [isDirO, ‹¬p = [47]›]
      rw [hd]
      exact Rf
    all_goals exact absurd (Int.natCast_nonneg i) ‹_›
  · rw [hx] at h1
    refine con_of_cd tyOk mix Tryd.func101 rfl rfl rfl (Nat.le_of_ble_eq_true rfl) ?_
    repeat' first | refine Rw ⟨?_⟩ | (refine bsplit.mk (fun h => ?_) (fun h => ?_) <;> (try simp only [decide_eq_true_eq, decide_eq_false_iff_not, Bool.not_eq_true', Bool.not_eq_false', Bool.not_true, Bool.not_false, Bool.true_eq_false, Bool.false_eq_true, List.length_map] at h) <;> conv => whnf) | (refine Rc [] 0 rfl rfl (h1) ?_; conv => whnf) | refine Rs ⟨?_⟩ | fail
    · first | refine CallEnd.here (fa ?_) | refine fa ?_
      conv => whnf
      first | exact ⟨rfl, rfl, rfl, rfl⟩ | refine ⟨rfl, rfl, congrArg some (congrArg D.s ?_), rfl⟩ | refine ⟨rfl, rfl, congrArg some (congrArg D.b ?_), rfl⟩ | refine ⟨rfl, rfl, congrArg some (congrArg (D.k _) ?_), rfl⟩ | refine ⟨rfl, rfl, congrArg some (congrArg D.agg ?_), rfl⟩ | refine ⟨rfl, rfl, rfl, ?_⟩
      all_goals first | rfl | (simp_all [dirAt]; done) | (simp [dirAt] <;> (repeat' split) <;> omega) | (simp only [dirAt]; repeat' split) <;> first | omega | (simp_all; done) | (simp_all; omega) | (rw [Bool.eq_iff_iff]; simp [*, dirAt] <;> omega)
    all_goals first
      | exact absurd (by decide : ¬ ((-1 : Int) ≥ 0)) (not_not_intro ‹_›)
      | (have hd : dirAt t p = false := by
           unfold dirAt
           rw [he]
           simp [isDirO, ‹¬p = [47]›]
         rw [hd]
         (first | refine CallEnd.here (fa ?_) | refine fa ?_)
         conv => whnf
         refine ⟨rfl, rfl, congrArg some (congrArg D.b ?_), rfl⟩
         first | (simp_all [dirAt]; done) | (rw [Bool.eq_iff_iff]; simp [*, dirAt] <;> omega))
theorem sTreeOk_con (t : List Ent) (hb : ∀ e ∈ t, e.path.length ≤ 1073741824 ∧ e.data.length ≤ 1073741824) : Con (E m) 51 0 [.sl (t.map Ent.c)] [] (.b (treeOk t)) [] := by
  refine con_of_cd tyOk mix Tryd.func51 rfl rfl rfl (Nat.le_of_ble_eq_true rfl) ?_
  repeat' first | refine Rw ⟨?_⟩ | (refine bsplit.mk (fun h => ?_) (fun h => ?_) <;> (try simp only [decide_eq_true_eq, decide_eq_false_iff_not, Bool.not_eq_true', Bool.not_eq_false', Bool.not_true, Bool.not_false, Bool.true_eq_false, Bool.false_eq_true, List.length_map] at h) <;> conv => whnf) | refine Rs ⟨?_⟩ | fail
  · have hf : treeOk t = false := by
      have : ¬ t.length ≤ 16 := by omega
      simp [treeOk, this]
    rw [hf]
    exact Rf
  refine Cd.loop (fun n tm S nx => ∃ i : Nat, i ≤ t.length ∧ n = t.length - i ∧ tm = [(0, .sl (t.map Ent.c)), (3, .k .i64 i)] ∧ S = [] ∧ nx = 0 ∧ ∀ k, k < i → okS t k = true) ⟨t.length, ?_⟩ ?_
  · refine la [0, 3] ?_
    conv => whnf
    refine ⟨rfl, rfl, 0, Nat.zero_le _, rfl, rfl, rfl, rfl, fun k h => absurd h (Nat.not_lt_zero _)⟩
  · rintro n tm S nx ⟨i, hi, hn, rfl, rfl, rfl, ha⟩
    by_cases hlt : i < t.length
    · have hq := hb t[i] (List.getElem_mem hlt)
      have h1 := sPathOk_con (m := m) t[i].path hq.1
      have h2 := sData_con (m := m) t[i].data hq.2
      have h3 := sUp_con (m := m) t[i].path hq.1
      have h4 := sDir_con (m := m) (t.take i) (pathUp t[i].path) (by rw [List.length_take]; omega)
      rw [List.map_take] at h4
      repeat' first | refine Rw ⟨?_⟩ | (refine bsplit.mk (fun h => ?_) (fun h => ?_) <;> (try simp only [decide_eq_true_eq, decide_eq_false_iff_not, Bool.not_eq_true', Bool.not_eq_false', Bool.not_true, Bool.not_false, Bool.true_eq_false, Bool.false_eq_true, List.length_map] at h) <;> conv => whnf) | (refine Rc [] 0 rfl rfl (h1) ?_; conv => whnf) | (refine Rc [] 0 rfl rfl (h2) ?_; conv => whnf) | (refine Rc [] 0 rfl rfl (h3) ?_; conv => whnf) | (refine Rc [] 0 rfl rfl (h4) ?_; conv => whnf) | (refine ⟨i - 1, _, by omega, map_get (by omega), rfl, ?_⟩; conv => whnf) | refine Rs ⟨?_⟩ | fail
      all_goals first
        | (have hf : okS t i = false := by
             clear h1 h2 h3 h4 hb ha hn
             rw [okS_eq hlt]
             simp_all [entOk, lt]
           have hg := treeOk_false hlt hf
           rw [hg]
           refine CallEnd.here (fa ?_)
           conv => whnf
           exact ⟨rfl, rfl, rfl, rfl⟩)
        | (have hf : okS t i = true := by
             clear h1 h2 h3 h4 hb ha hn
             rw [okS_eq hlt]
             simp_all [entOk, lt]
           refine .here ⟨n - 1, by omega, ?_⟩
           refine la [0, 3] ?_
           conv => whnf
           refine ⟨rfl, rfl, i + 1, by omega, by omega, rfl, rfl, rfl, fun k hk => ?_⟩
           by_cases hki : k = i
           · rw [hki]; exact hf
           · exact ha k (by omega))
        | (have hf : okS t i = false := by
             have hbl : lt (t[i - 1]'(by omega)).path t[i].path = false := ‹Op.bytesLess (t[i - 1]'(by omega)).path t[i].path = false›
             rw [okS_eq hlt, if_pos (by omega : 0 < i), hbl]
             simp
           have hg := treeOk_false hlt hf
           rw [hg]
           refine CallEnd.here (fa ?_)
           conv => whnf
           exact ⟨rfl, rfl, rfl, rfl⟩)
        | exact absurd hlt (by omega)
    · repeat' first | refine Rw ⟨?_⟩ | (refine bsplit.mk (fun h => ?_) (fun h => ?_) <;> (try simp only [decide_eq_true_eq, decide_eq_false_iff_not, Bool.not_eq_true', Bool.not_eq_false', Bool.not_true, Bool.not_false, Bool.true_eq_false, Bool.false_eq_true, List.length_map] at h) <;> conv => whnf) | refine Rs ⟨?_⟩ | fail
      · exact absurd hlt (by omega)
      · have hf : treeOk t = true := treeOk_true (by omega) fun k hk => ha k (by omega)
        rw [hf]
        exact Rf
theorem sTreeText_con (t : List Ent) (hb : ∀ e ∈ t, e.path.length ≤ 1073741824 ∧ e.data.length ≤ 1073741824) (hl : t.length ≤ 1073741824) : Con (E m) 55 0 [.sl (t.map Ent.c)] [] (.s (treeText t)) [] := by
  have h1 := sTreeOk_con (m := m) t hb
  cases hok : treeOk t with
  | false =>
    rw [hok] at h1
    have hx : treeText t = [] := by simp [treeText, hok]
    rw [hx]
    refine con_of_cd tyOk mix Tryd.func55 rfl rfl rfl (Nat.le_of_ble_eq_true rfl) ?_
    repeat' first | refine Rw ⟨?_⟩ | (refine bsplit.mk (fun h => ?_) (fun h => ?_) <;> (try simp only [decide_eq_true_eq, decide_eq_false_iff_not, Bool.not_eq_true', Bool.not_eq_false', Bool.not_true, Bool.not_false, Bool.true_eq_false, Bool.false_eq_true, List.length_map] at h) <;> conv => whnf) | refine Rs ⟨?_⟩ | fail
    refine Cd.loop (fun n tm S nx => tm = [(0, .sl (t.map Ent.c)), (3, .s []), (4, .k .i64 0)] ∧ S = [] ∧ nx = 0) ⟨0, ?_⟩ ?_
    · refine la [0, 3, 4] ?_
      conv => whnf
      refine ⟨rfl, rfl, rfl, rfl, rfl⟩
    · rintro n tm S nx ⟨rfl, rfl, rfl⟩
      repeat' first | refine Rw ⟨?_⟩ | (refine bsplit.mk (fun h => ?_) (fun h => ?_) <;> (try simp only [decide_eq_true_eq, decide_eq_false_iff_not, Bool.not_eq_true', Bool.not_eq_false', Bool.not_true, Bool.not_false, Bool.true_eq_false, Bool.false_eq_true, List.length_map] at h) <;> conv => whnf) | (refine Rc [] 0 rfl rfl (h1) ?_; conv => whnf) | refine Rs ⟨?_⟩ | fail
      all_goals
        exact Rf
  | true =>
    rw [hok] at h1
    have hlen := treeOk_len hok
    have hent := treeOk_ent hok
    have hx : treeText t = (t.map fun e => entText e ++ [10]).flatten := by simp [treeText, hok]
    rw [hx]
    refine con_of_cd tyOk mix Tryd.func55 rfl rfl rfl (Nat.le_of_ble_eq_true rfl) ?_
    repeat' first | refine Rw ⟨?_⟩ | (refine bsplit.mk (fun h => ?_) (fun h => ?_) <;> (try simp only [decide_eq_true_eq, decide_eq_false_iff_not, Bool.not_eq_true', Bool.not_eq_false', Bool.not_true, Bool.not_false, Bool.true_eq_false, Bool.false_eq_true, List.length_map] at h) <;> conv => whnf) | refine Rs ⟨?_⟩ | fail
    refine Cd.loop (fun n tm S nx => ∃ (i : Nat) (acc : Bs), acc = ((t.take i).map fun e => entText e ++ [10]).flatten ∧ i ≤ t.length ∧ n = t.length - i ∧ tm = [(0, .sl (t.map Ent.c)), (3, .s acc), (4, .k .i64 i)] ∧ S = [] ∧ nx = 0) ⟨t.length, ?_⟩ ?_
    · refine la [0, 3, 4] ?_
      conv => whnf
      refine ⟨rfl, rfl, 0, [], rfl, Nat.zero_le _, rfl, rfl, rfl, rfl⟩
    · rintro n tm S nx ⟨i, acc, hac, hi, hn, rfl, rfl, rfl⟩
      have hfl := texts_len hent i
      rw [← hac] at hfl
      by_cases hlt : i < t.length
      · have hq := entOk_len (hent t[i] (List.getElem_mem hlt))
        have hql := entText_len t[i]
        repeat' first | refine Rw ⟨?_⟩ | (refine bsplit.mk (fun h => ?_) (fun h => ?_) <;> (try simp only [decide_eq_true_eq, decide_eq_false_iff_not, Bool.not_eq_true', Bool.not_eq_false', Bool.not_true, Bool.not_false, Bool.true_eq_false, Bool.false_eq_true, List.length_map] at h) <;> conv => whnf) | (refine Rc [] 0 rfl rfl (h1) ?_; conv => whnf) | (refine Rc [] 0 rfl rfl (sEntText_con t[i] (by omega) (by omega)) ?_; conv => whnf) | refine Rs ⟨?_⟩ | fail
        · refine .here ⟨n - 1, by omega, ?_⟩
          refine la [0, 3, 4] ?_
          conv => whnf
          refine ⟨rfl, rfl, i + 1, acc ++ entText t[i] ++ [10], ?_, by omega, by omega, rfl, rfl, rfl⟩
          rw [List.take_add_one, List.getElem?_eq_getElem hlt, hac]
          simp only [Option.toList_some, List.map_append, List.map_cons, List.map_nil, List.flatten_append, List.flatten_cons, List.flatten_nil, List.append_nil, ← List.append_assoc]
        all_goals exact absurd hlt (by omega)
      · have hi2 : i = t.length := by omega
        subst hi2
        rw [List.take_length] at hac
        repeat' first | refine Rw ⟨?_⟩ | (refine bsplit.mk (fun h => ?_) (fun h => ?_) <;> (try simp only [decide_eq_true_eq, decide_eq_false_iff_not, Bool.not_eq_true', Bool.not_eq_false', Bool.not_true, Bool.not_false, Bool.true_eq_false, Bool.false_eq_true, List.length_map] at h) <;> conv => whnf) | (refine Rc [] 0 rfl rfl (h1) ?_; conv => whnf) | refine Rs ⟨?_⟩ | fail
        all_goals first
          | (rw [← hac]
             refine CallEnd.here (fa ?_)
             conv => whnf
             exact ⟨rfl, rfl, rfl, rfl⟩)
          | (exfalso; omega)
end Go.Proofs.YtgeieehampfkcaaDoor
/- Contracts of library functions, out of the shelf's. -/
set_option linter.unusedSimpArgs false
set_option linter.unusedVariables false
set_option maxHeartbeats 1000000
set_option maxRecDepth 10000
namespace Go.Proofs.YtgeieehampfkcaaDoor
open Go Go.RowKit Go.Ab Go.Par
variable {m : Int}
theorem maxLen_cell {w : World} {Av : Nat → Prop} {cds : List D} {vs : List Value} (h : Meets (E m) w Av cds vs) : w.cell? ⟨1, 0, none⟩ = some (.int .i64 m) := by
  obtain ⟨ad, he, _, _, hc⟩ := (h.gl 1 [.k .i64 m] rfl).ep_inv
  cases he
  obtain ⟨u, hu, _, hv⟩ := hc 0 (.k .i64 m) rfl
  have : u = .int .i64 m := by
    cases hv with
    | k => rfl
  rw [this] at hu
  exact hu
theorem ba_of (b : ByteArray) : (⟨b.data.toList.toArray⟩ : ByteArray) = b := by
  cases b; simp
theorem split_list (c : UInt8) (s : Bs) : (Lib.splitB ⟨#[c]⟩ 0 (Lib.countB ⟨s.toArray⟩ ⟨#[c]⟩) ⟨s.toArray⟩).map Value.string = (cut c s).map fun l => Value.string ⟨l.toArray⟩ := by
  have h := Lib.splitB_data ⟨#[c]⟩ 0 (Lib.countB ⟨s.toArray⟩ ⟨#[c]⟩) ⟨s.toArray⟩
  have h2 : Lib.splitK [c] 0 (Lib.countB ⟨s.toArray⟩ ⟨#[c]⟩) s = cut c s := split_eq c s
  have h3 : (Lib.splitB ⟨#[c]⟩ 0 (Lib.countB ⟨s.toArray⟩ ⟨#[c]⟩) ⟨s.toArray⟩).map (·.data.toList) = cut c s := by
    rw [h]
    exact h2
  rw [← h3, List.map_map]
  refine List.map_congr_left fun b _ => ?_
  simp only [Function.comp, ba_of]
theorem split_con (s : Bs) (c : UInt8) (hs : s.length < 4294967281) : Con (E m) 62 0 [.s s, .s [c]] [] (.own 0) [(0, .own 9 ((cut c s).map fun l => [.s l]))] := by
  have hcl := cut_len c s
  refine con_strs (by kernel_rfl) ⟨_, Tryd.func62, rfl, rfl⟩ (by have : maxLen = 9223372036854775807 := rfl; omega) fun w vs Av hM => ?_
  match vs, hM.len, hM with
  | [u0, u1], _, hM =>
    obtain rfl := (hM.arg 0 _ u0 rfl rfl).s_inv
    obtain rfl := (hM.arg 1 _ u1 rfl rfl).s_inv
    have hl := Lib.splitB_all ⟨#[c]⟩ (Nat.le_refl 1) 0 _ (⟨s.toArray⟩ : ByteArray) rfl
    have hl2 := congrArg List.length (split_list c s)
    rw [List.length_map, List.length_map, hl] at hl2
    refine (Tryd.strings_Split ⟨s.toArray⟩ ⟨#[c]⟩ m w (by simpa [ByteArray.size] using hs) (maxLen_cell hM) (Nat.le_refl 1)).mono fun e w' ⟨he, hw⟩ => ?_
    rw [split_list, hl2] at *
    exact ⟨he, hw⟩
theorem join_lib (c : UInt8) : ∀ w : List Bs, Lib.join w [c] = join c w
  | [] => rfl
  | [a] => Lib.join_one a [c]
  | a :: b :: q => by
    have := join_lib c (b :: q)
    simp only [Lib.join, List.intercalate, List.intersperse] at this ⊢
    simp [join, ← this]
theorem join_con (ls : List Bs) (c : UInt8) (h1 : ls.length ≤ 1073741824) (h2 : (join c ls).length ≤ 1073741824) : Con (E m) 122 0 [.sl (ls.map fun l => [.s l]), .s [c]] [] (.s (join c ls)) [] := by
  refine con_fr ⟨_, Tryd.func122, rfl, rfl⟩ fun w vs Av hM => ?_
  match vs, hM.len, hM with
  | [u0, u1], _, hM =>
    obtain rfl := (hM.arg 1 _ u1 rfl rfl).s_inv
    rcases (hM.arg 0 _ u0 rfl rfl).strs with ⟨rfl, a, k, rfl⟩ | ⟨bk, o, k, rfl, hk, hb, hc⟩
    · refine (Tryd.strings_Join_none a k ⟨#[c]⟩ w).mono fun e w' ⟨he, hw⟩ => ?_
      rw [hw]
      exact ⟨Fr.refl _ _, _, he, .gr (.atom (.im (.s [])))⟩
    · have e1 : ((ls.map fun l => (⟨l.toArray⟩ : ByteArray)).map (·.data.toList)) = ls := by simp [Function.comp_def]
      have hJ := Tryd.strings_Join bk o k (ls.map fun l => ⟨l.toArray⟩) ⟨#[c]⟩ w (fun j x hx => by
        simp only [List.getElem?_map, Option.map_eq_some_iff] at hx
        obtain ⟨l, hl, rfl⟩ := hx
        exact hc j l hl) hb (by simp; omega) (by simpa using hk) (by rw [e1]; rw [show (⟨#[c]⟩ : ByteArray).data.toList = [c] from rfl, join_lib]; omega)
      rw [e1, show (⟨#[c]⟩ : ByteArray).data.toList = [c] from rfl, join_lib, List.length_map] at hJ
      refine hJ.mono fun e w' ⟨he, hw⟩ => ?_
      exact ⟨Fr.of_below hw, _, he, .gr (.atom (.im (.s _)))⟩
end Go.Proofs.YtgeieehampfkcaaDoor
/- Contracts: paths and trees, as the program has them. -/
set_option linter.unusedSimpArgs false
set_option linter.unusedVariables false
set_option maxHeartbeats 1000000
set_option maxRecDepth 10000
namespace Go.Proofs.YtgeieehampfkcaaDoor
open Go Go.RowKit Go.Ab Go.Par
variable {m : Int}
theorem iNames_con (s : Bs) (hs : s.length ≤ 1073741824) : Con (E m) 111 0 [.s s] [] (.tup [.own 0, .b (pathOk s)]) [(0, .own 9 ((if pathOk s then names s else []).map fun l => [.s l]))] := by
  match s, hs with
  | [], hs =>
    refine con_of_cd tyOk mix Tryd.func111 rfl rfl rfl (Nat.le_of_ble_eq_true rfl) ?_
    repeat' first | refine Rw ⟨?_⟩ | (refine bsplit.mk (fun h => ?_) (fun h => ?_) <;> (try simp only [decide_eq_true_eq, decide_eq_false_iff_not, Bool.not_eq_true', Bool.not_eq_false', Bool.not_true, Bool.not_false, Bool.true_eq_false, Bool.false_eq_true, List.length_map] at h) <;> conv => whnf) | refine Rs ⟨?_⟩ | fail
    · exact Rf
    · exact absurd trivial ‹¬True›
  | x :: r, hs =>
    have hs' : (((x :: r).take (x :: r).length).drop 1).length < 4294967281 := by simp at hs ⊢; omega
    have hc := split_con (m := m) (((x :: r).take (x :: r).length).drop 1) 47 hs'
    rw [show cut 47 (((x :: r).take (x :: r).length).drop 1) = cut 47 r by rw [List.take_length]; rfl] at hc
    have hpc := cut_piece 47 r
    have hn : names (x :: r) = if x = 47 ∧ r ≠ [] then cut 47 r else [] := rfl
    have bad : pathOk (x :: r) = false → (if pathOk (x :: r) then names (x :: r) else []) = [] := fun h => by rw [h]; rfl
    refine con_of_cd tyOk mix Tryd.func111 rfl rfl rfl (Nat.le_of_ble_eq_true rfl) ?_
    repeat' first | refine Rw ⟨?_⟩ | (refine bsplit.mk (fun h => ?_) (fun h => ?_) <;> (try simp only [decide_eq_true_eq, decide_eq_false_iff_not, Bool.not_eq_true', Bool.not_eq_false', Bool.not_true, Bool.not_false, Bool.true_eq_false, Bool.false_eq_true, List.length_map] at h) <;> conv => whnf) | (refine Rc [] 1 rfl rfl (hc) ?_; conv => whnf) | refine Rs ⟨?_⟩ | fail
    · exact absurd ‹x :: r = []› (by simp)
    · have hx : x ≠ 47 := fun e => ‹¬((x.toNat : Int) = 47)› (by rw [e]; rfl)
      have hp : pathOk (x :: r) = false := by
        rw [pathOk_eq (hn.trans (if_neg fun h => hx h.1))]
        simp
      rw [bad hp, hp]
      exact Rf
    · have hp : pathOk (x :: r) = false := by
        have h : ((x :: r).length : Int) > 12 := ‹_›
        have h' : ¬ (x :: r).length ≤ 12 := by omega
        simp only [pathOk, h', decide_false, Bool.false_and]
      rw [bad hp, hp]
      exact Rf
    · have hcl : ((cut 47 r).length : Int) > 3 := ‹_›
      have hr : r ≠ [] := by
        rintro rfl
        simp [cut] at hcl
      have hx : x = 47 := UInt8.toNat_inj.1 (by have h : (x.toNat : Int) = 47 := ‹_›; exact Int.ofNat_inj.1 h)
      have hp : pathOk (x :: r) = false := by
        have h' : ¬ (cut 47 r).length ≤ 3 := by omega
        rw [pathOk_eq (hn.trans (if_pos ⟨hx, hr⟩))]
        simp [h']
      rw [bad hp, hp]
      exact Rf
    · have hx : x = 47 := UInt8.toNat_inj.1 (by have h : (x.toNat : Int) = 47 := ‹_›; exact Int.ofNat_inj.1 h)
      have hlen : (x :: r).length ≤ 12 := by have h : ¬ ((x :: r).length : Int) > 12 := ‹_›; omega
      have hcl : (cut 47 r).length ≤ 3 := by have h : ¬ ((cut 47 r).length : Int) > 3 := ‹_›; omega
      refine Cd.loop (fun n tm S nx => ∃ i : Nat, i ≤ (cut 47 r).length ∧ n = (cut 47 r).length - i ∧ tm = [(4, .own 0), (25, .own 0), (26, .k .i64 ((cut 47 r).map fun l => [D.s l]).length), (27, .k .i64 i)] ∧ S = [(0, .own 9 ((cut 47 r).map fun l => [.s l]))] ∧ nx = 1 ∧ ((cut 47 r).take i).all nameOk = true) ⟨(cut 47 r).length, ?_⟩ ?_
      · refine la [4, 25, 26, 27] ?_
        conv => whnf
        refine ⟨rfl, rfl, 0, Nat.zero_le _, rfl, rfl, rfl, rfl, rfl⟩
      · rintro n tm S nx ⟨i, hi, hn2, rfl, rfl, rfl, ha⟩
        by_cases hlt : i < (cut 47 r).length
        · have hpi := hpc _ (List.getElem_mem hlt)
          repeat' first | refine Rw ⟨?_⟩ | (refine bsplit.mk (fun h => ?_) (fun h => ?_) <;> (try simp only [decide_eq_true_eq, decide_eq_false_iff_not, Bool.not_eq_true', Bool.not_eq_false', Bool.not_true, Bool.not_false, Bool.true_eq_false, Bool.false_eq_true, List.length_map] at h) <;> conv => whnf) | (refine Rc [] 0 rfl rfl (iName_con (cut 47 r)[i] (by simp at hs; omega)) ?_; conv => whnf) | refine Rs ⟨?_⟩ | fail
          · have hf : (cut 47 r).all nameOk = false := all_false (List.getElem?_eq_getElem hlt) ‹_›
            have hp : pathOk (x :: r) = false := by
              by_cases hr : r = []
              · rw [pathOk_eq (hn.trans (if_neg fun h => h.2 hr))]
                simp
              · rw [pathOk_eq (hn.trans (if_pos ⟨hx, hr⟩))]
                simp [hf]
            rw [bad hp, hp]
            exact Rf
          · refine .here ⟨n - 1, by omega, ?_⟩
            refine la [4, 25, 26, 27] ?_
            conv => whnf
            refine ⟨rfl, rfl, i + 1, by omega, by omega, rfl, rfl, rfl, all_take_succ ha (List.getElem?_eq_getElem hlt) ‹_›⟩
          · exact absurd hlt (by omega)
        · have hal : (cut 47 r).all nameOk = true := all_take_full ha (by omega)
          have hr : r ≠ [] := by
            rintro rfl
            simp [cut, nameOk] at hal
          have hne := List.length_pos_iff.2 (cut_ne 47 r)
          have hp : pathOk (x :: r) = true := by
            have h1 : 1 ≤ (cut 47 r).length := by omega
            have h0 : r.length + 1 ≤ 12 := by simpa using hlen
            rw [pathOk_eq (hn.trans (if_pos ⟨hx, hr⟩))]
            simp only [hal, hlen, h1, hcl, decide_true, Bool.and_self]
          have hnn : names (x :: r) = cut 47 r := by rw [hn, if_pos ⟨hx, hr⟩]
          have good : (if pathOk (x :: r) then names (x :: r) else []) = cut 47 r := by rw [hp, hnn]; rfl
          rw [good, hp]
          repeat' first | refine Rw ⟨?_⟩ | (refine bsplit.mk (fun h => ?_) (fun h => ?_) <;> (try simp only [decide_eq_true_eq, decide_eq_false_iff_not, Bool.not_eq_true', Bool.not_eq_false', Bool.not_true, Bool.not_false, Bool.true_eq_false, Bool.false_eq_true, List.length_map] at h) <;> conv => whnf) | refine Rs ⟨?_⟩ | fail
          · exact absurd hlt (by omega)
          · exact Rf
theorem iPathOk_con (s : Bs) (hs : s.length ≤ 1073741824) : Con (E m) 64 0 [.s s] [] (.b (pathOk s)) [] := by
  refine con_of_cd tyOk mix Tryd.func64 rfl rfl rfl (Nat.le_of_ble_eq_true rfl) ?_
  repeat' first | refine Rw ⟨?_⟩ | (refine bsplit.mk (fun h => ?_) (fun h => ?_) <;> (try simp only [decide_eq_true_eq, decide_eq_false_iff_not, Bool.not_eq_true', Bool.not_eq_false', Bool.not_true, Bool.not_false, Bool.true_eq_false, Bool.false_eq_true, List.length_map] at h) <;> conv => whnf) | (refine Rc [] 1 rfl rfl (iNames_con s hs) ?_; conv => whnf) | refine Rs ⟨?_⟩ | fail
  exact Rf
theorem iUp_con (s : Bs) (hs : s.length ≤ 1073741824) : Con (E m) 89 0 [.s s] [] (.s (pathUp s)) [] := by
  have h1 := iNames_con (m := m) s hs
  cases hok : pathOk s with
  | false =>
    simp only [hok] at h1
    have hx : pathUp s = [] := by simp [pathUp, hok]
    rw [hx]
    refine con_of_cd tyOk mix Tryd.func89 rfl rfl rfl (Nat.le_of_ble_eq_true rfl) ?_
    repeat' first | refine Rw ⟨?_⟩ | (refine bsplit.mk (fun h => ?_) (fun h => ?_) <;> (try simp only [decide_eq_true_eq, decide_eq_false_iff_not, Bool.not_eq_true', Bool.not_eq_false', Bool.not_true, Bool.not_false, Bool.true_eq_false, Bool.false_eq_true, List.length_map] at h) <;> conv => whnf) | (refine Rc [] 1 rfl rfl (h1) ?_; conv => whnf) | refine Rs ⟨?_⟩ | fail
    exact Rf
  | true =>
    simp only [hok, if_true] at h1
    have hp := path_names hok
    have hpl := names_piece s
    have hj := join_con (m := m) ((names s).take ((names s).length - 1)) 47 (by rw [List.length_take]; omega) (by
      rw [← List.dropLast_eq_take]
      have := pathUp_len s
      rw [pathUp_join hok] at this
      simp at this
      omega)
    rw [List.map_take] at hj
    have hx : pathUp s = [47] ++ join 47 ((names s).take ((names s).length - 1)) := by
      rw [pathUp_join hok, List.dropLast_eq_take]
      rfl
    have hlj : (join 47 ((names s).take ((names s).length - 1))).length ≤ 12 := by
      have := pathUp_len s
      rw [hx] at this
      simp at this
      omega
    rw [hx]
    refine con_of_cd tyOk mix Tryd.func89 rfl rfl rfl (Nat.le_of_ble_eq_true rfl) ?_
    repeat' first | refine Rw ⟨?_⟩ | (refine bsplit.mk (fun h => ?_) (fun h => ?_) <;> (try simp only [decide_eq_true_eq, decide_eq_false_iff_not, Bool.not_eq_true', Bool.not_eq_false', Bool.not_true, Bool.not_false, Bool.true_eq_false, Bool.false_eq_true, List.length_map] at h) <;> conv => whnf) | (refine Rc [] 1 rfl rfl (h1) ?_; conv => whnf) | (refine Rc [] 0 rfl rfl (hj) ?_; conv => whnf) | (refine ⟨(names s).length - 1, by simp only [List.length_map]; omega, ?_⟩; conv => whnf) | refine Rs ⟨?_⟩ | fail
    exact Rf
theorem iData_con (s : Bs) (hs : s.length ≤ 1073741824) : Con (E m) 65 0 [.s s] [] (.b (dataOk s)) [] := by
  refine con_of_cd tyOk mix Tryd.func65 rfl rfl rfl (Nat.le_of_ble_eq_true rfl) ?_
  repeat' first | refine Rw ⟨?_⟩ | (refine bsplit.mk (fun h => ?_) (fun h => ?_) <;> (try simp only [decide_eq_true_eq, decide_eq_false_iff_not, Bool.not_eq_true', Bool.not_eq_false', Bool.not_true, Bool.not_false, Bool.true_eq_false, Bool.false_eq_true, List.length_map] at h) <;> conv => whnf) | refine Rs ⟨?_⟩ | fail
  · have : ¬ s.length ≤ 6 := by omega
    first | refine CallEnd.here (fa ?_) | refine fa ?_
    conv => whnf
    first | exact ⟨rfl, rfl, rfl, rfl⟩ | refine ⟨rfl, rfl, congrArg some (congrArg D.s ?_), rfl⟩ | refine ⟨rfl, rfl, congrArg some (congrArg D.b ?_), rfl⟩ | refine ⟨rfl, rfl, congrArg some (congrArg (D.k _) ?_), rfl⟩ | refine ⟨rfl, rfl, congrArg some (congrArg D.agg ?_), rfl⟩ | refine ⟨rfl, rfl, rfl, ?_⟩
    all_goals first | rfl | (simp_all [dataOk]; done) | (simp [dataOk] <;> (repeat' split) <;> omega) | (simp only [dataOk]; repeat' split) <;> first | omega | (simp_all; done) | (simp_all; omega) | (rw [Bool.eq_iff_iff]; simp [*, dataOk] <;> omega)
  refine Cd.loop (fun n tm S nx => ∃ i : Nat, i ≤ s.length ∧ n = s.length - i ∧ tm = [(0, .s s), (3, .k .i64 i)] ∧ S = [] ∧ nx = 0 ∧ (s.take i).all (fun b => lower b || digit b) = true) ⟨s.length, ?_⟩ ?_
  · refine la [0, 3] ?_
    conv => whnf
    refine ⟨rfl, rfl, 0, Nat.zero_le _, rfl, rfl, rfl, rfl, rfl⟩
  · rintro n tm S nx ⟨i, hi, hn, rfl, rfl, rfl, ha⟩
    repeat' first | refine Rw ⟨?_⟩ | (refine bsplit.mk (fun h => ?_) (fun h => ?_) <;> (try simp only [decide_eq_true_eq, decide_eq_false_iff_not, Bool.not_eq_true', Bool.not_eq_false', Bool.not_true, Bool.not_false, Bool.true_eq_false, Bool.false_eq_true, List.length_map] at h) <;> conv => whnf) | refine Rs ⟨?_⟩ | fail
    all_goals first
      | (have hf : s.all (fun b => lower b || digit b) = false := all_false (List.getElem?_eq_getElem (by omega : i < s.length)) (ld_false (by omega))
         (first | refine CallEnd.here (fa ?_) | refine fa ?_)
         conv => whnf
         refine ⟨rfl, rfl, congrArg some (congrArg D.b ?_), rfl⟩
         first | (simp_all [dataOk]; done) | (rw [Bool.eq_iff_iff]; simp [*, dataOk] <;> omega))
      | (refine .here ⟨n - 1, by omega, ?_⟩
         refine la [0, 3] ?_
         conv => whnf
         refine ⟨rfl, rfl, i + 1, by omega, by omega, rfl, rfl, rfl, all_take_succ ha (List.getElem?_eq_getElem (by omega : i < s.length)) (ld_true (by omega))⟩)
      | (have hf : s.all (fun b => lower b || digit b) = true := all_take_full ha (by omega)
         (first | refine CallEnd.here (fa ?_) | refine fa ?_)
         conv => whnf
         refine ⟨rfl, rfl, congrArg some (congrArg D.b ?_), rfl⟩
         first | (simp_all [dataOk]; done) | (rw [Bool.eq_iff_iff]; simp [*, dataOk] <;> omega))
def entD : Option Ent → D
  | some e => .tup [.agg e.c, .b true]
  | none => .tup [.agg [.s [], .b false, .s []], .b false]
theorem entAt_at {t : List Ent} {p : Bs} {i : Nat} {e : Ent} (h : t[i]? = some e) (hp : e.path = p) (hb : ∀ k e, k < i → t[k]? = some e → e.path ≠ p) : entAt t p = some e := by
  rcases entIx_or t p with ⟨j, hx, hj, he⟩ | ⟨hx, he⟩
  · rw [entIx_at h hp hb] at hx
    have : i = j := by omega
    subst this
    rw [List.getElem?_eq_getElem hj] at h
    rw [he, h]
  · rw [entIx_at h hp hb] at hx
    omega
theorem entAt_miss {t : List Ent} {p : Bs} (hb : ∀ (k : Nat) e, t[k]? = some e → e.path ≠ p) : entAt t p = none := by
  rcases entIx_or t p with ⟨j, hx, hj, he⟩ | ⟨hx, he⟩
  · rw [entIx_none hb] at hx
    omega
  · exact he
theorem iAt_con (t : List Ent) (p : Bs) (ht : t.length ≤ 1073741824) : Con (E m) 103 0 [.sl (t.map Ent.c), .s p] [] (entD (entAt t p)) [] := by
  refine con_of_cd tyOk mix Tryd.func103 rfl rfl rfl (Nat.le_of_ble_eq_true rfl) ?_
  repeat' first | refine Rw ⟨?_⟩ | (refine bsplit.mk (fun h => ?_) (fun h => ?_) <;> (try simp only [decide_eq_true_eq, decide_eq_false_iff_not, Bool.not_eq_true', Bool.not_eq_false', Bool.not_true, Bool.not_false, Bool.true_eq_false, Bool.false_eq_true, List.length_map] at h) <;> conv => whnf) | refine Rs ⟨?_⟩ | fail
  refine Cd.loop (fun n tm S nx => ∃ i : Nat, i ≤ t.length ∧ n = t.length - i ∧ tm = [(1, .s p), (4, .bp 0 0), (8, .sl (t.map Ent.c)), (9, .k .i64 (t.map Ent.c).length), (10, .k .i64 i)] ∧ S = [(0, .box 41 [.s [], .b false, .s []])] ∧ nx = 1 ∧ ∀ k e, k < i → t[k]? = some e → e.path ≠ p) ⟨t.length, ?_⟩ ?_
  · refine la [1, 4, 8, 9, 10] ?_
    conv => whnf
    refine ⟨rfl, rfl, 0, Nat.zero_le _, rfl, rfl, rfl, rfl, fun k e h => absurd h (Nat.not_lt_zero _)⟩
  · rintro n tm S nx ⟨i, hi, hn, rfl, rfl, rfl, ha⟩
    by_cases hlt : i < t.length
    · repeat' first | refine Rw ⟨?_⟩ | (refine bsplit.mk (fun h => ?_) (fun h => ?_) <;> (try simp only [decide_eq_true_eq, decide_eq_false_iff_not, Bool.not_eq_true', Bool.not_eq_false', Bool.not_true, Bool.not_false, Bool.true_eq_false, Bool.false_eq_true, List.length_map] at h) <;> conv => whnf) | refine Rs ⟨?_⟩ | fail
      · have he : entAt t p = some t[i] := entAt_at (List.getElem?_eq_getElem hlt) ‹_› ha
        rw [he]
        exact Rf
      · refine .here ⟨n - 1, by omega, ?_⟩
        refine la [1, 4, 8, 9, 10] ?_
        conv => whnf
        refine ⟨rfl, rfl, i + 1, by omega, by omega, rfl, rfl, rfl, fun k e h1 h2 => ?_⟩
        by_cases hk : k = i
        · subst hk
          rw [List.getElem?_eq_getElem hlt] at h2
          cases h2
          assumption
        · exact ha k e (by omega) h2
      · exact absurd hlt (by omega)
    · repeat' first | refine Rw ⟨?_⟩ | (refine bsplit.mk (fun h => ?_) (fun h => ?_) <;> (try simp only [decide_eq_true_eq, decide_eq_false_iff_not, Bool.not_eq_true', Bool.not_eq_false', Bool.not_true, Bool.not_false, Bool.true_eq_false, Bool.false_eq_true, List.length_map] at h) <;> conv => whnf) | refine Rs ⟨?_⟩ | fail
      · exact absurd hlt (by omega)
      · have he : entAt t p = none := entAt_miss fun k e h => ha k e (by have := (List.getElem?_eq_some_iff.1 h).1; omega) h
        rw [he]
        exact Rf
theorem iUpCode_con (t : List Ent) (p : Bs) (ht : t.length ≤ 1073741824) (hp : p.length ≤ 1073741824) : Con (E m) 118 0 [.sl (t.map Ent.c), .s p] [] (.k .i64 (upCode t p)) [] := by
  have h1 := iUp_con (m := m) p hp
  have h2 := iAt_con (m := m) t (pathUp p) ht
  by_cases hr : pathUp p = [47]
  · have hx : upCode t p = 0 := by simp [upCode, hr]
    rw [hx]
    rw [hr] at h1
    refine con_of_cd tyOk mix Tryd.func118 rfl rfl rfl (Nat.le_of_ble_eq_true rfl) ?_
    repeat' first | refine Rw ⟨?_⟩ | (refine bsplit.mk (fun h => ?_) (fun h => ?_) <;> (try simp only [decide_eq_true_eq, decide_eq_false_iff_not, Bool.not_eq_true', Bool.not_eq_false', Bool.not_true, Bool.not_false, Bool.true_eq_false, Bool.false_eq_true, List.length_map] at h) <;> conv => whnf) | (refine Rc [] 0 rfl rfl (h1) ?_; conv => whnf) | refine Rs ⟨?_⟩ | fail
    all_goals first
      | exact absurd rfl ‹¬([47] : Bs) = [47]›
      | exact absurd trivial ‹¬True›
      | skip
    exact Rf
  · match he : entAt t (pathUp p), h2 with
    | none, h2 =>
      have hx : upCode t p = 2 := by simp [upCode, hr, he]
      rw [hx]
      refine con_of_cd tyOk mix Tryd.func118 rfl rfl rfl (Nat.le_of_ble_eq_true rfl) ?_
      repeat' first | refine Rw ⟨?_⟩ | (refine bsplit.mk (fun h => ?_) (fun h => ?_) <;> (try simp only [decide_eq_true_eq, decide_eq_false_iff_not, Bool.not_eq_true', Bool.not_eq_false', Bool.not_true, Bool.not_false, Bool.true_eq_false, Bool.false_eq_true, List.length_map] at h) <;> conv => whnf) | (refine Rc [] 0 rfl rfl (h1) ?_; conv => whnf) | (refine Rc [] 0 rfl rfl (h2) ?_; conv => whnf) | refine Rs ⟨?_⟩ | fail
      all_goals first
        | exact absurd ‹pathUp p = [47]› hr
        | skip
      exact Rf
    | some e, h2 =>
      have hx : upCode t p = if e.dir then 0 else 3 := by simp [upCode, hr, he]
      rw [hx]
      refine con_of_cd tyOk mix Tryd.func118 rfl rfl rfl (Nat.le_of_ble_eq_true rfl) ?_
      repeat' first | refine Rw ⟨?_⟩ | (refine bsplit.mk (fun h => ?_) (fun h => ?_) <;> (try simp only [decide_eq_true_eq, decide_eq_false_iff_not, Bool.not_eq_true', Bool.not_eq_false', Bool.not_true, Bool.not_false, Bool.true_eq_false, Bool.false_eq_true, List.length_map] at h) <;> conv => whnf) | (refine Rc [] 0 rfl rfl (h1) ?_; conv => whnf) | (refine Rc [] 0 rfl rfl (h2) ?_; conv => whnf) | refine Rs ⟨?_⟩ | fail
      · exact absurd ‹pathUp p = [47]› hr
      all_goals
        exact Rf
end Go.Proofs.YtgeieehampfkcaaDoor
/- Contracts: the program's trees and their texts; the laws' own helpers for lists of entries. -/
set_option linter.unusedSimpArgs false
set_option linter.unusedVariables false
set_option maxHeartbeats 1000000
set_option maxRecDepth 10000
namespace Go.Proofs.YtgeieehampfkcaaDoor
open Go Go.RowKit Go.Ab Go.Par
variable {m : Int}
theorem iTreeOk_con (t : List Ent) (hb : ∀ e ∈ t, e.path.length ≤ 1073741824 ∧ e.data.length ≤ 1073741824) : Con (E m) 73 0 [.sl (t.map Ent.c)] [] (.b (treeOk t)) [] := by
  refine con_of_cd tyOk mix Tryd.func73 rfl rfl rfl (Nat.le_of_ble_eq_true rfl) ?_
  repeat' first | refine Rw ⟨?_⟩ | (refine bsplit.mk (fun h => ?_) (fun h => ?_) <;> (try simp only [decide_eq_true_eq, decide_eq_false_iff_not, Bool.not_eq_true', Bool.not_eq_false', Bool.not_true, Bool.not_false, Bool.true_eq_false, Bool.false_eq_true, List.length_map] at h) <;> conv => whnf) | refine Rs ⟨?_⟩ | fail
  · have hf : treeOk t = false := by
      have : ¬ t.length ≤ 16 := by omega
      simp [treeOk, this]
    rw [hf]
    exact Rf
  refine Cd.loop (fun n tm S nx => ∃ i : Nat, i ≤ t.length ∧ n = t.length - i ∧ tm = [(0, .sl (t.map Ent.c)), (8, .sl (t.map Ent.c)), (9, .k .i64 (t.map Ent.c).length), (10, .k .i64 i)] ∧ S = [] ∧ nx = 0 ∧ ∀ k, k < i → okI t k = true) ⟨t.length, ?_⟩ ?_
  · refine la [0, 8, 9, 10] ?_
    conv => whnf
    refine ⟨rfl, rfl, 0, Nat.zero_le _, rfl, rfl, rfl, rfl, fun k h => absurd h (Nat.not_lt_zero _)⟩
  · rintro n tm S nx ⟨i, hi, hn, rfl, rfl, rfl, ha⟩
    by_cases hlt : i < t.length
    · have hq := hb t[i] (List.getElem_mem hlt)
      have h1 := iPathOk_con (m := m) t[i].path hq.1
      have h2 := iData_con (m := m) t[i].data hq.2
      have h3 := iUpCode_con (m := m) t t[i].path (by omega) hq.1
      repeat' first | refine Rw ⟨?_⟩ | (refine bsplit.mk (fun h => ?_) (fun h => ?_) <;> (try simp only [decide_eq_true_eq, decide_eq_false_iff_not, Bool.not_eq_true', Bool.not_eq_false', Bool.not_true, Bool.not_false, Bool.true_eq_false, Bool.false_eq_true, List.length_map] at h) <;> conv => whnf) | (refine Rc [] 0 rfl rfl (h1) ?_; conv => whnf) | (refine Rc [] 0 rfl rfl (h2) ?_; conv => whnf) | (refine Rc [] 0 rfl rfl (h3) ?_; conv => whnf) | (refine ⟨i - 1, _, by omega, map_get (by omega), rfl, ?_⟩; conv => whnf) | refine Rs ⟨?_⟩ | fail
      all_goals first
        | (have hf : okI t i = false := by
             clear h1 h2 h3 hb ha hn
             rw [okI_at hlt]
             simp_all [entOk, lt]
           have hg := treeOkI_false hlt hf
           rw [hg]
           refine CallEnd.here (fa ?_)
           conv => whnf
           exact ⟨rfl, rfl, rfl, rfl⟩)
        | (have hf : okI t i = true := by
             clear h1 h2 h3 hb ha hn
             rw [okI_at hlt]
             simp_all [entOk, lt]
           refine .here ⟨n - 1, by omega, ?_⟩
           refine la [0, 8, 9, 10] ?_
           conv => whnf
           refine ⟨rfl, rfl, i + 1, by omega, by omega, rfl, rfl, rfl, fun k hk => ?_⟩
           by_cases hki : k = i
           · rw [hki]; exact hf
           · exact ha k (by omega))
        | (have hf : okI t i = false := by
             have hbl : lt (t[i - 1]'(by omega)).path t[i].path = false := ‹Op.bytesLess (t[i - 1]'(by omega)).path t[i].path = false›
             rw [okI_at hlt, if_pos (by omega : 0 < i), hbl]
             simp
           have hg := treeOkI_false hlt hf
           rw [hg]
           refine CallEnd.here (fa ?_)
           conv => whnf
           exact ⟨rfl, rfl, rfl, rfl⟩)
        | exact absurd hlt (by omega)
    · repeat' first | refine Rw ⟨?_⟩ | (refine bsplit.mk (fun h => ?_) (fun h => ?_) <;> (try simp only [decide_eq_true_eq, decide_eq_false_iff_not, Bool.not_eq_true', Bool.not_eq_false', Bool.not_true, Bool.not_false, Bool.true_eq_false, Bool.false_eq_true, List.length_map] at h) <;> conv => whnf) | refine Rs ⟨?_⟩ | fail
      · exact absurd hlt (by omega)
      · have hf : treeOk t = true := treeOkI_true (by omega) fun k hk => ha k (by omega)
        rw [hf]
        exact Rf
theorem iTreeText_con (t : List Ent) (hb : ∀ e ∈ t, e.path.length ≤ 1073741824 ∧ e.data.length ≤ 1073741824) : Con (E m) 54 0 [.sl (t.map Ent.c)] [] (.s (treeText t)) [] := by
  have h1 := iTreeOk_con (m := m) t hb
  cases hok : treeOk t with
  | false =>
    rw [hok] at h1
    have hx : treeText t = [] := by simp [treeText, hok]
    rw [hx]
    refine con_of_cd tyOk mix Tryd.func54 rfl rfl rfl (Nat.le_of_ble_eq_true rfl) ?_
    repeat' first | refine Rw ⟨?_⟩ | (refine bsplit.mk (fun h => ?_) (fun h => ?_) <;> (try simp only [decide_eq_true_eq, decide_eq_false_iff_not, Bool.not_eq_true', Bool.not_eq_false', Bool.not_true, Bool.not_false, Bool.true_eq_false, Bool.false_eq_true, List.length_map] at h) <;> conv => whnf) | (refine Rc [] 0 rfl rfl (h1) ?_; conv => whnf) | refine Rs ⟨?_⟩ | fail
    exact Rf
  | true =>
    rw [hok] at h1
    have hlen := treeOk_len hok
    have hent := treeOk_ent hok
    have hx : treeText t = (t.map fun e => entText e ++ [10]).flatten := by simp [treeText, hok]
    rw [hx]
    refine con_of_cd tyOk mix Tryd.func54 rfl rfl rfl (Nat.le_of_ble_eq_true rfl) ?_
    repeat' first | refine Rw ⟨?_⟩ | (refine bsplit.mk (fun h => ?_) (fun h => ?_) <;> (try simp only [decide_eq_true_eq, decide_eq_false_iff_not, Bool.not_eq_true', Bool.not_eq_false', Bool.not_true, Bool.not_false, Bool.true_eq_false, Bool.false_eq_true, List.length_map] at h) <;> conv => whnf) | (refine Rc [] 0 rfl rfl (h1) ?_; conv => whnf) | refine Rs ⟨?_⟩ | fail
    refine Cd.loop (fun n tm S nx => ∃ (i : Nat) (acc : Bs), acc = ((t.take i).map fun e => entText e ++ [10]).flatten ∧ i ≤ t.length ∧ n = t.length - i ∧ tm = [(3, .own 0), (9, .sl (t.map Ent.c)), (10, .k .i64 (t.map Ent.c).length), (11, .k .i64 i)] ∧ S = [(0, .own 5 (bytesOf acc))] ∧ nx = 1) ⟨t.length, ?_⟩ ?_
    · refine la [3, 9, 10, 11] ?_
      conv => whnf
      refine ⟨rfl, rfl, 0, [], rfl, Nat.zero_le _, rfl, rfl, rfl, rfl⟩
    · rintro n tm S nx ⟨i, acc, hac, hi, hn, rfl, rfl, rfl⟩
      have hfl := texts_len hent i
      rw [← hac] at hfl
      by_cases hlt : i < t.length
      · have hq := entOk_len (hent t[i] (List.getElem_mem hlt))
        have hql := entText_len t[i]
        repeat' first | refine Rw ⟨?_⟩ | (refine bsplit.mk (fun h => ?_) (fun h => ?_) <;> (try simp only [decide_eq_true_eq, decide_eq_false_iff_not, Bool.not_eq_true', Bool.not_eq_false', Bool.not_true, Bool.not_false, Bool.true_eq_false, Bool.false_eq_true, List.length_map] at h) <;> conv => whnf) | (refine Rc [] 0 rfl rfl (iEntText_con t[i] (by omega) (by omega)) ?_; conv => whnf) | refine Rs ⟨?_⟩ | fail
        · refine .here ⟨n - 1, by omega, ?_⟩
          refine la [3, 9, 10, 11] ?_
          conv => whnf
          refine ⟨rfl, rfl, i + 1, acc ++ entText t[i] ++ [10], ?_, by omega, by omega, rfl, ?_, rfl⟩
          · rw [List.take_add_one, List.getElem?_eq_getElem hlt, hac]
            simp only [Option.toList_some, List.map_append, List.map_cons, List.map_nil, List.flatten_append, List.flatten_cons, List.flatten_nil, List.append_nil, ← List.append_assoc]
          · rw [bytesOf_app, bytesOf_app]
            rfl
        all_goals exact absurd hlt (by omega)
      · have hi2 : i = t.length := by omega
        subst hi2
        rw [List.take_length] at hac
        repeat' first | refine Rw ⟨?_⟩ | (refine bsplit.mk (fun h => ?_) (fun h => ?_) <;> (try simp only [decide_eq_true_eq, decide_eq_false_iff_not, Bool.not_eq_true', Bool.not_eq_false', Bool.not_true, Bool.not_false, Bool.true_eq_false, Bool.false_eq_true, List.length_map] at h) <;> conv => whnf) | (refine ⟨acc, rfl, (by unfold room; omega), ?_⟩; conv => whnf) | refine Rs ⟨?_⟩ | fail
        · exact absurd hlt (by omega)
        · rw [← hac]
          exact Rf
theorem szEntS_con (es : List Ent) (n : Int) (hn : 0 ≤ n ∧ n ≤ 1048576) (hl : es.length ≤ 9223372036854775807) (hb : ∀ e ∈ es, e.path.length ≤ 9223372036854775807 ∧ e.data.length ≤ 9223372036854775807) :
    Con (E m) 25 0 [.sl (es.map Ent.c), .k .i64 n] [] (.k .i64 (szEnts es n)) [] := by
  refine con_of_cd tyOk mix Tryd.func25 rfl rfl rfl (Nat.le_of_ble_eq_true rfl) ?_
  repeat' first | refine Rw ⟨?_⟩ | (refine bsplit.mk (fun h => ?_) (fun h => ?_) <;> (try simp only [decide_eq_true_eq, decide_eq_false_iff_not, Bool.not_eq_true', Bool.not_eq_false', Bool.not_true, Bool.not_false, Bool.true_eq_false, Bool.false_eq_true, List.length_map] at h) <;> conv => whnf) | refine Rs ⟨?_⟩ | fail
  · have hf : szEnts es n = -1 := if_pos ‹_›
    rw [hf]
    exact Rf
  · have hf : szEnts es n = szAll es (n - es.length) := if_neg ‹_›
    rw [hf]
    refine Cd.loop (fun q tm S nx => ∃ (i : Nat) (l : Int), i ≤ es.length ∧ q = es.length - i ∧ tm = [(0, .sl (es.map Ent.c)), (1, .k .i64 l), (5, .k .i64 i)] ∧ S = [] ∧ nx = 0 ∧ 0 ≤ l ∧ l ≤ 1048576 ∧ szAll es (n - es.length) = szAll (es.drop i) l) ⟨es.length, ?_⟩ ?_
    · refine la [0, 1, 5] ?_
      conv => whnf
      refine ⟨rfl, rfl, 0, n - es.length, Nat.zero_le _, rfl, by simp only [List.length_map]; rfl, rfl, rfl, by omega, by omega, rfl⟩
    · rintro q tm S nx ⟨i, l, hi, hq, rfl, rfl, rfl, h0, h1, ha⟩
      by_cases hlt : i < es.length
      · have hbe := hb es[i] (List.getElem_mem hlt)
        rw [List.drop_eq_getElem_cons hlt, szAll] at ha
        have hle := less2_le l es[i].path.length es[i].data.length h0
        repeat' first | refine Rw ⟨?_⟩ | (refine bsplit.mk (fun h => ?_) (fun h => ?_) <;> (try simp only [decide_eq_true_eq, decide_eq_false_iff_not, Bool.not_eq_true', Bool.not_eq_false', Bool.not_true, Bool.not_false, Bool.true_eq_false, Bool.false_eq_true, List.length_map] at h) <;> conv => whnf) | (refine Rc [] 0 rfl rfl (szEnt_con es[i] l ⟨h0, h1⟩ hbe.1 hbe.2) ?_; conv => whnf) | refine Rs ⟨?_⟩ | fail
        · rw [if_pos ‹_›] at ha
          rw [ha]
          exact Rf
        · rw [if_neg ‹_›] at ha
          refine .here ⟨q - 1, by omega, ?_⟩
          refine la [0, 1, 5] ?_
          conv => whnf
          refine ⟨rfl, rfl, i + 1, less2 l es[i].path.length es[i].data.length, by omega, by omega, rfl, rfl, rfl, by omega, by omega, ha⟩
        all_goals exact absurd hlt (by omega)
      · rw [List.drop_of_length_le (by omega)] at ha
        repeat' first | refine Rw ⟨?_⟩ | (refine bsplit.mk (fun h => ?_) (fun h => ?_) <;> (try simp only [decide_eq_true_eq, decide_eq_false_iff_not, Bool.not_eq_true', Bool.not_eq_false', Bool.not_true, Bool.not_false, Bool.true_eq_false, Bool.false_eq_true, List.length_map] at h) <;> conv => whnf) | refine Rs ⟨?_⟩ | fail
        · exact absurd hlt (by omega)
        · rw [ha]
          exact Rf
theorem toEntS_con (es : List Ent) (hl : es.length ≤ 1048576) : Con (E m) 27 0 [.sl (es.map Ent.c)] [] (.own 0) [(0, .own 41 (es.map Ent.c))] := by
  refine con_of_cd tyOk mix Tryd.func27 rfl rfl rfl (Nat.le_of_ble_eq_true rfl) ?_
  repeat' first | refine Rw ⟨?_⟩ | (refine bsplit.mk (fun h => ?_) (fun h => ?_) <;> (try simp only [decide_eq_true_eq, decide_eq_false_iff_not, Bool.not_eq_true', Bool.not_eq_false', Bool.not_true, Bool.not_false, Bool.true_eq_false, Bool.false_eq_true, List.length_map] at h) <;> conv => whnf) | (refine ⟨es.length, by simp only [List.length_map], by simp only [List.length_map], (by unfold room; omega), Nat.le_of_ble_eq_true rfl, ?_⟩; conv => whnf) | refine Rs ⟨?_⟩ | fail
  refine Cd.loop (fun q tm S nx => ∃ (i : Nat) (xs : List (List D)), i ≤ es.length ∧ q = es.length - i ∧ tm = [(0, .sl (es.map Ent.c)), (3, .own 0), (4, .k .i64 i)] ∧ S = [(0, .own 41 xs)] ∧ nx = 1 ∧ xs = (es.take i).map Ent.c ++ List.replicate (es.length - i) [.s [], .b false, .s []]) ⟨es.length, ?_⟩ ?_
  · refine la [0, 3, 4] ?_
    conv => whnf
    refine ⟨rfl, rfl, 0, _, Nat.zero_le _, rfl, rfl, rfl, rfl, rfl⟩
  · rintro q tm S nx ⟨i, xs, hi, hq, rfl, rfl, rfl, hxs⟩
    have hxl : xs.length = es.length := by rw [hxs]; simp; omega
    by_cases hlt : i < es.length
    · have hg : xs[i]? = some [.s [], .b false, .s []] := by rw [hxs]; exact fill_get hlt
      repeat' first | refine Rw ⟨?_⟩ | (refine bsplit.mk (fun h => ?_) (fun h => ?_) <;> (try simp only [decide_eq_true_eq, decide_eq_false_iff_not, Bool.not_eq_true', Bool.not_eq_false', Bool.not_true, Bool.not_false, Bool.true_eq_false, Bool.false_eq_true, List.length_map] at h) <;> conv => whnf) | (refine Rc [] 0 rfl rfl (toEnt_con es[i]) ?_; conv => whnf) | (refine ⟨_, hg, Nat.le_of_ble_eq_true rfl, ?_⟩; conv => whnf) | refine Rs ⟨?_⟩ | fail
      · refine .here ⟨q - 1, by omega, ?_⟩
        refine la [0, 3, 4] ?_
        conv => whnf
        refine ⟨rfl, rfl, i + 1, _, by omega, by omega, rfl, rfl, rfl, (by rw [hxs]; exact fill_set hlt)⟩
      all_goals exact absurd hlt (by omega)
    · have hx : xs = es.map Ent.c := by
        rw [hxs, List.take_of_length_le (by omega)]
        have : es.length - i = 0 := by omega
        simp [this]
      subst hx
      repeat' first | refine Rw ⟨?_⟩ | (refine bsplit.mk (fun h => ?_) (fun h => ?_) <;> (try simp only [decide_eq_true_eq, decide_eq_false_iff_not, Bool.not_eq_true', Bool.not_eq_false', Bool.not_true, Bool.not_false, Bool.true_eq_false, Bool.false_eq_true, List.length_map] at h) <;> conv => whnf) | refine Rs ⟨?_⟩ | fail
      · exact absurd hlt (by omega)
      · exact Rf
theorem eqEnt_con (a b : Ent) : Con (E m) 29 0 [.agg a.c, .agg b.c] [] (.b (eqE a b)) [] := by
  refine con_of_cd tyOk mix Tryd.func29 rfl rfl rfl (Nat.le_of_ble_eq_true rfl) ?_
  repeat' first | refine Rw ⟨?_⟩ | (refine bsplit.mk (fun h => ?_) (fun h => ?_) <;> (try simp only [decide_eq_true_eq, decide_eq_false_iff_not, Bool.not_eq_true', Bool.not_eq_false', Bool.not_true, Bool.not_false, Bool.true_eq_false, Bool.false_eq_true, List.length_map] at h) <;> conv => whnf) | refine Rs ⟨?_⟩ | fail
  all_goals
    first | refine CallEnd.here (fa ?_) | refine fa ?_
    conv => whnf
    first | exact ⟨rfl, rfl, rfl, rfl⟩ | refine ⟨rfl, rfl, congrArg some (congrArg D.s ?_), rfl⟩ | refine ⟨rfl, rfl, congrArg some (congrArg D.b ?_), rfl⟩ | refine ⟨rfl, rfl, congrArg some (congrArg (D.k _) ?_), rfl⟩ | refine ⟨rfl, rfl, congrArg some (congrArg D.agg ?_), rfl⟩ | refine ⟨rfl, rfl, rfl, ?_⟩
    all_goals first | rfl | (simp_all [eqE]; done) | (simp [eqE] <;> (repeat' split) <;> omega) | (simp only [eqE]; repeat' split) <;> first | omega | (simp_all; done) | (simp_all; omega) | (rw [Bool.eq_iff_iff]; simp [*, eqE] <;> omega)
theorem eqEntS_con (t : List Ent) (hl : t.length ≤ 1048576) : Con (E m) 30 0 [.sl (t.map Ent.c), .sl (t.map Ent.c)] [] (.b true) [] := by
  refine con_of_cd tyOk mix Tryd.func30 rfl rfl rfl (Nat.le_of_ble_eq_true rfl) ?_
  repeat' first | refine Rw ⟨?_⟩ | (refine bsplit.mk (fun h => ?_) (fun h => ?_) <;> (try simp only [decide_eq_true_eq, decide_eq_false_iff_not, Bool.not_eq_true', Bool.not_eq_false', Bool.not_true, Bool.not_false, Bool.true_eq_false, Bool.false_eq_true, List.length_map] at h) <;> conv => whnf) | refine Rs ⟨?_⟩ | fail
  · exact absurd trivial ‹¬True›
  refine Cd.loop (fun q tm S nx => ∃ (i : Nat), i ≤ t.length ∧ q = t.length - i ∧ tm = [(0, .sl (t.map Ent.c)), (1, .sl (t.map Ent.c)), (5, .k .i64 i)] ∧ S = [] ∧ nx = 0) ⟨t.length, ?_⟩ ?_
  · refine la [0, 1, 5] ?_
    conv => whnf
    refine ⟨rfl, rfl, 0, Nat.zero_le _, rfl, rfl, rfl, rfl⟩
  · rintro q tm S nx ⟨i, hi, hq, rfl, rfl, rfl⟩
    by_cases hlt : i < t.length
    · have he := eqEnt_con (m := m) t[i] t[i]
      rw [eqE_self] at he
      repeat' first | refine Rw ⟨?_⟩ | (refine bsplit.mk (fun h => ?_) (fun h => ?_) <;> (try simp only [decide_eq_true_eq, decide_eq_false_iff_not, Bool.not_eq_true', Bool.not_eq_false', Bool.not_true, Bool.not_false, Bool.true_eq_false, Bool.false_eq_true, List.length_map] at h) <;> conv => whnf) | (refine Rc [] 0 rfl rfl (he) ?_; conv => whnf) | refine Rs ⟨?_⟩ | fail
      · refine .here ⟨q - 1, by omega, ?_⟩
        refine la [0, 1, 5] ?_
        conv => whnf
        refine ⟨rfl, rfl, i + 1, by omega, by omega, rfl, rfl, rfl⟩
      all_goals exact absurd hlt (by omega)
    · repeat' first | refine Rw ⟨?_⟩ | (refine bsplit.mk (fun h => ?_) (fun h => ?_) <;> (try simp only [decide_eq_true_eq, decide_eq_false_iff_not, Bool.not_eq_true', Bool.not_eq_false', Bool.not_true, Bool.not_false, Bool.true_eq_false, Bool.false_eq_true, List.length_map] at h) <;> conv => whnf) | refine Rs ⟨?_⟩ | fail
      · exact absurd hlt (by omega)
      · exact Rf
theorem lEnt_cells {cs : List D} (h : Shp Tryd.prog 86 cs) : ∃ e : Ent, cs = e.c ∧ e.path.length ≤ 9223372036854775807 ∧ e.data.length ≤ 9223372036854775807 := by
  have h1 := h.struct_inv Tryd.underlying86
  have h2 : ShpF Tryd.prog [9, 4, 9] cs := h1
  obtain ⟨a, _, rfl, ha, b, _, rfl, hb, c, _, rfl, hc, rfl⟩ := h2
  obtain ⟨p, rfl, hp⟩ := ha.str_inv Tryd.underlying9
  obtain ⟨x, rfl⟩ := hb.bool_inv Tryd.underlying4
  obtain ⟨q, rfl, hq⟩ := hc.str_inv Tryd.underlying9
  exact ⟨⟨p, x, q⟩, rfl, hp, hq⟩
theorem lEnts_cells : ∀ (xs : List (List D)), (∀ cs ∈ xs, Shp Tryd.prog 86 cs) → ∃ es : List Ent, xs = es.map Ent.c ∧ ∀ e ∈ es, e.path.length ≤ 9223372036854775807 ∧ e.data.length ≤ 9223372036854775807
  | [], _ => ⟨[], rfl, by simp⟩
  | cs :: xs, h => by
    obtain ⟨e, rfl, h1, h2⟩ := lEnt_cells (h cs (by simp))
    obtain ⟨es, rfl, h3⟩ := lEnts_cells xs fun c hc => h c (by simp [hc])
    refine ⟨e :: es, rfl, fun x hx => ?_⟩
    rcases List.mem_cons.1 hx with rfl | hx
    · exact ⟨h1, h2⟩
    · exact h3 x hx
theorem lEnts_shp {d : D} (h : ShpV Tryd.prog 38 d) : ∃ es : List Ent, d = .sl (es.map Ent.c) ∧ es.length ≤ 9223372036854775807 ∧ ∀ e ∈ es, e.path.length ≤ 9223372036854775807 ∧ e.data.length ≤ 9223372036854775807 := by
  have h1 := h.one (fun fs => by rw [Tryd.underlying38]; simp)
  obtain ⟨xs, hx, hl, hc⟩ := h1.slice_inv Tryd.underlying38
  obtain ⟨es, rfl, he⟩ := lEnts_cells xs hc
  cases hx
  rw [List.length_map] at hl
  exact ⟨es, rfl, hl, he⟩
end Go.Proofs.YtgeieehampfkcaaDoor
/- Contracts: what is done, and its texts. -/
set_option linter.unusedSimpArgs false
set_option linter.unusedVariables false
set_option maxHeartbeats 1000000
set_option maxRecDepth 10000
namespace Go.Proofs.YtgeieehampfkcaaDoor
open Go Go.RowKit Go.Ab Go.Par
variable {m : Int}
theorem iOpOk_con (o : Opn) (h1 : o.path.length ≤ 1073741824) (h2 : o.to.length ≤ 1073741824) (h3 : o.data.length ≤ 1073741824) : Con (E m) 23 0 [.agg o.c] [] (.b (opOk o)) [] := by
  have c1 := iPathOk_con (m := m) o.path h1
  have c2 := iPathOk_con (m := m) o.to h2
  have c3 := iData_con (m := m) o.data h3
  refine con_of_cd tyOk mix Tryd.func23 rfl rfl rfl (Nat.le_of_ble_eq_true rfl) ?_
  repeat' first | refine Rw ⟨?_⟩ | (refine bsplit.mk (fun h => ?_) (fun h => ?_) <;> (try simp only [decide_eq_true_eq, decide_eq_false_iff_not, Bool.not_eq_true', Bool.not_eq_false', Bool.not_true, Bool.not_false, Bool.true_eq_false, Bool.false_eq_true, List.length_map] at h) <;> conv => whnf) | (refine Rc [] 0 rfl rfl (c1) ?_; conv => whnf) | (refine Rc [] 0 rfl rfl (c2) ?_; conv => whnf) | (refine Rc [] 0 rfl rfl (c3) ?_; conv => whnf) | refine Rs ⟨?_⟩ | fail
  all_goals
    first | refine CallEnd.here (fa ?_) | refine fa ?_
    conv => whnf
    first | exact ⟨rfl, rfl, rfl, rfl⟩ | refine ⟨rfl, rfl, congrArg some (congrArg D.s ?_), rfl⟩ | refine ⟨rfl, rfl, congrArg some (congrArg D.b ?_), rfl⟩ | refine ⟨rfl, rfl, congrArg some (congrArg (D.k _) ?_), rfl⟩ | refine ⟨rfl, rfl, congrArg some (congrArg D.agg ?_), rfl⟩ | refine ⟨rfl, rfl, rfl, ?_⟩
    all_goals first | rfl | (simp_all [opOk]; done) | (simp [opOk] <;> (repeat' split) <;> omega) | (simp only [opOk]; repeat' split) <;> first | omega | (simp_all; done) | (simp_all; omega) | (rw [Bool.eq_iff_iff]; simp [*, opOk] <;> omega)
theorem sOpOk_con (o : Opn) (h1 : o.path.length ≤ 1073741824) (h2 : o.to.length ≤ 1073741824) (h3 : o.data.length ≤ 1073741824) : Con (E m) 58 0 [.agg o.c] [] (.b (opOk o)) [] := by
  have c1 := sPathOk_con (m := m) o.path h1
  have c2 := sPathOk_con (m := m) o.to h2
  have c3 := sData_con (m := m) o.data h3
  refine con_of_cd tyOk mix Tryd.func58 rfl rfl rfl (Nat.le_of_ble_eq_true rfl) ?_
  repeat' first | refine Rw ⟨?_⟩ | (refine bsplit.mk (fun h => ?_) (fun h => ?_) <;> (try simp only [decide_eq_true_eq, decide_eq_false_iff_not, Bool.not_eq_true', Bool.not_eq_false', Bool.not_true, Bool.not_false, Bool.true_eq_false, Bool.false_eq_true, List.length_map] at h) <;> conv => whnf) | (refine Rc [] 0 rfl rfl (c1) ?_; conv => whnf) | (refine Rc [] 0 rfl rfl (c2) ?_; conv => whnf) | (refine Rc [] 0 rfl rfl (c3) ?_; conv => whnf) | refine Rs ⟨?_⟩ | fail
  all_goals
    first | refine CallEnd.here (fa ?_) | refine fa ?_
    conv => whnf
    first | exact ⟨rfl, rfl, rfl, rfl⟩ | refine ⟨rfl, rfl, congrArg some (congrArg D.s ?_), rfl⟩ | refine ⟨rfl, rfl, congrArg some (congrArg D.b ?_), rfl⟩ | refine ⟨rfl, rfl, congrArg some (congrArg (D.k _) ?_), rfl⟩ | refine ⟨rfl, rfl, congrArg some (congrArg D.agg ?_), rfl⟩ | refine ⟨rfl, rfl, rfl, ?_⟩
    all_goals first | rfl | (simp_all [opOk_eq]; done) | (simp [opOk_eq] <;> (repeat' split) <;> omega) | (simp only [opOk_eq]; repeat' split) <;> first | omega | (simp_all; done) | (simp_all; omega) | (rw [Bool.eq_iff_iff]; simp [*, opOk_eq] <;> omega)
end Go.Proofs.YtgeieehampfkcaaDoor
/- Contracts: the texts of what is done. -/
set_option linter.unusedSimpArgs false
set_option linter.unusedVariables false
set_option maxHeartbeats 1000000
set_option maxRecDepth 10000
namespace Go.Proofs.YtgeieehampfkcaaDoor
open Go Go.RowKit Go.Ab Go.Par
variable {m : Int}
theorem opOk_max {o : Opn} (h : opOk o = true) : (opText o).length ≤ 40 := by
  have h1 := opOk_len h
  have h2 := opOk_kind h
  have h3 : (opWord o.kind).length ≤ 5 := by
    have : o.kind = 1 ∨ o.kind = 2 ∨ o.kind = 3 ∨ o.kind = 4 ∨ o.kind = 5 := by omega
    rcases this with h | h | h | h | h <;> rw [h] <;> decide
  rw [opText, if_pos h]
  simp only [List.length_append]
  split <;> split <;> simp <;> omega
theorem iOpText_con (k : Int) (p t d : Bs) (h1 : p.length ≤ 1073741824) (h2 : t.length ≤ 1073741824) (h3 : d.length ≤ 1073741824) : Con (Eo m) 18 0 [.agg [.k .i64 k, .s p, .s t, .s d]] [] (.s (opText ⟨k, p, t, d⟩)) [] := by
  have c1 := con_o (iOpOk_con (m := m) ⟨k, p, t, d⟩ h1 h2 h3)
  cases hok : opOk ⟨k, p, t, d⟩ with
  | false =>
    rw [hok] at c1
    have hx : opText ⟨k, p, t, d⟩ = [] := by simp [opText, hok]
    rw [hx]
    refine con_of_cd tyOkO mixO Tryd.func18 rfl rfl rfl (Nat.le_of_ble_eq_true rfl) ?_
    repeat' first | refine Ra ⟨?_⟩ | ((first | refine Rc [] 0 rfl rfl (c1) ?_ | (refine bd (fun h => ?_) (fun h => ?_) <;> (try simp only [List.length_map] at h)) | refine bsplit.mk (fun h => ?_) (fun h => ?_)) <;> conv => whnf) | refine Rb ⟨?_⟩ | fail
    exact Rf
  | true =>
    rw [hok] at c1
    have hl := opOk_len hok
    have hk := opOk_kind hok
    have hx : opText ⟨k, p, t, d⟩ = opWord k ++ [32] ++ p ++ (if k = 5 then [32] ++ t else []) ++ (if d = [] then [] else [32] ++ d) := by rw [opText, if_pos hok]
    rw [hx]
    simp only at hl hk
    have : k = 1 ∨ k = 2 ∨ k = 3 ∨ k = 4 ∨ k = 5 := by omega
    rcases this with rfl | rfl | rfl | rfl | rfl
    all_goals
      refine con_of_cd tyOkO mixO Tryd.func18 rfl rfl rfl (Nat.le_of_ble_eq_true rfl) ?_
      repeat' first | refine Ra ⟨?_⟩ | ((first | refine Rc [] 0 rfl rfl (c1) ?_ | refine ⟨1, _, rfl, by decide, rfl, ?_⟩ | refine ⟨2, _, rfl, by decide, rfl, ?_⟩ | refine ⟨3, _, rfl, by decide, rfl, ?_⟩ | refine ⟨4, _, rfl, by decide, rfl, ?_⟩ | refine ⟨5, _, rfl, by decide, rfl, ?_⟩ | (refine bd (fun h => ?_) (fun h => ?_) <;> (try simp only [List.length_map] at h)) | refine bsplit.mk (fun h => ?_) (fun h => ?_)) <;> conv => whnf) | refine Rb ⟨?_⟩ | fail
      all_goals
        first | refine CallEnd.here (fa ?_) | refine fa ?_
        conv => whnf
        first | exact ⟨rfl, rfl, rfl, rfl⟩ | refine ⟨rfl, rfl, congrArg some (congrArg D.s ?_), rfl⟩ | refine ⟨rfl, rfl, congrArg some (congrArg D.b ?_), rfl⟩ | refine ⟨rfl, rfl, congrArg some (congrArg (D.k _) ?_), rfl⟩ | refine ⟨rfl, rfl, congrArg some (congrArg D.agg ?_), rfl⟩ | refine ⟨rfl, rfl, rfl, ?_⟩
        all_goals first | rfl | (simp_all [opWord, opWords]; done) | (simp [opWord, opWords] <;> (repeat' split) <;> omega) | (simp only [opWord, opWords]; repeat' split) <;> first | omega | (simp_all; done) | (simp_all; omega) | (rw [Bool.eq_iff_iff]; simp [*, opWord, opWords] <;> omega)
theorem sWords_con : Con (E m) 59 0 [] [] (.own 0) [(0, .own 9 (opWords.map fun l => [.s l]))] := by
  refine con_of_cd tyOk mix Tryd.func59 rfl rfl rfl (Nat.le_of_ble_eq_true rfl) ?_
  repeat' first | refine Ra ⟨?_⟩ | ((first | (refine bd (fun h => ?_) (fun h => ?_) <;> (try simp only [List.length_map] at h)) | refine bsplit.mk (fun h => ?_) (fun h => ?_)) <;> conv => whnf) | refine Rb ⟨?_⟩ | fail
  exact Rf
theorem sOpText_con (k : Int) (p t d : Bs) (h1 : p.length ≤ 1073741824) (h2 : t.length ≤ 1073741824) (h3 : d.length ≤ 1073741824) : Con (E m) 16 0 [.agg [.k .i64 k, .s p, .s t, .s d]] [] (.s (opText ⟨k, p, t, d⟩)) [] := by
  have c1 := sOpOk_con (m := m) ⟨k, p, t, d⟩ h1 h2 h3
  cases hok : opOk ⟨k, p, t, d⟩ with
  | false =>
    rw [hok] at c1
    have hx : opText ⟨k, p, t, d⟩ = [] := by simp [opText, hok]
    rw [hx]
    refine con_of_cd tyOk mix Tryd.func16 rfl rfl rfl (Nat.le_of_ble_eq_true rfl) ?_
    repeat' first | refine Ra ⟨?_⟩ | ((first | refine Rc [] 0 rfl rfl (c1) ?_ | (refine bd (fun h => ?_) (fun h => ?_) <;> (try simp only [List.length_map] at h)) | refine bsplit.mk (fun h => ?_) (fun h => ?_)) <;> conv => whnf) | refine Rb ⟨?_⟩ | fail
    exact Rf
  | true =>
    rw [hok] at c1
    have hl := opOk_len hok
    have hk := opOk_kind hok
    have hx : opText ⟨k, p, t, d⟩ = opWord k ++ [32] ++ p ++ (if k = 5 then [32] ++ t else []) ++ (if d = [] then [] else [32] ++ d) := by rw [opText, if_pos hok]
    have h5 : k = 5 → d = [] := by
      intro hk5
      simp only [opOk, hk5, if_true, Bool.and_eq_true, decide_eq_true_eq] at hok
      exact hok.2.2
    rw [hx]
    simp only at hl hk
    rcases five hk.1 hk.2 with rfl | rfl | rfl | rfl | rfl
    all_goals
      refine con_of_cd tyOk mix Tryd.func16 rfl rfl rfl (Nat.le_of_ble_eq_true rfl) ?_
      repeat' first | refine Ra ⟨?_⟩ | ((first | refine Rc [] 0 rfl rfl (c1) ?_ | refine Rc [] 1 rfl rfl (sWords_con) ?_ | refine ⟨1, rfl, by decide, ?_⟩ | refine ⟨2, rfl, by decide, ?_⟩ | refine ⟨3, rfl, by decide, ?_⟩ | refine ⟨4, rfl, by decide, ?_⟩ | refine ⟨5, rfl, by decide, ?_⟩ | refine ⟨_, rfl, ?_⟩ | (refine bd (fun h => ?_) (fun h => ?_) <;> (try simp only [List.length_map] at h)) | refine bsplit.mk (fun h => ?_) (fun h => ?_)) <;> conv => whnf) | refine Rb ⟨?_⟩ | fail
      all_goals
        first | refine CallEnd.here (fa ?_) | refine fa ?_
        conv => whnf
        first | exact ⟨rfl, rfl, rfl, rfl⟩ | refine ⟨rfl, rfl, congrArg some (congrArg D.s ?_), rfl⟩ | refine ⟨rfl, rfl, congrArg some (congrArg D.b ?_), rfl⟩ | refine ⟨rfl, rfl, congrArg some (congrArg (D.k _) ?_), rfl⟩ | refine ⟨rfl, rfl, congrArg some (congrArg D.agg ?_), rfl⟩ | refine ⟨rfl, rfl, rfl, ?_⟩
        all_goals first | rfl | (simp_all [opWord, opWords]; done) | (simp [opWord, opWords] <;> (repeat' split) <;> omega) | (simp only [opWord, opWords]; repeat' split) <;> first | omega | (simp_all; done) | (simp_all; omega) | (rw [Bool.eq_iff_iff]; simp [*, opWord, opWords] <;> omega)
theorem sEnt3_con (s : Bs) (hs : s.length ≤ 1073741823) : Con (E m) 60 0 [.s s] [] (.tup [.s (ent3 s).1, .s (ent3 s).2.1, .s (ent3 s).2.2]) [] := by
  have c1 := sCut_con (m := m) s 32 (by omega)
  have hx : ent3 s = if 2 ≤ (cut 32 s).length ∧ (cut 32 s).length ≤ 3 then (wordAt (cut 32 s) 0, wordAt (cut 32 s) 1, wordAt (cut 32 s) 2) else ([], [], []) := rfl
  have hl := cut_len 32 s
  match cut 32 s, hl, c1, hx with
  | [], hl, c1, hx =>
    rw [hx]
    refine con_of_cd tyOk mix Tryd.func60 rfl rfl rfl (Nat.le_of_ble_eq_true rfl) ?_
    repeat' first | refine Ra ⟨?_⟩ | ((first | refine Rc [] 1 rfl rfl (c1) ?_ | (refine bd (fun h => ?_) (fun h => ?_) <;> (try simp only [List.length_map] at h)) | refine bsplit.mk (fun h => ?_) (fun h => ?_)) <;> conv => whnf) | refine Rb ⟨?_⟩ | fail
    all_goals
      exact Rf
  | [a], hl, c1, hx =>
    rw [hx]
    refine con_of_cd tyOk mix Tryd.func60 rfl rfl rfl (Nat.le_of_ble_eq_true rfl) ?_
    repeat' first | refine Ra ⟨?_⟩ | ((first | refine Rc [] 1 rfl rfl (c1) ?_ | (refine bd (fun h => ?_) (fun h => ?_) <;> (try simp only [List.length_map] at h)) | refine bsplit.mk (fun h => ?_) (fun h => ?_)) <;> conv => whnf) | refine Rb ⟨?_⟩ | fail
    all_goals
      exact Rf
  | [a, b], hl, c1, hx =>
    rw [hx]
    refine con_of_cd tyOk mix Tryd.func60 rfl rfl rfl (Nat.le_of_ble_eq_true rfl) ?_
    repeat' first | refine Ra ⟨?_⟩ | ((first | refine Rc [] 1 rfl rfl (c1) ?_ | (refine bd (fun h => ?_) (fun h => ?_) <;> (try simp only [List.length_map] at h)) | refine bsplit.mk (fun h => ?_) (fun h => ?_)) <;> conv => whnf) | refine Rb ⟨?_⟩ | fail
    all_goals
      exact Rf
  | [a, b, c], hl, c1, hx =>
    rw [hx]
    refine con_of_cd tyOk mix Tryd.func60 rfl rfl rfl (Nat.le_of_ble_eq_true rfl) ?_
    repeat' first | refine Ra ⟨?_⟩ | ((first | refine Rc [] 1 rfl rfl (c1) ?_ | refine ⟨1, rfl, by simp, ?_⟩ | refine ⟨2, rfl, by simp, ?_⟩ | refine ⟨0, rfl, by simp, ?_⟩ | (refine bd (fun h => ?_) (fun h => ?_) <;> (try simp only [List.length_map] at h)) | refine bsplit.mk (fun h => ?_) (fun h => ?_)) <;> conv => whnf) | refine Rb ⟨?_⟩ | fail
    all_goals
      exact Rf
  | a :: b :: c :: d :: r, hl, c1, hx =>
    rw [hx, if_neg (by simp)]
    have hlen : ((a :: b :: c :: d :: r).map fun l => [D.s l]).length = r.length + 4 := by simp
    refine con_of_cd tyOk mix Tryd.func60 rfl rfl rfl (Nat.le_of_ble_eq_true rfl) ?_
    repeat' first | refine Ra ⟨?_⟩ | ((first | refine Rc [] 1 rfl rfl (c1) ?_ | refine bf (by rw [hlen]; omega) ?_ | refine bt (by rw [hlen]; omega) ?_ | (refine bd (fun h => ?_) (fun h => ?_) <;> (try simp only [List.length_map] at h)) | refine bsplit.mk (fun h => ?_) (fun h => ?_)) <;> conv => whnf) | refine Rb ⟨?_⟩ | fail
    all_goals
      exact Rf
def opD : Option Opn → D
  | some o => .tup [.agg o.c, .b true]
  | none => .tup [.agg op0.c, .b false]
theorem iWordAt_con (w : List Bs) (i : Nat) (hl : w.length ≤ 1073741824) (hi : i ≤ 1073741824) : Con (E m) 82 0 [.sl (w.map fun l => [.s l]), .k .i64 i] [] (.s (wordAt w i)) [] := by
  by_cases h : i < w.length
  · have hx : wordAt w i = w[i] := by unfold wordAt; rw [List.getD_eq_getElem?_getD, List.getElem?_eq_getElem h]; rfl
    rw [hx]
    refine con_of_cd tyOk mix Tryd.func82 rfl rfl rfl (Nat.le_of_ble_eq_true rfl) ?_
    repeat' first | refine Ra ⟨?_⟩ | ((first | (refine bd (fun h => ?_) (fun h => ?_) <;> (try simp only [List.length_map] at h)) | refine bsplit.mk (fun h => ?_) (fun h => ?_)) <;> conv => whnf) | refine Rb ⟨?_⟩ | fail
    exact Rf
  · have hx : wordAt w i = [] := by unfold wordAt; rw [List.getD_eq_getElem?_getD, List.getElem?_eq_none (by omega)]; rfl
    rw [hx]
    refine con_of_cd tyOk mix Tryd.func82 rfl rfl rfl (Nat.le_of_ble_eq_true rfl) ?_
    repeat' first | refine Ra ⟨?_⟩ | ((first | (refine bd (fun h => ?_) (fun h => ?_) <;> (try simp only [List.length_map] at h)) | refine bsplit.mk (fun h => ?_) (fun h => ?_)) <;> conv => whnf) | refine Rb ⟨?_⟩ | fail
    exact Rf
theorem ow (k : Nat) (h : k < 6) : [D.s [], D.s [109, 97, 107, 101], D.s [112, 117, 116], D.s [114, 109], D.s [114, 109, 100, 105, 114], D.s [109, 111, 118, 101]][k]? = some (D.s (opWord (k : Int))) := by
  have : k = 0 ∨ k = 1 ∨ k = 2 ∨ k = 3 ∨ k = 4 ∨ k = 5 := by omega
  rcases this with rfl | rfl | rfl | rfl | rfl | rfl <;> rfl
theorem iOpOfWords_con (w : List Bs) (hl : w.length ≤ 1073741824) (hb : ∀ a ∈ w, a.length ≤ 1073741824) : Con (Eo m) 61 0 [.sl (w.map fun l => [.s l])] [] (opD (opOfWords w)) [] := by
  by_cases hw : 2 ≤ w.length ∧ w.length ≤ 3
  · match w, hw, hl, hb with
    | [], hw, _, _ => exact absurd hw.1 (by simp)
    | [a], hw, _, _ => exact absurd hw.1 (by simp)
    | a :: b :: q, hw, hl, hb =>
      have hq : q.length ≤ 1 := by have := hw.2; simp at this; omega
      have hlen : ((a :: b :: q).map fun l => [D.s l]).length = q.length + 2 := by simp
      have c1 := con_o (iWordAt_con (m := m) (a :: b :: q) 2 hl (by omega))
      have hb2 : (wordAt (a :: b :: q) 2).length ≤ 1073741824 := by
        match q with
        | [] => simp [wordAt]
        | c :: r => exact hb c (by simp)
      have c2 := con_o (iOpOk_con (m := m) (opOfKind (opKind a) b (wordAt (a :: b :: q) 2)) (by unfold opOfKind; split <;> exact hb b (by simp)) (by unfold opOfKind; split <;> simp [hb2]) (by unfold opOfKind; split <;> simp [hb2]))
      have hx : opOfWords (a :: b :: q) = if opOk (opOfKind (opKind a) b (wordAt (a :: b :: q) 2)) then some (opOfKind (opKind a) b (wordAt (a :: b :: q) 2)) else none := by
        unfold opOfWords
        have e0 : wordAt (a :: b :: q) 0 = a := rfl
        have e1 : wordAt (a :: b :: q) 1 = b := rfl
        rw [e0, e1]
        by_cases hok : opOk (opOfKind (opKind a) b (wordAt (a :: b :: q) 2)) = true
        · rw [if_pos ⟨by simp, by simp; omega, hok⟩, if_pos hok]
        · rw [if_neg (fun h => hok h.2.2), if_neg hok]
      rw [hx]
      refine con_of_cd tyOkO mixO Tryd.func61 rfl rfl rfl (Nat.le_of_ble_eq_true rfl) ?_
      repeat' first | refine Ra ⟨?_⟩ | ((first | refine bt (by rw [hlen]; omega) ?_ | refine bf (by rw [hlen]; omega) ?_ | refine ⟨1, _, rfl, rfl, rfl, ?_⟩ | (refine bd (fun h => ?_) (fun h => ?_) <;> (try simp only [List.length_map] at h)) | refine bsplit.mk (fun h => ?_) (fun h => ?_)) <;> conv => whnf) | refine Rb ⟨?_⟩ | fail
      refine Cd.loop2 (fun mq tm S nx => ∃ (k : Nat) (c : Int), mq = (6 - k) ∧ tm = [(0, .sl ((a :: b :: q).map fun l => [.s l])), (2, .bp 0 0), (4, .bp 1 0), (5, .k .i64 c)] ∧ S = [(0, .box 26 op0.c), (1, .box 26 [.k .i64 (kindTo a (k - 1)), .s b, .s [], .s []])] ∧ nx = 2 ∧ (c = (k : Nat)) ∧ (1 ≤ k) ∧ (k ≤ 6)) ?_ ?_
      · refine la [0, 2, 4, 5] ?_
        conv => whnf
        refine ⟨rfl, rfl, _, 1, 1, rfl, rfl, rfl, rfl, rfl, by omega, by omega⟩
      · rintro mq tm S nx ⟨k, c, hn, rfl, rfl, rfl, hc, hk1, hk2⟩
        subst hc
        by_cases hk : k ≤ 5
        · obtain ⟨j, rfl⟩ : ∃ j, k = j + 1 := ⟨k - 1, by omega⟩
          have hkt : kindTo a (j + 1) = if opWord ((j + 1 : Nat) : Int) = a then ((j + 1 : Nat) : Int) else kindTo a j := rfl
          repeat' first | refine Ra ⟨?_⟩ | ((first | refine ⟨j + 1, _, rfl, by omega, ow (j + 1) (by omega), ?_⟩ | (refine bd (fun h => ?_) (fun h => ?_) <;> (try simp only [List.length_map] at h)) | refine bsplit.mk (fun h => ?_) (fun h => ?_)) <;> conv => whnf) | refine Rb ⟨?_⟩ | fail
          · rw [if_pos ‹_›] at hkt
            refine .here ⟨mq - 1, by omega, ?_⟩
            refine la [0, 2, 4, 5] ?_
            conv => whnf
            refine ⟨rfl, rfl, j + 2, _, (by omega), rfl, ?_, rfl, rfl, by omega, by omega⟩
            have e : j + 2 - 1 = j + 1 := by omega
            rw [e, hkt]
            rfl
          · rw [if_neg ‹_›] at hkt
            refine .here ⟨mq - 1, by omega, ?_⟩
            refine la [0, 2, 4, 5] ?_
            conv => whnf
            refine ⟨rfl, rfl, j + 2, _, (by omega), rfl, ?_, rfl, rfl, by omega, by omega⟩
            have e : j + 2 - 1 = j + 1 := by omega
            rw [e, hkt]
            rfl
        · obtain rfl : k = 6 := by omega
          have hk5 : kindTo a (6 - 1) = opKind a := kindTo_5 a
          simp only [hk5]
          have hkd := opKind_le a
          cases hok : opOk (opOfKind (opKind a) b (wordAt (a :: b :: q) 2))
          all_goals
            rw [hok] at c2
            by_cases h5 : opKind a = 5
            all_goals
              simp only [opOfKind, h5, if_true, if_false] at c2
              simp only [opOfKind, h5, if_true, if_false, Bool.false_eq_true]
              repeat' first | refine Ra ⟨?_⟩ | ((first | refine Rc [] 0 rfl rfl (c1) ?_ | refine Rc [] 0 rfl rfl (c2) ?_ | (refine bd (fun h => ?_) (fun h => ?_) <;> (try simp only [List.length_map] at h)) | refine bsplit.mk (fun h => ?_) (fun h => ?_)) <;> conv => whnf) | refine Rb ⟨?_⟩ | fail
              first | refine CallEnd.here (fa ?_) | refine fa ?_
              conv => whnf
              first | exact ⟨rfl, rfl, rfl, rfl⟩ | refine ⟨rfl, rfl, congrArg some (congrArg D.s ?_), rfl⟩ | refine ⟨rfl, rfl, congrArg some (congrArg D.b ?_), rfl⟩ | refine ⟨rfl, rfl, congrArg some (congrArg (D.k _) ?_), rfl⟩ | refine ⟨rfl, rfl, congrArg some (congrArg D.agg ?_), rfl⟩ | refine ⟨rfl, rfl, rfl, ?_⟩
              all_goals first | rfl | (simp_all [opD]; done) | (simp [opD] <;> (repeat' split) <;> omega) | (simp only [opD]; repeat' split) <;> first | omega | (simp_all; done) | (simp_all; omega) | (rw [Bool.eq_iff_iff]; simp [*, opD] <;> omega)
  · have hx : opOfWords w = none := by
      unfold opOfWords
      rw [if_neg fun h => hw ⟨h.1, h.2.1⟩]
    rw [hx]
    refine con_of_cd tyOkO mixO Tryd.func61 rfl rfl rfl (Nat.le_of_ble_eq_true rfl) ?_
    repeat' first | refine Ra ⟨?_⟩ | ((first | (refine bd (fun h => ?_) (fun h => ?_) <;> (try simp only [List.length_map] at h)) | refine bsplit.mk (fun h => ?_) (fun h => ?_)) <;> conv => whnf) | refine Rb ⟨?_⟩ | fail
    all_goals
      exact Rf
theorem iOpRead_con (s : Bs) (hs : s.length ≤ 1073741823) : Con (Eo m) 20 0 [.s s] [] (opD (opRead s)) [] := by
  have c1 := con_o (split_con (m := m) s 32 (by omega))
  have hlen := cut_len 32 s
  have hpc := cut_piece 32 s
  have c2 := iOpOfWords_con (m := m) (cut 32 s) (by omega) (fun a ha => by have := hpc a ha; omega)
  cases ho : opOfWords (cut 32 s) with
  | none =>
    have hx : opRead s = none := by simp [opRead, ho]
    rw [hx]
    rw [ho] at c2
    refine con_of_cd tyOkO mixO Tryd.func20 rfl rfl rfl (Nat.le_of_ble_eq_true rfl) ?_
    repeat' first | refine Ra ⟨?_⟩ | ((first | refine Rc [] 1 rfl rfl (c1) ?_ | refine Rc [] 0 rfl rfl (c2) ?_ | (refine bd (fun h => ?_) (fun h => ?_) <;> (try simp only [List.length_map] at h)) | refine bsplit.mk (fun h => ?_) (fun h => ?_)) <;> conv => whnf) | refine Rb ⟨?_⟩ | fail
    exact Rf
  | some o =>
    have hx : opRead s = if opText o = s then some o else none := by simp [opRead, ho]
    rw [hx]
    rw [ho] at c2
    have hl := opOk_len (opOfWords_some ho).2.2.1
    have c3 := iOpText_con (m := m) o.kind o.path o.to o.data (by omega) (by omega) (by omega)
    by_cases ht : opText o = s
    all_goals
      simp only [ht, if_true, if_false]
      refine con_of_cd tyOkO mixO Tryd.func20 rfl rfl rfl (Nat.le_of_ble_eq_true rfl) ?_
      repeat' first | refine Ra ⟨?_⟩ | ((first | refine Rc [] 1 rfl rfl (c1) ?_ | refine Rc [] 0 rfl rfl (c2) ?_ | refine Rc [] 0 rfl rfl (c3) ?_ | (refine bd (fun h => ?_) (fun h => ?_) <;> (try simp only [List.length_map] at h)) | refine bsplit.mk (fun h => ?_) (fun h => ?_)) <;> conv => whnf) | refine Rb ⟨?_⟩ | fail
      exact Rf
theorem sOpRead_con (s : Bs) (hs : s.length ≤ 1073741823) : Con (E m) 19 0 [.s s] [] (opD (opRead s)) [] := by
  have c1 := sEnt3_con (m := m) s hs
  have hb : (ent3 s).2.1.length ≤ 1073741824 ∧ (ent3 s).2.2.length ≤ 1073741824 := by
    have hw : ∀ i, (wordAt (cut 32 s) i).length ≤ 1073741824 := by
      intro i
      unfold wordAt
      rw [List.getD_eq_getElem?_getD]
      cases h : (cut 32 s)[i]? with
      | none => simp
      | some a => have := cut_piece 32 s a (List.mem_of_getElem? h); simp; omega
    unfold ent3
    split
    · exact ⟨hw 1, hw 2⟩
    · simp
  refine con_of_cd tyOk mix Tryd.func19 rfl rfl rfl (Nat.le_of_ble_eq_true rfl) ?_
  repeat' first | refine Ra ⟨?_⟩ | ((first | refine Rc [] 0 rfl rfl (c1) ?_ | refine Rc [] 1 rfl rfl (sWords_con) ?_ | (refine bd (fun h => ?_) (fun h => ?_) <;> (try simp only [List.length_map] at h)) | refine bsplit.mk (fun h => ?_) (fun h => ?_)) <;> conv => whnf) | refine Rb ⟨?_⟩ | fail
  refine Cd.loop2 (fun mq tm S nx => ∃ (k : Nat) (c : Int), mq = (6 - k) ∧ tm = [(0, .s s), (2, .bp 0 0), (4, .s (ent3 s).1), (5, .s (ent3 s).2.1), (6, .s (ent3 s).2.2), (7, .own 1), (8, .k .i64 c)] ∧ S = [(0, .box 26 op0.c), (1, .own 9 (opWords.map fun l => [.s l]))] ∧ nx = 2 ∧ (c = (k : Nat)) ∧ (1 ≤ k) ∧ (k ≤ 6) ∧ (∀ j : Int, 1 ≤ j → j < k → ¬ (opWord j = (ent3 s).1 ∧ opText (opOfKind j (ent3 s).2.1 (ent3 s).2.2) = s ∧ s ≠ []))) ?_ ?_
  · refine la [0, 2, 4, 5, 6, 7, 8] ?_
    conv => whnf
    refine ⟨rfl, rfl, _, 1, 1, rfl, rfl, rfl, rfl, rfl, by omega, by omega, fun j h1 h2 => absurd h1 (by omega)⟩
  · rintro mq tm S nx ⟨k, c, hn, rfl, rfl, rfl, hc, hk1, hk2, ha⟩
    subst hc
    have hwl : (opWords.map fun l => [D.s l]).length = 6 := rfl
    by_cases hk : k < 6
    · have hg : (opWords.map fun l => [D.s l])[k]? = some [.s (opWord (k : Int))] := by
        have : k = 1 ∨ k = 2 ∨ k = 3 ∨ k = 4 ∨ k = 5 := by omega
        rcases this with rfl | rfl | rfl | rfl | rfl <;> rfl
      have hnx : ¬ (opWord (k : Int) = (ent3 s).1 ∧ opText (opOfKind k (ent3 s).2.1 (ent3 s).2.2) = s ∧ s ≠ []) → ∀ j : Int, 1 ≤ j → j < ((k + 1 : Nat) : Int) → ¬ (opWord j = (ent3 s).1 ∧ opText (opOfKind j (ent3 s).2.1 (ent3 s).2.2) = s ∧ s ≠ []) := by
        intro h j h1 h2
        by_cases hj : j = k
        · rw [hj]; exact h
        · exact ha j h1 (by omega)
      by_cases h5 : (k : Int) = 5
      · have hok5 : opOfKind k (ent3 s).2.1 (ent3 s).2.2 = ⟨k, (ent3 s).2.1, (ent3 s).2.2, []⟩ := by rw [opOfKind, if_pos h5]
        rw [hok5] at hnx
        have c2 := sOpText_con (m := m) k (ent3 s).2.1 (ent3 s).2.2 [] hb.1 hb.2 (by simp)
        have hhit : opWord (k : Int) = (ent3 s).1 → opText ⟨k, (ent3 s).2.1, (ent3 s).2.2, []⟩ = s → s ≠ [] → opRead s = some ⟨k, (ent3 s).2.1, (ent3 s).2.2, []⟩ := by
          intro e1 e2 e3
          rw [← hok5] at e2 ⊢
          exact opRead_hit (by omega) (by omega) e1 e2 e3
        repeat' first | refine Ra ⟨?_⟩ | ((first | refine Rc [] 0 rfl rfl (c2) ?_ | refine ⟨k, rfl, by rw [hwl]; omega, ?_⟩ | refine ⟨_, hg, ?_⟩ | refine bt (by rw [hwl]; omega) ?_ | (refine bd (fun h => ?_) (fun h => ?_) <;> (try simp only [List.length_map] at h)) | refine bsplit.mk (fun h => ?_) (fun h => ?_)) <;> conv => whnf) | refine Rb ⟨?_⟩ | fail
        all_goals first
          | (refine .here ⟨mq - 1, by omega, ?_⟩
             refine la [0, 2, 4, 5, 6, 7, 8] ?_
             conv => whnf
             refine ⟨rfl, rfl, k + 1, _, (by omega), rfl, rfl, rfl, by omega, by omega, by omega, hnx (by simp_all)⟩)
          | (rw [hhit ‹_› ‹_› ‹_›]
             refine CallEnd.here (fa ?_)
             conv => whnf
             exact ⟨rfl, rfl, rfl, rfl⟩)
      · have hok5 : opOfKind k (ent3 s).2.1 (ent3 s).2.2 = ⟨k, (ent3 s).2.1, [], (ent3 s).2.2⟩ := by rw [opOfKind, if_neg h5]
        rw [hok5] at hnx
        have c2 := sOpText_con (m := m) k (ent3 s).2.1 [] (ent3 s).2.2 hb.1 (by simp) hb.2
        have hhit : opWord (k : Int) = (ent3 s).1 → opText ⟨k, (ent3 s).2.1, [], (ent3 s).2.2⟩ = s → s ≠ [] → opRead s = some ⟨k, (ent3 s).2.1, [], (ent3 s).2.2⟩ := by
          intro e1 e2 e3
          rw [← hok5] at e2 ⊢
          exact opRead_hit (by omega) (by omega) e1 e2 e3
        repeat' first | refine Ra ⟨?_⟩ | ((first | refine Rc [] 0 rfl rfl (c2) ?_ | refine ⟨k, rfl, by rw [hwl]; omega, ?_⟩ | refine ⟨_, hg, ?_⟩ | refine bt (by rw [hwl]; omega) ?_ | (refine bd (fun h => ?_) (fun h => ?_) <;> (try simp only [List.length_map] at h)) | refine bsplit.mk (fun h => ?_) (fun h => ?_)) <;> conv => whnf) | refine Rb ⟨?_⟩ | fail
        all_goals first
          | (refine .here ⟨mq - 1, by omega, ?_⟩
             refine la [0, 2, 4, 5, 6, 7, 8] ?_
             conv => whnf
             refine ⟨rfl, rfl, k + 1, _, (by omega), rfl, rfl, rfl, by omega, by omega, by omega, hnx (by simp_all)⟩)
          | (rw [hhit ‹_› ‹_› ‹_›]
             refine CallEnd.here (fa ?_)
             conv => whnf
             exact ⟨rfl, rfl, rfl, rfl⟩)
    · have hx : opRead s = none := opRead_miss fun j h1 h2 => ha j h1 (by omega)
      rw [hx]
      repeat' first | refine Ra ⟨?_⟩ | ((first | refine bf (by rw [hwl]; omega) ?_ | (refine bd (fun h => ?_) (fun h => ?_) <;> (try simp only [List.length_map] at h)) | refine bsplit.mk (fun h => ?_) (fun h => ?_)) <;> conv => whnf) | refine Rb ⟨?_⟩ | fail
      exact Rf
theorem lOp_shp {d : D} (h : ShpV Tryd.prog 23 d) : ∃ o : Opn, d = .agg o.c ∧ o.path.length ≤ 9223372036854775807 ∧ o.to.length ≤ 9223372036854775807 ∧ o.data.length ≤ 9223372036854775807 := by
  obtain ⟨ds, rfl, h1⟩ := h.struct Tryd.underlying23
  have h2 : ShpF Tryd.prog [3, 9, 9, 9] ds := h1
  obtain ⟨a, _, rfl, ha, b, _, rfl, hb, c, _, rfl, hc, d, _, rfl, hd, rfl⟩ := h2
  obtain ⟨x, rfl, _⟩ := ha.int_inv Tryd.underlying3
  obtain ⟨p, rfl, hp⟩ := hb.str_inv Tryd.underlying9
  obtain ⟨q, rfl, hq⟩ := hc.str_inv Tryd.underlying9
  obtain ⟨r, rfl, hr⟩ := hd.str_inv Tryd.underlying9
  exact ⟨⟨x, p, q, r⟩, rfl, hp, hq, hr⟩
theorem toOp_con (o : Opn) : Con (E m) 17 0 [.agg o.c] [] (.agg o.c) [] := by
  refine con_of_cd tyOk mix Tryd.func17 rfl rfl rfl (Nat.le_of_ble_eq_true rfl) ?_
  repeat' first | refine Ra ⟨?_⟩ | ((first | (refine bd (fun h => ?_) (fun h => ?_) <;> (try simp only [List.length_map] at h)) | refine bsplit.mk (fun h => ?_) (fun h => ?_)) <;> conv => whnf) | refine Rb ⟨?_⟩ | fail
  first | refine CallEnd.here (fa ?_) | refine fa ?_
  conv => whnf
  first | exact ⟨rfl, rfl, rfl, rfl⟩ | refine ⟨rfl, rfl, congrArg some (congrArg D.s ?_), rfl⟩ | refine ⟨rfl, rfl, congrArg some (congrArg D.b ?_), rfl⟩ | refine ⟨rfl, rfl, congrArg some (congrArg (D.k _) ?_), rfl⟩ | refine ⟨rfl, rfl, congrArg some (congrArg D.agg ?_), rfl⟩ | refine ⟨rfl, rfl, rfl, ?_⟩
  all_goals first | rfl | (simp_all [Opn.c]; done) | (simp [Opn.c] <;> (repeat' split) <;> omega) | (simp only [Opn.c]; repeat' split) <;> first | omega | (simp_all; done) | (simp_all; omega) | (rw [Bool.eq_iff_iff]; simp [*, Opn.c] <;> omega)
theorem szOp_con (o : Opn) (n : Int) (hn : 0 ≤ n ∧ n ≤ 1048576) (hp : o.path.length ≤ 9223372036854775807) (ht : o.to.length ≤ 9223372036854775807) (hd : o.data.length ≤ 9223372036854775807) :
    Con (E m) 15 0 [.agg o.c, .k .i64 n] [] (.k .i64 (less3 n o.path.length o.to.length o.data.length)) [] := by
  refine con_of_cd tyOk mix Tryd.func15 rfl rfl rfl (Nat.le_of_ble_eq_true rfl) ?_
  repeat' first | refine Ra ⟨?_⟩ | ((first | (refine bd (fun h => ?_) (fun h => ?_) <;> (try simp only [List.length_map] at h)) | refine bsplit.mk (fun h => ?_) (fun h => ?_)) <;> conv => whnf) | refine Rb ⟨?_⟩ | fail
  all_goals
    first | refine CallEnd.here (fa ?_) | refine fa ?_
    conv => whnf
    first | exact ⟨rfl, rfl, rfl, rfl⟩ | refine ⟨rfl, rfl, congrArg some (congrArg D.s ?_), rfl⟩ | refine ⟨rfl, rfl, congrArg some (congrArg D.b ?_), rfl⟩ | refine ⟨rfl, rfl, congrArg some (congrArg (D.k _) ?_), rfl⟩ | refine ⟨rfl, rfl, congrArg some (congrArg D.agg ?_), rfl⟩ | refine ⟨rfl, rfl, rfl, ?_⟩
    all_goals first | rfl | (simp_all [less3]; done) | (simp [less3] <;> (repeat' split) <;> omega) | (simp only [less3]; repeat' split) <;> first | omega | (simp_all; done) | (simp_all; omega) | (rw [Bool.eq_iff_iff]; simp [*, less3] <;> omega)
theorem eqOp_con (a b : Opn) : Con (E m) 21 0 [.agg a.c, .agg b.c] [] (.b (eqO a b)) [] := by
  refine con_of_cd tyOk mix Tryd.func21 rfl rfl rfl (Nat.le_of_ble_eq_true rfl) ?_
  repeat' first | refine Ra ⟨?_⟩ | ((first | (refine bd (fun h => ?_) (fun h => ?_) <;> (try simp only [List.length_map] at h)) | refine bsplit.mk (fun h => ?_) (fun h => ?_)) <;> conv => whnf) | refine Rb ⟨?_⟩ | fail
  all_goals
    first | refine CallEnd.here (fa ?_) | refine fa ?_
    conv => whnf
    first | exact ⟨rfl, rfl, rfl, rfl⟩ | refine ⟨rfl, rfl, congrArg some (congrArg D.s ?_), rfl⟩ | refine ⟨rfl, rfl, congrArg some (congrArg D.b ?_), rfl⟩ | refine ⟨rfl, rfl, congrArg some (congrArg (D.k _) ?_), rfl⟩ | refine ⟨rfl, rfl, congrArg some (congrArg D.agg ?_), rfl⟩ | refine ⟨rfl, rfl, rfl, ?_⟩
    all_goals first | rfl | (simp_all [eqO]; done) | (simp [eqO] <;> (repeat' split) <;> omega) | (simp only [eqO]; repeat' split) <;> first | omega | (simp_all; done) | (simp_all; omega) | (rw [Bool.eq_iff_iff]; simp [*, eqO] <;> omega)
end Go.Proofs.YtgeieehampfkcaaDoor
/- Contracts: layers. -/
set_option linter.unusedSimpArgs false
set_option linter.unusedVariables false
set_option maxHeartbeats 1000000
set_option maxRecDepth 10000
namespace Go.Proofs.YtgeieehampfkcaaDoor
open Go Go.RowKit Go.Ab Go.Par
variable {m : Int}
def hasPre (s p : Bs) : Bool := decide (p.length ≤ s.length) && decide (s.take p.length = p)
theorem liteHasPrefix_con (s p : Bs) (hs : s.length ≤ 1073741824) (hp : p.length ≤ 1073741824) : Con (E m) 151 0 [.s s, .s p] [] (.b (hasPre s p)) [] := by
  refine con_of_cd tyOk mix Tryd.func151 rfl rfl rfl (Nat.le_of_ble_eq_true rfl) ?_
  repeat' first | refine Ra ⟨?_⟩ | ((first | (refine bd (fun h => ?_) (fun h => ?_) <;> (try simp only [List.length_map] at h)) | refine bsplit.mk (fun h => ?_) (fun h => ?_)) <;> conv => whnf) | refine Rb ⟨?_⟩ | fail
  all_goals
    first | refine CallEnd.here (fa ?_) | refine fa ?_
    conv => whnf
    first | exact ⟨rfl, rfl, rfl, rfl⟩ | refine ⟨rfl, rfl, congrArg some (congrArg D.s ?_), rfl⟩ | refine ⟨rfl, rfl, congrArg some (congrArg D.b ?_), rfl⟩ | refine ⟨rfl, rfl, congrArg some (congrArg (D.k _) ?_), rfl⟩ | refine ⟨rfl, rfl, congrArg some (congrArg D.agg ?_), rfl⟩ | refine ⟨rfl, rfl, rfl, ?_⟩
    all_goals first | rfl | (simp_all [hasPre]; done) | (simp [hasPre] <;> (repeat' split) <;> omega) | (simp only [hasPre]; repeat' split) <;> first | omega | (simp_all; done) | (simp_all; omega) | (rw [Bool.eq_iff_iff]; simp [*, hasPre] <;> omega)
theorem hasPrefix_con (s p : Bs) (hs : s.length ≤ 1073741824) (hp : p.length ≤ 1073741824) : Con (E m) 141 0 [.s s, .s p] [] (.b (hasPre s p)) [] := by
  refine con_of_cd tyOk mix Tryd.func141 rfl rfl rfl (Nat.le_of_ble_eq_true rfl) ?_
  repeat' first | refine Ra ⟨?_⟩ | ((first | refine Rc [] 0 rfl rfl (liteHasPrefix_con s p hs hp) ?_ | (refine bd (fun h => ?_) (fun h => ?_) <;> (try simp only [List.length_map] at h)) | refine bsplit.mk (fun h => ?_) (fun h => ?_)) <;> conv => whnf) | refine Rb ⟨?_⟩ | fail
  all_goals
    first | refine CallEnd.here (fa ?_) | refine fa ?_
    conv => whnf
    first | exact ⟨rfl, rfl, rfl, rfl⟩ | refine ⟨rfl, rfl, congrArg some (congrArg D.s ?_), rfl⟩ | refine ⟨rfl, rfl, congrArg some (congrArg D.b ?_), rfl⟩ | refine ⟨rfl, rfl, congrArg some (congrArg (D.k _) ?_), rfl⟩ | refine ⟨rfl, rfl, congrArg some (congrArg D.agg ?_), rfl⟩ | refine ⟨rfl, rfl, rfl, ?_⟩
    all_goals first | rfl | (simp_all [hasPre]; done) | (simp [hasPre] <;> (repeat' split) <;> omega) | (simp only [hasPre]; repeat' split) <;> first | omega | (simp_all; done) | (simp_all; omega) | (rw [Bool.eq_iff_iff]; simp [*, hasPre] <;> omega)
def mrkD : Option Mrk → D
  | some e => .tup [.agg e.c, .b true]
  | none => .tup [.agg [.s [], .k .i64 0, .s []], .b false]
theorem iMarkAt_con (l : List Mrk) (p : Bs) (hl : l.length ≤ 1073741824) : Con (E m) 90 0 [.sl (l.map Mrk.c), .s p] [] (mrkD (markAt l p)) [] := by
  refine con_of_cd tyOk mix Tryd.func90 rfl rfl rfl (Nat.le_of_ble_eq_true rfl) ?_
  repeat' first | refine Ra ⟨?_⟩ | ((first | (refine bd (fun h => ?_) (fun h => ?_) <;> (try simp only [List.length_map] at h)) | refine bsplit.mk (fun h => ?_) (fun h => ?_)) <;> conv => whnf) | refine Rb ⟨?_⟩ | fail
  refine Cd.loop2 (fun mq tm S nx => ∃ (i : Nat), mq = (l.length - i) ∧ tm = [(1, .s p), (4, .bp 0 0), (8, .sl (l.map Mrk.c)), (9, .k .i64 (l.map Mrk.c).length), (10, .k .i64 i)] ∧ S = [(0, .box 96 [.s [], .k .i64 0, .s []])] ∧ nx = 1 ∧ (i ≤ l.length) ∧ (markAt l p = markAt (l.drop i) p)) ?_ ?_
  · refine la [1, 4, 8, 9, 10] ?_
    conv => whnf
    refine ⟨rfl, rfl, _, 0, rfl, rfl, rfl, rfl, Nat.zero_le _, rfl⟩
  · rintro mq tm S nx ⟨i, hn, rfl, rfl, rfl, hi, ha⟩
    rcases drop_or l i hi with ⟨rfl, hd⟩ | ⟨x, r, hx, hd, hr, hlt⟩
    · rw [hd] at ha
      rw [ha]
      repeat' first | refine Ra ⟨?_⟩ | ((first | (refine bd (fun h => ?_) (fun h => ?_) <;> (try simp only [List.length_map] at h)) | refine bsplit.mk (fun h => ?_) (fun h => ?_)) <;> conv => whnf) | refine Rb ⟨?_⟩ | fail
      exact Rf
    · rw [hd] at ha
      repeat' first | refine Ra ⟨?_⟩ | ((first | (refine bd (fun h => ?_) (fun h => ?_) <;> (try simp only [List.length_map] at h)) | refine bsplit.mk (fun h => ?_) (fun h => ?_)) <;> conv => whnf) | refine Rb ⟨?_⟩ | fail
      · have he : markAt l p = some x := by rw [ha]; simp [markAt, *]
        rw [he]
        exact Rf
      · refine .here ⟨mq - 1, by omega, ?_⟩
        refine la [1, 4, 8, 9, 10] ?_
        conv => whnf
        refine ⟨rfl, rfl, i + 1, (by omega), rfl, rfl, rfl, by omega, (by rw [ha, hr]; simp [markAt, *])⟩
theorem under_pre (s d : Bs) (hd : d ≠ [47]) : under s d = hasPre s (d ++ [47]) := by
  unfold under hasPre
  rw [Bool.eq_iff_iff]
  simp only [hd, decide_false, Bool.false_or, Bool.and_eq_true, decide_eq_true_eq, List.length_append, List.length_cons, List.length_nil]
  constructor
  · rintro ⟨⟨h1, h2⟩, h3⟩
    exact ⟨by omega, by rw [take_succ h3, h2]⟩
  · rintro ⟨h1, h2⟩
    have hlt : d.length < s.length := by omega
    have h3 : s[d.length]? = some s[d.length] := List.getElem?_eq_getElem hlt
    rw [Nat.zero_add, take_succ h3] at h2
    have h4 := List.append_inj h2 (by simp; omega)
    exact ⟨⟨hlt, h4.1⟩, by rw [h3]; simpa using h4.2⟩
theorem iUnder_con (s d : Bs) (hs : s.length ≤ 1073741823) (hd : d.length ≤ 1073741823) : Con (E m) 123 0 [.s s, .s d] [] (.b (pathUnder s d)) [] := by
  have c1 := iPathOk_con (m := m) s (by omega)
  have c2 := iPathOk_con (m := m) d (by omega)
  have c3 := hasPrefix_con (m := m) s (d ++ [47]) (by omega) (by simp; omega)
  by_cases hr : d = [47]
  · subst hr
    refine con_of_cd tyOk mix Tryd.func123 rfl rfl rfl (Nat.le_of_ble_eq_true rfl) ?_
    repeat' first | refine Ra ⟨?_⟩ | ((first | refine Rc [] 0 rfl rfl (c1) ?_ | (refine bd (fun h => ?_) (fun h => ?_) <;> (try simp only [List.length_map] at h)) | refine bsplit.mk (fun h => ?_) (fun h => ?_)) <;> conv => whnf) | refine Rb ⟨?_⟩ | fail
    all_goals
      first | refine CallEnd.here (fa ?_) | refine fa ?_
      conv => whnf
      first | exact ⟨rfl, rfl, rfl, rfl⟩ | refine ⟨rfl, rfl, congrArg some (congrArg D.s ?_), rfl⟩ | refine ⟨rfl, rfl, congrArg some (congrArg D.b ?_), rfl⟩ | refine ⟨rfl, rfl, congrArg some (congrArg (D.k _) ?_), rfl⟩ | refine ⟨rfl, rfl, congrArg some (congrArg D.agg ?_), rfl⟩ | refine ⟨rfl, rfl, rfl, ?_⟩
      all_goals first | rfl | (simp_all [pathUnder, under]; done) | (simp [pathUnder, under] <;> (repeat' split) <;> omega) | (simp only [pathUnder, under]; repeat' split) <;> first | omega | (simp_all; done) | (simp_all; omega) | (rw [Bool.eq_iff_iff]; simp [*, pathUnder, under] <;> omega)
  · rw [← under_pre s d hr] at c3
    refine con_of_cd tyOk mix Tryd.func123 rfl rfl rfl (Nat.le_of_ble_eq_true rfl) ?_
    repeat' first | refine Ra ⟨?_⟩ | ((first | refine Rc [] 0 rfl rfl (c1) ?_ | refine Rc [] 0 rfl rfl (c2) ?_ | refine Rc [] 0 rfl rfl (c3) ?_ | (refine bd (fun h => ?_) (fun h => ?_) <;> (try simp only [List.length_map] at h)) | refine bsplit.mk (fun h => ?_) (fun h => ?_)) <;> conv => whnf) | refine Rb ⟨?_⟩ | fail
    all_goals
      first | refine CallEnd.here (fa ?_) | refine fa ?_
      conv => whnf
      first | exact ⟨rfl, rfl, rfl, rfl⟩ | refine ⟨rfl, rfl, congrArg some (congrArg D.s ?_), rfl⟩ | refine ⟨rfl, rfl, congrArg some (congrArg D.b ?_), rfl⟩ | refine ⟨rfl, rfl, congrArg some (congrArg (D.k _) ?_), rfl⟩ | refine ⟨rfl, rfl, congrArg some (congrArg D.agg ?_), rfl⟩ | refine ⟨rfl, rfl, rfl, ?_⟩
      all_goals first | rfl | (simp_all [pathUnder]; done) | (simp [pathUnder] <;> (repeat' split) <;> omega) | (simp only [pathUnder]; repeat' split) <;> first | omega | (simp_all; done) | (simp_all; omega) | (rw [Bool.eq_iff_iff]; simp [*, pathUnder] <;> omega)
theorem iIsDir_con (x : Mrk) : Con (E m) 91 0 [.agg x.c] [] (.b (isDirM x)) [] := by
  refine con_of_cd tyOk mix Tryd.func91 rfl rfl rfl (Nat.le_of_ble_eq_true rfl) ?_
  repeat' first | refine Ra ⟨?_⟩ | ((first | (refine bd (fun h => ?_) (fun h => ?_) <;> (try simp only [List.length_map] at h)) | refine bsplit.mk (fun h => ?_) (fun h => ?_)) <;> conv => whnf) | refine Rb ⟨?_⟩ | fail
  all_goals
    first | refine CallEnd.here (fa ?_) | refine fa ?_
    conv => whnf
    first | exact ⟨rfl, rfl, rfl, rfl⟩ | refine ⟨rfl, rfl, congrArg some (congrArg D.s ?_), rfl⟩ | refine ⟨rfl, rfl, congrArg some (congrArg D.b ?_), rfl⟩ | refine ⟨rfl, rfl, congrArg some (congrArg (D.k _) ?_), rfl⟩ | refine ⟨rfl, rfl, congrArg some (congrArg D.agg ?_), rfl⟩ | refine ⟨rfl, rfl, rfl, ?_⟩
    all_goals first | rfl | (simp_all [isDirM]; done) | (simp [isDirM] <;> (repeat' split) <;> omega) | (simp only [isDirM]; repeat' split) <;> first | omega | (simp_all; done) | (simp_all; omega) | (rw [Bool.eq_iff_iff]; simp [*, isDirM] <;> omega)
theorem iMarkOk_con (x : Mrk) (h1 : x.path.length ≤ 1073741823) (h2 : x.data.length ≤ 1073741823) : Con (E m) 88 0 [.agg x.c] [] (.b (markOk x)) [] := by
  have c1 := iPathOk_con (m := m) x.path (by omega)
  have c2 := iData_con (m := m) x.data (by omega)
  refine con_of_cd tyOk mix Tryd.func88 rfl rfl rfl (Nat.le_of_ble_eq_true rfl) ?_
  repeat' first | refine Ra ⟨?_⟩ | ((first | refine Rc [] 0 rfl rfl (c1) ?_ | refine Rc [] 0 rfl rfl (c2) ?_ | (refine bd (fun h => ?_) (fun h => ?_) <;> (try simp only [List.length_map] at h)) | refine bsplit.mk (fun h => ?_) (fun h => ?_)) <;> conv => whnf) | refine Rb ⟨?_⟩ | fail
  all_goals
    first | refine CallEnd.here (fa ?_) | refine fa ?_
    conv => whnf
    first | exact ⟨rfl, rfl, rfl, rfl⟩ | refine ⟨rfl, rfl, congrArg some (congrArg D.s ?_), rfl⟩ | refine ⟨rfl, rfl, congrArg some (congrArg D.b ?_), rfl⟩ | refine ⟨rfl, rfl, congrArg some (congrArg (D.k _) ?_), rfl⟩ | refine ⟨rfl, rfl, congrArg some (congrArg D.agg ?_), rfl⟩ | refine ⟨rfl, rfl, rfl, ?_⟩
    all_goals first | rfl | (simp_all [markOk]; done) | (simp [markOk] <;> (repeat' split) <;> omega) | (simp only [markOk]; repeat' split) <;> first | omega | (simp_all; done) | (simp_all; omega) | (rw [Bool.eq_iff_iff]; simp [*, markOk] <;> omega)
theorem iBare_con (l : List Mrk) (p : Bs) (hl : l.length ≤ 1073741824) (hp : p.length ≤ 1073741823) (hb : ∀ x ∈ l, x.path.length ≤ 1073741823) : Con (E m) 92 0 [.sl (l.map Mrk.c), .s p] [] (.b (bareI l p)) [] := by
  refine con_of_cd tyOk mix Tryd.func92 rfl rfl rfl (Nat.le_of_ble_eq_true rfl) ?_
  repeat' first | refine Ra ⟨?_⟩ | ((first | (refine bd (fun h => ?_) (fun h => ?_) <;> (try simp only [List.length_map] at h)) | refine bsplit.mk (fun h => ?_) (fun h => ?_)) <;> conv => whnf) | refine Rb ⟨?_⟩ | fail
  refine Cd.loop2 (fun mq tm S nx => ∃ (i : Nat), mq = (l.length - i) ∧ tm = [(1, .s p), (7, .sl (l.map Mrk.c)), (8, .k .i64 (l.map Mrk.c).length), (9, .k .i64 i)] ∧ S = [] ∧ nx = 0 ∧ (i ≤ l.length) ∧ (bareI l p = bareI (l.drop i) p)) ?_ ?_
  · refine la [1, 7, 8, 9] ?_
    conv => whnf
    refine ⟨rfl, rfl, _, 0, rfl, rfl, rfl, rfl, Nat.zero_le _, rfl⟩
  · rintro mq tm S nx ⟨i, hn, rfl, rfl, rfl, hi, ha⟩
    rcases drop_or l i hi with ⟨rfl, hd⟩ | ⟨x, r, hx, hd, hr, hlt⟩
    · rw [hd] at ha
      rw [ha]
      repeat' first | refine Ra ⟨?_⟩ | ((first | (refine bd (fun h => ?_) (fun h => ?_) <;> (try simp only [List.length_map] at h)) | refine bsplit.mk (fun h => ?_) (fun h => ?_)) <;> conv => whnf) | refine Rb ⟨?_⟩ | fail
      exact Rf
    · rw [hd] at ha
      have hbx := hb x (List.mem_of_getElem? hx)
      have c1 := iUnder_con (m := m) p x.path hp hbx
      repeat' first | refine Ra ⟨?_⟩ | ((first | refine Rc [] 0 rfl rfl (c1) ?_ | (refine bd (fun h => ?_) (fun h => ?_) <;> (try simp only [List.length_map] at h)) | refine bsplit.mk (fun h => ?_) (fun h => ?_)) <;> conv => whnf) | refine Rb ⟨?_⟩ | fail
      all_goals first
        | (refine RoundEnd.here ⟨mq - 1, by omega, ?_⟩
           refine la [1, 7, 8, 9] ?_
           conv => whnf
           refine ⟨rfl, rfl, i + 1, (by omega), rfl, rfl, rfl, by omega, (by rw [ha, hr]; simp [bareI, *])⟩)
        | (refine CallEnd.here (fa ?_)
           conv => whnf
           (try rw [ha])
           first | exact ⟨rfl, rfl, rfl, rfl⟩ | refine ⟨rfl, rfl, congrArg some (congrArg D.s ?_), rfl⟩ | refine ⟨rfl, rfl, congrArg some (congrArg D.b ?_), rfl⟩ | refine ⟨rfl, rfl, congrArg some (congrArg (D.k _) ?_), rfl⟩ | refine ⟨rfl, rfl, congrArg some ?_, rfl⟩
           all_goals first | rfl | (simp_all [bareI]; done) | (simp [bareI] <;> (repeat' split) <;> omega))
set_option maxHeartbeats 1000000 in
theorem iLayerOk_con (l : List Mrk) (hb : ∀ e ∈ l, e.path.length ≤ 1073741823 ∧ e.data.length ≤ 1073741823) : Con (E m) 45 0 [.sl (l.map Mrk.c)] [] (.b (layerOk l)) [] := by
  refine con_of_cd tyOk mix Tryd.func45 rfl rfl rfl (Nat.le_of_ble_eq_true rfl) ?_
  repeat' first | refine Ra ⟨?_⟩ | ((first | (refine bd (fun h => ?_) (fun h => ?_) <;> (try simp only [List.length_map] at h)) | refine bsplit.mk (fun h => ?_) (fun h => ?_)) <;> conv => whnf) | refine Rb ⟨?_⟩ | fail
  · have hf : layerOk l = false := by
      have : ¬ l.length ≤ 32 := by omega
      simp [layerOk, this]
    rw [hf]
    exact Rf
  refine Cd.loop2 (fun mq tm S nx => ∃ (i : Nat), mq = (l.length - i) ∧ tm = [(0, .sl (l.map Mrk.c)), (11, .sl (l.map Mrk.c)), (12, .k .i64 (l.map Mrk.c).length), (13, .k .i64 i)] ∧ S = [] ∧ nx = 0 ∧ (i ≤ l.length) ∧ (∀ k, k < i → okLI l k = true)) ?_ ?_
  · refine la [0, 11, 12, 13] ?_
    conv => whnf
    refine ⟨rfl, rfl, _, 0, rfl, rfl, rfl, rfl, Nat.zero_le _, fun k h => absurd h (Nat.not_lt_zero _)⟩
  · rintro mq tm S nx ⟨i, hn, rfl, rfl, rfl, hi, ha⟩
    by_cases hlt : i < l.length
    · have hq := hb l[i] (List.getElem_mem hlt)
      have h1 := iMarkOk_con (m := m) l[i] hq.1 hq.2
      have h2 := iUp_con (m := m) l[i].path (by omega)
      have h3 := iMarkAt_con (m := m) l (pathUp l[i].path) (by omega)
      have h4 := iBare_con (m := m) l l[i].path (by omega) hq.1 (fun x hx => (hb x hx).1)
      have hin : inM l l[i].path = (decide (pathUp l[i].path = [47]) || isDirMO (markAt l (pathUp l[i].path))) := rfl
      cases hm : markAt l (pathUp l[i].path)
      all_goals
        rw [hm] at h3 hin
        repeat' first | refine Ra ⟨?_⟩ | ((first | refine Rc [] 0 rfl rfl (h1) ?_ | refine Rc [] 0 rfl rfl (h2) ?_ | refine Rc [] 0 rfl rfl (h3) ?_ | refine Rc [] 0 rfl rfl (h4) ?_ | refine Rc [] 0 rfl rfl (iIsDir_con _) ?_ | refine ⟨i - 1, _, by omega, map_get (by omega), rfl, ?_⟩ | (refine bd (fun h => ?_) (fun h => ?_) <;> (try simp only [List.length_map] at h)) | refine bsplit.mk (fun h => ?_) (fun h => ?_)) <;> conv => whnf) | refine Rb ⟨?_⟩ | fail
        all_goals first
          | (have hf : okLI l i = false := by
               clear h1 h2 h3 h4 hb ha hn
               rw [okLI_at' hlt, hin]
               try have hi0 : 0 < i := by omega
               try have hi0 : i = 0 := by omega
               simp_all [lt, isDirMO]
             have hg := layerOkI_false hlt hf
             rw [hg]
             refine CallEnd.here (fa ?_)
             conv => whnf
             exact ⟨rfl, rfl, rfl, rfl⟩)
          | (have hf : okLI l i = true := by
               clear h1 h2 h3 h4 hb ha hn
               rw [okLI_at' hlt, hin]
               try have hi0 : 0 < i := by omega
               try have hi0 : i = 0 := by omega
               simp_all [lt, isDirMO]
             refine .here ⟨mq - 1, by omega, ?_⟩
             refine la [0, 11, 12, 13] ?_
             conv => whnf
             refine ⟨rfl, rfl, i + 1, (by omega), rfl, rfl, rfl, by omega, all_lt ha hf⟩)
    · repeat' first | refine Ra ⟨?_⟩ | ((first | (refine bd (fun h => ?_) (fun h => ?_) <;> (try simp only [List.length_map] at h)) | refine bsplit.mk (fun h => ?_) (fun h => ?_)) <;> conv => whnf) | refine Rb ⟨?_⟩ | fail
      have hf : layerOk l = true := layerOkI_true (by omega) fun k hk => ha k (by omega)
      rw [hf]
      exact Rf
end Go.Proofs.YtgeieehampfkcaaDoor
/- Contracts: layers, as the document has them; texts of layers. -/
set_option linter.unusedSimpArgs false
set_option linter.unusedVariables false
set_option maxHeartbeats 1000000
set_option maxRecDepth 10000
namespace Go.Proofs.YtgeieehampfkcaaDoor
open Go Go.RowKit Go.Ab Go.Par
variable {m : Int}
theorem iLayerText_con (t : List Mrk) (hb : ∀ e ∈ t, e.path.length ≤ 1073741823 ∧ e.data.length ≤ 1073741823) : Con (E m) 34 0 [.sl (t.map Mrk.c)] [] (.s (layerText t)) [] := by
  have h1 := iLayerOk_con (m := m) t hb
  cases hok : layerOk t with
  | false =>
    rw [hok] at h1
    have hx : layerText t = [] := by simp [layerText, hok]
    rw [hx]
    refine con_of_cd tyOk mix Tryd.func34 rfl rfl rfl (Nat.le_of_ble_eq_true rfl) ?_
    repeat' first | refine Ra ⟨?_⟩ | ((first | refine Rc [] 0 rfl rfl (h1) ?_ | (refine bd (fun h => ?_) (fun h => ?_) <;> (try simp only [List.length_map] at h)) | refine bsplit.mk (fun h => ?_) (fun h => ?_)) <;> conv => whnf) | refine Rb ⟨?_⟩ | fail
    exact Rf
  | true =>
    rw [hok] at h1
    have hlen := layerOk_len hok
    have hent := layerOk_mark hok
    have hx : layerText t = (t.map fun e => markText e ++ [10]).flatten := by simp [layerText, hok]
    rw [hx]
    refine con_of_cd tyOk mix Tryd.func34 rfl rfl rfl (Nat.le_of_ble_eq_true rfl) ?_
    repeat' first | refine Ra ⟨?_⟩ | ((first | refine Rc [] 0 rfl rfl (h1) ?_ | (refine bd (fun h => ?_) (fun h => ?_) <;> (try simp only [List.length_map] at h)) | refine bsplit.mk (fun h => ?_) (fun h => ?_)) <;> conv => whnf) | refine Rb ⟨?_⟩ | fail
    refine Cd.loop2 (fun mq tm S nx => ∃ (i : Nat) (acc : Bs), mq = (t.length - i) ∧ tm = [(3, .own 0), (9, .sl (t.map Mrk.c)), (10, .k .i64 (t.map Mrk.c).length), (11, .k .i64 i)] ∧ S = [(0, .own 5 (bytesOf acc))] ∧ nx = 1 ∧ (acc = ((t.take i).map fun e => markText e ++ [10]).flatten) ∧ (i ≤ t.length)) ?_ ?_
    · refine la [3, 9, 10, 11] ?_
      conv => whnf
      refine ⟨rfl, rfl, _, 0, [], rfl, rfl, rfl, rfl, rfl, Nat.zero_le _⟩
    · rintro mq tm S nx ⟨i, acc, hn, rfl, rfl, rfl, hac, hi⟩
      have hfl := marks_len hent i
      rw [← hac] at hfl
      rcases drop_or t i hi with ⟨rfl, hd⟩ | ⟨x, r, hxi, hd, hr, hlt⟩
      · rw [List.take_length] at hac
        repeat' first | refine Ra ⟨?_⟩ | ((first | refine ⟨acc, rfl, (by unfold room; omega), ?_⟩ | (refine bd (fun h => ?_) (fun h => ?_) <;> (try simp only [List.length_map] at h)) | refine bsplit.mk (fun h => ?_) (fun h => ?_)) <;> conv => whnf) | refine Rb ⟨?_⟩ | fail
        rw [← hac]
        exact Rf
      · have hq := markOk_len (hent x (List.mem_of_getElem? hxi))
        have hql := markText_len x
        repeat' first | refine Ra ⟨?_⟩ | ((first | refine Rc [] 0 rfl rfl (iMarkText_con x (by omega) (by omega)) ?_ | (refine bd (fun h => ?_) (fun h => ?_) <;> (try simp only [List.length_map] at h)) | refine bsplit.mk (fun h => ?_) (fun h => ?_)) <;> conv => whnf) | refine Rb ⟨?_⟩ | fail
        refine .here ⟨mq - 1, by omega, ?_⟩
        refine la [3, 9, 10, 11] ?_
        conv => whnf
        refine ⟨rfl, rfl, i + 1, acc ++ markText x ++ [10], (by omega), rfl, ?_, rfl, ?_, by omega⟩
        · rw [bytesOf_app, bytesOf_app]
          rfl
        · rw [take_succ hxi, hac]
          simp only [List.map_append, List.map_cons, List.map_nil, List.flatten_append, List.flatten_cons, List.flatten_nil, List.append_nil, ← List.append_assoc]
theorem sl1Under_con (s d : Bs) (hs : s.length ≤ 1073741824) (hd : d.length ≤ 1073741824) : Con (E m) 127 0 [.s s, .s d] [] (.b (under s d)) [] := by
  cases hx : s[d.length]? with
  | none =>
    have hn := List.getElem?_eq_none_iff.1 hx
    refine con_of_cd tyOk mix Tryd.func127 rfl rfl rfl (Nat.le_of_ble_eq_true rfl) ?_
    repeat' first | refine Ra ⟨?_⟩ | ((first | (refine bd (fun h => ?_) (fun h => ?_) <;> (try simp only [List.length_map] at h)) | refine bsplit.mk (fun h => ?_) (fun h => ?_)) <;> conv => whnf) | refine Rb ⟨?_⟩ | fail
    all_goals
      first | refine CallEnd.here (fa ?_) | refine fa ?_
      conv => whnf
      first | exact ⟨rfl, rfl, rfl, rfl⟩ | refine ⟨rfl, rfl, congrArg some (congrArg D.s ?_), rfl⟩ | refine ⟨rfl, rfl, congrArg some (congrArg D.b ?_), rfl⟩ | refine ⟨rfl, rfl, congrArg some (congrArg (D.k _) ?_), rfl⟩ | refine ⟨rfl, rfl, congrArg some (congrArg D.agg ?_), rfl⟩ | refine ⟨rfl, rfl, rfl, ?_⟩
      all_goals first | rfl | (simp_all [under]; done) | (simp [under] <;> (repeat' split) <;> omega) | (simp only [under]; repeat' split) <;> first | omega | (simp_all; done) | (simp_all; omega) | (rw [Bool.eq_iff_iff]; simp [*, under] <;> omega)
  | some c =>
    have hn := (List.getElem?_eq_some_iff.1 hx).1
    refine con_of_cd tyOk mix Tryd.func127 rfl rfl rfl (Nat.le_of_ble_eq_true rfl) ?_
    repeat' first | refine Ra ⟨?_⟩ | ((first | (refine bd (fun h => ?_) (fun h => ?_) <;> (try simp only [List.length_map] at h)) | refine bsplit.mk (fun h => ?_) (fun h => ?_)) <;> conv => whnf) | refine Rb ⟨?_⟩ | fail
    all_goals
      first | refine CallEnd.here (fa ?_) | refine fa ?_
      conv => whnf
      first | exact ⟨rfl, rfl, rfl, rfl⟩ | refine ⟨rfl, rfl, congrArg some (congrArg D.s ?_), rfl⟩ | refine ⟨rfl, rfl, congrArg some (congrArg D.b ?_), rfl⟩ | refine ⟨rfl, rfl, congrArg some (congrArg (D.k _) ?_), rfl⟩ | refine ⟨rfl, rfl, congrArg some (congrArg D.agg ?_), rfl⟩ | refine ⟨rfl, rfl, rfl, ?_⟩
      all_goals first | rfl | (simp_all [under, c47]; done) | (simp [under, c47] <;> (repeat' split) <;> omega) | (simp only [under, c47]; repeat' split) <;> first | omega | (simp_all; done) | (simp_all; omega) | (rw [Bool.eq_iff_iff]; simp [*, under, c47] <;> omega)
theorem sl3Find_con (l : List Mrk) (p : Bs) (hl : l.length ≤ 1073741824) : Con (E m) 142 0 [.sl (l.map Mrk.c), .s p] [] (.k .i64 (markIx l p)) [] := by
  refine con_of_cd tyOk mix Tryd.func142 rfl rfl rfl (Nat.le_of_ble_eq_true rfl) ?_
  repeat' first | refine Ra ⟨?_⟩ | ((first | (refine bd (fun h => ?_) (fun h => ?_) <;> (try simp only [List.length_map] at h)) | refine bsplit.mk (fun h => ?_) (fun h => ?_)) <;> conv => whnf) | refine Rb ⟨?_⟩ | fail
  refine Cd.loop2 (fun mq tm S nx => ∃ (i : Nat), mq = (l.length - i) ∧ tm = [(0, .sl (l.map Mrk.c)), (1, .s p), (5, .k .i64 i)] ∧ S = [] ∧ nx = 0 ∧ (i ≤ l.length) ∧ (∀ k, k < i → ∀ e, l[k]? = some e → e.path ≠ p)) ?_ ?_
  · refine la [0, 1, 5] ?_
    conv => whnf
    refine ⟨rfl, rfl, _, 0, rfl, rfl, rfl, rfl, Nat.zero_le _, fun k h => absurd h (Nat.not_lt_zero _)⟩
  · rintro mq tm S nx ⟨i, hn, rfl, rfl, rfl, hi, ha⟩
    rcases drop_or l i hi with ⟨rfl, hd⟩ | ⟨x, r, hx, hd, hr, hlt⟩
    · repeat' first | refine Ra ⟨?_⟩ | ((first | (refine bd (fun h => ?_) (fun h => ?_) <;> (try simp only [List.length_map] at h)) | refine bsplit.mk (fun h => ?_) (fun h => ?_)) <;> conv => whnf) | refine Rb ⟨?_⟩ | fail
      have he : markIx l p = -1 := markIx_none fun k e h => ha k (List.getElem?_eq_some_iff.1 h).1 e h
      rw [he]
      exact Rf
    · repeat' first | refine Ra ⟨?_⟩ | ((first | (refine bd (fun h => ?_) (fun h => ?_) <;> (try simp only [List.length_map] at h)) | refine bsplit.mk (fun h => ?_) (fun h => ?_)) <;> conv => whnf) | refine Rb ⟨?_⟩ | fail
      · have he : markIx l p = i := markIx_at hx ‹_› fun k e h1 h2 => ha k h1 e h2
        rw [he]
        exact Rf
      · refine .here ⟨mq - 1, by omega, ?_⟩
        refine la [0, 1, 5] ?_
        conv => whnf
        refine ⟨rfl, rfl, i + 1, (by omega), rfl, rfl, rfl, by omega, all_lt ha (fun e h => by rw [hx] at h; cases h; assumption)⟩
theorem sl3Kind_con (l : List Mrk) (p : Bs) (hl : l.length ≤ 1073741824) : Con (E m) 126 0 [.sl (l.map Mrk.c), .s p] [] (.k .i64 (kindAt l p)) [] := by
  have h1 := sl3Find_con (m := m) l p hl
  rcases markIx_or l p with ⟨i, hx, hi, he⟩ | ⟨hx, he⟩
  · rw [hx] at h1
    have hk : kindAt l p = l[i].kind := by simp [kindAt, he]
    rw [hk]
    refine con_of_cd tyOk mix Tryd.func126 rfl rfl rfl (Nat.le_of_ble_eq_true rfl) ?_
    repeat' first | refine Ra ⟨?_⟩ | ((first | refine Rc [] 0 rfl rfl (h1) ?_ | (refine bd (fun h => ?_) (fun h => ?_) <;> (try simp only [List.length_map] at h)) | refine bsplit.mk (fun h => ?_) (fun h => ?_)) <;> conv => whnf) | refine Rb ⟨?_⟩ | fail
    exact Rf
  · rw [hx] at h1
    have hk : kindAt l p = 0 := by simp [kindAt, he]
    rw [hk]
    refine con_of_cd tyOk mix Tryd.func126 rfl rfl rfl (Nat.le_of_ble_eq_true rfl) ?_
    repeat' first | refine Ra ⟨?_⟩ | ((first | refine Rc [] 0 rfl rfl (h1) ?_ | (refine bd (fun h => ?_) (fun h => ?_) <;> (try simp only [List.length_map] at h)) | refine bsplit.mk (fun h => ?_) (fun h => ?_)) <;> conv => whnf) | refine Rb ⟨?_⟩ | fail
    exact Rf
theorem sl3Bare_con (l : List Mrk) (p : Bs) (hl : l.length ≤ 1073741824) (hp : p.length ≤ 1073741823) (hb : ∀ x ∈ l, x.path.length ≤ 1073741823) : Con (E m) 98 0 [.sl (l.map Mrk.c), .s p] [] (.b (bare l p)) [] := by
  refine con_of_cd tyOk mix Tryd.func98 rfl rfl rfl (Nat.le_of_ble_eq_true rfl) ?_
  repeat' first | refine Ra ⟨?_⟩ | ((first | (refine bd (fun h => ?_) (fun h => ?_) <;> (try simp only [List.length_map] at h)) | refine bsplit.mk (fun h => ?_) (fun h => ?_)) <;> conv => whnf) | refine Rb ⟨?_⟩ | fail
  refine Cd.loop2 (fun mq tm S nx => ∃ (i : Nat), mq = (l.length - i) ∧ tm = [(0, .sl (l.map Mrk.c)), (1, .s p), (5, .k .i64 i)] ∧ S = [] ∧ nx = 0 ∧ (i ≤ l.length) ∧ (bare l p = bare (l.drop i) p)) ?_ ?_
  · refine la [0, 1, 5] ?_
    conv => whnf
    refine ⟨rfl, rfl, _, 0, rfl, rfl, rfl, rfl, Nat.zero_le _, rfl⟩
  · rintro mq tm S nx ⟨i, hn, rfl, rfl, rfl, hi, ha⟩
    rcases drop_or l i hi with ⟨rfl, hd⟩ | ⟨x, r, hx, hd, hr, hlt⟩
    · rw [hd] at ha
      rw [ha]
      repeat' first | refine Ra ⟨?_⟩ | ((first | (refine bd (fun h => ?_) (fun h => ?_) <;> (try simp only [List.length_map] at h)) | refine bsplit.mk (fun h => ?_) (fun h => ?_)) <;> conv => whnf) | refine Rb ⟨?_⟩ | fail
      exact Rf
    · rw [hd] at ha
      have hbx := hb x (List.mem_of_getElem? hx)
      have c1 := sl1Under_con (m := m) p x.path (by omega) (by omega)
      repeat' first | refine Ra ⟨?_⟩ | ((first | refine Rc [] 0 rfl rfl (c1) ?_ | (refine bd (fun h => ?_) (fun h => ?_) <;> (try simp only [List.length_map] at h)) | refine bsplit.mk (fun h => ?_) (fun h => ?_)) <;> conv => whnf) | refine Rb ⟨?_⟩ | fail
      all_goals first
        | (refine RoundEnd.here ⟨mq - 1, by omega, ?_⟩
           refine la [0, 1, 5] ?_
           conv => whnf
           refine ⟨rfl, rfl, i + 1, (by omega), rfl, rfl, rfl, by omega, (by rw [ha, hr]; simp [bare, *])⟩)
        | (refine CallEnd.here (fa ?_)
           conv => whnf
           (try rw [ha])
           first | exact ⟨rfl, rfl, rfl, rfl⟩ | refine ⟨rfl, rfl, congrArg some (congrArg D.s ?_), rfl⟩ | refine ⟨rfl, rfl, congrArg some (congrArg D.b ?_), rfl⟩ | refine ⟨rfl, rfl, congrArg some (congrArg (D.k _) ?_), rfl⟩ | refine ⟨rfl, rfl, congrArg some ?_, rfl⟩
           all_goals first | rfl | (simp_all [bare]; done) | (simp [bare] <;> (repeat' split) <;> omega))
theorem sl3In_con (l : List Mrk) (p : Bs) (hl : l.length ≤ 1073741824) (hp : p.length ≤ 1073741823) : Con (E m) 97 0 [.sl (l.map Mrk.c), .s p] [] (.b (inM l p)) [] := by
  have c1 := sUp_con (m := m) p (by omega)
  have c2 := sl3Kind_con (m := m) l (pathUp p) hl
  have hx : inM l p = (decide (pathUp p = [47]) || (decide (kindAt l (pathUp p) = 2) || decide (kindAt l (pathUp p) = 4))) := by
    unfold inM kindAt
    cases markAt l (pathUp p) <;> simp [isDirMO, isDirM]
  rw [hx]
  refine con_of_cd tyOk mix Tryd.func97 rfl rfl rfl (Nat.le_of_ble_eq_true rfl) ?_
  repeat' first | refine Ra ⟨?_⟩ | ((first | refine Rc [] 0 rfl rfl (c1) ?_ | refine Rc [] 0 rfl rfl (c2) ?_ | (refine bd (fun h => ?_) (fun h => ?_) <;> (try simp only [List.length_map] at h)) | refine bsplit.mk (fun h => ?_) (fun h => ?_)) <;> conv => whnf) | refine Rb ⟨?_⟩ | fail
  all_goals
    exact Rf
end Go.Proofs.YtgeieehampfkcaaDoor
/- Contracts: right layers and their texts, as the document has them; the laws' own helpers for lists of marks. -/
set_option linter.unusedSimpArgs false
set_option linter.unusedVariables false
set_option maxHeartbeats 1000000
set_option maxRecDepth 10000
namespace Go.Proofs.YtgeieehampfkcaaDoor
open Go Go.RowKit Go.Ab Go.Par
variable {m : Int}
set_option maxHeartbeats 1000000 in
theorem sLayerOk_con (l : List Mrk) (hl : l.length ≤ 1073741824) (hb : ∀ e ∈ l, e.path.length ≤ 1073741823 ∧ e.data.length ≤ 1073741823) : Con (E m) 48 0 [.sl (l.map Mrk.c)] [] (.b (layerOk l)) [] := by
  refine con_of_cd tyOk mix Tryd.func48 rfl rfl rfl (Nat.le_of_ble_eq_true rfl) ?_
  repeat' first | refine Ra ⟨?_⟩ | ((first | (refine bd (fun h => ?_) (fun h => ?_) <;> (try simp only [List.length_map] at h)) | refine bsplit.mk (fun h => ?_) (fun h => ?_)) <;> conv => whnf) | refine Rb ⟨?_⟩ | fail
  refine Cd.loop2 (fun mq tm S nx => ∃ (i : Nat), mq = (l.length - i) ∧ tm = [(0, .sl (l.map Mrk.c)), (3, .k .i64 i)] ∧ S = [] ∧ nx = 0 ∧ (i ≤ l.length) ∧ (∀ k, k < i → okLS l k = true)) ?_ ?_
  · refine la [0, 3] ?_
    conv => whnf
    refine ⟨rfl, rfl, _, 0, rfl, rfl, rfl, rfl, Nat.zero_le _, fun k h => absurd h (Nat.not_lt_zero _)⟩
  · rintro mq tm S nx ⟨i, hn, rfl, rfl, rfl, hi, ha⟩
    by_cases hlt : i < l.length
    · have hq := hb l[i] (List.getElem_mem hlt)
      have h1 := sPathOk_con (m := m) l[i].path (by omega)
      have h2 := sData_con (m := m) l[i].data (by omega)
      have h3 := sl3In_con (m := m) (l.take i) l[i].path (by rw [List.length_take]; omega) (by omega)
      have h4 := sl3Bare_con (m := m) (l.take i) l[i].path (by rw [List.length_take]; omega) (by omega) (fun x hx => (hb x (List.mem_of_mem_take hx)).1)
      rw [List.map_take] at h3 h4
      repeat' first | refine Ra ⟨?_⟩ | ((first | refine Rc [] 0 rfl rfl (h1) ?_ | refine Rc [] 0 rfl rfl (h2) ?_ | refine Rc [] 0 rfl rfl (h3) ?_ | refine Rc [] 0 rfl rfl (h4) ?_ | refine ⟨i - 1, _, by omega, map_get (by omega), rfl, ?_⟩ | (refine bd (fun h => ?_) (fun h => ?_) <;> (try simp only [List.length_map] at h)) | refine bsplit.mk (fun h => ?_) (fun h => ?_)) <;> conv => whnf) | refine Rb ⟨?_⟩ | fail
      all_goals first
        | (have hf : okLS l i = false := by
             clear h1 h2 h3 h4 hb ha hn
             rw [okLS_at hlt]
             try have hi0 : 0 < i := by omega
             try have hi0 : i = 0 := by omega
             first | (rw [markOk_bad ‹_›]; simp; done) | (unfold markOk; simp_all [lt]; done) | (unfold markOk; simp_all [lt]; omega)
           have hg := layerOk_false hlt hf
           rw [hg]
           refine CallEnd.here (fa ?_)
           conv => whnf
           exact ⟨rfl, rfl, rfl, rfl⟩)
        | (have hf : okLS l i = true := by
             clear h1 h2 h3 h4 hb ha hn
             rw [okLS_at hlt]
             unfold markOk
             try have hi0 : 0 < i := by omega
             try have hi0 : i = 0 := by omega
             first | (simp_all [lt]; done) | (simp_all [lt]; omega)
           refine .here ⟨mq - 1, by omega, ?_⟩
           refine la [0, 3] ?_
           conv => whnf
           refine ⟨rfl, rfl, i + 1, (by omega), rfl, rfl, rfl, by omega, all_lt ha hf⟩)
    · repeat' first | refine Ra ⟨?_⟩ | ((first | (refine bd (fun h => ?_) (fun h => ?_) <;> (try simp only [List.length_map] at h)) | refine bsplit.mk (fun h => ?_) (fun h => ?_)) <;> conv => whnf) | refine Rb ⟨?_⟩ | fail
      have hi2 : i = l.length := by omega
      subst hi2
      by_cases h32 : l.length ≤ 32
      · have hf : layerOk l = true := layerOk_true h32 ha
        rw [hf]
        exact Rf
      · have hf : layerOk l = false := by simp [layerOk, h32]
        rw [hf]
        exact Rf
theorem sLayerText_con (t : List Mrk) (hb : ∀ e ∈ t, e.path.length ≤ 1073741823 ∧ e.data.length ≤ 1073741823) (hl : t.length ≤ 1073741824) : Con (E m) 32 0 [.sl (t.map Mrk.c)] [] (.s (layerText t)) [] := by
  have h1 := sLayerOk_con (m := m) t hl hb
  cases hok : layerOk t with
  | false =>
    rw [hok] at h1
    have hx : layerText t = [] := by simp [layerText, hok]
    rw [hx]
    refine con_of_cd tyOk mix Tryd.func32 rfl rfl rfl (Nat.le_of_ble_eq_true rfl) ?_
    repeat' first | refine Ra ⟨?_⟩ | ((first | (refine bd (fun h => ?_) (fun h => ?_) <;> (try simp only [List.length_map] at h)) | refine bsplit.mk (fun h => ?_) (fun h => ?_)) <;> conv => whnf) | refine Rb ⟨?_⟩ | fail
    refine Cd.loop2 (fun mq tm S nx => mq = (0) ∧ tm = [(0, .sl (t.map Mrk.c)), (3, .s []), (4, .k .i64 0)] ∧ S = [] ∧ nx = 0) ?_ ?_
    · refine la [0, 3, 4] ?_
      conv => whnf
      refine ⟨rfl, rfl, _, rfl, rfl, rfl, rfl⟩
    · rintro mq tm S nx ⟨hn, rfl, rfl, rfl⟩
      repeat' first | refine Ra ⟨?_⟩ | ((first | refine Rc [] 0 rfl rfl (h1) ?_ | (refine bd (fun h => ?_) (fun h => ?_) <;> (try simp only [List.length_map] at h)) | refine bsplit.mk (fun h => ?_) (fun h => ?_)) <;> conv => whnf) | refine Rb ⟨?_⟩ | fail
      all_goals
        exact Rf
  | true =>
    rw [hok] at h1
    have hlen := layerOk_len hok
    have hent := layerOk_mark hok
    have hx : layerText t = (t.map fun e => markText e ++ [10]).flatten := by simp [layerText, hok]
    rw [hx]
    refine con_of_cd tyOk mix Tryd.func32 rfl rfl rfl (Nat.le_of_ble_eq_true rfl) ?_
    repeat' first | refine Ra ⟨?_⟩ | ((first | (refine bd (fun h => ?_) (fun h => ?_) <;> (try simp only [List.length_map] at h)) | refine bsplit.mk (fun h => ?_) (fun h => ?_)) <;> conv => whnf) | refine Rb ⟨?_⟩ | fail
    refine Cd.loop2 (fun mq tm S nx => ∃ (i : Nat) (acc : Bs), mq = (t.length - i) ∧ tm = [(0, .sl (t.map Mrk.c)), (3, .s acc), (4, .k .i64 i)] ∧ S = [] ∧ nx = 0 ∧ (acc = ((t.take i).map fun e => markText e ++ [10]).flatten) ∧ (i ≤ t.length)) ?_ ?_
    · refine la [0, 3, 4] ?_
      conv => whnf
      refine ⟨rfl, rfl, _, 0, [], rfl, rfl, rfl, rfl, rfl, Nat.zero_le _⟩
    · rintro mq tm S nx ⟨i, acc, hn, rfl, rfl, rfl, hac, hi⟩
      have hfl := marks_len hent i
      rw [← hac] at hfl
      rcases drop_or t i hi with ⟨rfl, hd⟩ | ⟨x, r, hxi, hd, hr, hlt⟩
      · rw [List.take_length] at hac
        repeat' first | refine Ra ⟨?_⟩ | ((first | refine Rc [] 0 rfl rfl (h1) ?_ | (refine bd (fun h => ?_) (fun h => ?_) <;> (try simp only [List.length_map] at h)) | refine bsplit.mk (fun h => ?_) (fun h => ?_)) <;> conv => whnf) | refine Rb ⟨?_⟩ | fail
        rw [← hac]
        exact Rf
      · have hq := markOk_len (hent x (List.mem_of_getElem? hxi))
        have hql := markText_len x
        repeat' first | refine Ra ⟨?_⟩ | ((first | refine Rc [] 0 rfl rfl (h1) ?_ | refine Rc [] 0 rfl rfl (sMarkText_con x (by omega) (by omega)) ?_ | (refine bd (fun h => ?_) (fun h => ?_) <;> (try simp only [List.length_map] at h)) | refine bsplit.mk (fun h => ?_) (fun h => ?_)) <;> conv => whnf) | refine Rb ⟨?_⟩ | fail
        refine .here ⟨mq - 1, by omega, ?_⟩
        refine la [0, 3, 4] ?_
        conv => whnf
        refine ⟨rfl, rfl, i + 1, acc ++ markText x ++ [10], (by omega), rfl, rfl, rfl, ?_, by omega⟩
        rw [take_succ hxi, hac]
        simp only [List.map_append, List.map_cons, List.map_nil, List.flatten_append, List.flatten_cons, List.flatten_nil, List.append_nil, ← List.append_assoc]
theorem szMarkS_con (es : List Mrk) (n : Int) (hn : 0 ≤ n ∧ n ≤ 1048576) (hl : es.length ≤ 9223372036854775807) (hb : ∀ e ∈ es, e.path.length ≤ 9223372036854775807 ∧ e.data.length ≤ 9223372036854775807) :
    Con (E m) 31 0 [.sl (es.map Mrk.c), .k .i64 n] [] (.k .i64 (szMarks es n)) [] := by
  refine con_of_cd tyOk mix Tryd.func31 rfl rfl rfl (Nat.le_of_ble_eq_true rfl) ?_
  repeat' first | refine Ra ⟨?_⟩ | ((first | (refine bd (fun h => ?_) (fun h => ?_) <;> (try simp only [List.length_map] at h)) | refine bsplit.mk (fun h => ?_) (fun h => ?_)) <;> conv => whnf) | refine Rb ⟨?_⟩ | fail
  · have hf : szMarks es n = -1 := if_pos ‹_›
    rw [hf]
    exact Rf
  · have hf : szMarks es n = szAllM es (n - es.length) := if_neg ‹_›
    rw [hf]
    refine Cd.loop2 (fun mq tm S nx => ∃ (i : Nat) (l : Int), mq = (es.length - i) ∧ tm = [(0, .sl (es.map Mrk.c)), (1, .k .i64 l), (5, .k .i64 i)] ∧ S = [] ∧ nx = 0 ∧ (i ≤ es.length) ∧ (0 ≤ l) ∧ (l ≤ 1048576) ∧ (szAllM es (n - es.length) = szAllM (es.drop i) l)) ?_ ?_
    · refine la [0, 1, 5] ?_
      conv => whnf
      refine ⟨rfl, rfl, _, 0, n - (es.map Mrk.c).length, rfl, rfl, rfl, rfl, Nat.zero_le _, (by rw [List.length_map]; omega), (by rw [List.length_map]; omega), (by rw [List.length_map]; rfl)⟩
    · rintro mq tm S nx ⟨i, l, hn, rfl, rfl, rfl, hi, h0, h1, ha⟩
      rcases drop_or es i hi with ⟨rfl, hd⟩ | ⟨x, r, hx, hd, hr, hlt⟩
      · rw [hd] at ha
        rw [ha]
        repeat' first | refine Ra ⟨?_⟩ | ((first | (refine bd (fun h => ?_) (fun h => ?_) <;> (try simp only [List.length_map] at h)) | refine bsplit.mk (fun h => ?_) (fun h => ?_)) <;> conv => whnf) | refine Rb ⟨?_⟩ | fail
        exact Rf
      · have hbe := hb x (List.mem_of_getElem? hx)
        rw [hd, szAllM] at ha
        have hle := less2_le l x.path.length x.data.length h0
        repeat' first | refine Ra ⟨?_⟩ | ((first | refine Rc [] 0 rfl rfl (szMark_con x l ⟨h0, h1⟩ hbe.1 hbe.2) ?_ | (refine bd (fun h => ?_) (fun h => ?_) <;> (try simp only [List.length_map] at h)) | refine bsplit.mk (fun h => ?_) (fun h => ?_)) <;> conv => whnf) | refine Rb ⟨?_⟩ | fail
        · rw [if_pos ‹_›] at ha
          rw [ha]
          exact Rf
        · rw [if_neg ‹_›, ← hr] at ha
          refine .here ⟨mq - 1, by omega, ?_⟩
          refine la [0, 1, 5] ?_
          conv => whnf
          refine ⟨rfl, rfl, i + 1, less2 l x.path.length x.data.length, (by omega), rfl, rfl, rfl, by omega, by omega, by omega, ha⟩
theorem toMarkS_con (es : List Mrk) (hl : es.length ≤ 1048576) : Con (E m) 33 0 [.sl (es.map Mrk.c)] [] (.own 0) [(0, .own 96 (es.map Mrk.c))] := by
  refine con_of_cd tyOk mix Tryd.func33 rfl rfl rfl (Nat.le_of_ble_eq_true rfl) ?_
  repeat' first | refine Ra ⟨?_⟩ | ((first | refine ⟨es.length, by simp only [List.length_map], by simp only [List.length_map], (by unfold room; omega), Nat.le_of_ble_eq_true rfl, ?_⟩ | (refine bd (fun h => ?_) (fun h => ?_) <;> (try simp only [List.length_map] at h)) | refine bsplit.mk (fun h => ?_) (fun h => ?_)) <;> conv => whnf) | refine Rb ⟨?_⟩ | fail
  refine Cd.loop2 (fun mq tm S nx => ∃ (i : Nat) (xs : List (List D)), mq = (es.length - i) ∧ tm = [(0, .sl (es.map Mrk.c)), (3, .own 0), (4, .k .i64 i)] ∧ S = [(0, .own 96 xs)] ∧ nx = 1 ∧ (i ≤ es.length) ∧ (xs = (es.take i).map Mrk.c ++ List.replicate (es.length - i) [.s [], .k .i64 0, .s []])) ?_ ?_
  · refine la [0, 3, 4] ?_
    conv => whnf
    refine ⟨rfl, rfl, _, 0, _, rfl, rfl, rfl, rfl, Nat.zero_le _, rfl⟩
  · rintro mq tm S nx ⟨i, xs, hn, rfl, rfl, rfl, hi, hxs⟩
    have hxl : xs.length = es.length := by rw [hxs]; simp; omega
    by_cases hlt : i < es.length
    · have hg : xs[i]? = some [.s [], .k .i64 0, .s []] := by rw [hxs]; exact fill_get hlt
      repeat' first | refine Ra ⟨?_⟩ | ((first | refine Rc [] 0 rfl rfl (toMark_con es[i]) ?_ | refine ⟨_, hg, Nat.le_of_ble_eq_true rfl, ?_⟩ | (refine bd (fun h => ?_) (fun h => ?_) <;> (try simp only [List.length_map] at h)) | refine bsplit.mk (fun h => ?_) (fun h => ?_)) <;> conv => whnf) | refine Rb ⟨?_⟩ | fail
      refine .here ⟨mq - 1, by omega, ?_⟩
      refine la [0, 3, 4] ?_
      conv => whnf
      refine ⟨rfl, rfl, i + 1, _, (by omega), rfl, rfl, rfl, by omega, (by rw [hxs]; exact fill_set hlt)⟩
    · have hx : xs = es.map Mrk.c := by
        rw [hxs, List.take_of_length_le (by omega)]
        have : es.length - i = 0 := by omega
        simp [this]
      subst hx
      repeat' first | refine Ra ⟨?_⟩ | ((first | (refine bd (fun h => ?_) (fun h => ?_) <;> (try simp only [List.length_map] at h)) | refine bsplit.mk (fun h => ?_) (fun h => ?_)) <;> conv => whnf) | refine Rb ⟨?_⟩ | fail
      exact Rf
theorem eqMark_con (a b : Mrk) : Con (E m) 79 0 [.agg a.c, .agg b.c] [] (.b (eqM a b)) [] := by
  refine con_of_cd tyOk mix Tryd.func79 rfl rfl rfl (Nat.le_of_ble_eq_true rfl) ?_
  repeat' first | refine Ra ⟨?_⟩ | ((first | (refine bd (fun h => ?_) (fun h => ?_) <;> (try simp only [List.length_map] at h)) | refine bsplit.mk (fun h => ?_) (fun h => ?_)) <;> conv => whnf) | refine Rb ⟨?_⟩ | fail
  all_goals
    first | refine CallEnd.here (fa ?_) | refine fa ?_
    conv => whnf
    first | exact ⟨rfl, rfl, rfl, rfl⟩ | refine ⟨rfl, rfl, congrArg some (congrArg D.s ?_), rfl⟩ | refine ⟨rfl, rfl, congrArg some (congrArg D.b ?_), rfl⟩ | refine ⟨rfl, rfl, congrArg some (congrArg (D.k _) ?_), rfl⟩ | refine ⟨rfl, rfl, congrArg some (congrArg D.agg ?_), rfl⟩ | refine ⟨rfl, rfl, rfl, ?_⟩
    all_goals first | rfl | (simp_all [eqM]; done) | (simp [eqM] <;> (repeat' split) <;> omega) | (simp only [eqM]; repeat' split) <;> first | omega | (simp_all; done) | (simp_all; omega) | (rw [Bool.eq_iff_iff]; simp [*, eqM] <;> omega)
theorem eqMarkS_con (t : List Mrk) (hl : t.length ≤ 1048576) : Con (E m) 35 0 [.sl (t.map Mrk.c), .sl (t.map Mrk.c)] [] (.b true) [] := by
  refine con_of_cd tyOk mix Tryd.func35 rfl rfl rfl (Nat.le_of_ble_eq_true rfl) ?_
  repeat' first | refine Ra ⟨?_⟩ | ((first | (refine bd (fun h => ?_) (fun h => ?_) <;> (try simp only [List.length_map] at h)) | refine bsplit.mk (fun h => ?_) (fun h => ?_)) <;> conv => whnf) | refine Rb ⟨?_⟩ | fail
  refine Cd.loop2 (fun mq tm S nx => ∃ (i : Nat), mq = (t.length - i) ∧ tm = [(0, .sl (t.map Mrk.c)), (1, .sl (t.map Mrk.c)), (5, .k .i64 i)] ∧ S = [] ∧ nx = 0 ∧ (i ≤ t.length)) ?_ ?_
  · refine la [0, 1, 5] ?_
    conv => whnf
    refine ⟨rfl, rfl, _, 0, rfl, rfl, rfl, rfl, Nat.zero_le _⟩
  · rintro mq tm S nx ⟨i, hn, rfl, rfl, rfl, hi⟩
    rcases drop_or t i hi with ⟨rfl, hd⟩ | ⟨x, r, hx, hd, hr, hlt⟩
    · repeat' first | refine Ra ⟨?_⟩ | ((first | (refine bd (fun h => ?_) (fun h => ?_) <;> (try simp only [List.length_map] at h)) | refine bsplit.mk (fun h => ?_) (fun h => ?_)) <;> conv => whnf) | refine Rb ⟨?_⟩ | fail
      exact Rf
    · have he := eqMark_con (m := m) x x
      rw [eqM_self] at he
      repeat' first | refine Ra ⟨?_⟩ | ((first | refine Rc [] 0 rfl rfl (he) ?_ | (refine bd (fun h => ?_) (fun h => ?_) <;> (try simp only [List.length_map] at h)) | refine bsplit.mk (fun h => ?_) (fun h => ?_)) <;> conv => whnf) | refine Rb ⟨?_⟩ | fail
      refine .here ⟨mq - 1, by omega, ?_⟩
      refine la [0, 1, 5] ?_
      conv => whnf
      refine ⟨rfl, rfl, i + 1, (by omega), rfl, rfl, rfl, by omega⟩
theorem lMark_cells {cs : List D} (h : Shp Tryd.prog 94 cs) : ∃ e : Mrk, cs = e.c ∧ e.path.length ≤ 9223372036854775807 ∧ e.data.length ≤ 9223372036854775807 := by
  have h1 := h.struct_inv Tryd.underlying94
  have h2 : ShpF Tryd.prog [9, 3, 9] cs := h1
  obtain ⟨a, _, rfl, ha, b, _, rfl, hb, c, _, rfl, hc, rfl⟩ := h2
  obtain ⟨p, rfl, hp⟩ := ha.str_inv Tryd.underlying9
  obtain ⟨x, rfl, _⟩ := hb.int_inv Tryd.underlying3
  obtain ⟨q, rfl, hq⟩ := hc.str_inv Tryd.underlying9
  exact ⟨⟨p, x, q⟩, rfl, hp, hq⟩
theorem lMarks_cells : ∀ (xs : List (List D)), (∀ cs ∈ xs, Shp Tryd.prog 94 cs) → ∃ es : List Mrk, xs = es.map Mrk.c ∧ ∀ e ∈ es, e.path.length ≤ 9223372036854775807 ∧ e.data.length ≤ 9223372036854775807
  | [], _ => ⟨[], rfl, by simp⟩
  | cs :: xs, h => by
    obtain ⟨e, rfl, h1, h2⟩ := lMark_cells (h cs (by simp))
    obtain ⟨es, rfl, h3⟩ := lMarks_cells xs fun c hc => h c (by simp [hc])
    refine ⟨e :: es, rfl, fun x hx => ?_⟩
    rcases List.mem_cons.1 hx with rfl | hx
    · exact ⟨h1, h2⟩
    · exact h3 x hx
theorem lMarks_shp {d : D} (h : ShpV Tryd.prog 49 d) : ∃ es : List Mrk, d = .sl (es.map Mrk.c) ∧ es.length ≤ 9223372036854775807 ∧ ∀ e ∈ es, e.path.length ≤ 9223372036854775807 ∧ e.data.length ≤ 9223372036854775807 := by
  have h1 := h.one (fun fs => by rw [Tryd.underlying49]; simp)
  obtain ⟨xs, hx, hl, hc⟩ := h1.slice_inv Tryd.underlying49
  obtain ⟨es, rfl, he⟩ := lMarks_cells xs hc
  cases hx
  rw [List.length_map] at hl
  exact ⟨es, rfl, hl, he⟩
end Go.Proofs.YtgeieehampfkcaaDoor
/- Contracts: texts of trees and layers, read. -/
set_option linter.unusedSimpArgs false
set_option linter.unusedVariables false
set_option maxHeartbeats 1000000
set_option maxRecDepth 10000
namespace Go.Proofs.YtgeieehampfkcaaDoor
open Go Go.RowKit Go.Ab Go.Par
variable {m : Int}
abbrev strs (w : List Bs) : List (List D) := w.map fun l => [.s l]
theorem liteIndex_con (s : Bs) (c : UInt8) : Con (E m) 148 0 [.s s, .s [c]] [] (.k .i64 (Lib.indexByte s c)) [] := by
  refine con_still ⟨_, Tryd.func148, rfl, rfl⟩ fun w vs Av hM => ?_
  match vs, hM.len, hM with
  | [u0, u1], _, hM =>
    obtain rfl := (hM.arg 0 _ u0 rfl rfl).s_inv
    obtain rfl := (hM.arg 1 _ u1 rfl rfl).s_inv
    exact (Tryd.stringslite_Index_one ⟨s.toArray⟩ c w).mono fun e w' ⟨he, hw⟩ => ⟨hw, _, he, .gr (.atom (.im (.k _ _)))⟩
theorem cutHit_con (a r : Bs) (c : UInt8) (h : c ∉ a) (hl : a.length + r.length ≤ 1073741824) : Con (E m) 119 0 [.s (a ++ c :: r), .s [c]] [] (.tup [.s a, .s r, .b true]) [] := by
  have c1 := liteIndex_con (m := m) (a ++ c :: r) c
  rw [index_at h] at c1
  have e1 : ((a ++ c :: r).take a.length).drop 0 = a := by simp
  have e2 : ((a ++ c :: r).take (a ++ c :: r).length).drop (a.length + 1) = r := by rw [List.take_length]; simp
  have hlen : (a ++ c :: r).length = a.length + r.length + 1 := by simp; omega
  have c2 : Con (E m) 137 0 [.s (a ++ c :: r), .s [c]] [] (.tup [.s (((a ++ c :: r).take a.length).drop 0), .s (((a ++ c :: r).take (a ++ c :: r).length).drop (a.length + 1)), .b true]) [] := by
    refine con_of_cd tyOk mix Tryd.func137 rfl rfl rfl (Nat.le_of_ble_eq_true rfl) ?_
    repeat' first | refine Ra ⟨?_⟩ | ((first | refine Rc [] 0 rfl rfl (c1) ?_ | refine ⟨a.length, rfl, Nat.zero_le _, by omega, ?_⟩ | refine ⟨a.length + 1, by simp, by omega, Nat.le_refl _, ?_⟩ | (refine bd (fun h => ?_) (fun h => ?_) <;> (try simp only [List.length_map] at h)) | refine bsplit.mk (fun h => ?_) (fun h => ?_)) <;> conv => whnf) | refine Rb ⟨?_⟩ | fail
    exact Rf
  rw [e1, e2] at c2
  refine con_of_cd tyOk mix Tryd.func119 rfl rfl rfl (Nat.le_of_ble_eq_true rfl) ?_
  repeat' first | refine Ra ⟨?_⟩ | ((first | refine Rc [] 0 rfl rfl (c2) ?_ | (refine bd (fun h => ?_) (fun h => ?_) <;> (try simp only [List.length_map] at h)) | refine bsplit.mk (fun h => ?_) (fun h => ?_)) <;> conv => whnf) | refine Rb ⟨?_⟩ | fail
  exact Rf
theorem cutMiss_con (s : Bs) (c : UInt8) (h : c ∉ s) : Con (E m) 119 0 [.s s, .s [c]] [] (.tup [.s s, .s [], .b false]) [] := by
  have c1 := liteIndex_con (m := m) s c
  rw [index_none h] at c1
  have c2 : Con (E m) 137 0 [.s s, .s [c]] [] (.tup [.s s, .s [], .b false]) [] := by
    refine con_of_cd tyOk mix Tryd.func137 rfl rfl rfl (Nat.le_of_ble_eq_true rfl) ?_
    repeat' first | refine Ra ⟨?_⟩ | ((first | refine Rc [] 0 rfl rfl (c1) ?_ | (refine bd (fun h => ?_) (fun h => ?_) <;> (try simp only [List.length_map] at h)) | refine bsplit.mk (fun h => ?_) (fun h => ?_)) <;> conv => whnf) | refine Rb ⟨?_⟩ | fail
    exact Rf
  refine con_of_cd tyOk mix Tryd.func119 rfl rfl rfl (Nat.le_of_ble_eq_true rfl) ?_
  repeat' first | refine Ra ⟨?_⟩ | ((first | refine Rc [] 0 rfl rfl (c2) ?_ | (refine bd (fun h => ?_) (fun h => ?_) <;> (try simp only [List.length_map] at h)) | refine bsplit.mk (fun h => ?_) (fun h => ?_)) <;> conv => whnf) | refine Rb ⟨?_⟩ | fail
  exact Rf
theorem sLines_con (s : Bs) (hs : s.length ≤ 1073741823) : Con (E m) 80 0 [.s s] [] (.tup [.sl (strs (linesOf s)), .b (decide (lastOf s = []))]) [] := by
  have c1 := sCut_con (m := m) s 10 (by omega)
  have hl := cut_len 10 s
  have hp : 0 < (cut 10 s).length := List.length_pos_iff.2 (cut_ne 10 s)
  have hm : (strs (cut 10 s)).length = (cut 10 s).length := List.length_map ..
  have hg : (strs (cut 10 s))[(cut 10 s).length - 1]? = some [.s (lastOf s)] := by rw [List.getElem?_map, lastOf_at]; rfl
  have hx : strs (linesOf s) = ((strs (cut 10 s)).take ((cut 10 s).length - 1)).drop 0 := by rw [List.drop_zero, strs, linesOf_take, List.map_take]
  rw [hx]
  refine con_of_cd tyOk mix Tryd.func80 rfl rfl rfl (Nat.le_of_ble_eq_true rfl) ?_
  refine Cd.seqS ?_
  repeat' first | refine Ra ⟨?_⟩ | ((first | (refine bd (fun h => ?_) (fun h => ?_) <;> (try simp only [List.length_map] at h)) | refine bsplit.mk (fun h => ?_) (fun h => ?_)) <;> conv => whnf) | refine Rb ⟨?_⟩ | fail
  all_goals (try refine Stop.here ?_)
  refine Cd.cut (fun tm S nx => tm = [(4, .sl (strs (cut 10 s)))] ∧ S = [] ∧ nx = 0) ?_ ?_
  · repeat' first | refine Ra ⟨?_⟩ | ((first | refine Rc [] 1 rfl rfl (c1) ?_ | (refine bd (fun h => ?_) (fun h => ?_) <;> (try simp only [List.length_map] at h)) | refine bsplit.mk (fun h => ?_) (fun h => ?_)) <;> conv => whnf) | refine Rb ⟨?_⟩ | fail
    refine CutEnd.here (li [4] [4] ?_)
    conv => whnf
    exact ⟨rfl, rfl, rfl, rfl, rfl⟩
  rintro tm S nx ⟨rfl, rfl, rfl⟩
  repeat' first | refine Ra ⟨?_⟩ | ((first | refine ⟨(cut 10 s).length - 1, by omega, Nat.zero_le _, by omega, ?_⟩ | refine ⟨(cut 10 s).length - 1, _, by omega, hg, rfl, ?_⟩ | (refine bd (fun h => ?_) (fun h => ?_) <;> (try simp only [List.length_map] at h)) | refine bsplit.mk (fun h => ?_) (fun h => ?_)) <;> conv => whnf) | refine Rb ⟨?_⟩ | fail
  exact Rf
theorem sTreeRead_con (s : Bs) (hs : s.length ≤ 1048576) : Con (E m) 36 0 [.s s] [] (.tup [.own 0, .b (treeReadS s).isSome]) [(0, .own 41 (((treeReadS s).getD []).map Ent.c))] := by
  have c1 := sLines_con (m := m) s (by omega)
  have hll := linesOf_len s
  have hpc := lines_piece s
  have hob : ∀ e ∈ outE s, e.path.length ≤ 1073741824 ∧ e.data.length ≤ 1073741824 := by
    intro e he
    obtain ⟨a, ha, rfl⟩ := List.mem_map.1 he
    have h1 := hpc a (List.mem_of_mem_take ha)
    have h2 := ent3_len a
    simp only [lineE]
    omega
  have c3 := sTreeOk_con (m := m) (outE s) hob
  have c4 := sTreeText_con (m := m) (outE s) hob (by unfold outE; simp; omega)
  refine con_of_cd tyOk mix Tryd.func36 rfl rfl rfl (Nat.le_of_ble_eq_true rfl) ?_
  repeat' first | refine Ra ⟨?_⟩ | ((first | refine Rc [] 0 rfl rfl (c1) ?_ | (refine bd (fun h => ?_) (fun h => ?_) <;> (try simp only [List.length_map] at h)) | refine bsplit.mk (fun h => ?_) (fun h => ?_)) <;> conv => whnf) | refine Rb ⟨?_⟩ | fail
  refine Cd.loop2 (fun mq tm S nx => ∃ (i : Nat) (xs : List (List D)), mq = ((linesOf s).length - i) ∧ tm = [(0, .s s), (4, .sl (strs (linesOf s))), (5, .b (decide (lastOf s = []))), (6, .own 0), (7, .k .i64 i)] ∧ S = [(0, .own 41 xs)] ∧ nx = 1 ∧ (i ≤ (linesOf s).length) ∧ (i ≤ 17) ∧ (xs = (((linesOf s).take i).map lineE).map Ent.c)) ?_ ?_
  · refine la [0, 4, 5, 6, 7] ?_
    conv => whnf
    refine ⟨rfl, rfl, _, 0, [], rfl, rfl, rfl, rfl, Nat.zero_le _, Nat.zero_le _, rfl⟩
  · rintro mq tm S nx ⟨i, xs, hn, rfl, rfl, rfl, hi, hi2, hxs⟩
    have hxl : xs.length = i := by rw [hxs]; simp; omega
    have hout : (linesOf s).length = i ∨ i = 17 → outE s = ((linesOf s).take i).map lineE := by
      intro h
      unfold outE
      rcases h with h | h
      · rw [List.take_of_length_le (by omega), List.take_of_length_le (by omega)]
      · rw [h]
    have fin : outE s = ((linesOf s).take i).map lineE → xs = (outE s).map Ent.c := fun h => by rw [hxs, ← h]
    have hm : (strs (linesOf s)).length = (linesOf s).length := List.length_map ..
    by_cases h17 : i = 17
    · have hf := fin (hout (.inr h17))
      subst hf
      clear hxs hxl
      by_cases hz : lastOf s = [] ∧ treeOk (outE s) = true ∧ treeText (outE s) = s
      · rw [show treeReadS s = some (outE s) from if_pos hz]
        obtain ⟨h1, h2, h3⟩ := hz
        rw [h2] at c3
        rw [h3] at c4
        repeat' first | refine Ra ⟨?_⟩ | ((first | refine ⟨[], _, _, _, _, 0, ⟨rfl, rfl, rfl, c3, rfl, rfl⟩, .inl ⟨by simp [NoImmD, NoImmG, NoImmA], by simp [NoImmS, NoImmB, NoImmA], ?_⟩⟩ | refine ⟨[], _, _, _, _, 0, ⟨rfl, rfl, rfl, c4, rfl, rfl⟩, .inl ⟨by simp [NoImmD, NoImmG, NoImmA], by simp [NoImmS, NoImmB, NoImmA], ?_⟩⟩ | (refine bd (fun h => ?_) (fun h => ?_) <;> (try simp only [List.length_map] at h)) | refine bsplit.mk (fun h => ?_) (fun h => ?_)) <;> conv => whnf) | refine Rb ⟨?_⟩ | fail
        all_goals
          exact Rf
      · rw [show treeReadS s = none from if_neg hz]
        repeat' first | refine Ra ⟨?_⟩ | ((first | refine ⟨[], _, _, _, _, 0, ⟨rfl, rfl, rfl, c3, rfl, rfl⟩, .inl ⟨by simp [NoImmD, NoImmG, NoImmA], by simp [NoImmS, NoImmB, NoImmA], ?_⟩⟩ | refine ⟨[], _, _, _, _, 0, ⟨rfl, rfl, rfl, c4, rfl, rfl⟩, .inl ⟨by simp [NoImmD, NoImmG, NoImmA], by simp [NoImmS, NoImmB, NoImmA], ?_⟩⟩ | (refine bd (fun h => ?_) (fun h => ?_) <;> (try simp only [List.length_map] at h)) | refine bsplit.mk (fun h => ?_) (fun h => ?_)) <;> conv => whnf) | refine Rb ⟨?_⟩ | fail
        all_goals first
          | exact absurd ⟨‹_›, ‹_›, ‹_›⟩ hz
          | (refine CallEnd.here (fa ?_)
             conv => whnf
             exact ⟨rfl, rfl, rfl, rfl⟩)
    · rcases drop_or (linesOf s) i hi with ⟨hil, hd⟩ | ⟨x, r, hxi, hd, hr, hlt⟩
      · have hf := fin (hout (.inl hil.symm))
        subst hf
        clear hxs hxl
        by_cases hz : lastOf s = [] ∧ treeOk (outE s) = true ∧ treeText (outE s) = s
        · rw [show treeReadS s = some (outE s) from if_pos hz]
          obtain ⟨h1, h2, h3⟩ := hz
          rw [h2] at c3
          rw [h3] at c4
          repeat' first | refine Ra ⟨?_⟩ | ((first | refine ⟨[], _, _, _, _, 0, ⟨rfl, rfl, rfl, c3, rfl, rfl⟩, .inl ⟨by simp [NoImmD, NoImmG, NoImmA], by simp [NoImmS, NoImmB, NoImmA], ?_⟩⟩ | refine ⟨[], _, _, _, _, 0, ⟨rfl, rfl, rfl, c4, rfl, rfl⟩, .inl ⟨by simp [NoImmD, NoImmG, NoImmA], by simp [NoImmS, NoImmB, NoImmA], ?_⟩⟩ | (refine bd (fun h => ?_) (fun h => ?_) <;> (try simp only [List.length_map] at h)) | refine bsplit.mk (fun h => ?_) (fun h => ?_)) <;> conv => whnf) | refine Rb ⟨?_⟩ | fail
          all_goals
            exact Rf
        · rw [show treeReadS s = none from if_neg hz]
          repeat' first | refine Ra ⟨?_⟩ | ((first | refine ⟨[], _, _, _, _, 0, ⟨rfl, rfl, rfl, c3, rfl, rfl⟩, .inl ⟨by simp [NoImmD, NoImmG, NoImmA], by simp [NoImmS, NoImmB, NoImmA], ?_⟩⟩ | refine ⟨[], _, _, _, _, 0, ⟨rfl, rfl, rfl, c4, rfl, rfl⟩, .inl ⟨by simp [NoImmD, NoImmG, NoImmA], by simp [NoImmS, NoImmB, NoImmA], ?_⟩⟩ | (refine bd (fun h => ?_) (fun h => ?_) <;> (try simp only [List.length_map] at h)) | refine bsplit.mk (fun h => ?_) (fun h => ?_)) <;> conv => whnf) | refine Rb ⟨?_⟩ | fail
          all_goals first
            | exact absurd ⟨‹_›, ‹_›, ‹_›⟩ hz
            | (refine CallEnd.here (fa ?_)
               conv => whnf
               exact ⟨rfl, rfl, rfl, rfl⟩)
      · have hxp := hpc x (List.mem_of_getElem? hxi)
        have c2 := sEnt3_con (m := m) x (by omega)
        repeat' first | refine Ra ⟨?_⟩ | ((first | refine Rc [] 0 rfl rfl (c2) ?_ | (refine bd (fun h => ?_) (fun h => ?_) <;> (try simp only [List.length_map] at h)) | refine bsplit.mk (fun h => ?_) (fun h => ?_)) <;> conv => whnf) | refine Rb ⟨?_⟩ | fail
        refine .here ⟨mq - 1, by omega, ?_⟩
        refine la [0, 4, 5, 6, 7] ?_
        conv => whnf
        refine ⟨rfl, rfl, i + 1, _, (by omega), rfl, rfl, rfl, by omega, by omega, (by rw [hxs, take_succ hxi, List.map_append, List.map_append]; rfl)⟩
theorem sKind_con (w : Bs) : Con (E m) 84 0 [.s w] [] (.k .i64 (kindS w)) [] := by
  refine con_of_cd tyOk mix Tryd.func84 rfl rfl rfl (Nat.le_of_ble_eq_true rfl) ?_
  repeat' first | refine Ra ⟨?_⟩ | ((first | (refine bd (fun h => ?_) (fun h => ?_) <;> (try simp only [List.length_map] at h)) | refine bsplit.mk (fun h => ?_) (fun h => ?_)) <;> conv => whnf) | refine Rb ⟨?_⟩ | fail
  all_goals
    first | refine CallEnd.here (fa ?_) | refine fa ?_
    conv => whnf
    first | exact ⟨rfl, rfl, rfl, rfl⟩ | refine ⟨rfl, rfl, congrArg some (congrArg D.s ?_), rfl⟩ | refine ⟨rfl, rfl, congrArg some (congrArg D.b ?_), rfl⟩ | refine ⟨rfl, rfl, congrArg some (congrArg (D.k _) ?_), rfl⟩ | refine ⟨rfl, rfl, congrArg some (congrArg D.agg ?_), rfl⟩ | refine ⟨rfl, rfl, rfl, ?_⟩
    all_goals first | rfl | (simp_all [kindS]; done) | (simp [kindS] <;> (repeat' split) <;> omega) | (simp only [kindS]; repeat' split) <;> first | omega | (simp_all; done) | (simp_all; omega) | (rw [Bool.eq_iff_iff]; simp [*, kindS] <;> omega)
theorem sLayerRead_con (s : Bs) (hs : s.length ≤ 1048576) : Con (E m) 40 0 [.s s] [] (.tup [.own 0, .b (layerReadS s).isSome]) [(0, .own 96 (((layerReadS s).getD []).map Mrk.c))] := by
  have c1 := sLines_con (m := m) s (by omega)
  have hll := linesOf_len s
  have hpc := lines_piece s
  have hob : ∀ e ∈ outM s, e.path.length ≤ 1073741823 ∧ e.data.length ≤ 1073741823 := by
    intro e he
    obtain ⟨a, ha, rfl⟩ := List.mem_map.1 he
    have h1 := hpc a (List.mem_of_mem_take ha)
    have h2 := ent3_len a
    simp only [lineM]
    omega
  have c3 := sLayerOk_con (m := m) (outM s) (by unfold outM; simp; omega) hob
  have c4 := sLayerText_con (m := m) (outM s) hob (by unfold outM; simp; omega)
  refine con_of_cd tyOk mix Tryd.func40 rfl rfl rfl (Nat.le_of_ble_eq_true rfl) ?_
  repeat' first | refine Ra ⟨?_⟩ | ((first | refine Rc [] 0 rfl rfl (c1) ?_ | (refine bd (fun h => ?_) (fun h => ?_) <;> (try simp only [List.length_map] at h)) | refine bsplit.mk (fun h => ?_) (fun h => ?_)) <;> conv => whnf) | refine Rb ⟨?_⟩ | fail
  refine Cd.loop2 (fun mq tm S nx => ∃ (i : Nat) (xs : List (List D)), mq = ((linesOf s).length - i) ∧ tm = [(0, .s s), (4, .sl (strs (linesOf s))), (5, .b (decide (lastOf s = []))), (6, .own 0), (7, .k .i64 i)] ∧ S = [(0, .own 96 xs)] ∧ nx = 1 ∧ (i ≤ (linesOf s).length) ∧ (i ≤ 33) ∧ (xs = (((linesOf s).take i).map lineM).map Mrk.c)) ?_ ?_
  · refine la [0, 4, 5, 6, 7] ?_
    conv => whnf
    refine ⟨rfl, rfl, _, 0, [], rfl, rfl, rfl, rfl, Nat.zero_le _, Nat.zero_le _, rfl⟩
  · rintro mq tm S nx ⟨i, xs, hn, rfl, rfl, rfl, hi, hi2, hxs⟩
    have hxl : xs.length = i := by rw [hxs]; simp; omega
    have hout : (linesOf s).length = i ∨ i = 33 → outM s = ((linesOf s).take i).map lineM := by
      intro h
      unfold outM
      rcases h with h | h
      · rw [List.take_of_length_le (by omega), List.take_of_length_le (by omega)]
      · rw [h]
    have fin : outM s = ((linesOf s).take i).map lineM → xs = (outM s).map Mrk.c := fun h => by rw [hxs, ← h]
    have hm : (strs (linesOf s)).length = (linesOf s).length := List.length_map ..
    by_cases h33 : i = 33
    · have hf := fin (hout (.inr h33))
      subst hf
      clear hxs hxl
      by_cases hz : lastOf s = [] ∧ layerOk (outM s) = true ∧ layerText (outM s) = s
      · rw [show layerReadS s = some (outM s) from if_pos hz]
        obtain ⟨h1, h2, h3⟩ := hz
        rw [h2] at c3
        rw [h3] at c4
        repeat' first | refine Ra ⟨?_⟩ | ((first | refine ⟨[], _, _, _, _, 0, ⟨rfl, rfl, rfl, c3, rfl, rfl⟩, .inl ⟨by simp [NoImmD, NoImmG, NoImmA], by simp [NoImmS, NoImmB, NoImmA], ?_⟩⟩ | refine ⟨[], _, _, _, _, 0, ⟨rfl, rfl, rfl, c4, rfl, rfl⟩, .inl ⟨by simp [NoImmD, NoImmG, NoImmA], by simp [NoImmS, NoImmB, NoImmA], ?_⟩⟩ | (refine bd (fun h => ?_) (fun h => ?_) <;> (try simp only [List.length_map] at h)) | refine bsplit.mk (fun h => ?_) (fun h => ?_)) <;> conv => whnf) | refine Rb ⟨?_⟩ | fail
        all_goals
          exact Rf
      · rw [show layerReadS s = none from if_neg hz]
        repeat' first | refine Ra ⟨?_⟩ | ((first | refine ⟨[], _, _, _, _, 0, ⟨rfl, rfl, rfl, c3, rfl, rfl⟩, .inl ⟨by simp [NoImmD, NoImmG, NoImmA], by simp [NoImmS, NoImmB, NoImmA], ?_⟩⟩ | refine ⟨[], _, _, _, _, 0, ⟨rfl, rfl, rfl, c4, rfl, rfl⟩, .inl ⟨by simp [NoImmD, NoImmG, NoImmA], by simp [NoImmS, NoImmB, NoImmA], ?_⟩⟩ | (refine bd (fun h => ?_) (fun h => ?_) <;> (try simp only [List.length_map] at h)) | refine bsplit.mk (fun h => ?_) (fun h => ?_)) <;> conv => whnf) | refine Rb ⟨?_⟩ | fail
        all_goals first
          | exact absurd ⟨‹_›, ‹_›, ‹_›⟩ hz
          | (refine CallEnd.here (fa ?_)
             conv => whnf
             exact ⟨rfl, rfl, rfl, rfl⟩)
    · rcases drop_or (linesOf s) i hi with ⟨hil, hd⟩ | ⟨x, r, hxi, hd, hr, hlt⟩
      · have hf := fin (hout (.inl hil.symm))
        subst hf
        clear hxs hxl
        by_cases hz : lastOf s = [] ∧ layerOk (outM s) = true ∧ layerText (outM s) = s
        · rw [show layerReadS s = some (outM s) from if_pos hz]
          obtain ⟨h1, h2, h3⟩ := hz
          rw [h2] at c3
          rw [h3] at c4
          repeat' first | refine Ra ⟨?_⟩ | ((first | refine ⟨[], _, _, _, _, 0, ⟨rfl, rfl, rfl, c3, rfl, rfl⟩, .inl ⟨by simp [NoImmD, NoImmG, NoImmA], by simp [NoImmS, NoImmB, NoImmA], ?_⟩⟩ | refine ⟨[], _, _, _, _, 0, ⟨rfl, rfl, rfl, c4, rfl, rfl⟩, .inl ⟨by simp [NoImmD, NoImmG, NoImmA], by simp [NoImmS, NoImmB, NoImmA], ?_⟩⟩ | (refine bd (fun h => ?_) (fun h => ?_) <;> (try simp only [List.length_map] at h)) | refine bsplit.mk (fun h => ?_) (fun h => ?_)) <;> conv => whnf) | refine Rb ⟨?_⟩ | fail
          all_goals
            exact Rf
        · rw [show layerReadS s = none from if_neg hz]
          repeat' first | refine Ra ⟨?_⟩ | ((first | refine ⟨[], _, _, _, _, 0, ⟨rfl, rfl, rfl, c3, rfl, rfl⟩, .inl ⟨by simp [NoImmD, NoImmG, NoImmA], by simp [NoImmS, NoImmB, NoImmA], ?_⟩⟩ | refine ⟨[], _, _, _, _, 0, ⟨rfl, rfl, rfl, c4, rfl, rfl⟩, .inl ⟨by simp [NoImmD, NoImmG, NoImmA], by simp [NoImmS, NoImmB, NoImmA], ?_⟩⟩ | (refine bd (fun h => ?_) (fun h => ?_) <;> (try simp only [List.length_map] at h)) | refine bsplit.mk (fun h => ?_) (fun h => ?_)) <;> conv => whnf) | refine Rb ⟨?_⟩ | fail
          all_goals first
            | exact absurd ⟨‹_›, ‹_›, ‹_›⟩ hz
            | (refine CallEnd.here (fa ?_)
               conv => whnf
               exact ⟨rfl, rfl, rfl, rfl⟩)
      · have hxp := hpc x (List.mem_of_getElem? hxi)
        have c2 := sEnt3_con (m := m) x (by omega)
        have c5 := sKind_con (m := m) (ent3 x).1
        repeat' first | refine Ra ⟨?_⟩ | ((first | refine Rc [] 0 rfl rfl (c2) ?_ | refine Rc [] 0 rfl rfl (c5) ?_ | (refine bd (fun h => ?_) (fun h => ?_) <;> (try simp only [List.length_map] at h)) | refine bsplit.mk (fun h => ?_) (fun h => ?_)) <;> conv => whnf) | refine Rb ⟨?_⟩ | fail
        refine .here ⟨mq - 1, by omega, ?_⟩
        refine la [0, 4, 5, 6, 7] ?_
        conv => whnf
        refine ⟨rfl, rfl, i + 1, _, (by omega), rfl, rfl, rfl, by omega, by omega, (by rw [hxs, take_succ hxi, List.map_append, List.map_append]; rfl)⟩
abbrev rowsW (W : List (List Bs)) : List (List D) := W.map fun w => [.sl (strs w)]
theorem joinE_ne {a b : Bs} {q : List Bs} : join 10 (a :: b :: q) = a ++ 10 :: join 10 (b :: q) := rfl
theorem iLines_con (s : Bs) (most : Nat) (hs : s.length ≤ 1048576) (hm : most ≤ 1000) : Con (E m) 81 0 [.s s, .k .i64 most] [] (.tup [.own 0, .b (tl most (cut 10 s) []).isSome]) [(0, .own 74 (rowsW ((tl most (cut 10 s) []).getD [])))] := by
  have hj := join_cut 10 s
  refine con_of_cd tyOk mix Tryd.func81 rfl rfl rfl (Nat.le_of_ble_eq_true rfl) ?_
  repeat' first | refine Ra ⟨?_⟩ | ((first | (refine bd (fun h => ?_) (fun h => ?_) <;> (try simp only [List.length_map] at h)) | refine bsplit.mk (fun h => ?_) (fun h => ?_)) <;> conv => whnf) | refine Rb ⟨?_⟩ | fail
  refine Cd.loop2 (fun mq tm S nx => ∃ (ps : List Bs) (done : List (List Bs)), mq = (ps.length) ∧ tm = [(0, .s (join 10 ps)), (1, .k .i64 most), (6, .own 0)] ∧ S = [(0, .own 74 (rowsW done))] ∧ nx = 1 ∧ (ps ≠ []) ∧ (∀ a ∈ ps, 10 ∉ a) ∧ ((join 10 ps).length ≤ 1048576) ∧ (done.length ≤ most) ∧ (tl most (cut 10 s) [] = tl most ps done)) ?_ ?_
  · rw [← hj]
    refine la [0, 1, 6] ?_
    conv => whnf
    refine ⟨rfl, rfl, _, cut 10 s, [], rfl, rfl, rfl, rfl, cut_ne 10 s, cut_free 10 s, (by rw [hj]; omega), Nat.zero_le _, by rw [hj]⟩
  · rintro mq tm S nx ⟨ps, done, hn, rfl, rfl, rfl, hne, hfree, hjl, hdl, ha⟩
    have hml : (rowsW done).length = done.length := List.length_map ..
    rw [ha]
    match ps, hn, ha, hne, hfree, hjl with
    | [a], hn, ha, _, hfree, hjl =>
      have hja : join 10 [a] = a := rfl
      rw [hja] at hjl ⊢
      by_cases h0 : a = []
      · subst h0
        have hx : tl most [[]] done = some done := by simp [tl]
        rw [hx]
        repeat' first | refine Ra ⟨?_⟩ | ((first | (refine bd (fun h => ?_) (fun h => ?_) <;> (try simp only [List.length_map] at h)) | refine bsplit.mk (fun h => ?_) (fun h => ?_)) <;> conv => whnf) | refine Rb ⟨?_⟩ | fail
        exact Rf
      · have hx : tl most [a] done = none := by simp [tl, h0]
        rw [hx]
        have c1 := cutMiss_con (m := m) a 10 (hfree a (by simp))
        have c2 := split_con (m := m) a 32 (by omega)
        repeat' first | refine Ra ⟨?_⟩ | ((first | refine Rc [] 0 rfl rfl (c1) ?_ | refine Rc [] 1 rfl rfl (c2) ?_ | (refine bd (fun h => ?_) (fun h => ?_) <;> (try simp only [List.length_map] at h)) | refine bsplit.mk (fun h => ?_) (fun h => ?_)) <;> conv => whnf) | refine Rb ⟨?_⟩ | fail
        exact Rf
    | a :: b :: q, hn, ha, _, hfree, hjl =>
      have e1 : (b :: q).length = q.length + 1 := rfl
      have e2 : (a :: b :: q).length = q.length + 2 := rfl
      have hja : join 10 (a :: b :: q) = a ++ 10 :: join 10 (b :: q) := rfl
      rw [hja] at hjl ⊢
      have hl2 : a.length + (join 10 (b :: q)).length + 1 ≤ 1048576 := by simp at hjl; omega
      have hnn : a ++ 10 :: join 10 (b :: q) ≠ [] := by simp
      have c1 := cutHit_con (m := m) a (join 10 (b :: q)) 10 (hfree a (by simp)) (by omega)
      have c2 := split_con (m := m) a 32 (by omega)
      have hcl := cut_len 32 a
      have hmw : (strs (cut 32 a)).length = (cut 32 a).length := List.length_map ..
      by_cases hc : done.length = most ∨ (cut 32 a).length < 2 ∨ 3 < (cut 32 a).length
      · have hx : tl most (a :: b :: q) done = none := by rw [tl, if_pos hc]
        rw [hx]
        by_cases k1 : done.length = most
        · repeat' first | refine Ra ⟨?_⟩ | ((first | refine Rc [] 0 rfl rfl (c1) ?_ | refine Rc [] 1 rfl rfl (c2) ?_ | refine bt (by omega) ?_ | (refine bd (fun h => ?_) (fun h => ?_) <;> (try simp only [List.length_map] at h)) | refine bsplit.mk (fun h => ?_) (fun h => ?_)) <;> conv => whnf) | refine Rb ⟨?_⟩ | fail
          exact Rf
        · by_cases k2 : (cut 32 a).length < 2
          · repeat' first | refine Ra ⟨?_⟩ | ((first | refine Rc [] 0 rfl rfl (c1) ?_ | refine Rc [] 1 rfl rfl (c2) ?_ | refine bf (by omega : ¬ ((rowsW done).length : Int) = (most : Int)) ?_ | refine bt (by omega) ?_ | (refine bd (fun h => ?_) (fun h => ?_) <;> (try simp only [List.length_map] at h)) | refine bsplit.mk (fun h => ?_) (fun h => ?_)) <;> conv => whnf) | refine Rb ⟨?_⟩ | fail
            exact Rf
          · repeat' first | refine Ra ⟨?_⟩ | ((first | refine Rc [] 0 rfl rfl (c1) ?_ | refine Rc [] 1 rfl rfl (c2) ?_ | refine bf (by omega : ¬ ((rowsW done).length : Int) = (most : Int)) ?_ | refine bf (by omega : ¬ ((strs (cut 32 a)).length : Int) < 2) ?_ | refine bt (by omega) ?_ | (refine bd (fun h => ?_) (fun h => ?_) <;> (try simp only [List.length_map] at h)) | refine bsplit.mk (fun h => ?_) (fun h => ?_)) <;> conv => whnf) | refine Rb ⟨?_⟩ | fail
            exact Rf
      · have hx : tl most (a :: b :: q) done = tl most (b :: q) (done ++ [cut 32 a]) := by rw [tl, if_neg hc]
        rw [hx] at ha ⊢
        repeat' first | refine Ra ⟨?_⟩ | ((first | refine Rc [] 0 rfl rfl (c1) ?_ | refine Rc [] 1 rfl rfl (c2) ?_ | refine bf (by omega : ¬ ((rowsW done).length : Int) = (most : Int)) ?_ | refine bf (by omega : ¬ ((strs (cut 32 a)).length : Int) < 2) ?_ | refine bf (by omega : ¬ ((strs (cut 32 a)).length : Int) > 3) ?_ | (refine bd (fun h => ?_) (fun h => ?_) <;> (try simp only [List.length_map] at h)) | refine bsplit.mk (fun h => ?_) (fun h => ?_)) <;> conv => whnf) | refine Rb ⟨?_⟩ | fail
        refine .here ⟨mq - 1, by omega, ?_⟩
        refine la [0, 1, 6] ?_
        conv => whnf
        refine ⟨rfl, rfl, b :: q, done ++ [cut 32 a], (by omega), rfl, ?_, rfl, by simp, fun x hx => hfree x (by simp [hx]), by omega, (by simp; omega), rfl⟩
        have e : rowsW (done ++ [cut 32 a]) = rowsW done ++ [[.sl (strs (cut 32 a))]] := by rw [rowsW, List.map_append]; rfl
        rw [e]
        rfl
theorem iTreeRead_con (s : Bs) (hs : s.length ≤ 1048576) : Con (E m) 37 0 [.s s] [] (.tup [.own 0, .b (treeReadI s).isSome]) [(0, .own 41 (((treeReadI s).getD []).map Ent.c))] := by
  have c1 := iLines_con (m := m) s 16 hs (by omega)
  cases hW : tl 16 (cut 10 s) [] with
  | none =>
    rw [hW] at c1
    have hx : treeReadI s = none := by simp [treeReadI, hW]
    rw [hx]
    refine con_of_cd tyOk mix Tryd.func37 rfl rfl rfl (Nat.le_of_ble_eq_true rfl) ?_
    repeat' first | refine Ra ⟨?_⟩ | ((first | refine Rc [] 1 rfl rfl (c1) ?_ | (refine bd (fun h => ?_) (fun h => ?_) <;> (try simp only [List.length_map] at h)) | refine bsplit.mk (fun h => ?_) (fun h => ?_)) <;> conv => whnf) | refine Rb ⟨?_⟩ | fail
    exact Rf
  | some W =>
    rw [hW] at c1
    have hx : treeReadI s = if treeText (W.map wordsE) = s then some (W.map wordsE) else none := by simp [treeReadI, hW]
    rw [hx]
    have hbn := tl_bnd hW hs
    have hWl := tl_len (done := []) (Nat.zero_le _) hW
    have hml : (rowsW W).length = W.length := List.length_map ..
    have c3 := iTreeText_con (m := m) (W.map wordsE) (by
      intro e he
      obtain ⟨w, hw, rfl⟩ := List.mem_map.1 he
      have h1 := wordAt_len (hbn w hw).2 1
      have h2 := wordAt_len (hbn w hw).2 2
      simp only [wordsE]
      omega)
    refine con_of_cd tyOk mix Tryd.func37 rfl rfl rfl (Nat.le_of_ble_eq_true rfl) ?_
    repeat' first | refine Ra ⟨?_⟩ | ((first | refine Rc [] 1 rfl rfl (c1) ?_ | (refine bd (fun h => ?_) (fun h => ?_) <;> (try simp only [List.length_map] at h)) | refine bsplit.mk (fun h => ?_) (fun h => ?_)) <;> conv => whnf) | refine Rb ⟨?_⟩ | fail
    refine Cd.loop2 (fun mq tm S nx => ∃ (i : Nat) (xs : List (List D)), mq = (W.length - i) ∧ tm = [(0, .s s), (6, .own 0), (16, .own 1), (17, .k .i64 (rowsW W).length), (18, .k .i64 i)] ∧ S = [(0, .own 41 xs), (1, .own 74 (rowsW W))] ∧ nx = 2 ∧ (i ≤ W.length) ∧ (xs = ((W.take i).map wordsE).map Ent.c)) ?_ ?_
    · refine la [0, 6, 16, 17, 18] ?_
      conv => whnf
      refine ⟨rfl, rfl, _, 0, [], rfl, rfl, rfl, rfl, Nat.zero_le _, rfl⟩
    · rintro mq tm S nx ⟨i, xs, hn, rfl, rfl, rfl, hi, hxs⟩
      have hxl : xs.length = i := by rw [hxs]; simp; omega
      rcases drop_or W i hi with ⟨hil, hd⟩ | ⟨w, r, hwi, hd, hr, hlt⟩
      · rw [List.take_of_length_le (by omega)] at hxs
        subst hxs
        by_cases h3 : treeText (W.map wordsE) = s
        · rw [if_pos h3]
          rw [h3] at c3
          repeat' first | refine Ra ⟨?_⟩ | ((first | refine bf (by omega) ?_ | refine ⟨[], _, _, _, _, 0, ⟨rfl, rfl, rfl, c3, rfl, rfl⟩, .inl ⟨by simp [NoImmD, NoImmG, NoImmA], by simp [NoImmS, NoImmB, NoImmA], ?_⟩⟩ | (refine bd (fun h => ?_) (fun h => ?_) <;> (try simp only [List.length_map] at h)) | refine bsplit.mk (fun h => ?_) (fun h => ?_)) <;> conv => whnf) | refine Rb ⟨?_⟩ | fail
          exact Rf
        · rw [if_neg h3]
          repeat' first | refine Ra ⟨?_⟩ | ((first | refine bf (by omega) ?_ | refine ⟨[], _, _, _, _, 0, ⟨rfl, rfl, rfl, c3, rfl, rfl⟩, .inl ⟨by simp [NoImmD, NoImmG, NoImmA], by simp [NoImmS, NoImmB, NoImmA], ?_⟩⟩ | (refine bd (fun h => ?_) (fun h => ?_) <;> (try simp only [List.length_map] at h)) | refine bsplit.mk (fun h => ?_) (fun h => ?_)) <;> conv => whnf) | refine Rb ⟨?_⟩ | fail
          exact Rf
      · have hb := hbn w (List.mem_of_getElem? hwi)
        have hg : (rowsW W)[i]? = some [.sl (strs w)] := by rw [List.getElem?_map, hwi]; rfl
        have c2 := iWordAt_con (m := m) w 2 (by omega) (by omega)
        have hmw : (strs w).length = w.length := List.length_map ..
        have g0 : (strs w)[0]? = some [.s (wordAt w 0)] := by
          unfold wordAt
          rw [List.getElem?_map, List.getD_eq_getElem?_getD, List.getElem?_eq_getElem (by omega)]
          rfl
        have g1 : (strs w)[1]? = some [.s (wordAt w 1)] := by
          unfold wordAt
          rw [List.getElem?_map, List.getD_eq_getElem?_getD, List.getElem?_eq_getElem (by omega)]
          rfl
        repeat' first | refine Ra ⟨?_⟩ | ((first | refine bt (by omega) ?_ | refine Rc [] 0 rfl rfl (c2) ?_ | refine ⟨i, rfl, by omega, ?_⟩ | refine ⟨_, hg, ?_⟩ | refine ⟨1, _, rfl, g1, rfl, ?_⟩ | refine ⟨0, _, rfl, g0, rfl, ?_⟩ | (refine bd (fun h => ?_) (fun h => ?_) <;> (try simp only [List.length_map] at h)) | refine bsplit.mk (fun h => ?_) (fun h => ?_)) <;> conv => whnf) | refine Rb ⟨?_⟩ | fail
        refine .here ⟨mq - 1, by omega, ?_⟩
        refine la [0, 6, 16, 17, 18] ?_
        conv => whnf
        refine ⟨rfl, rfl, i + 1, _, (by omega), rfl, rfl, rfl, by omega, (by rw [hxs, take_succ hwi, List.map_append, List.map_append]; rfl)⟩
theorem iKind_con (w : Bs) : Con (E m) 85 0 [.s w] [] (.k .i64 (kindI w)) [] := by
  refine con_of_cd tyOk mix Tryd.func85 rfl rfl rfl (Nat.le_of_ble_eq_true rfl) ?_
  repeat' first | refine Ra ⟨?_⟩ | ((first | (refine bd (fun h => ?_) (fun h => ?_) <;> (try simp only [List.length_map] at h)) | refine bsplit.mk (fun h => ?_) (fun h => ?_)) <;> conv => whnf) | refine Rb ⟨?_⟩ | fail
  all_goals
    first | refine CallEnd.here (fa ?_) | refine fa ?_
    conv => whnf
    first | exact ⟨rfl, rfl, rfl, rfl⟩ | refine ⟨rfl, rfl, congrArg some (congrArg D.s ?_), rfl⟩ | refine ⟨rfl, rfl, congrArg some (congrArg D.b ?_), rfl⟩ | refine ⟨rfl, rfl, congrArg some (congrArg (D.k _) ?_), rfl⟩ | refine ⟨rfl, rfl, congrArg some (congrArg D.agg ?_), rfl⟩ | refine ⟨rfl, rfl, rfl, ?_⟩
    all_goals first | rfl | (simp_all [kindI]; done) | (simp [kindI] <;> (repeat' split) <;> omega) | (simp only [kindI]; repeat' split) <;> first | omega | (simp_all; done) | (simp_all; omega) | (rw [Bool.eq_iff_iff]; simp [*, kindI] <;> omega)
theorem iLayerRead_con (s : Bs) (hs : s.length ≤ 1048576) : Con (E m) 41 0 [.s s] [] (.tup [.own 0, .b (layerReadI s).isSome]) [(0, .own 96 (((layerReadI s).getD []).map Mrk.c))] := by
  have c1 := iLines_con (m := m) s 32 hs (by omega)
  cases hW : tl 32 (cut 10 s) [] with
  | none =>
    rw [hW] at c1
    have hx : layerReadI s = none := by simp [layerReadI, hW]
    rw [hx]
    refine con_of_cd tyOk mix Tryd.func41 rfl rfl rfl (Nat.le_of_ble_eq_true rfl) ?_
    repeat' first | refine Ra ⟨?_⟩ | ((first | refine Rc [] 1 rfl rfl (c1) ?_ | (refine bd (fun h => ?_) (fun h => ?_) <;> (try simp only [List.length_map] at h)) | refine bsplit.mk (fun h => ?_) (fun h => ?_)) <;> conv => whnf) | refine Rb ⟨?_⟩ | fail
    exact Rf
  | some W =>
    rw [hW] at c1
    have hx : layerReadI s = if layerText (W.map wordsM) = s then some (W.map wordsM) else none := by simp [layerReadI, hW]
    rw [hx]
    have hbn := tl_bnd hW hs
    have hWl := tl_len (done := []) (Nat.zero_le _) hW
    have hml : (rowsW W).length = W.length := List.length_map ..
    have c3 := iLayerText_con (m := m) (W.map wordsM) (by
      intro e he
      obtain ⟨w, hw, rfl⟩ := List.mem_map.1 he
      have h1 := wordAt_len (hbn w hw).2 1
      have h2 := wordAt_len (hbn w hw).2 2
      simp only [wordsM]
      omega)
    refine con_of_cd tyOk mix Tryd.func41 rfl rfl rfl (Nat.le_of_ble_eq_true rfl) ?_
    repeat' first | refine Ra ⟨?_⟩ | ((first | refine Rc [] 1 rfl rfl (c1) ?_ | (refine bd (fun h => ?_) (fun h => ?_) <;> (try simp only [List.length_map] at h)) | refine bsplit.mk (fun h => ?_) (fun h => ?_)) <;> conv => whnf) | refine Rb ⟨?_⟩ | fail
    refine Cd.loop2 (fun mq tm S nx => ∃ (i : Nat) (xs : List (List D)), mq = (W.length - i) ∧ tm = [(0, .s s), (6, .own 0), (16, .own 1), (17, .k .i64 (rowsW W).length), (18, .k .i64 i)] ∧ S = [(0, .own 96 xs), (1, .own 74 (rowsW W))] ∧ nx = 2 ∧ (i ≤ W.length) ∧ (xs = ((W.take i).map wordsM).map Mrk.c)) ?_ ?_
    · refine la [0, 6, 16, 17, 18] ?_
      conv => whnf
      refine ⟨rfl, rfl, _, 0, [], rfl, rfl, rfl, rfl, Nat.zero_le _, rfl⟩
    · rintro mq tm S nx ⟨i, xs, hn, rfl, rfl, rfl, hi, hxs⟩
      have hxl : xs.length = i := by rw [hxs]; simp; omega
      rcases drop_or W i hi with ⟨hil, hd⟩ | ⟨w, r, hwi, hd, hr, hlt⟩
      · rw [List.take_of_length_le (by omega)] at hxs
        subst hxs
        by_cases h3 : layerText (W.map wordsM) = s
        · rw [if_pos h3]
          rw [h3] at c3
          repeat' first | refine Ra ⟨?_⟩ | ((first | refine bf (by omega) ?_ | refine ⟨[], _, _, _, _, 0, ⟨rfl, rfl, rfl, c3, rfl, rfl⟩, .inl ⟨by simp [NoImmD, NoImmG, NoImmA], by simp [NoImmS, NoImmB, NoImmA], ?_⟩⟩ | (refine bd (fun h => ?_) (fun h => ?_) <;> (try simp only [List.length_map] at h)) | refine bsplit.mk (fun h => ?_) (fun h => ?_)) <;> conv => whnf) | refine Rb ⟨?_⟩ | fail
          exact Rf
        · rw [if_neg h3]
          repeat' first | refine Ra ⟨?_⟩ | ((first | refine bf (by omega) ?_ | refine ⟨[], _, _, _, _, 0, ⟨rfl, rfl, rfl, c3, rfl, rfl⟩, .inl ⟨by simp [NoImmD, NoImmG, NoImmA], by simp [NoImmS, NoImmB, NoImmA], ?_⟩⟩ | (refine bd (fun h => ?_) (fun h => ?_) <;> (try simp only [List.length_map] at h)) | refine bsplit.mk (fun h => ?_) (fun h => ?_)) <;> conv => whnf) | refine Rb ⟨?_⟩ | fail
          exact Rf
      · have hb := hbn w (List.mem_of_getElem? hwi)
        have hg : (rowsW W)[i]? = some [.sl (strs w)] := by rw [List.getElem?_map, hwi]; rfl
        have c4 := iKind_con (m := m) (wordAt w 0)
        have c2 := iWordAt_con (m := m) w 2 (by omega) (by omega)
        have hmw : (strs w).length = w.length := List.length_map ..
        have g0 : (strs w)[0]? = some [.s (wordAt w 0)] := by
          unfold wordAt
          rw [List.getElem?_map, List.getD_eq_getElem?_getD, List.getElem?_eq_getElem (by omega)]
          rfl
        have g1 : (strs w)[1]? = some [.s (wordAt w 1)] := by
          unfold wordAt
          rw [List.getElem?_map, List.getD_eq_getElem?_getD, List.getElem?_eq_getElem (by omega)]
          rfl
        repeat' first | refine Ra ⟨?_⟩ | ((first | refine bt (by omega) ?_ | refine Rc [] 0 rfl rfl (c2) ?_ | refine Rc [] 0 rfl rfl (c4) ?_ | refine ⟨i, rfl, by omega, ?_⟩ | refine ⟨_, hg, ?_⟩ | refine ⟨1, _, rfl, g1, rfl, ?_⟩ | refine ⟨0, _, rfl, g0, rfl, ?_⟩ | (refine bd (fun h => ?_) (fun h => ?_) <;> (try simp only [List.length_map] at h)) | refine bsplit.mk (fun h => ?_) (fun h => ?_)) <;> conv => whnf) | refine Rb ⟨?_⟩ | fail
        refine .here ⟨mq - 1, by omega, ?_⟩
        refine la [0, 6, 16, 17, 18] ?_
        conv => whnf
        refine ⟨rfl, rfl, i + 1, _, (by omega), rfl, rfl, rfl, by omega, (by rw [hxs, take_succ hwi, List.map_append, List.map_append]; rfl)⟩
end Go.Proofs.YtgeieehampfkcaaDoor
/- Contracts: what the laws write into memory, to see whether it is shared. -/
set_option linter.unusedSimpArgs false
set_option linter.unusedVariables false
set_option maxHeartbeats 1000000
set_option maxRecDepth 10000
namespace Go.Proofs.YtgeieehampfkcaaDoor
open Go Go.RowKit Go.Ab Go.Par
variable {m : Int}
abbrev cS (l : Bs) : List D := [.s l]
abbrev cI (n : Int) : List D := [.k .i64 n]
theorem markText_con (k : Int) (hk : k ≤ 1000000) : Con (E m) 83 0 [.k .i64 k] [] (.s (markT k)) [] := by
  unfold markT
  by_cases h0 : k ≤ 0
  · rw [if_pos h0]
    refine con_of_cd tyOk mix Tryd.func83 rfl rfl rfl (Nat.le_of_ble_eq_true rfl) ?_
    repeat' first | refine Ra ⟨?_⟩ | ((first | (refine bd (fun h => ?_) (fun h => ?_) <;> (try simp only [List.length_map] at h)) | refine bsplit.mk (fun h => ?_) (fun h => ?_)) <;> conv => whnf) | refine Rb ⟨?_⟩ | fail
    exact Rf
  · rw [if_neg h0]
    refine con_of_cd tyOk mix Tryd.func83 rfl rfl rfl (Nat.le_of_ble_eq_true rfl) ?_
    repeat' first | refine Ra ⟨?_⟩ | ((first | (refine bd (fun h => ?_) (fun h => ?_) <;> (try simp only [List.length_map] at h)) | refine bsplit.mk (fun h => ?_) (fun h => ?_)) <;> conv => whnf) | refine Rb ⟨?_⟩ | fail
    refine Cd.loop2 (fun mq tm S nx => ∃ (q : Nat) (n : Nat) (out : Bs), mq = (q) ∧ tm = [(0, .k .i64 n), (3, .s out)] ∧ S = [] ∧ nx = 0 ∧ (n ≤ q) ∧ (n + out.length ≤ 1000000) ∧ (digs k.toNat [] = digs n out)) ?_ ?_
    · obtain ⟨n, rfl⟩ : ∃ n : Nat, k = n := ⟨k.toNat, by omega⟩
      refine la [0, 3] ?_
      conv => whnf
      refine ⟨rfl, rfl, _, n, n, [], rfl, rfl, rfl, rfl, Nat.le_refl _, (by simp; omega), by simp⟩
    · rintro mq tm S nx ⟨q, n, out, hn, rfl, rfl, rfl, hq, hnb, ha⟩
      rw [ha]
      by_cases hz : n = 0
      · subst hz
        rw [digs_zero]
        repeat' first | refine Ra ⟨?_⟩ | ((first | (refine bd (fun h => ?_) (fun h => ?_) <;> (try simp only [List.length_map] at h)) | refine bsplit.mk (fun h => ?_) (fun h => ?_)) <;> conv => whnf) | refine Rb ⟨?_⟩ | fail
        exact Rf
      · rw [digs_pos (by omega)]
        have hu : ((UInt8.ofNat (48 + n % 10)).toNat : Int) = 48 + ((n % 10 : Nat) : Int) := by
          have : (UInt8.ofNat (48 + n % 10)).toNat = (48 + n % 10) % 256 := by simp
          omega
        have e1 : (n : Int) % 10 = ((n % 10 : Nat) : Int) := by omega
        have e2 : (n : Int) / 10 = ((n / 10 : Nat) : Int) := by omega
        have hby : [[D.k .u8 (48 + ((n % 10 : Nat) : Int))]] = bytesOf [UInt8.ofNat (48 + n % 10)] := by simp only [bytesOf, List.map_cons, List.map_nil, hu]
        repeat' first | refine Ra ⟨?_⟩ | ((first | (refine wr (by omega) (by omega) ?_; rw [e1]) | (refine wq (by omega) (by omega) ?_; rw [e2]) | refine wb (by omega) ?_ | refine ⟨_, hby, by simp [room], ?_⟩ | (refine bd (fun h => ?_) (fun h => ?_) <;> (try simp only [List.length_map] at h)) | refine bsplit.mk (fun h => ?_) (fun h => ?_)) <;> conv => whnf) | refine Rb ⟨?_⟩ | fail
        refine .here ⟨mq - 1, by omega, ?_⟩
        refine la [0, 3] ?_
        conv => whnf
        refine ⟨rfl, rfl, q - 1, n / 10, _, (by omega), rfl, rfl, rfl, by omega, (by simp; omega), rfl⟩
theorem markEntS_con (t : List Ent) (k : Int) (hk : 0 ≤ k ∧ k ≤ 10000) (ht : t.length ≤ 100000) : Con (E m) 38 1 [.own 0, .k .i64 k] [(0, .own 41 (t.map Ent.c))] (.k .i64 (k + 3 * t.length)) [(0, .own 41 ((mkL fE 3 k t.length).map Ent.c))] := by
  refine con_of_cd tyOk mix Tryd.func38 rfl rfl rfl (Nat.le_of_ble_eq_true rfl) ?_
  repeat' first | refine Ra ⟨?_⟩ | ((first | (refine bd (fun h => ?_) (fun h => ?_) <;> (try simp only [List.length_map] at h)) | refine bsplit.mk (fun h => ?_) (fun h => ?_)) <;> conv => whnf) | refine Rb ⟨?_⟩ | fail
  refine Cd.loop2 (fun mq tm S nx => ∃ (i : Nat) (q : Int) (xs : List (List D)), mq = (t.length - i) ∧ tm = [(0, .own 0), (1, .k .i64 q), (5, .k .i64 i)] ∧ S = [(0, .own 41 xs)] ∧ nx = 1 ∧ (i ≤ t.length) ∧ (q = k + 3 * i) ∧ (xs = (mkL fE 3 k i).map Ent.c ++ (t.drop i).map Ent.c)) ?_ ?_
  · refine la [0, 1, 5] ?_
    conv => whnf
    refine ⟨rfl, rfl, _, 0, k, _, rfl, rfl, rfl, rfl, Nat.zero_le _, by omega, rfl⟩
  · rintro mq tm S nx ⟨i, q, xs, hn, rfl, rfl, rfl, hi, hq, hx⟩
    rcases drop_or t i hi with ⟨rfl, hd⟩ | ⟨x, r, hx', hd, hr, hlt⟩
    · rw [hd, List.map_nil, List.append_nil] at hx
      have hxl : xs.length = t.length := by rw [hx, List.length_map, mkL_len]
      rw [← hx, ← hq]
      repeat' first | refine Ra ⟨?_⟩ | ((first | refine bf (by omega) ?_ | (refine bd (fun h => ?_) (fun h => ?_) <;> (try simp only [List.length_map] at h)) | refine bsplit.mk (fun h => ?_) (fun h => ?_)) <;> conv => whnf) | refine Rb ⟨?_⟩ | fail
      exact Rf
    · rw [hd, List.map_cons] at hx
      have hAl : i = ((mkL fE 3 k i).map Ent.c).length := by rw [List.length_map, mkL_len]
      have hxl : xs.length = t.length := by
        have := congrArg List.length hd
        simp at this
        rw [hx, List.length_append, ← hAl, List.length_cons, List.length_map]; omega
      have hg : xs[i]? = some (Ent.c x) := by rw [hx]; exact get_mid hAl
      have c0 := markText_con (m := m) (q) (by omega)
      have c2 := markText_con (m := m) (q + 1 + 1) (by omega)
      repeat' first | refine Ra ⟨?_⟩ | ((first | refine bt (by omega) ?_ | refine Rc [] 0 rfl rfl (c0) ?_ | refine Rc [] 0 rfl rfl (c2) ?_ | refine ⟨i, rfl, by (try simp only [List.length_set]); omega, ?_⟩ | refine ⟨_, hg, Nat.le_of_ble_eq_true rfl, ?_⟩ | refine ⟨_, get_set (by (try simp only [List.length_set]); omega), Nat.le_of_ble_eq_true rfl, ?_⟩ | refine wr (by omega) (by omega) ?_ | (refine bd (fun h => ?_) (fun h => ?_) <;> (try simp only [List.length_map] at h)) | refine bsplit.mk (fun h => ?_) (fun h => ?_)) <;> conv => whnf) | refine Rb ⟨?_⟩ | fail
      refine .here ⟨mq - 1, by omega, ?_⟩
      refine la [0, 1, 5] ?_
      conv => whnf
      refine ⟨rfl, rfl, i + 1, q + 1 + 1 + 1, _, (by omega), rfl, rfl, rfl, by omega, by omega, ?_⟩
      rw [List.set_set, List.set_set, hx, set_mid hAl, mkL, hr, ← hq, List.map_append, List.append_assoc]
      rfl
theorem heldEntS_con (n : Nat) (k : Int) (hk : 0 ≤ k ∧ k ≤ 10000) (ht : n ≤ 100000) : Con (E m) 39 0 [.sl ((mkL fE 3 k n).map Ent.c), .k .i64 k] [] (.k .i64 (k + 3 * n)) [] := by
  have hml : ((mkL fE 3 k n).map Ent.c).length = n := by rw [List.length_map, mkL_len]
  refine con_of_cd tyOk mix Tryd.func39 rfl rfl rfl (Nat.le_of_ble_eq_true rfl) ?_
  repeat' first | refine Ra ⟨?_⟩ | ((first | (refine bd (fun h => ?_) (fun h => ?_) <;> (try simp only [List.length_map] at h)) | refine bsplit.mk (fun h => ?_) (fun h => ?_)) <;> conv => whnf) | refine Rb ⟨?_⟩ | fail
  refine Cd.loop2 (fun mq tm S nx => ∃ (i : Nat) (q : Int), mq = (n - i) ∧ tm = [(0, .sl ((mkL fE 3 k n).map Ent.c)), (1, .k .i64 q), (5, .k .i64 i)] ∧ S = [] ∧ nx = 0 ∧ (i ≤ n) ∧ (q = k + 3 * i)) ?_ ?_
  · refine la [0, 1, 5] ?_
    conv => whnf
    refine ⟨rfl, rfl, _, 0, k, rfl, rfl, rfl, rfl, Nat.zero_le _, by omega⟩
  · rintro mq tm S nx ⟨i, q, hn, rfl, rfl, rfl, hi, hq⟩
    by_cases hlt : i < n
    · have hg : ((mkL fE 3 k n).map Ent.c)[i]? = some [.s (markT (q)), .b (decide ((q + 1) % 3 = 0)), .s (markT (q + 1 + 1))] := by rw [List.getElem?_map, mkL_get hlt, hq]; rfl
      have c0 := markText_con (m := m) (q) (by omega)
      have c2 := markText_con (m := m) (q + 1 + 1) (by omega)
      repeat' first | refine Ra ⟨?_⟩ | ((first | refine bt (by omega) ?_ | refine Rc [] 0 rfl rfl (c0) ?_ | refine Rc [] 0 rfl rfl (c2) ?_ | refine ⟨i, _, rfl, hg, rfl, ?_⟩ | refine wr (by omega) (by omega) ?_ | (refine bd (fun h => ?_) (fun h => ?_) <;> (try simp only [List.length_map] at h)) | refine bsplit.mk (fun h => ?_) (fun h => ?_)) <;> conv => whnf) | refine Rb ⟨?_⟩ | fail
      refine .here ⟨mq - 1, by omega, ?_⟩
      refine la [0, 1, 5] ?_
      conv => whnf
      refine ⟨rfl, rfl, i + 1, q + 1 + 1 + 1, (by omega), rfl, rfl, rfl, by omega, by omega⟩
    · have hi2 : i = n := by omega
      subst hi2
      rw [← hq]
      repeat' first | refine Ra ⟨?_⟩ | ((first | refine bf (by omega) ?_ | (refine bd (fun h => ?_) (fun h => ?_) <;> (try simp only [List.length_map] at h)) | refine bsplit.mk (fun h => ?_) (fun h => ?_)) <;> conv => whnf) | refine Rb ⟨?_⟩ | fail
      exact Rf
theorem markMarkS_con (t : List Mrk) (k : Int) (hk : 0 ≤ k ∧ k ≤ 10000) (ht : t.length ≤ 100000) : Con (E m) 42 1 [.own 0, .k .i64 k] [(0, .own 96 (t.map Mrk.c))] (.k .i64 (k + 3 * t.length)) [(0, .own 96 ((mkL fM 3 k t.length).map Mrk.c))] := by
  refine con_of_cd tyOk mix Tryd.func42 rfl rfl rfl (Nat.le_of_ble_eq_true rfl) ?_
  repeat' first | refine Ra ⟨?_⟩ | ((first | (refine bd (fun h => ?_) (fun h => ?_) <;> (try simp only [List.length_map] at h)) | refine bsplit.mk (fun h => ?_) (fun h => ?_)) <;> conv => whnf) | refine Rb ⟨?_⟩ | fail
  refine Cd.loop2 (fun mq tm S nx => ∃ (i : Nat) (q : Int) (xs : List (List D)), mq = (t.length - i) ∧ tm = [(0, .own 0), (1, .k .i64 q), (5, .k .i64 i)] ∧ S = [(0, .own 96 xs)] ∧ nx = 1 ∧ (i ≤ t.length) ∧ (q = k + 3 * i) ∧ (xs = (mkL fM 3 k i).map Mrk.c ++ (t.drop i).map Mrk.c)) ?_ ?_
  · refine la [0, 1, 5] ?_
    conv => whnf
    refine ⟨rfl, rfl, _, 0, k, _, rfl, rfl, rfl, rfl, Nat.zero_le _, by omega, rfl⟩
  · rintro mq tm S nx ⟨i, q, xs, hn, rfl, rfl, rfl, hi, hq, hx⟩
    rcases drop_or t i hi with ⟨rfl, hd⟩ | ⟨x, r, hx', hd, hr, hlt⟩
    · rw [hd, List.map_nil, List.append_nil] at hx
      have hxl : xs.length = t.length := by rw [hx, List.length_map, mkL_len]
      rw [← hx, ← hq]
      repeat' first | refine Ra ⟨?_⟩ | ((first | refine bf (by omega) ?_ | (refine bd (fun h => ?_) (fun h => ?_) <;> (try simp only [List.length_map] at h)) | refine bsplit.mk (fun h => ?_) (fun h => ?_)) <;> conv => whnf) | refine Rb ⟨?_⟩ | fail
      exact Rf
    · rw [hd, List.map_cons] at hx
      have hAl : i = ((mkL fM 3 k i).map Mrk.c).length := by rw [List.length_map, mkL_len]
      have hxl : xs.length = t.length := by
        have := congrArg List.length hd
        simp at this
        rw [hx, List.length_append, ← hAl, List.length_cons, List.length_map]; omega
      have hg : xs[i]? = some (Mrk.c x) := by rw [hx]; exact get_mid hAl
      have c0 := markText_con (m := m) (q) (by omega)
      have c2 := markText_con (m := m) (q + 1 + 1) (by omega)
      repeat' first | refine Ra ⟨?_⟩ | ((first | refine bt (by omega) ?_ | refine Rc [] 0 rfl rfl (c0) ?_ | refine Rc [] 0 rfl rfl (c2) ?_ | refine ⟨i, rfl, by (try simp only [List.length_set]); omega, ?_⟩ | refine ⟨_, hg, Nat.le_of_ble_eq_true rfl, ?_⟩ | refine ⟨_, get_set (by (try simp only [List.length_set]); omega), Nat.le_of_ble_eq_true rfl, ?_⟩ | (refine bd (fun h => ?_) (fun h => ?_) <;> (try simp only [List.length_map] at h)) | refine bsplit.mk (fun h => ?_) (fun h => ?_)) <;> conv => whnf) | refine Rb ⟨?_⟩ | fail
      refine .here ⟨mq - 1, by omega, ?_⟩
      refine la [0, 1, 5] ?_
      conv => whnf
      refine ⟨rfl, rfl, i + 1, q + 1 + 1 + 1, _, (by omega), rfl, rfl, rfl, by omega, by omega, ?_⟩
      rw [List.set_set, List.set_set, hx, set_mid hAl, mkL, hr, ← hq, List.map_append, List.append_assoc]
      rfl
theorem heldMarkS_con (n : Nat) (k : Int) (hk : 0 ≤ k ∧ k ≤ 10000) (ht : n ≤ 100000) : Con (E m) 43 0 [.sl ((mkL fM 3 k n).map Mrk.c), .k .i64 k] [] (.k .i64 (k + 3 * n)) [] := by
  have hml : ((mkL fM 3 k n).map Mrk.c).length = n := by rw [List.length_map, mkL_len]
  refine con_of_cd tyOk mix Tryd.func43 rfl rfl rfl (Nat.le_of_ble_eq_true rfl) ?_
  repeat' first | refine Ra ⟨?_⟩ | ((first | (refine bd (fun h => ?_) (fun h => ?_) <;> (try simp only [List.length_map] at h)) | refine bsplit.mk (fun h => ?_) (fun h => ?_)) <;> conv => whnf) | refine Rb ⟨?_⟩ | fail
  refine Cd.loop2 (fun mq tm S nx => ∃ (i : Nat) (q : Int), mq = (n - i) ∧ tm = [(0, .sl ((mkL fM 3 k n).map Mrk.c)), (1, .k .i64 q), (5, .k .i64 i)] ∧ S = [] ∧ nx = 0 ∧ (i ≤ n) ∧ (q = k + 3 * i)) ?_ ?_
  · refine la [0, 1, 5] ?_
    conv => whnf
    refine ⟨rfl, rfl, _, 0, k, rfl, rfl, rfl, rfl, Nat.zero_le _, by omega⟩
  · rintro mq tm S nx ⟨i, q, hn, rfl, rfl, rfl, hi, hq⟩
    by_cases hlt : i < n
    · have hg : ((mkL fM 3 k n).map Mrk.c)[i]? = some [.s (markT (q)), .k .i64 (q + 1), .s (markT (q + 1 + 1))] := by rw [List.getElem?_map, mkL_get hlt, hq]; rfl
      have c0 := markText_con (m := m) (q) (by omega)
      have c2 := markText_con (m := m) (q + 1 + 1) (by omega)
      repeat' first | refine Ra ⟨?_⟩ | ((first | refine bt (by omega) ?_ | refine Rc [] 0 rfl rfl (c0) ?_ | refine Rc [] 0 rfl rfl (c2) ?_ | refine ⟨i, _, rfl, hg, rfl, ?_⟩ | (refine bd (fun h => ?_) (fun h => ?_) <;> (try simp only [List.length_map] at h)) | refine bsplit.mk (fun h => ?_) (fun h => ?_)) <;> conv => whnf) | refine Rb ⟨?_⟩ | fail
      refine .here ⟨mq - 1, by omega, ?_⟩
      refine la [0, 1, 5] ?_
      conv => whnf
      refine ⟨rfl, rfl, i + 1, q + 1 + 1 + 1, (by omega), rfl, rfl, rfl, by omega, by omega⟩
    · have hi2 : i = n := by omega
      subst hi2
      rw [← hq]
      repeat' first | refine Ra ⟨?_⟩ | ((first | refine bf (by omega) ?_ | (refine bd (fun h => ?_) (fun h => ?_) <;> (try simp only [List.length_map] at h)) | refine bsplit.mk (fun h => ?_) (fun h => ?_)) <;> conv => whnf) | refine Rb ⟨?_⟩ | fail
      exact Rf
end Go.Proofs.YtgeieehampfkcaaDoor
/- What the laws' texts of this seat share. -/
set_option linter.unusedSimpArgs false
set_option linter.unusedVariables false
set_option maxHeartbeats 1000000
set_option maxRecDepth 100000
namespace Go.Proofs.YtgeieehampfkcaaDoor
open Go Go.RowKit Go.Ab
variable {m : Int}
theorem gl_m {W : World} (hm : W.cell? ⟨1, 0, none⟩ = some (.int .i64 m)) : ∀ g cs, (E m).gl g = some cs → VI W noAv (.ep cs) (.pointer (some ⟨g, 0, none⟩)) := by
  intro g cs h
  have h' : lk (gls m) g = some cs := h
  unfold gls at h'
  rw [lk_cons] at h'
  split at h'
  · rename_i hg
    subst hg
    cases h'
    exact gl_one hm rfl (.k _ _)
  · simp [lk] at h'
theorem maxLen_shaped (W : World) (h : W.ShapedOpen Tryd.prog) : ∃ m, W.cell? ⟨1, 0, none⟩ = some (.int .i64 m) :=
  Go.Proofs.cell_of_shapedOpen_int (zero := #[.int .i64 0]) (t := 3) h (of_decide_eq_true (by kernel_rfl)) (by kernel_rfl) rfl (by kernel_rfl) (by kernel_rfl) Tryd.underlying3
theorem glO_of {W : World} {l : List (String × DataW Unit)} (hm : W.cell? ⟨1, 0, none⟩ = some (.int .i64 m)) (hplain : (l.all fun x => x.2.handleName?.isNone) = true) (hmem : ("loop.example/pargeting/impl.opWords", Rows.laid_loop_example_pargeting_impl_opWords) ∈ l) (hx : laidMetH Tryd.prog l W) :
    ∀ g cs, (Eo m).gl g = some cs → VI W noAv (.ep cs) (.pointer (some ⟨g, 0, none⟩)) := by
  intro g cs h
  have h' : lk (glsO m) g = some cs := h
  unfold glsO at h'
  rw [lk_cons] at h'
  split at h'
  · rename_i hg
    subst hg
    cases h'
    exact gl_one hm rfl (.k _ _)
  · rw [lk_cons] at h'
    split at h'
    · rename_i hg
      subst hg
      cases h'
      rw [MakeChecks.laidMetH_plain _ _ _ hplain] at hx
      obtain ⟨ps, hl, _, _⟩ := hx
      obtain ⟨g1, t1, cs1, fuel, p, e1, e2, e3, e4⟩ := laid_mem hl _ _ hmem
      have hg : Tryd.prog.globalNamed "loop.example/pargeting/impl.opWords" = some 0 := by kernel_rfl
      have ht : (Tryd.prog.globals[0]?).map (·.type) = some 76 := by kernel_rfl
      obtain rfl := Option.some.inj (hg.symm.trans e1)
      obtain rfl := Option.some.inj (ht.symm.trans e2)
      exact gl_texts (ls := [[], [109, 97, 107, 101], [112, 117, 116], [114, 109], [114, 109, 100, 105, 114], [109, 111, 118, 101]]) hg e3 Tryd.underlying76 Tryd.underlying9 (by kernel_rfl) (by simp) e4
    · simp [lk] at h'
end Go.Proofs.YtgeieehampfkcaaDoor
