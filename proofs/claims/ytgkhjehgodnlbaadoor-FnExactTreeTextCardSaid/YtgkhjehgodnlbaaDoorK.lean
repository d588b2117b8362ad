/- What the texts of this seat share: the table of its types, its package variables, and facts of the program as a whole. -/
import Derived.Test.YtgkhjehgodnlbaaDoorBv
import Derived.Test.YtgkhjehgodnlbaaDoorBw
import Derived.Test.YtgkhjehgodnlbaaDoorRows
namespace Go.Proofs.YtgkhjehgodnlbaaDoor
open Go Go.RowKit Go.Ab
noncomputable def tys : List (Nat × TD) := [(2, ⟨.int .i64, 1, 8, .k .i64 0, none⟩),
  (3, ⟨.int .i64, 1, 8, .k .i64 0, none⟩),
  (4, ⟨.bool, 1, 1, .b false, none⟩),
  (5, ⟨.int .u8, 1, 1, .k .u8 0, none⟩),
  (6, ⟨.int .u8, 1, 1, .k .u8 0, none⟩),
  (7, ⟨.struct [(0, 1), (1, 1), (2, 1), (3, 1)], 4, 24, .agg [.k .i64 0, .k .i64 0, .b false, .k .u8 0], some [1, 1, 0, 1]⟩),
  (8, ⟨.struct [(0, 1), (1, 1), (2, 1), (3, 1)], 4, 24, .agg [.k .i64 0, .k .i64 0, .b false, .k .u8 0], some [1, 1, 0, 1]⟩),
  (9, ⟨.str, 1, 16, .s [], none⟩),
  (10, ⟨.str, 1, 16, .s [], none⟩),
  (11, ⟨.str, 1, 16, .s [], none⟩),
  (12, ⟨.int .u64, 1, 8, .k .u64 0, none⟩),
  (13, ⟨.struct [(0, 1), (1, 1)], 2, 24, .agg [.s [], .k .u64 0], none⟩),
  (14, ⟨.struct [(0, 1), (1, 1)], 2, 24, .agg [.s [], .k .u64 0], none⟩),
  (21, ⟨.int .i32, 1, 4, .k .i32 0, none⟩),
  (22, ⟨.struct [(0, 1), (1, 1), (2, 1), (3, 1)], 4, 56, .agg [.k .i64 0, .s [], .s [], .s []], some [1, 2, 2, 2]⟩),
  (23, ⟨.struct [(0, 1), (1, 1), (2, 1), (3, 1)], 4, 56, .agg [.k .i64 0, .s [], .s [], .s []], some [1, 2, 2, 2]⟩),
  (26, ⟨.struct [(0, 1), (1, 1), (2, 1), (3, 1)], 4, 56, .agg [.k .i64 0, .s [], .s [], .s []], some [1, 2, 2, 2]⟩),
  (33, ⟨.slice 5, 1, 24, .nil, none⟩),
  (38, ⟨.slice 76, 1, 24, .nil, none⟩),
  (41, ⟨.slice 46, 1, 24, .nil, none⟩),
  (45, ⟨.struct [(0, 1), (1, 1), (2, 1)], 3, 40, .agg [.s [], .b false, .s []], some [2, 0, 2]⟩),
  (46, ⟨.struct [(0, 1), (1, 1), (2, 1)], 3, 40, .agg [.s [], .b false, .s []], some [2, 0, 2]⟩),
  (51, ⟨.slice 86, 1, 24, .nil, none⟩),
  (54, ⟨.slice 89, 1, 24, .nil, none⟩),
  (64, ⟨.slice 9, 1, 24, .nil, none⟩),
  (66, ⟨.parr 6 9, 6, 96, .agg [.s [], .s [], .s [], .s [], .s [], .s []], none⟩),
  (76, ⟨.struct [(0, 1), (1, 1), (2, 1)], 3, 40, .agg [.s [], .b false, .s []], some [2, 0, 2]⟩),
  (81, ⟨.struct [(0, 3), (3, 1)], 4, 48, .agg [.s [], .b false, .s [], .b false], some [2, 0, 2, 0]⟩),
  (82, ⟨.struct [(0, 3), (3, 1)], 4, 48, .agg [.s [], .b false, .s [], .b false], some [2, 0, 2, 0]⟩),
  (85, ⟨.struct [(0, 1), (1, 1), (2, 1)], 3, 40, .agg [.s [], .k .i64 0, .s []], some [2, 1, 2]⟩),
  (86, ⟨.struct [(0, 1), (1, 1), (2, 1)], 3, 40, .agg [.s [], .k .i64 0, .s []], some [2, 1, 2]⟩),
  (89, ⟨.struct [(0, 1), (1, 1), (2, 1)], 3, 40, .agg [.s [], .k .i64 0, .s []], some [2, 1, 2]⟩),
  (94, ⟨.slice 64, 1, 24, .nil, none⟩),
  (102, ⟨.struct [(0, 1), (1, 1)], 2, 32, .agg [.nil, .k .i64 0], none⟩),
  (103, ⟨.struct [(0, 1), (1, 1)], 2, 32, .agg [.nil, .k .i64 0], none⟩),
  (107, ⟨.slice 3, 1, 24, .nil, none⟩),
  (139, ⟨.int .u64, 1, 8, .k .u64 0, none⟩),
  (141, ⟨.parr 256 5, 256, 256, .agg [.k .u8 0, .k .u8 0, .k .u8 0, .k .u8 0, .k .u8 0, .k .u8 0, .k .u8 0, .k .u8 0, .k .u8 0, .k .u8 0, .k .u8 0, .k .u8 0, .k .u8 0, .k .u8 0, .k .u8 0, .k .u8 0, .k .u8 0, .k .u8 0, .k .u8 0, .k .u8 0, .k .u8 0, .k .u8 0, .k .u8 0, .k .u8 0, .k .u8 0, .k .u8 0, .k .u8 0, .k .u8 0, .k .u8 0, .k .u8 0, .k .u8 0, .k .u8 0, .k .u8 0, .k .u8 0, .k .u8 0, .k .u8 0, .k .u8 0, .k .u8 0, .k .u8 0, .k .u8 0, .k .u8 0, .k .u8 0, .k .u8 0, .k .u8 0, .k .u8 0, .k .u8 0, .k .u8 0, .k .u8 0, .k .u8 0, .k .u8 0, .k .u8 0, .k .u8 0, .k .u8 0, .k .u8 0, .k .u8 0, .k .u8 0, .k .u8 0, .k .u8 0, .k .u8 0, .k .u8 0, .k .u8 0, .k .u8 0, .k .u8 0, .k .u8 0, .k .u8 0, .k .u8 0, .k .u8 0, .k .u8 0, .k .u8 0, .k .u8 0, .k .u8 0, .k .u8 0, .k .u8 0, .k .u8 0, .k .u8 0, .k .u8 0, .k .u8 0, .k .u8 0, .k .u8 0, .k .u8 0, .k .u8 0, .k .u8 0, .k .u8 0, .k .u8 0, .k .u8 0, .k .u8 0, .k .u8 0, .k .u8 0, .k .u8 0, .k .u8 0, .k .u8 0, .k .u8 0, .k .u8 0, .k .u8 0, .k .u8 0, .k .u8 0, .k .u8 0, .k .u8 0, .k .u8 0, .k .u8 0, .k .u8 0, .k .u8 0, .k .u8 0, .k .u8 0, .k .u8 0, .k .u8 0, .k .u8 0, .k .u8 0, .k .u8 0, .k .u8 0, .k .u8 0, .k .u8 0, .k .u8 0, .k .u8 0, .k .u8 0, .k .u8 0, .k .u8 0, .k .u8 0, .k .u8 0, .k .u8 0, .k .u8 0, .k .u8 0, .k .u8 0, .k .u8 0, .k .u8 0, .k .u8 0, .k .u8 0, .k .u8 0, .k .u8 0, .k .u8 0, .k .u8 0, .k .u8 0, .k .u8 0, .k .u8 0, .k .u8 0, .k .u8 0, .k .u8 0, .k .u8 0, .k .u8 0, .k .u8 0, .k .u8 0, .k .u8 0, .k .u8 0, .k .u8 0, .k .u8 0, .k .u8 0, .k .u8 0, .k .u8 0, .k .u8 0, .k .u8 0, .k .u8 0, .k .u8 0, .k .u8 0, .k .u8 0, .k .u8 0, .k .u8 0, .k .u8 0, .k .u8 0, .k .u8 0, .k .u8 0, .k .u8 0, .k .u8 0, .k .u8 0, .k .u8 0, .k .u8 0, .k .u8 0, .k .u8 0, .k .u8 0, .k .u8 0, .k .u8 0, .k .u8 0, .k .u8 0, .k .u8 0, .k .u8 0, .k .u8 0, .k .u8 0, .k .u8 0, .k .u8 0, .k .u8 0, .k .u8 0, .k .u8 0, .k .u8 0, .k .u8 0, .k .u8 0, .k .u8 0, .k .u8 0, .k .u8 0, .k .u8 0, .k .u8 0, .k .u8 0, .k .u8 0, .k .u8 0, .k .u8 0, .k .u8 0, .k .u8 0, .k .u8 0, .k .u8 0, .k .u8 0, .k .u8 0, .k .u8 0, .k .u8 0, .k .u8 0, .k .u8 0, .k .u8 0, .k .u8 0, .k .u8 0, .k .u8 0, .k .u8 0, .k .u8 0, .k .u8 0, .k .u8 0, .k .u8 0, .k .u8 0, .k .u8 0, .k .u8 0, .k .u8 0, .k .u8 0, .k .u8 0, .k .u8 0, .k .u8 0, .k .u8 0, .k .u8 0, .k .u8 0, .k .u8 0, .k .u8 0, .k .u8 0, .k .u8 0, .k .u8 0, .k .u8 0, .k .u8 0, .k .u8 0, .k .u8 0, .k .u8 0, .k .u8 0, .k .u8 0, .k .u8 0, .k .u8 0, .k .u8 0, .k .u8 0, .k .u8 0, .k .u8 0, .k .u8 0, .k .u8 0, .k .u8 0, .k .u8 0, .k .u8 0, .k .u8 0, .k .u8 0, .k .u8 0, .k .u8 0, .k .u8 0, .k .u8 0, .k .u8 0, .k .u8 0, .k .u8 0, .k .u8 0], none⟩),
  (142, ⟨.struct [(0, 1), (1, 1)], 2, 2, .agg [.k .u8 0, .k .u8 0], some [1, 1]⟩),
  (143, ⟨.struct [(0, 1), (1, 1)], 2, 2, .agg [.k .u8 0, .k .u8 0], some [1, 1]⟩),
  (144, ⟨.parr 16 143, 32, 32, .agg [.k .u8 0, .k .u8 0, .k .u8 0, .k .u8 0, .k .u8 0, .k .u8 0, .k .u8 0, .k .u8 0, .k .u8 0, .k .u8 0, .k .u8 0, .k .u8 0, .k .u8 0, .k .u8 0, .k .u8 0, .k .u8 0, .k .u8 0, .k .u8 0, .k .u8 0, .k .u8 0, .k .u8 0, .k .u8 0, .k .u8 0, .k .u8 0, .k .u8 0, .k .u8 0, .k .u8 0, .k .u8 0, .k .u8 0, .k .u8 0, .k .u8 0, .k .u8 0], none⟩),
  (145, ⟨.int .u32, 1, 4, .k .u32 0, none⟩),
  (157, ⟨.int .u8, 1, 1, .k .u8 0, none⟩),
  (158, ⟨.int .u8, 1, 1, .k .u8 0, none⟩),
  (160, ⟨.int .i32, 1, 4, .k .i32 0, none⟩),
  (161, ⟨.int .i32, 1, 4, .k .i32 0, none⟩),
  (165, ⟨.int .u64, 1, 8, .k .u64 0, none⟩)]
noncomputable def gls (_m : Int) : List (Nat × List D) := [
  (1, [.k .i64 _m])
  ]
noncomputable abbrev E (m : Int) : Env := ⟨Tryd.prog, lk tys, lk (gls m)⟩
theorem tyChk0 : tysChk Tryd.prog tys = true := by kernel_rfl
theorem mix0 : Tryd.prog.follows .mixedOrders = true := by kernel_rfl
theorem tyOk {m : Int} : TyOk (E m) := tyOk_of rfl tyChk0
theorem mix {m : Int} : (E m).P.follows .mixedOrders = true := mix0
theorem own0 : ownKnob Tryd.prog.godebug = none := by kernel_rfl
theorem laidOut0 : laidOutB Tryd.prog = true := by kernel_rfl
end Go.Proofs.YtgkhjehgodnlbaaDoor
