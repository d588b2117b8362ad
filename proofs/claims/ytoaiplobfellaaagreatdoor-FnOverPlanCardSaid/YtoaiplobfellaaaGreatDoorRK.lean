/- What the texts of this seat share: the table of its types, its package variables, and facts of the program as a whole. -/
import Derived.Test.YtoaiplobfellaaaGreatDoorRX2
import Derived.Test.YtoaiplobfellaaaGreatDoorRows
namespace Go.Proofs.YtoaiplobfellaaaGreatDoor
open Go Go.RowKit Go.Ab
noncomputable def tys : List (Nat × TD) := [(2, ⟨.int .i64, 1, 8, .k .i64 0, none⟩),
  (3, ⟨.int .i64, 1, 8, .k .i64 0, none⟩),
  (4, ⟨.bool, 1, 1, .b false, none⟩),
  (5, ⟨.int .u8, 1, 1, .k .u8 0, none⟩),
  (6, ⟨.int .u8, 1, 1, .k .u8 0, none⟩),
  (7, ⟨.struct [(0, 1), (1, 1), (2, 1), (3, 1)], 4, 24, .agg [.k .i64 0, .k .i64 0, .b false, .k .u8 0], some [1, 1, 0, 1]⟩),
  (8, ⟨.struct [(0, 1), (1, 1), (2, 1), (3, 1)], 4, 24, .agg [.k .i64 0, .k .i64 0, .b false, .k .u8 0], some [1, 1, 0, 1]⟩),
  (9, ⟨.str, 1, 16, .s [], none⟩),
  (10, ⟨.str, 1, 16, .s [], none⟩),
  (11, ⟨.str, 1, 16, .s [], none⟩),
  (12, ⟨.int .u64, 1, 8, .k .u64 0, none⟩),
  (13, ⟨.struct [(0, 1), (1, 1)], 2, 24, .agg [.s [], .k .u64 0], none⟩),
  (14, ⟨.struct [(0, 1), (1, 1)], 2, 24, .agg [.s [], .k .u64 0], none⟩),
  (21, ⟨.int .i32, 1, 4, .k .i32 0, none⟩),
  (22, ⟨.slice 106, 1, 24, .nil, none⟩),
  (23, ⟨.struct [(0, 1), (1, 1), (2, 1), (3, 1)], 4, 56, .agg [.k .i64 0, .s [], .s [], .s []], some [1, 2, 2, 2]⟩),
  (24, ⟨.struct [(0, 1), (1, 1), (2, 1), (3, 1)], 4, 56, .agg [.k .i64 0, .s [], .s [], .s []], some [1, 2, 2, 2]⟩),
  (27, ⟨.struct [(0, 1), (1, 1), (2, 1), (3, 1)], 4, 56, .agg [.k .i64 0, .s [], .s [], .s []], some [1, 2, 2, 2]⟩),
  (30, ⟨.slice 76, 1, 24, .nil, none⟩),
  (36, ⟨.slice 5, 1, 24, .nil, none⟩),
  (37, ⟨.slice 27, 1, 24, .nil, none⟩),
  (40, ⟨.slice 3, 1, 24, .nil, none⟩),
  (52, ⟨.slice 9, 1, 24, .nil, none⟩),
  (61, ⟨.slice 24, 1, 24, .nil, none⟩),
  (73, ⟨.slice 80, 1, 24, .nil, none⟩),
  (75, ⟨.struct [(0, 1), (1, 1), (2, 1)], 3, 40, .agg [.s [], .b false, .s []], some [2, 0, 2]⟩),
  (76, ⟨.struct [(0, 1), (1, 1), (2, 1)], 3, 40, .agg [.s [], .b false, .s []], some [2, 0, 2]⟩),
  (79, ⟨.struct [(0, 1), (1, 1), (2, 1)], 3, 40, .agg [.s [], .k .i64 0, .s []], some [2, 1, 2]⟩),
  (80, ⟨.struct [(0, 1), (1, 1), (2, 1)], 3, 40, .agg [.s [], .k .i64 0, .s []], some [2, 1, 2]⟩),
  (81, ⟨.slice 73, 1, 24, .nil, none⟩),
  (82, ⟨.struct [(0, 1), (1, 1), (2, 1)], 3, 72, .agg [.nil, .nil, .nil], none⟩),
  (83, ⟨.struct [(0, 1), (1, 1), (2, 1)], 3, 72, .agg [.nil, .nil, .nil], none⟩),
  (97, ⟨.slice 98, 1, 24, .nil, none⟩),
  (98, ⟨.slice 199, 1, 24, .nil, none⟩),
  (99, ⟨.struct [(0, 1), (1, 1), (2, 1)], 3, 72, .agg [.nil, .nil, .nil], none⟩),
  (100, ⟨.struct [(0, 1), (1, 1), (2, 1)], 3, 72, .agg [.nil, .nil, .nil], none⟩),
  (106, ⟨.struct [(0, 1), (1, 1), (2, 1)], 3, 40, .agg [.s [], .b false, .s []], some [2, 0, 2]⟩),
  (127, ⟨.parr 6 9, 6, 96, .agg [.s [], .s [], .s [], .s [], .s [], .s []], none⟩),
  (129, ⟨.slice 52, 1, 24, .nil, none⟩),
  (164, ⟨.struct [(0, 1), (1, 1)], 2, 32, .agg [.nil, .k .i64 0], none⟩),
  (165, ⟨.struct [(0, 1), (1, 1)], 2, 32, .agg [.nil, .k .i64 0], none⟩),
  (183, ⟨.slice 30, 1, 24, .nil, none⟩),
  (186, ⟨.struct [(0, 3), (3, 1)], 4, 48, .agg [.s [], .b false, .s [], .b false], some [2, 0, 2, 0]⟩),
  (187, ⟨.struct [(0, 3), (3, 1)], 4, 48, .agg [.s [], .b false, .s [], .b false], some [2, 0, 2, 0]⟩),
  (199, ⟨.struct [(0, 1), (1, 1), (2, 1)], 3, 40, .agg [.s [], .k .i64 0, .s []], some [2, 1, 2]⟩),
  (205, ⟨.int .u64, 1, 8, .k .u64 0, none⟩),
  (224, ⟨.int .i64, 1, 8, .k .i64 0, none⟩),
  (232, ⟨.int .u32, 1, 4, .k .u32 0, none⟩),
  (234, ⟨.int .u64, 1, 8, .k .u64 0, none⟩),
  (249, ⟨.int .u64, 1, 8, .k .u64 0, none⟩),
  (267, ⟨.parr 256 5, 256, 256, .agg [.k .u8 0, .k .u8 0, .k .u8 0, .k .u8 0, .k .u8 0, .k .u8 0, .k .u8 0, .k .u8 0, .k .u8 0, .k .u8 0, .k .u8 0, .k .u8 0, .k .u8 0, .k .u8 0, .k .u8 0, .k .u8 0, .k .u8 0, .k .u8 0, .k .u8 0, .k .u8 0, .k .u8 0, .k .u8 0, .k .u8 0, .k .u8 0, .k .u8 0, .k .u8 0, .k .u8 0, .k .u8 0, .k .u8 0, .k .u8 0, .k .u8 0, .k .u8 0, .k .u8 0, .k .u8 0, .k .u8 0, .k .u8 0, .k .u8 0, .k .u8 0, .k .u8 0, .k .u8 0, .k .u8 0, .k .u8 0, .k .u8 0, .k .u8 0, .k .u8 0, .k .u8 0, .k .u8 0, .k .u8 0, .k .u8 0, .k .u8 0, .k .u8 0, .k .u8 0, .k .u8 0, .k .u8 0, .k .u8 0, .k .u8 0, .k .u8 0, .k .u8 0, .k .u8 0, .k .u8 0, .k .u8 0, .k .u8 0, .k .u8 0, .k .u8 0, .k .u8 0, .k .u8 0, .k .u8 0, .k .u8 0, .k .u8 0, .k .u8 0, .k .u8 0, .k .u8 0, .k .u8 0, .k .u8 0, .k .u8 0, .k .u8 0, .k .u8 0, .k .u8 0, .k .u8 0, .k .u8 0, .k .u8 0, .k .u8 0, .k .u8 0, .k .u8 0, .k .u8 0, .k .u8 0, .k .u8 0, .k .u8 0, .k .u8 0, .k .u8 0, .k .u8 0, .k .u8 0, .k .u8 0, .k .u8 0, .k .u8 0, .k .u8 0, .k .u8 0, .k .u8 0, .k .u8 0, .k .u8 0, .k .u8 0, .k .u8 0, .k .u8 0, .k .u8 0, .k .u8 0, .k .u8 0, .k .u8 0, .k .u8 0, .k .u8 0, .k .u8 0, .k .u8 0, .k .u8 0, .k .u8 0, .k .u8 0, .k .u8 0, .k .u8 0, .k .u8 0, .k .u8 0, .k .u8 0, .k .u8 0, .k .u8 0, .k .u8 0, .k .u8 0, .k .u8 0, .k .u8 0, .k .u8 0, .k .u8 0, .k .u8 0, .k .u8 0, .k .u8 0, .k .u8 0, .k .u8 0, .k .u8 0, .k .u8 0, .k .u8 0, .k .u8 0, .k .u8 0, .k .u8 0, .k .u8 0, .k .u8 0, .k .u8 0, .k .u8 0, .k .u8 0, .k .u8 0, .k .u8 0, .k .u8 0, .k .u8 0, .k .u8 0, .k .u8 0, .k .u8 0, .k .u8 0, .k .u8 0, .k .u8 0, .k .u8 0, .k .u8 0, .k .u8 0, .k .u8 0, .k .u8 0, .k .u8 0, .k .u8 0, .k .u8 0, .k .u8 0, .k .u8 0, .k .u8 0, .k .u8 0, .k .u8 0, .k .u8 0, .k .u8 0, .k .u8 0, .k .u8 0, .k .u8 0, .k .u8 0, .k .u8 0, .k .u8 0, .k .u8 0, .k .u8 0, .k .u8 0, .k .u8 0, .k .u8 0, .k .u8 0, .k .u8 0, .k .u8 0, .k .u8 0, .k .u8 0, .k .u8 0, .k .u8 0, .k .u8 0, .k .u8 0, .k .u8 0, .k .u8 0, .k .u8 0, .k .u8 0, .k .u8 0, .k .u8 0, .k .u8 0, .k .u8 0, .k .u8 0, .k .u8 0, .k .u8 0, .k .u8 0, .k .u8 0, .k .u8 0, .k .u8 0, .k .u8 0, .k .u8 0, .k .u8 0, .k .u8 0, .k .u8 0, .k .u8 0, .k .u8 0, .k .u8 0, .k .u8 0, .k .u8 0, .k .u8 0, .k .u8 0, .k .u8 0, .k .u8 0, .k .u8 0, .k .u8 0, .k .u8 0, .k .u8 0, .k .u8 0, .k .u8 0, .k .u8 0, .k .u8 0, .k .u8 0, .k .u8 0, .k .u8 0, .k .u8 0, .k .u8 0, .k .u8 0, .k .u8 0, .k .u8 0, .k .u8 0, .k .u8 0, .k .u8 0, .k .u8 0, .k .u8 0, .k .u8 0, .k .u8 0, .k .u8 0, .k .u8 0, .k .u8 0, .k .u8 0, .k .u8 0, .k .u8 0, .k .u8 0, .k .u8 0, .k .u8 0, .k .u8 0, .k .u8 0, .k .u8 0, .k .u8 0, .k .u8 0, .k .u8 0, .k .u8 0], none⟩),
  (268, ⟨.struct [(0, 1), (1, 1)], 2, 2, .agg [.k .u8 0, .k .u8 0], some [1, 1]⟩),
  (269, ⟨.struct [(0, 1), (1, 1)], 2, 2, .agg [.k .u8 0, .k .u8 0], some [1, 1]⟩),
  (270, ⟨.parr 16 269, 32, 32, .agg [.k .u8 0, .k .u8 0, .k .u8 0, .k .u8 0, .k .u8 0, .k .u8 0, .k .u8 0, .k .u8 0, .k .u8 0, .k .u8 0, .k .u8 0, .k .u8 0, .k .u8 0, .k .u8 0, .k .u8 0, .k .u8 0, .k .u8 0, .k .u8 0, .k .u8 0, .k .u8 0, .k .u8 0, .k .u8 0, .k .u8 0, .k .u8 0, .k .u8 0, .k .u8 0, .k .u8 0, .k .u8 0, .k .u8 0, .k .u8 0, .k .u8 0, .k .u8 0], none⟩),
  (280, ⟨.int .u8, 1, 1, .k .u8 0, none⟩),
  (281, ⟨.int .u8, 1, 1, .k .u8 0, none⟩),
  (283, ⟨.int .i32, 1, 4, .k .i32 0, none⟩),
  (284, ⟨.int .i32, 1, 4, .k .i32 0, none⟩)]
noncomputable def gls (_m : Int) : List (Nat × List D) := [
  (1, [.k .i64 _m])
  ]
noncomputable abbrev E (m : Int) : Env := ⟨Tryz.prog, lk tys, lk (gls m)⟩
theorem tyChk0 : tysChk Tryz.prog tys = true := by kernel_rfl
theorem mix0 : Tryz.prog.follows .mixedOrders = true := by kernel_rfl
theorem tyOk {m : Int} : TyOk (E m) := tyOk_of rfl tyChk0
theorem mix {m : Int} : (E m).P.follows .mixedOrders = true := mix0
/-- with the words of what is done -/
noncomputable def glsO (_m : Int) : List (Nat × List D) := [(1, [.k .i64 _m]), (0, [.s [], .s [109, 97, 107, 101], .s [112, 117, 116], .s [114, 109], .s [114, 109, 100, 105, 114], .s [109, 111, 118, 101]])]
noncomputable abbrev Eo (m : Int) : Env := ⟨Tryz.prog, lk tys, lk (glsO m)⟩
theorem own0 : ownKnob Tryz.prog.godebug = none := by kernel_rfl
theorem laidOut0 : laidOutB Tryz.prog = true := by kernel_rfl
end Go.Proofs.YtoaiplobfellaaaGreatDoor
