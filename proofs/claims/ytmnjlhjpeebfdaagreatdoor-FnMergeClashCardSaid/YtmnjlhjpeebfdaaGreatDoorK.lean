/- What the texts of this seat share: the table of its types, its package variables, and facts of the program as a whole. -/
import Derived.Test.YtmnjlhjpeebfdaaGreatDoorX2
import Derived.Test.YtmnjlhjpeebfdaaGreatDoorRows
namespace Go.Proofs.YtmnjlhjpeebfdaaGreatDoor
open Go Go.RowKit Go.Ab
noncomputable def tys : List (Nat × TD) := [(2, ⟨.int .i64, 1, 8, .k .i64 0, none⟩),
  (3, ⟨.int .i64, 1, 8, .k .i64 0, none⟩),
  (4, ⟨.bool, 1, 1, .b false, none⟩),
  (5, ⟨.int .u8, 1, 1, .k .u8 0, none⟩),
  (6, ⟨.int .u8, 1, 1, .k .u8 0, none⟩),
  (7, ⟨.struct [(0, 1), (1, 1), (2, 1), (3, 1)], 4, 24, .agg [.k .i64 0, .k .i64 0, .b false, .k .u8 0], some [1, 1, 0, 1]⟩),
  (8, ⟨.struct [(0, 1), (1, 1), (2, 1), (3, 1)], 4, 24, .agg [.k .i64 0, .k .i64 0, .b false, .k .u8 0], some [1, 1, 0, 1]⟩),
  (9, ⟨.str, 1, 16, .s [], none⟩),
  (10, ⟨.str, 1, 16, .s [], none⟩),
  (11, ⟨.str, 1, 16, .s [], none⟩),
  (12, ⟨.int .u64, 1, 8, .k .u64 0, none⟩),
  (13, ⟨.struct [(0, 1), (1, 1)], 2, 24, .agg [.s [], .k .u64 0], none⟩),
  (14, ⟨.struct [(0, 1), (1, 1)], 2, 24, .agg [.s [], .k .u64 0], none⟩),
  (21, ⟨.int .i32, 1, 4, .k .i32 0, none⟩),
  (22, ⟨.slice 5, 1, 24, .nil, none⟩),
  (23, ⟨.slice 40, 1, 24, .nil, none⟩),
  (25, ⟨.slice 53, 1, 24, .nil, none⟩),
  (39, ⟨.struct [(0, 1), (1, 1), (2, 1)], 3, 40, .agg [.s [], .b false, .s []], some [2, 0, 2]⟩),
  (40, ⟨.struct [(0, 1), (1, 1), (2, 1)], 3, 40, .agg [.s [], .b false, .s []], some [2, 0, 2]⟩),
  (46, ⟨.slice 9, 1, 24, .nil, none⟩),
  (52, ⟨.struct [(0, 1), (1, 1), (2, 1)], 3, 40, .agg [.s [], .k .i64 0, .s []], some [2, 1, 2]⟩),
  (53, ⟨.struct [(0, 1), (1, 1), (2, 1)], 3, 40, .agg [.s [], .k .i64 0, .s []], some [2, 1, 2]⟩),
  (55, ⟨.slice 46, 1, 24, .nil, none⟩),
  (86, ⟨.struct [(0, 1), (1, 1), (2, 1), (3, 1)], 4, 56, .agg [.k .i64 0, .s [], .s [], .s []], some [1, 2, 2, 2]⟩),
  (87, ⟨.struct [(0, 1), (1, 1), (2, 1), (3, 1)], 4, 56, .agg [.k .i64 0, .s [], .s [], .s []], some [1, 2, 2, 2]⟩),
  (89, ⟨.slice 3, 1, 24, .nil, none⟩),
  (90, ⟨.struct [(0, 1), (1, 1)], 2, 32, .agg [.nil, .k .i64 0], none⟩),
  (91, ⟨.struct [(0, 1), (1, 1)], 2, 32, .agg [.nil, .k .i64 0], none⟩),
  (92, ⟨.slice 23, 1, 24, .nil, none⟩),
  (95, ⟨.struct [(0, 3), (3, 1)], 4, 48, .agg [.s [], .b false, .s [], .b false], some [2, 0, 2, 0]⟩),
  (96, ⟨.struct [(0, 3), (3, 1)], 4, 48, .agg [.s [], .b false, .s [], .b false], some [2, 0, 2, 0]⟩),
  (116, ⟨.int .u64, 1, 8, .k .u64 0, none⟩),
  (132, ⟨.int .i64, 1, 8, .k .i64 0, none⟩),
  (140, ⟨.int .u32, 1, 4, .k .u32 0, none⟩),
  (142, ⟨.int .u64, 1, 8, .k .u64 0, none⟩),
  (150, ⟨.int .u64, 1, 8, .k .u64 0, none⟩),
  (164, ⟨.parr 256 5, 256, 256, .agg [.k .u8 0, .k .u8 0, .k .u8 0, .k .u8 0, .k .u8 0, .k .u8 0, .k .u8 0, .k .u8 0, .k .u8 0, .k .u8 0, .k .u8 0, .k .u8 0, .k .u8 0, .k .u8 0, .k .u8 0, .k .u8 0, .k .u8 0, .k .u8 0, .k .u8 0, .k .u8 0, .k .u8 0, .k .u8 0, .k .u8 0, .k .u8 0, .k .u8 0, .k .u8 0, .k .u8 0, .k .u8 0, .k .u8 0, .k .u8 0, .k .u8 0, .k .u8 0, .k .u8 0, .k .u8 0, .k .u8 0, .k .u8 0, .k .u8 0, .k .u8 0, .k .u8 0, .k .u8 0, .k .u8 0, .k .u8 0, .k .u8 0, .k .u8 0, .k .u8 0, .k .u8 0, .k .u8 0, .k .u8 0, .k .u8 0, .k .u8 0, .k .u8 0, .k .u8 0, .k .u8 0, .k .u8 0, .k .u8 0, .k .u8 0, .k .u8 0, .k .u8 0, .k .u8 0, .k .u8 0, .k .u8 0, .k .u8 0, .k .u8 0, .k .u8 0, .k .u8 0, .k .u8 0, .k .u8 0, .k .u8 0, .k .u8 0, .k .u8 0, .k .u8 0, .k .u8 0, .k .u8 0, .k .u8 0, .k .u8 0, .k .u8 0, .k .u8 0, .k .u8 0, .k .u8 0, .k .u8 0, .k .u8 0, .k .u8 0, .k .u8 0, .k .u8 0, .k .u8 0, .k .u8 0, .k .u8 0, .k .u8 0, .k .u8 0, .k .u8 0, .k .u8 0, .k .u8 0, .k .u8 0, .k .u8 0, .k .u8 0, .k .u8 0, .k .u8 0, .k .u8 0, .k .u8 0, .k .u8 0, .k .u8 0, .k .u8 0, .k .u8 0, .k .u8 0, .k .u8 0, .k .u8 0, .k .u8 0, .k .u8 0, .k .u8 0, .k .u8 0, .k .u8 0, .k .u8 0, .k .u8 0, .k .u8 0, .k .u8 0, .k .u8 0, .k .u8 0, .k .u8 0, .k .u8 0, .k .u8 0, .k .u8 0, .k .u8 0, .k .u8 0, .k .u8 0, .k .u8 0, .k .u8 0, .k .u8 0, .k .u8 0, .k .u8 0, .k .u8 0, .k .u8 0, .k .u8 0, .k .u8 0, .k .u8 0, .k .u8 0, .k .u8 0, .k .u8 0, .k .u8 0, .k .u8 0, .k .u8 0, .k .u8 0, .k .u8 0, .k .u8 0, .k .u8 0, .k .u8 0, .k .u8 0, .k .u8 0, .k .u8 0, .k .u8 0, .k .u8 0, .k .u8 0, .k .u8 0, .k .u8 0, .k .u8 0, .k .u8 0, .k .u8 0, .k .u8 0, .k .u8 0, .k .u8 0, .k .u8 0, .k .u8 0, .k .u8 0, .k .u8 0, .k .u8 0, .k .u8 0, .k .u8 0, .k .u8 0, .k .u8 0, .k .u8 0, .k .u8 0, .k .u8 0, .k .u8 0, .k .u8 0, .k .u8 0, .k .u8 0, .k .u8 0, .k .u8 0, .k .u8 0, .k .u8 0, .k .u8 0, .k .u8 0, .k .u8 0, .k .u8 0, .k .u8 0, .k .u8 0, .k .u8 0, .k .u8 0, .k .u8 0, .k .u8 0, .k .u8 0, .k .u8 0, .k .u8 0, .k .u8 0, .k .u8 0, .k .u8 0, .k .u8 0, .k .u8 0, .k .u8 0, .k .u8 0, .k .u8 0, .k .u8 0, .k .u8 0, .k .u8 0, .k .u8 0, .k .u8 0, .k .u8 0, .k .u8 0, .k .u8 0, .k .u8 0, .k .u8 0, .k .u8 0, .k .u8 0, .k .u8 0, .k .u8 0, .k .u8 0, .k .u8 0, .k .u8 0, .k .u8 0, .k .u8 0, .k .u8 0, .k .u8 0, .k .u8 0, .k .u8 0, .k .u8 0, .k .u8 0, .k .u8 0, .k .u8 0, .k .u8 0, .k .u8 0, .k .u8 0, .k .u8 0, .k .u8 0, .k .u8 0, .k .u8 0, .k .u8 0, .k .u8 0, .k .u8 0, .k .u8 0, .k .u8 0, .k .u8 0, .k .u8 0, .k .u8 0, .k .u8 0, .k .u8 0, .k .u8 0, .k .u8 0, .k .u8 0, .k .u8 0, .k .u8 0, .k .u8 0, .k .u8 0, .k .u8 0, .k .u8 0, .k .u8 0, .k .u8 0, .k .u8 0], none⟩),
  (165, ⟨.struct [(0, 1), (1, 1)], 2, 2, .agg [.k .u8 0, .k .u8 0], some [1, 1]⟩),
  (166, ⟨.struct [(0, 1), (1, 1)], 2, 2, .agg [.k .u8 0, .k .u8 0], some [1, 1]⟩),
  (167, ⟨.parr 16 166, 32, 32, .agg [.k .u8 0, .k .u8 0, .k .u8 0, .k .u8 0, .k .u8 0, .k .u8 0, .k .u8 0, .k .u8 0, .k .u8 0, .k .u8 0, .k .u8 0, .k .u8 0, .k .u8 0, .k .u8 0, .k .u8 0, .k .u8 0, .k .u8 0, .k .u8 0, .k .u8 0, .k .u8 0, .k .u8 0, .k .u8 0, .k .u8 0, .k .u8 0, .k .u8 0, .k .u8 0, .k .u8 0, .k .u8 0, .k .u8 0, .k .u8 0, .k .u8 0, .k .u8 0], none⟩),
  (174, ⟨.int .u8, 1, 1, .k .u8 0, none⟩),
  (175, ⟨.int .u8, 1, 1, .k .u8 0, none⟩),
  (177, ⟨.int .i32, 1, 4, .k .i32 0, none⟩),
  (178, ⟨.int .i32, 1, 4, .k .i32 0, none⟩)]
noncomputable def gls (_m : Int) : List (Nat × List D) := [
  (0, [.k .i64 _m])
  ]
noncomputable abbrev E (m : Int) : Env := ⟨Tryz.prog, lk tys, lk (gls m)⟩
theorem tyChk0 : tysChk Tryz.prog tys = true := by kernel_rfl
theorem mix0 : Tryz.prog.follows .mixedOrders = true := by kernel_rfl
theorem tyOk {m : Int} : TyOk (E m) := tyOk_of rfl tyChk0
theorem mix {m : Int} : (E m).P.follows .mixedOrders = true := mix0
theorem own0 : ownKnob Tryz.prog.godebug = none := by kernel_rfl
theorem laidOut0 : laidOutB Tryz.prog = true := by kernel_rfl
end Go.Proofs.YtmnjlhjpeebfdaaGreatDoor
