/- What the texts of this seat share: the table of its types, its package variables, and facts of the program as a whole. -/
import Derived.Test.YtplhgbcpeohpgaaX2
import Derived.Test.YtplhgbcpeohpgaaRows
namespace Go.Proofs.Ytplhgbcpeohpgaa
open Go Go.RowKit Go.Ab
noncomputable def tys : List (Nat × TD) := [(2, ⟨.int .i64, 1, 8, .k .i64 0, none⟩),
  (3, ⟨.int .i64, 1, 8, .k .i64 0, none⟩),
  (4, ⟨.bool, 1, 1, .b false, none⟩),
  (5, ⟨.int .u8, 1, 1, .k .u8 0, none⟩),
  (6, ⟨.int .u8, 1, 1, .k .u8 0, none⟩),
  (7, ⟨.struct [(0, 1), (1, 1), (2, 1), (3, 1)], 4, 24, .agg [.k .i64 0, .k .i64 0, .b false, .k .u8 0], some [1, 1, 0, 1]⟩),
  (8, ⟨.struct [(0, 1), (1, 1), (2, 1), (3, 1)], 4, 24, .agg [.k .i64 0, .k .i64 0, .b false, .k .u8 0], some [1, 1, 0, 1]⟩),
  (9, ⟨.str, 1, 16, .s [], none⟩),
  (10, ⟨.str, 1, 16, .s [], none⟩),
  (11, ⟨.str, 1, 16, .s [], none⟩),
  (12, ⟨.int .u64, 1, 8, .k .u64 0, none⟩),
  (13, ⟨.struct [(0, 1), (1, 1)], 2, 24, .agg [.s [], .k .u64 0], none⟩),
  (14, ⟨.struct [(0, 1), (1, 1)], 2, 24, .agg [.s [], .k .u64 0], none⟩),
  (21, ⟨.int .i32, 1, 4, .k .i32 0, none⟩),
  (22, ⟨.slice 5, 1, 24, .nil, none⟩),
  (23, ⟨.struct [(0, 1), (1, 1), (2, 1)], 3, 40, .agg [.s [], .b false, .s []], some [2, 0, 2]⟩),
  (24, ⟨.struct [(0, 1), (1, 1), (2, 1)], 3, 40, .agg [.s [], .b false, .s []], some [2, 0, 2]⟩),
  (26, ⟨.struct [(0, 1), (1, 1), (2, 1)], 3, 40, .agg [.s [], .k .i64 0, .s []], some [2, 1, 2]⟩),
  (27, ⟨.struct [(0, 1), (1, 1), (2, 1)], 3, 40, .agg [.s [], .k .i64 0, .s []], some [2, 1, 2]⟩),
  (34, ⟨.slice 24, 1, 24, .nil, none⟩),
  (38, ⟨.slice 27, 1, 24, .nil, none⟩),
  (41, ⟨.struct [(0, 1), (1, 1)], 2, 32, .agg [.nil, .k .i64 0], none⟩),
  (42, ⟨.struct [(0, 1), (1, 1)], 2, 32, .agg [.nil, .k .i64 0], none⟩),
  (44, ⟨.slice 9, 1, 24, .nil, none⟩),
  (46, ⟨.slice 3, 1, 24, .nil, none⟩),
  (49, ⟨.struct [(0, 1), (1, 1), (2, 1), (3, 1)], 4, 56, .agg [.k .i64 0, .s [], .s [], .s []], some [1, 2, 2, 2]⟩),
  (50, ⟨.struct [(0, 1), (1, 1), (2, 1), (3, 1)], 4, 56, .agg [.k .i64 0, .s [], .s [], .s []], some [1, 2, 2, 2]⟩),
  (85, ⟨.int .u32, 1, 4, .k .u32 0, none⟩),
  (86, ⟨.int .u8, 1, 1, .k .u8 0, none⟩),
  (87, ⟨.int .u8, 1, 1, .k .u8 0, none⟩),
  (90, ⟨.int .i32, 1, 4, .k .i32 0, none⟩),
  (91, ⟨.int .i32, 1, 4, .k .i32 0, none⟩),
  (97, ⟨.int .u64, 1, 8, .k .u64 0, none⟩)]
noncomputable def gls (_m : Int) : List (Nat × List D) := [
  ]
noncomputable abbrev E (m : Int) : Env := ⟨Try.prog, lk tys, lk (gls m)⟩
theorem tyChk0 : tysChk Try.prog tys = true := by kernel_rfl
theorem mix0 : Try.prog.follows .mixedOrders = true := by kernel_rfl
theorem tyOk {m : Int} : TyOk (E m) := tyOk_of rfl tyChk0
theorem mix {m : Int} : (E m).P.follows .mixedOrders = true := mix0
theorem own0 : ownKnob Try.prog.godebug = none := by kernel_rfl
theorem laidOut0 : laidOutB Try.prog = true := by kernel_rfl
end Go.Proofs.Ytplhgbcpeohpgaa
