/- Texts of this claim, set close: lemmas and contracts. -/
import Derived.Test.YtlicaibhgcenhaaGreatDoorWZY3
import Derived.Test.YtlicaibhgcenhaaGreatDoorRows
import Derived.Test.YtlicaibhgcenhaaGreatDoorWZY4
set_option linter.unusedVariables false
set_option linter.unusedSimpArgs false
namespace Go.Proofs.YtlicaibhgcenhaaGreatDoor
open Go Go.RowKit Go.Ab
noncomputable def tys : List (Nat × TD) := [(2, ⟨.int .i64, 1, 8, .k .i64 0, none, false, false⟩),
 (3, ⟨.int .i64, 1, 8, .k .i64 0, none, false, false⟩),
 (4, ⟨.bool, 1, 1, .b false, none, false, false⟩),
 (5, ⟨.int .u8, 1, 1, .k .u8 0, none, false, false⟩),
 (6, ⟨.int .u8, 1, 1, .k .u8 0, none, false, false⟩),
 (7, ⟨.struct [(0, 1), (1, 1), (2, 1), (3, 1)], 4, 24, .agg [.k .i64 0, .k .i64 0, .b false, .k .u8 0], some [1, 1, 0, 1], false, false⟩),
 (8, ⟨.struct [(0, 1), (1, 1), (2, 1), (3, 1)], 4, 24, .agg [.k .i64 0, .k .i64 0, .b false, .k .u8 0], some [1, 1, 0, 1], false, false⟩),
 (9, ⟨.str, 1, 16, .s [], none, false, false⟩),
 (10, ⟨.str, 1, 16, .s [], none, false, false⟩),
 (11, ⟨.str, 1, 16, .s [], none, false, false⟩),
 (12, ⟨.int .u64, 1, 8, .k .u64 0, none, false, false⟩),
 (13, ⟨.struct [(0, 1), (1, 1)], 2, 24, .agg [.s [], .k .u64 0], none, false, false⟩),
 (14, ⟨.struct [(0, 1), (1, 1)], 2, 24, .agg [.s [], .k .u64 0], none, false, false⟩),
 (15, ⟨.other, 1, 8, .v (.pointer none), none, false, false⟩),
 (16, ⟨.other, 1, 8, .v (.pointer none), none, false, false⟩),
 (17, ⟨.other, 1, 8, .v (.pointer none), none, false, false⟩),
 (18, ⟨.struct [(0, 1)], 1, 8, .agg [.v (.pointer none)], none, false, false⟩),
 (19, ⟨.struct [(0, 1)], 1, 8, .agg [.v (.pointer none)], none, false, false⟩),
 (21, ⟨.int .i32, 1, 4, .k .i32 0, none, false, false⟩),
 (24, ⟨.slice 5, 1, 24, .nil, none, false, false⟩),
 (28, ⟨.slice 142, 1, 24, .nil, none, false, false⟩),
 (29, ⟨.slice 30, 1, 24, .nil, none, false, false⟩),
 (30, ⟨.slice 203, 1, 24, .nil, none, false, false⟩),
 (31, ⟨.struct [(0, 1), (1, 1), (2, 1)], 3, 72, .agg [.nil, .nil, .nil], none, false, false⟩),
 (32, ⟨.struct [(0, 1), (1, 1), (2, 1)], 3, 72, .agg [.nil, .nil, .nil], none, false, false⟩),
 (33, ⟨.slice 137, 1, 24, .nil, none, false, false⟩),
 (34, ⟨.slice 139, 1, 24, .nil, none, false, false⟩),
 (35, ⟨.slice 3, 1, 24, .nil, none, false, false⟩),
 (36, ⟨.slice 146, 1, 24, .nil, none, false, false⟩),
 (37, ⟨.struct [(0, 1), (1, 1), (2, 1), (3, 1)], 4, 56, .agg [.k .i64 0, .s [], .s [], .s []], some [1, 2, 2, 2], false, false⟩),
 (38, ⟨.struct [(0, 1), (1, 1), (2, 1), (3, 1)], 4, 56, .agg [.k .i64 0, .s [], .s [], .s []], some [1, 2, 2, 2], false, false⟩),
 (39, ⟨.struct [(0, 3), (3, 1), (4, 1), (5, 1), (6, 1), (7, 1), (8, 1), (9, 1), (10, 4)], 14, 248, .agg [.nil, .nil, .nil, .k .i64 0, .k .i64 0, .nil, .nil, .nil, .nil, .b false, .k .i64 0, .s [], .s [], .s []], none, false, false⟩),
 (40, ⟨.struct [(0, 3), (3, 1), (4, 1), (5, 1), (6, 1), (7, 1), (8, 1), (9, 1), (10, 4)], 14, 248, .agg [.nil, .nil, .nil, .k .i64 0, .k .i64 0, .nil, .nil, .nil, .nil, .b false, .k .i64 0, .s [], .s [], .s []], none, false, false⟩),
 (43, ⟨.slice 93, 1, 24, .nil, none, false, false⟩),
 (45, ⟨.slice 150, 1, 24, .nil, none, false, false⟩),
 (46, ⟨.slice 47, 1, 24, .nil, none, false, false⟩),
 (47, ⟨.slice 197, 1, 24, .nil, none, false, false⟩),
 (48, ⟨.struct [(0, 1), (1, 1), (2, 1)], 3, 72, .agg [.nil, .nil, .nil], none, false, false⟩),
 (49, ⟨.struct [(0, 1), (1, 1), (2, 1)], 3, 72, .agg [.nil, .nil, .nil], none, false, false⟩),
 (50, ⟨.slice 159, 1, 24, .nil, none, false, false⟩),
 (51, ⟨.slice 154, 1, 24, .nil, none, false, false⟩),
 (52, ⟨.struct [(0, 1), (1, 1), (2, 1), (3, 1)], 4, 56, .agg [.k .i64 0, .s [], .s [], .s []], some [1, 2, 2, 2], false, false⟩),
 (53, ⟨.struct [(0, 3), (3, 1), (4, 1), (5, 1), (6, 1), (7, 1), (8, 1), (9, 1), (10, 4)], 14, 248, .agg [.nil, .nil, .nil, .k .i64 0, .k .i64 0, .nil, .nil, .nil, .nil, .b false, .k .i64 0, .s [], .s [], .s []], none, false, false⟩),
 (54, ⟨.struct [(0, 3), (3, 1), (4, 1), (5, 1), (6, 1), (7, 1), (8, 1), (9, 1), (10, 4)], 14, 248, .agg [.nil, .nil, .nil, .k .i64 0, .k .i64 0, .nil, .nil, .nil, .nil, .b false, .k .i64 0, .s [], .s [], .s []], none, false, false⟩),
 (63, ⟨.slice 9, 1, 24, .nil, none, false, false⟩),
 (73, ⟨.other, 1, 8, .v (.pointer none), none, false, false⟩),
 (92, ⟨.struct [(0, 1), (1, 1), (2, 1), (3, 1)], 4, 40, .agg [.k .i64 0, .s [], .k .i64 0, .k .i64 0], some [1, 2, 1, 1], false, false⟩),
 (93, ⟨.struct [(0, 1), (1, 1), (2, 1), (3, 1)], 4, 40, .agg [.k .i64 0, .s [], .k .i64 0, .k .i64 0], some [1, 2, 1, 1], false, false⟩),
 (110, ⟨.struct [(0, 1), (1, 1), (2, 1), (3, 4), (7, 1)], 8, 96, .agg [.k .i64 0, .k .i64 0, .s [], .k .i64 0, .s [], .s [], .s [], .k .i64 0], some [1, 1, 2, 1, 2, 2, 2, 1], false, false⟩),
 (111, ⟨.struct [(0, 1), (1, 1), (2, 1), (3, 4), (7, 1)], 8, 96, .agg [.k .i64 0, .k .i64 0, .s [], .k .i64 0, .s [], .s [], .s [], .k .i64 0], some [1, 1, 2, 1, 2, 2, 2, 1], false, false⟩),
 (121, ⟨.slice 123, 1, 24, .nil, none, false, false⟩),
 (122, ⟨.struct [(0, 1), (1, 1)], 2, 16, .agg [.k .i64 0, .k .i64 0], some [1, 1], false, false⟩),
 (123, ⟨.struct [(0, 1), (1, 1)], 2, 16, .agg [.k .i64 0, .k .i64 0], some [1, 1], false, false⟩),
 (130, ⟨.struct [(0, 1), (1, 1)], 2, 32, .agg [.nil, .k .i64 0], none, false, false⟩),
 (131, ⟨.struct [(0, 1), (1, 1)], 2, 32, .agg [.nil, .k .i64 0], none, false, false⟩),
 (137, ⟨.struct [(0, 1), (1, 1), (2, 1), (3, 1)], 4, 40, .agg [.k .i64 0, .s [], .k .i64 0, .k .i64 0], some [1, 2, 1, 1], false, false⟩),
 (139, ⟨.slice 144, 1, 24, .nil, none, false, false⟩),
 (141, ⟨.struct [(0, 1), (1, 1), (2, 1)], 3, 40, .agg [.s [], .b false, .s []], some [2, 0, 2], false, false⟩),
 (142, ⟨.struct [(0, 1), (1, 1), (2, 1)], 3, 40, .agg [.s [], .b false, .s []], some [2, 0, 2], false, false⟩),
 (143, ⟨.struct [(0, 1), (1, 1), (2, 3), (5, 1), (6, 1)], 7, 80, .agg [.s [], .b false, .s [], .b false, .s [], .k .i64 0, .k .i64 0], some [2, 0, 2, 0, 2, 1, 1], false, false⟩),
 (144, ⟨.struct [(0, 1), (1, 1), (2, 3), (5, 1), (6, 1)], 7, 80, .agg [.s [], .b false, .s [], .b false, .s [], .k .i64 0, .k .i64 0], some [2, 0, 2, 0, 2, 1, 1], false, false⟩),
 (145, ⟨.struct [(0, 1), (1, 1), (2, 7)], 9, 96, .agg [.k .i64 0, .k .i64 0, .s [], .b false, .s [], .b false, .s [], .k .i64 0, .k .i64 0], some [1, 1, 2, 0, 2, 0, 2, 1, 1], false, false⟩),
 (146, ⟨.struct [(0, 1), (1, 1), (2, 7)], 9, 96, .agg [.k .i64 0, .k .i64 0, .s [], .b false, .s [], .b false, .s [], .k .i64 0, .k .i64 0], some [1, 1, 2, 0, 2, 0, 2, 1, 1], false, false⟩),
 (150, ⟨.struct [(0, 1), (1, 1), (2, 1)], 3, 40, .agg [.s [], .b false, .s []], some [2, 0, 2], false, false⟩),
 (151, ⟨.struct [(0, 1), (1, 1), (2, 3), (5, 1), (6, 1)], 7, 80, .agg [.s [], .b false, .s [], .b false, .s [], .k .i64 0, .k .i64 0], some [2, 0, 2, 0, 2, 1, 1], false, false⟩),
 (152, ⟨.struct [(0, 1), (1, 1), (2, 3), (5, 1), (6, 1)], 7, 80, .agg [.s [], .b false, .s [], .b false, .s [], .k .i64 0, .k .i64 0], some [2, 0, 2, 0, 2, 1, 1], false, false⟩),
 (153, ⟨.struct [(0, 1), (1, 1), (2, 7)], 9, 96, .agg [.k .i64 0, .k .i64 0, .s [], .b false, .s [], .b false, .s [], .k .i64 0, .k .i64 0], some [1, 1, 2, 0, 2, 0, 2, 1, 1], false, false⟩),
 (154, ⟨.struct [(0, 1), (1, 1), (2, 7)], 9, 96, .agg [.k .i64 0, .k .i64 0, .s [], .b false, .s [], .b false, .s [], .k .i64 0, .k .i64 0], some [1, 1, 2, 0, 2, 0, 2, 1, 1], false, false⟩),
 (159, ⟨.slice 152, 1, 24, .nil, none, false, false⟩),
 (196, ⟨.struct [(0, 1), (1, 1), (2, 1)], 3, 40, .agg [.s [], .k .i64 0, .s []], some [2, 1, 2], false, false⟩),
 (197, ⟨.struct [(0, 1), (1, 1), (2, 1)], 3, 40, .agg [.s [], .k .i64 0, .s []], some [2, 1, 2], false, false⟩),
 (203, ⟨.struct [(0, 1), (1, 1), (2, 1)], 3, 40, .agg [.s [], .k .i64 0, .s []], some [2, 1, 2], false, false⟩),
 (235, ⟨.parr 6 9, 6, 96, .agg [.s [], .s [], .s [], .s [], .s [], .s []], none, false, false⟩),
 (238, ⟨.other, 1, 8, .v (.pointer none), none, false, false⟩),
 (263, ⟨.int .u64, 1, 8, .k .u64 0, none, false, false⟩),
 (284, ⟨.parr 256 5, 256, 256, .agg [.k .u8 0, .k .u8 0, .k .u8 0, .k .u8 0, .k .u8 0, .k .u8 0, .k .u8 0, .k .u8 0, .k .u8 0, .k .u8 0, .k .u8 0, .k .u8 0, .k .u8 0, .k .u8 0, .k .u8 0, .k .u8 0, .k .u8 0, .k .u8 0, .k .u8 0, .k .u8 0, .k .u8 0, .k .u8 0, .k .u8 0, .k .u8 0, .k .u8 0, .k .u8 0, .k .u8 0, .k .u8 0, .k .u8 0, .k .u8 0, .k .u8 0, .k .u8 0, .k .u8 0, .k .u8 0, .k .u8 0, .k .u8 0, .k .u8 0, .k .u8 0, .k .u8 0, .k .u8 0, .k .u8 0, .k .u8 0, .k .u8 0, .k .u8 0, .k .u8 0, .k .u8 0, .k .u8 0, .k .u8 0, .k .u8 0, .k .u8 0, .k .u8 0, .k .u8 0, .k .u8 0, .k .u8 0, .k .u8 0, .k .u8 0, .k .u8 0, .k .u8 0, .k .u8 0, .k .u8 0, .k .u8 0, .k .u8 0, .k .u8 0, .k .u8 0, .k .u8 0, .k .u8 0, .k .u8 0, .k .u8 0, .k .u8 0, .k .u8 0, .k .u8 0, .k .u8 0, .k .u8 0, .k .u8 0, .k .u8 0, .k .u8 0, .k .u8 0, .k .u8 0, .k .u8 0, .k .u8 0, .k .u8 0, .k .u8 0, .k .u8 0, .k .u8 0, .k .u8 0, .k .u8 0, .k .u8 0, .k .u8 0, .k .u8 0, .k .u8 0, .k .u8 0, .k .u8 0, .k .u8 0, .k .u8 0, .k .u8 0, .k .u8 0, .k .u8 0, .k .u8 0, .k .u8 0, .k .u8 0, .k .u8 0, .k .u8 0, .k .u8 0, .k .u8 0, .k .u8 0, .k .u8 0, .k .u8 0, .k .u8 0, .k .u8 0, .k .u8 0, .k .u8 0, .k .u8 0, .k .u8 0, .k .u8 0, .k .u8 0, .k .u8 0, .k .u8 0, .k .u8 0, .k .u8 0, .k .u8 0, .k .u8 0, .k .u8 0, .k .u8 0, .k .u8 0, .k .u8 0, .k .u8 0, .k .u8 0, .k .u8 0, .k .u8 0, .k .u8 0, .k .u8 0, .k .u8 0, .k .u8 0, .k .u8 0, .k .u8 0, .k .u8 0, .k .u8 0, .k .u8 0, .k .u8 0, .k .u8 0, .k .u8 0, .k .u8 0, .k .u8 0, .k .u8 0, .k .u8 0, .k .u8 0, .k .u8 0, .k .u8 0, .k .u8 0, .k .u8 0, .k .u8 0, .k .u8 0, .k .u8 0, .k .u8 0, .k .u8 0, .k .u8 0, .k .u8 0, .k .u8 0, .k .u8 0, .k .u8 0, .k .u8 0, .k .u8 0, .k .u8 0, .k .u8 0, .k .u8 0, .k .u8 0, .k .u8 0, .k .u8 0, .k .u8 0, .k .u8 0, .k .u8 0, .k .u8 0, .k .u8 0, .k .u8 0, .k .u8 0, .k .u8 0, .k .u8 0, .k .u8 0, .k .u8 0, .k .u8 0, .k .u8 0, .k .u8 0, .k .u8 0, .k .u8 0, .k .u8 0, .k .u8 0, .k .u8 0, .k .u8 0, .k .u8 0, .k .u8 0, .k .u8 0, .k .u8 0, .k .u8 0, .k .u8 0, .k .u8 0, .k .u8 0, .k .u8 0, .k .u8 0, .k .u8 0, .k .u8 0, .k .u8 0, .k .u8 0, .k .u8 0, .k .u8 0, .k .u8 0, .k .u8 0, .k .u8 0, .k .u8 0, .k .u8 0, .k .u8 0, .k .u8 0, .k .u8 0, .k .u8 0, .k .u8 0, .k .u8 0, .k .u8 0, .k .u8 0, .k .u8 0, .k .u8 0, .k .u8 0, .k .u8 0, .k .u8 0, .k .u8 0, .k .u8 0, .k .u8 0, .k .u8 0, .k .u8 0, .k .u8 0, .k .u8 0, .k .u8 0, .k .u8 0, .k .u8 0, .k .u8 0, .k .u8 0, .k .u8 0, .k .u8 0, .k .u8 0, .k .u8 0, .k .u8 0, .k .u8 0, .k .u8 0, .k .u8 0, .k .u8 0, .k .u8 0, .k .u8 0, .k .u8 0, .k .u8 0, .k .u8 0, .k .u8 0, .k .u8 0, .k .u8 0, .k .u8 0, .k .u8 0, .k .u8 0, .k .u8 0, .k .u8 0], none, false, false⟩),
 (285, ⟨.struct [(0, 1), (1, 1)], 2, 2, .agg [.k .u8 0, .k .u8 0], some [1, 1], false, false⟩),
 (286, ⟨.struct [(0, 1), (1, 1)], 2, 2, .agg [.k .u8 0, .k .u8 0], some [1, 1], false, false⟩),
 (287, ⟨.parr 16 286, 32, 32, .agg [.k .u8 0, .k .u8 0, .k .u8 0, .k .u8 0, .k .u8 0, .k .u8 0, .k .u8 0, .k .u8 0, .k .u8 0, .k .u8 0, .k .u8 0, .k .u8 0, .k .u8 0, .k .u8 0, .k .u8 0, .k .u8 0, .k .u8 0, .k .u8 0, .k .u8 0, .k .u8 0, .k .u8 0, .k .u8 0, .k .u8 0, .k .u8 0, .k .u8 0, .k .u8 0, .k .u8 0, .k .u8 0, .k .u8 0, .k .u8 0, .k .u8 0, .k .u8 0], none, false, false⟩),
 (288, ⟨.int .u32, 1, 4, .k .u32 0, none, false, false⟩),
 (292, ⟨.parr 24 5, 24, 24, .agg [.k .u8 0, .k .u8 0, .k .u8 0, .k .u8 0, .k .u8 0, .k .u8 0, .k .u8 0, .k .u8 0, .k .u8 0, .k .u8 0, .k .u8 0, .k .u8 0, .k .u8 0, .k .u8 0, .k .u8 0, .k .u8 0, .k .u8 0, .k .u8 0, .k .u8 0, .k .u8 0, .k .u8 0, .k .u8 0, .k .u8 0, .k .u8 0], none, false, false⟩),
 (293, ⟨.int .u64, 1, 8, .k .u64 0, none, false, false⟩),
 (302, ⟨.int .i64, 1, 8, .k .i64 0, none, false, false⟩),
 (309, ⟨.other, 1, 8, .v (.pointer none), none, false, false⟩),
 (310, ⟨.struct [(0, 1), (1, 1)], 2, 32, .agg [.v (.pointer none), .nil], none, false, false⟩),
 (311, ⟨.struct [(0, 1), (1, 1)], 2, 32, .agg [.v (.pointer none), .nil], none, false, false⟩),
 (319, ⟨.parr 20 293, 20, 160, .agg [.k .u64 0, .k .u64 0, .k .u64 0, .k .u64 0, .k .u64 0, .k .u64 0, .k .u64 0, .k .u64 0, .k .u64 0, .k .u64 0, .k .u64 0, .k .u64 0, .k .u64 0, .k .u64 0, .k .u64 0, .k .u64 0, .k .u64 0, .k .u64 0, .k .u64 0, .k .u64 0], none, false, false⟩),
 (320, ⟨.parr 65 5, 65, 65, .agg [.k .u8 0, .k .u8 0, .k .u8 0, .k .u8 0, .k .u8 0, .k .u8 0, .k .u8 0, .k .u8 0, .k .u8 0, .k .u8 0, .k .u8 0, .k .u8 0, .k .u8 0, .k .u8 0, .k .u8 0, .k .u8 0, .k .u8 0, .k .u8 0, .k .u8 0, .k .u8 0, .k .u8 0, .k .u8 0, .k .u8 0, .k .u8 0, .k .u8 0, .k .u8 0, .k .u8 0, .k .u8 0, .k .u8 0, .k .u8 0, .k .u8 0, .k .u8 0, .k .u8 0, .k .u8 0, .k .u8 0, .k .u8 0, .k .u8 0, .k .u8 0, .k .u8 0, .k .u8 0, .k .u8 0, .k .u8 0, .k .u8 0, .k .u8 0, .k .u8 0, .k .u8 0, .k .u8 0, .k .u8 0, .k .u8 0, .k .u8 0, .k .u8 0, .k .u8 0, .k .u8 0, .k .u8 0, .k .u8 0, .k .u8 0, .k .u8 0, .k .u8 0, .k .u8 0, .k .u8 0, .k .u8 0, .k .u8 0, .k .u8 0, .k .u8 0, .k .u8 0], none, false, false⟩),
 (322, ⟨.int .u64, 1, 8, .k .u64 0, none, false, false⟩),
 (326, ⟨.other, 1, 8, .v (.pointer none), none, false, false⟩),
 (328, ⟨.other, 1, 8, .v (.pointer none), none, false, false⟩),
 (334, ⟨.other, 1, 8, .v (.pointer none), none, false, false⟩),
 (340, ⟨.parr 32 5, 32, 32, .agg [.k .u8 0, .k .u8 0, .k .u8 0, .k .u8 0, .k .u8 0, .k .u8 0, .k .u8 0, .k .u8 0, .k .u8 0, .k .u8 0, .k .u8 0, .k .u8 0, .k .u8 0, .k .u8 0, .k .u8 0, .k .u8 0, .k .u8 0, .k .u8 0, .k .u8 0, .k .u8 0, .k .u8 0, .k .u8 0, .k .u8 0, .k .u8 0, .k .u8 0, .k .u8 0, .k .u8 0, .k .u8 0, .k .u8 0, .k .u8 0, .k .u8 0, .k .u8 0], none, false, false⟩),
 (341, ⟨.parr 64 5, 64, 64, .agg [.k .u8 0, .k .u8 0, .k .u8 0, .k .u8 0, .k .u8 0, .k .u8 0, .k .u8 0, .k .u8 0, .k .u8 0, .k .u8 0, .k .u8 0, .k .u8 0, .k .u8 0, .k .u8 0, .k .u8 0, .k .u8 0, .k .u8 0, .k .u8 0, .k .u8 0, .k .u8 0, .k .u8 0, .k .u8 0, .k .u8 0, .k .u8 0, .k .u8 0, .k .u8 0, .k .u8 0, .k .u8 0, .k .u8 0, .k .u8 0, .k .u8 0, .k .u8 0, .k .u8 0, .k .u8 0, .k .u8 0, .k .u8 0, .k .u8 0, .k .u8 0, .k .u8 0, .k .u8 0, .k .u8 0, .k .u8 0, .k .u8 0, .k .u8 0, .k .u8 0, .k .u8 0, .k .u8 0, .k .u8 0, .k .u8 0, .k .u8 0, .k .u8 0, .k .u8 0, .k .u8 0, .k .u8 0, .k .u8 0, .k .u8 0, .k .u8 0, .k .u8 0, .k .u8 0, .k .u8 0, .k .u8 0, .k .u8 0, .k .u8 0, .k .u8 0], none, false, false⟩),
 (345, ⟨.struct [(0, 1), (1, 1), (2, 1), (3, 1)], 4, 40, .agg [.v (.pointer none), .v (.pointer none), .v (.pointer none), .s []], none, false, false⟩),
 (346, ⟨.struct [(0, 1), (1, 1), (2, 1), (3, 1)], 4, 40, .agg [.v (.pointer none), .v (.pointer none), .v (.pointer none), .s []], none, false, false⟩),
 (350, ⟨.int .u8, 1, 1, .k .u8 0, none, false, false⟩),
 (351, ⟨.int .u8, 1, 1, .k .u8 0, none, false, false⟩),
 (353, ⟨.int .i32, 1, 4, .k .i32 0, none, false, false⟩),
 (354, ⟨.int .i32, 1, 4, .k .i32 0, none, false, false⟩)]
noncomputable def gls (_m : Int) : List (Nat × List D) := [
 (1, [.k .i64 _m])
 ]
noncomputable abbrev E (m : Int) : Env := ⟨Tryz.prog, lk tys, lk (gls m)⟩
theorem tyChk0 : tysChk Tryz.prog tys = true := by kernel_rfl
theorem mix0 : Tryz.prog.follows .mixedOrders = true := by kernel_rfl
theorem tyOk {m : Int} : TyOk (E m) := tyOk_of rfl tyChk0
theorem mix {m : Int} : (E m).P.follows .mixedOrders = true := mix0
theorem own0 : ownKnob Tryz.prog.godebug = none := by kernel_rfl
theorem laidOut0 : laidOutB Tryz.prog = true := by kernel_rfl
end Go.Proofs.YtlicaibhgcenhaaGreatDoor
namespace Go.Ab
open Go Go.RowKit
abbrev WsT := List (List (List D))
abbrev anZ (ws : List (List (List D))) : List Slot := ws.map Slot.an
theorem imZ_an : ∀ ws, imZ (anZ ws) = some (ws.map fun xs => [D.sl xs])
 | [] => rfl
 | xs :: r => by
   show (match imZ (anZ r) with
    | some q => some ([D.sl xs] :: q)
    | none => none) = _
   rw [imZ_an r]
   rfl
theorem names_an : ∀ ws, slotNames0 (anZ ws) = []
 | [] => rfl
 | xs :: r => names_an r
theorem ren_an (f : Nat → Nat) (ws : List (List (List D))) : (anZ ws).map (renZ f) = anZ ws := by
 unfold anZ
 rw [List.map_map]
 rfl
theorem car_an (ns : List Nat) (ws : List (List (List D))) : (anZ ws).map (carZ ns) = anZ ws := by
 unfold anZ
 rw [List.map_map]
 rfl
theorem an_get {ws : List (List (List D))} {i : Nat} {xs : List (List D)} (h : ws[i]? = some xs) : (anZ ws)[i]? = some (.an xs) := by
 unfold anZ
 rw [List.getElem?_map, h]
 rfl
theorem an_len (ws : List (List (List D))) : (anZ ws).length = ws.length := List.length_map ..
theorem closeZ_an (S : Store) (e2 : TypeId) : ∀ ws, closeZ S e2 (anZ ws) = some (anZ ws, [])
 | [] => rfl
 | xs :: r => by
   show (match closeZ S e2 (anZ r) with
    | some (zs, ns) => some (Slot.an xs :: zs, ns)
    | none => none) = _
   rw [closeZ_an S e2 r]
   rfl
theorem closeZ_set {S : Store} {e2 : TypeId} {a : Nat} {xs : List (List D)} (ha : lk S a = some (.own e2 xs)) : ∀ (ws : List (List (List D))) (i : Nat), i < ws.length → closeZ S e2 ((anZ ws).set i (.nm a)) = some (anZ (ws.set i xs), [a])
 | [], i, h => absurd h (Nat.not_lt_zero _)
 | y :: r, 0, _ => by
   show (match lk S a with
    | some (.own e3 xs) => match Nat.beq e2 e3 with
      | true => match closeZ S e2 (anZ r) with
        | some (zs, ns) => some (Slot.an xs :: zs, a :: ns)
        | none => none
      | false => none
    | _ => none) = _
   rw [ha]
   simp only [Nat.beq_refl, closeZ_an]
   rfl
 | y :: r, i + 1, h => by
   show (match closeZ S e2 ((anZ r).set i (.nm a)) with
    | some (zs, ns) => some (Slot.an y :: zs, ns)
    | none => none) = _
   rw [closeZ_set ha r i (by simpa using h)]
   rfl
theorem lwc (n a i : Nat) {k0 : Nat} {tm : Tm} {S : Store} {nx e e2 : Nat} {ws : List (List (List D))} {xs : List (List D)} {J : Tm → Store → Nat → Prop} (ts ns : List Nat) (h1 : lk S n = some (.deep e e2 ((anZ ws).set i (.nm a)))) (h2 : lk S a = some (.own e2 xs)) (hi : i < ws.length) (h3 : nodupB [n, a] = true)
   (h : nodupB ns = true ∧ preB 0 k0 ns = true ∧ J (carTm ns (tm.map fun (t, d) => (t, mvD n nx d)) ts) (carS ns (((nx, Blk.deep e e2 (anZ (ws.set i xs))) :: del n (del a S)).map fun (t, b) => (t, mvB n nx b)) ns 0) ns.length) : landK k0 tm S nx J := by
 refine ⟨[.close n], ts, ns, ?_⟩
 have hm : mv (.close n) tm S nx = some (tm.map fun (t, d) => (t, mvD n nx d), (((nx, Blk.deep e e2 (anZ (ws.set i xs))) :: del n (del a S)).map fun (t, b) => (t, mvB n nx b)), nx + 1) := by
  unfold mv
  simp only [h1, closeZ_set h2 ws i hi, h3, dels]
 unfold mvs
 rw [hm]
 exact h
end Go.Ab
namespace Go.Proofs.YtlicaibhgcenhaaGreatDoor
open Go Go.RowKit Go.Ab
noncomputable def tysD : List (Nat × TD) := (50, ⟨.slice 159, 1, 24, .nil, none, true, false⟩) :: (46, ⟨.slice 47, 1, 24, .nil, none, true, false⟩) :: tys
noncomputable abbrev Ed (m : Int) : Env := ⟨Tryz.prog, lk tysD, lk (gls m)⟩
theorem tyChkD : tysChk Tryz.prog tysD = true := by kernel_rfl
theorem tyOkD {m : Int} : TyOk (Ed m) := tyOk_of rfl tyChkD
theorem mixD {m : Int} : (Ed m).P.follows .mixedOrders = true := mix0
theorem cD {m : Int} {f : FuncId} {k : Nat} {cds : List D} {Sa : Store} {d : D} {S' : Store} (h : Con (E m) f k cds Sa d S') : Con (Ed m) f k cds Sa d S' := ⟨h.1, h.2⟩
theorem cDE {m : Int} {f : FuncId} {k : Nat} {cds : List D} {Sa : Store} {d : D} {S' : Store} (h : Con (Ed m) f k cds Sa d S') : Con (E m) f k cds Sa d S' := ⟨h.1, h.2⟩
end Go.Proofs.YtlicaibhgcenhaaGreatDoor
