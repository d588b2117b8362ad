/- Texts of this claim, set close: lemmas and contracts. -/
import Derived.Test.YtlicaibhgcenhaaGreatDoorYY3
import Derived.Test.YtlicaibhgcenhaaGreatDoorRows
import Derived.Test.YtlicaibhgcenhaaGreatDoorYY2
import Derived.Lib.SplitLaws
import Derived.Lib.Bytealg
set_option linter.unusedSimpArgs false
set_option linter.unusedVariables false
namespace Go.Proofs.YtlicaibhgcenhaaGreatDoor
open Go Go.RowKit Go.Ab
noncomputable def tys:List (Nat × TD):=[(2,⟨.int .i64,1,8,.k .i64 0,none,false,false⟩),
 (3,⟨.int .i64,1,8,.k .i64 0,none,false,false⟩),
 (4,⟨.bool,1,1,.b false,none,false,false⟩),
 (5,⟨.int .u8,1,1,.k .u8 0,none,false,false⟩),
 (6,⟨.int .u8,1,1,.k .u8 0,none,false,false⟩),
 (7,⟨.struct [(0,1),(1,1),(2,1),(3,1)],4,24,.agg [.k .i64 0,.k .i64 0,.b false,.k .u8 0],some [1,1,0,1],false,false⟩),
 (8,⟨.struct [(0,1),(1,1),(2,1),(3,1)],4,24,.agg [.k .i64 0,.k .i64 0,.b false,.k .u8 0],some [1,1,0,1],false,false⟩),
 (9,⟨.str,1,16,.s [],none,false,false⟩),
 (10,⟨.str,1,16,.s [],none,false,false⟩),
 (11,⟨.str,1,16,.s [],none,false,false⟩),
 (12,⟨.int .u64,1,8,.k .u64 0,none,false,false⟩),
 (13,⟨.struct [(0,1),(1,1)],2,24,.agg [.s [],.k .u64 0],none,false,false⟩),
 (14,⟨.struct [(0,1),(1,1)],2,24,.agg [.s [],.k .u64 0],none,false,false⟩),
 (15,⟨.other,1,8,.v (.pointer none),none,false,false⟩),
 (16,⟨.other,1,8,.v (.pointer none),none,false,false⟩),
 (17,⟨.other,1,8,.v (.pointer none),none,false,false⟩),
 (18,⟨.struct [(0,1)],1,8,.agg [.v (.pointer none)],none,false,false⟩),
 (19,⟨.struct [(0,1)],1,8,.agg [.v (.pointer none)],none,false,false⟩),
 (21,⟨.int .i32,1,4,.k .i32 0,none,false,false⟩),
 (24,⟨.slice 5,1,24,.nil,none,false,false⟩),
 (28,⟨.slice 142,1,24,.nil,none,false,false⟩),
 (29,⟨.slice 30,1,24,.nil,none,false,false⟩),
 (30,⟨.slice 203,1,24,.nil,none,false,false⟩),
 (31,⟨.struct [(0,1),(1,1),(2,1)],3,72,.agg [.nil,.nil,.nil],none,false,false⟩),
 (32,⟨.struct [(0,1),(1,1),(2,1)],3,72,.agg [.nil,.nil,.nil],none,false,false⟩),
 (33,⟨.slice 137,1,24,.nil,none,false,false⟩),
 (34,⟨.slice 139,1,24,.nil,none,false,false⟩),
 (35,⟨.slice 3,1,24,.nil,none,false,false⟩),
 (36,⟨.slice 146,1,24,.nil,none,false,false⟩),
 (37,⟨.struct [(0,1),(1,1),(2,1),(3,1)],4,56,.agg [.k .i64 0,.s [],.s [],.s []],some [1,2,2,2],false,false⟩),
 (38,⟨.struct [(0,1),(1,1),(2,1),(3,1)],4,56,.agg [.k .i64 0,.s [],.s [],.s []],some [1,2,2,2],false,false⟩),
 (39,⟨.struct [(0,3),(3,1),(4,1),(5,1),(6,1),(7,1),(8,1),(9,1),(10,4)],14,248,.agg [.nil,.nil,.nil,.k .i64 0,.k .i64 0,.nil,.nil,.nil,.nil,.b false,.k .i64 0,.s [],.s [],.s []],none,false,false⟩),
 (40,⟨.struct [(0,3),(3,1),(4,1),(5,1),(6,1),(7,1),(8,1),(9,1),(10,4)],14,248,.agg [.nil,.nil,.nil,.k .i64 0,.k .i64 0,.nil,.nil,.nil,.nil,.b false,.k .i64 0,.s [],.s [],.s []],none,false,false⟩),
 (43,⟨.slice 93,1,24,.nil,none,false,false⟩),
 (45,⟨.slice 150,1,24,.nil,none,false,false⟩),
 (46,⟨.slice 47,1,24,.nil,none,false,false⟩),
 (47,⟨.slice 197,1,24,.nil,none,false,false⟩),
 (48,⟨.struct [(0,1),(1,1),(2,1)],3,72,.agg [.nil,.nil,.nil],none,false,false⟩),
 (49,⟨.struct [(0,1),(1,1),(2,1)],3,72,.agg [.nil,.nil,.nil],none,false,false⟩),
 (50,⟨.slice 159,1,24,.nil,none,false,false⟩),
 (51,⟨.slice 154,1,24,.nil,none,false,false⟩),
 (52,⟨.struct [(0,1),(1,1),(2,1),(3,1)],4,56,.agg [.k .i64 0,.s [],.s [],.s []],some [1,2,2,2],false,false⟩),
 (53,⟨.struct [(0,3),(3,1),(4,1),(5,1),(6,1),(7,1),(8,1),(9,1),(10,4)],14,248,.agg [.nil,.nil,.nil,.k .i64 0,.k .i64 0,.nil,.nil,.nil,.nil,.b false,.k .i64 0,.s [],.s [],.s []],none,false,false⟩),
 (54,⟨.struct [(0,3),(3,1),(4,1),(5,1),(6,1),(7,1),(8,1),(9,1),(10,4)],14,248,.agg [.nil,.nil,.nil,.k .i64 0,.k .i64 0,.nil,.nil,.nil,.nil,.b false,.k .i64 0,.s [],.s [],.s []],none,false,false⟩),
 (63,⟨.slice 9,1,24,.nil,none,false,false⟩),
 (73,⟨.other,1,8,.v (.pointer none),none,false,false⟩),
 (92,⟨.struct [(0,1),(1,1),(2,1),(3,1)],4,40,.agg [.k .i64 0,.s [],.k .i64 0,.k .i64 0],some [1,2,1,1],false,false⟩),
 (93,⟨.struct [(0,1),(1,1),(2,1),(3,1)],4,40,.agg [.k .i64 0,.s [],.k .i64 0,.k .i64 0],some [1,2,1,1],false,false⟩),
 (110,⟨.struct [(0,1),(1,1),(2,1),(3,4),(7,1)],8,96,.agg [.k .i64 0,.k .i64 0,.s [],.k .i64 0,.s [],.s [],.s [],.k .i64 0],some [1,1,2,1,2,2,2,1],false,false⟩),
 (111,⟨.struct [(0,1),(1,1),(2,1),(3,4),(7,1)],8,96,.agg [.k .i64 0,.k .i64 0,.s [],.k .i64 0,.s [],.s [],.s [],.k .i64 0],some [1,1,2,1,2,2,2,1],false,false⟩),
 (121,⟨.slice 123,1,24,.nil,none,false,false⟩),
 (122,⟨.struct [(0,1),(1,1)],2,16,.agg [.k .i64 0,.k .i64 0],some [1,1],false,false⟩),
 (123,⟨.struct [(0,1),(1,1)],2,16,.agg [.k .i64 0,.k .i64 0],some [1,1],false,false⟩),
 (130,⟨.struct [(0,1),(1,1)],2,32,.agg [.nil,.k .i64 0],none,false,false⟩),
 (131,⟨.struct [(0,1),(1,1)],2,32,.agg [.nil,.k .i64 0],none,false,false⟩),
 (137,⟨.struct [(0,1),(1,1),(2,1),(3,1)],4,40,.agg [.k .i64 0,.s [],.k .i64 0,.k .i64 0],some [1,2,1,1],false,false⟩),
 (139,⟨.slice 144,1,24,.nil,none,false,false⟩),
 (141,⟨.struct [(0,1),(1,1),(2,1)],3,40,.agg [.s [],.b false,.s []],some [2,0,2],false,false⟩),
 (142,⟨.struct [(0,1),(1,1),(2,1)],3,40,.agg [.s [],.b false,.s []],some [2,0,2],false,false⟩),
 (143,⟨.struct [(0,1),(1,1),(2,3),(5,1),(6,1)],7,80,.agg [.s [],.b false,.s [],.b false,.s [],.k .i64 0,.k .i64 0],some [2,0,2,0,2,1,1],false,false⟩),
 (144,⟨.struct [(0,1),(1,1),(2,3),(5,1),(6,1)],7,80,.agg [.s [],.b false,.s [],.b false,.s [],.k .i64 0,.k .i64 0],some [2,0,2,0,2,1,1],false,false⟩),
 (145,⟨.struct [(0,1),(1,1),(2,7)],9,96,.agg [.k .i64 0,.k .i64 0,.s [],.b false,.s [],.b false,.s [],.k .i64 0,.k .i64 0],some [1,1,2,0,2,0,2,1,1],false,false⟩),
 (146,⟨.struct [(0,1),(1,1),(2,7)],9,96,.agg [.k .i64 0,.k .i64 0,.s [],.b false,.s [],.b false,.s [],.k .i64 0,.k .i64 0],some [1,1,2,0,2,0,2,1,1],false,false⟩),
 (150,⟨.struct [(0,1),(1,1),(2,1)],3,40,.agg [.s [],.b false,.s []],some [2,0,2],false,false⟩),
 (151,⟨.struct [(0,1),(1,1),(2,3),(5,1),(6,1)],7,80,.agg [.s [],.b false,.s [],.b false,.s [],.k .i64 0,.k .i64 0],some [2,0,2,0,2,1,1],false,false⟩),
 (152,⟨.struct [(0,1),(1,1),(2,3),(5,1),(6,1)],7,80,.agg [.s [],.b false,.s [],.b false,.s [],.k .i64 0,.k .i64 0],some [2,0,2,0,2,1,1],false,false⟩),
 (153,⟨.struct [(0,1),(1,1),(2,7)],9,96,.agg [.k .i64 0,.k .i64 0,.s [],.b false,.s [],.b false,.s [],.k .i64 0,.k .i64 0],some [1,1,2,0,2,0,2,1,1],false,false⟩),
 (154,⟨.struct [(0,1),(1,1),(2,7)],9,96,.agg [.k .i64 0,.k .i64 0,.s [],.b false,.s [],.b false,.s [],.k .i64 0,.k .i64 0],some [1,1,2,0,2,0,2,1,1],false,false⟩),
 (159,⟨.slice 152,1,24,.nil,none,false,false⟩),
 (196,⟨.struct [(0,1),(1,1),(2,1)],3,40,.agg [.s [],.k .i64 0,.s []],some [2,1,2],false,false⟩),
 (197,⟨.struct [(0,1),(1,1),(2,1)],3,40,.agg [.s [],.k .i64 0,.s []],some [2,1,2],false,false⟩),
 (203,⟨.struct [(0,1),(1,1),(2,1)],3,40,.agg [.s [],.k .i64 0,.s []],some [2,1,2],false,false⟩),
 (235,⟨.parr 6 9,6,96,.agg [.s [],.s [],.s [],.s [],.s [],.s []],none,false,false⟩),
 (238,⟨.other,1,8,.v (.pointer none),none,false,false⟩),
 (263,⟨.int .u64,1,8,.k .u64 0,none,false,false⟩),
 (284,⟨.parr 256 5,256,256,.agg [.k .u8 0,.k .u8 0,.k .u8 0,.k .u8 0,.k .u8 0,.k .u8 0,.k .u8 0,.k .u8 0,.k .u8 0,.k .u8 0,.k .u8 0,.k .u8 0,.k .u8 0,.k .u8 0,.k .u8 0,.k .u8 0,.k .u8 0,.k .u8 0,.k .u8 0,.k .u8 0,.k .u8 0,.k .u8 0,.k .u8 0,.k .u8 0,.k .u8 0,.k .u8 0,.k .u8 0,.k .u8 0,.k .u8 0,.k .u8 0,.k .u8 0,.k .u8 0,.k .u8 0,.k .u8 0,.k .u8 0,.k .u8 0,.k .u8 0,.k .u8 0,.k .u8 0,.k .u8 0,.k .u8 0,.k .u8 0,.k .u8 0,.k .u8 0,.k .u8 0,.k .u8 0,.k .u8 0,.k .u8 0,.k .u8 0,.k .u8 0,.k .u8 0,.k .u8 0,.k .u8 0,.k .u8 0,.k .u8 0,.k .u8 0,.k .u8 0,.k .u8 0,.k .u8 0,.k .u8 0,.k .u8 0,.k .u8 0,.k .u8 0,.k .u8 0,.k .u8 0,.k .u8 0,.k .u8 0,.k .u8 0,.k .u8 0,.k .u8 0,.k .u8 0,.k .u8 0,.k .u8 0,.k .u8 0,.k .u8 0,.k .u8 0,.k .u8 0,.k .u8 0,.k .u8 0,.k .u8 0,.k .u8 0,.k .u8 0,.k .u8 0,.k .u8 0,.k .u8 0,.k .u8 0,.k .u8 0,.k .u8 0,.k .u8 0,.k .u8 0,.k .u8 0,.k .u8 0,.k .u8 0,.k .u8 0,.k .u8 0,.k .u8 0,.k .u8 0,.k .u8 0,.k .u8 0,.k .u8 0,.k .u8 0,.k .u8 0,.k .u8 0,.k .u8 0,.k .u8 0,.k .u8 0,.k .u8 0,.k .u8 0,.k .u8 0,.k .u8 0,.k .u8 0,.k .u8 0,.k .u8 0,.k .u8 0,.k .u8 0,.k .u8 0,.k .u8 0,.k .u8 0,.k .u8 0,.k .u8 0,.k .u8 0,.k .u8 0,.k .u8 0,.k .u8 0,.k .u8 0,.k .u8 0,.k .u8 0,.k .u8 0,.k .u8 0,.k .u8 0,.k .u8 0,.k .u8 0,.k .u8 0,.k .u8 0,.k .u8 0,.k .u8 0,.k .u8 0,.k .u8 0,.k .u8 0,.k .u8 0,.k .u8 0,.k .u8 0,.k .u8 0,.k .u8 0,.k .u8 0,.k .u8 0,.k .u8 0,.k .u8 0,.k .u8 0,.k .u8 0,.k .u8 0,.k .u8 0,.k .u8 0,.k .u8 0,.k .u8 0,.k .u8 0,.k .u8 0,.k .u8 0,.k .u8 0,.k .u8 0,.k .u8 0,.k .u8 0,.k .u8 0,.k .u8 0,.k .u8 0,.k .u8 0,.k .u8 0,.k .u8 0,.k .u8 0,.k .u8 0,.k .u8 0,.k .u8 0,.k .u8 0,.k .u8 0,.k .u8 0,.k .u8 0,.k .u8 0,.k .u8 0,.k .u8 0,.k .u8 0,.k .u8 0,.k .u8 0,.k .u8 0,.k .u8 0,.k .u8 0,.k .u8 0,.k .u8 0,.k .u8 0,.k .u8 0,.k .u8 0,.k .u8 0,.k .u8 0,.k .u8 0,.k .u8 0,.k .u8 0,.k .u8 0,.k .u8 0,.k .u8 0,.k .u8 0,.k .u8 0,.k .u8 0,.k .u8 0,.k .u8 0,.k .u8 0,.k .u8 0,.k .u8 0,.k .u8 0,.k .u8 0,.k .u8 0,.k .u8 0,.k .u8 0,.k .u8 0,.k .u8 0,.k .u8 0,.k .u8 0,.k .u8 0,.k .u8 0,.k .u8 0,.k .u8 0,.k .u8 0,.k .u8 0,.k .u8 0,.k .u8 0,.k .u8 0,.k .u8 0,.k .u8 0,.k .u8 0,.k .u8 0,.k .u8 0,.k .u8 0,.k .u8 0,.k .u8 0,.k .u8 0,.k .u8 0,.k .u8 0,.k .u8 0,.k .u8 0,.k .u8 0,.k .u8 0,.k .u8 0,.k .u8 0,.k .u8 0,.k .u8 0,.k .u8 0,.k .u8 0,.k .u8 0,.k .u8 0,.k .u8 0,.k .u8 0,.k .u8 0,.k .u8 0,.k .u8 0,.k .u8 0,.k .u8 0,.k .u8 0,.k .u8 0],none,false,false⟩),
 (285,⟨.struct [(0,1),(1,1)],2,2,.agg [.k .u8 0,.k .u8 0],some [1,1],false,false⟩),
 (286,⟨.struct [(0,1),(1,1)],2,2,.agg [.k .u8 0,.k .u8 0],some [1,1],false,false⟩),
 (287,⟨.parr 16 286,32,32,.agg [.k .u8 0,.k .u8 0,.k .u8 0,.k .u8 0,.k .u8 0,.k .u8 0,.k .u8 0,.k .u8 0,.k .u8 0,.k .u8 0,.k .u8 0,.k .u8 0,.k .u8 0,.k .u8 0,.k .u8 0,.k .u8 0,.k .u8 0,.k .u8 0,.k .u8 0,.k .u8 0,.k .u8 0,.k .u8 0,.k .u8 0,.k .u8 0,.k .u8 0,.k .u8 0,.k .u8 0,.k .u8 0,.k .u8 0,.k .u8 0,.k .u8 0,.k .u8 0],none,false,false⟩),
 (288,⟨.int .u32,1,4,.k .u32 0,none,false,false⟩),
 (292,⟨.parr 24 5,24,24,.agg [.k .u8 0,.k .u8 0,.k .u8 0,.k .u8 0,.k .u8 0,.k .u8 0,.k .u8 0,.k .u8 0,.k .u8 0,.k .u8 0,.k .u8 0,.k .u8 0,.k .u8 0,.k .u8 0,.k .u8 0,.k .u8 0,.k .u8 0,.k .u8 0,.k .u8 0,.k .u8 0,.k .u8 0,.k .u8 0,.k .u8 0,.k .u8 0],none,false,false⟩),
 (293,⟨.int .u64,1,8,.k .u64 0,none,false,false⟩),
 (302,⟨.int .i64,1,8,.k .i64 0,none,false,false⟩),
 (309,⟨.other,1,8,.v (.pointer none),none,false,false⟩),
 (310,⟨.struct [(0,1),(1,1)],2,32,.agg [.v (.pointer none),.nil],none,false,false⟩),
 (311,⟨.struct [(0,1),(1,1)],2,32,.agg [.v (.pointer none),.nil],none,false,false⟩),
 (319,⟨.parr 20 293,20,160,.agg [.k .u64 0,.k .u64 0,.k .u64 0,.k .u64 0,.k .u64 0,.k .u64 0,.k .u64 0,.k .u64 0,.k .u64 0,.k .u64 0,.k .u64 0,.k .u64 0,.k .u64 0,.k .u64 0,.k .u64 0,.k .u64 0,.k .u64 0,.k .u64 0,.k .u64 0,.k .u64 0],none,false,false⟩),
 (320,⟨.parr 65 5,65,65,.agg [.k .u8 0,.k .u8 0,.k .u8 0,.k .u8 0,.k .u8 0,.k .u8 0,.k .u8 0,.k .u8 0,.k .u8 0,.k .u8 0,.k .u8 0,.k .u8 0,.k .u8 0,.k .u8 0,.k .u8 0,.k .u8 0,.k .u8 0,.k .u8 0,.k .u8 0,.k .u8 0,.k .u8 0,.k .u8 0,.k .u8 0,.k .u8 0,.k .u8 0,.k .u8 0,.k .u8 0,.k .u8 0,.k .u8 0,.k .u8 0,.k .u8 0,.k .u8 0,.k .u8 0,.k .u8 0,.k .u8 0,.k .u8 0,.k .u8 0,.k .u8 0,.k .u8 0,.k .u8 0,.k .u8 0,.k .u8 0,.k .u8 0,.k .u8 0,.k .u8 0,.k .u8 0,.k .u8 0,.k .u8 0,.k .u8 0,.k .u8 0,.k .u8 0,.k .u8 0,.k .u8 0,.k .u8 0,.k .u8 0,.k .u8 0,.k .u8 0,.k .u8 0,.k .u8 0,.k .u8 0,.k .u8 0,.k .u8 0,.k .u8 0,.k .u8 0,.k .u8 0],none,false,false⟩),
 (322,⟨.int .u64,1,8,.k .u64 0,none,false,false⟩),
 (326,⟨.other,1,8,.v (.pointer none),none,false,false⟩),
 (328,⟨.other,1,8,.v (.pointer none),none,false,false⟩),
 (334,⟨.other,1,8,.v (.pointer none),none,false,false⟩),
 (340,⟨.parr 32 5,32,32,.agg [.k .u8 0,.k .u8 0,.k .u8 0,.k .u8 0,.k .u8 0,.k .u8 0,.k .u8 0,.k .u8 0,.k .u8 0,.k .u8 0,.k .u8 0,.k .u8 0,.k .u8 0,.k .u8 0,.k .u8 0,.k .u8 0,.k .u8 0,.k .u8 0,.k .u8 0,.k .u8 0,.k .u8 0,.k .u8 0,.k .u8 0,.k .u8 0,.k .u8 0,.k .u8 0,.k .u8 0,.k .u8 0,.k .u8 0,.k .u8 0,.k .u8 0,.k .u8 0],none,false,false⟩),
 (341,⟨.parr 64 5,64,64,.agg [.k .u8 0,.k .u8 0,.k .u8 0,.k .u8 0,.k .u8 0,.k .u8 0,.k .u8 0,.k .u8 0,.k .u8 0,.k .u8 0,.k .u8 0,.k .u8 0,.k .u8 0,.k .u8 0,.k .u8 0,.k .u8 0,.k .u8 0,.k .u8 0,.k .u8 0,.k .u8 0,.k .u8 0,.k .u8 0,.k .u8 0,.k .u8 0,.k .u8 0,.k .u8 0,.k .u8 0,.k .u8 0,.k .u8 0,.k .u8 0,.k .u8 0,.k .u8 0,.k .u8 0,.k .u8 0,.k .u8 0,.k .u8 0,.k .u8 0,.k .u8 0,.k .u8 0,.k .u8 0,.k .u8 0,.k .u8 0,.k .u8 0,.k .u8 0,.k .u8 0,.k .u8 0,.k .u8 0,.k .u8 0,.k .u8 0,.k .u8 0,.k .u8 0,.k .u8 0,.k .u8 0,.k .u8 0,.k .u8 0,.k .u8 0,.k .u8 0,.k .u8 0,.k .u8 0,.k .u8 0,.k .u8 0,.k .u8 0,.k .u8 0,.k .u8 0],none,false,false⟩),
 (345,⟨.struct [(0,1),(1,1),(2,1),(3,1)],4,40,.agg [.v (.pointer none),.v (.pointer none),.v (.pointer none),.s []],none,false,false⟩),
 (346,⟨.struct [(0,1),(1,1),(2,1),(3,1)],4,40,.agg [.v (.pointer none),.v (.pointer none),.v (.pointer none),.s []],none,false,false⟩),
 (350,⟨.int .u8,1,1,.k .u8 0,none,false,false⟩),
 (351,⟨.int .u8,1,1,.k .u8 0,none,false,false⟩),
 (353,⟨.int .i32,1,4,.k .i32 0,none,false,false⟩),
 (354,⟨.int .i32,1,4,.k .i32 0,none,false,false⟩)]
noncomputable def gls (_m:Int):List (Nat × List D):=[
 (1,[.k .i64 _m])
 ]
noncomputable abbrev E (m:Int):Env:=⟨Tryz.prog,lk tys,lk (gls m)⟩
theorem EF:wn Tryz.prog tys=true:=by kernel_rfl
theorem FN:Tryz.prog.follows .mixedOrders=true:=by kernel_rfl
theorem ym {m:Int}:cY (E m):=rp rfl EF
theorem mix {m:Int}:(E m).P.follows .mixedOrders=true:=FN
noncomputable def FO (_m:Int):List (Nat × List D):=[(1,[.k .i64 _m]),(0,[.s [],.s [109,97,107,101],.s [112,117,116],.s [114,109],.s [114,109,100,105,114],.s [109,111,118,101]])]
noncomputable abbrev Eo (m:Int):Env:=⟨Tryz.prog,lk tys,lk (FO m)⟩
theorem Hi {m:Int}:cY (Eo m):=rp rfl EF
theorem Ht {m:Int}:(Eo m).P.follows .mixedOrders=true:=FN
theorem G0 {m : Int} {f : FuncId} {fn : Func} {c : Code} {k : Nat} {cds : List D} {Sa : ab} {d : D} {S' : ab} (hf : (E m).P.funcs[f]? = some fn) (h : Cd (E m) k c (mR 0 cds) Sa k (D2 (E m) k fn.results.toList d S')) (hb : fn.body = some c := by exact rfl) (hname : (fn.name == "runtime.NumGoroutine") = false := by exact rfl) (hok : eO fn.ntmps c = true := by exact rfl) (hle : cds.length ≤ fn.ntmps := by exact zAF rfl) : Con (E m) f k cds Sa d S' := dO ym mix hf hb hname hok hle h
theorem G1 {m : Int} {f : FuncId} {fn : Func} {c : Code} {k : Nat} {cds : List D} {Sa : ab} {d : D} {S' : ab} (hf : (Eo m).P.funcs[f]? = some fn) (h : Cd (Eo m) k c (mR 0 cds) Sa k (D2 (Eo m) k fn.results.toList d S')) (hb : fn.body = some c := by exact rfl) (hname : (fn.name == "runtime.NumGoroutine") = false := by exact rfl) (hok : eO fn.ntmps c = true := by exact rfl) (hle : cds.length ≤ fn.ntmps := by exact zAF rfl) : Con (Eo m) f k cds Sa d S' := dO Hi Ht hf hb hname hok hle h
theorem ir {m:Int} {f:FuncId} {k:Nat} {cds:List D} {Sa:ab} {d:D} {S':ab} (h:Con (E m) f k cds Sa d S'):Con (Eo m) f k cds Sa d S':=by
 refine Con.wide (fun g cs e=>?_) h;unfold gls at e;unfold FO;rw [ak] at e ⊢;split at e
 · rename_i hg;rw [if_pos hg];exact e
 · simp [lk] at e
noncomputable def Hj:List (Nat × TD):=(50,⟨.slice 159,1,24,.nil,none,true,false⟩) :: tys
noncomputable abbrev Eh (m:Int):Env:=⟨Tryz.prog,lk Hj,lk (gls m)⟩
theorem GT:wn Tryz.prog Hj=true:=by kernel_rfl
theorem B0 {m:Int}:cY (Eh m):=rp rfl GT
theorem FP {m:Int}:(Eh m).P.follows .mixedOrders=true:=FN
theorem cH {m:Int} {f:FuncId} {k:Nat} {cds:List D} {Sa:ab} {d:D} {S':ab} (h:Con (E m) f k cds Sa d S'):Con (Eh m) f k cds Sa d S':=⟨h.1,h.2⟩
theorem cE {m:Int} {f:FuncId} {k:Nat} {cds:List D} {Sa:ab} {d:D} {S':ab} (h:Con (Eh m) f k cds Sa d S'):Con (E m) f k cds Sa d S':=⟨h.1,h.2⟩
noncomputable def Hk:List (Nat × TD):=(43,⟨.slice 93,1,24,.nil,none,false,true⟩) :: (159,⟨.slice 152,1,24,.nil,none,false,true⟩) :: (51,⟨.slice 154,1,24,.nil,none,false,true⟩) :: tys
noncomputable abbrev Ew (m:Int):Env:=⟨Tryz.prog,lk Hk,lk (gls m)⟩
theorem GU:wn Tryz.prog Hk=true:=by kernel_rfl
theorem yn {m:Int}:cY (Ew m):=rp rfl GU
theorem EG {m:Int}:(Ew m).P.follows .mixedOrders=true:=FN
theorem cV {m:Int} {f:FuncId} {k:Nat} {cds:List D} {Sa:ab} {d:D} {S':ab} (h:Con (E m) f k cds Sa d S'):Con (Ew m) f k cds Sa d S':=⟨h.1,h.2⟩
theorem cVE {m:Int} {f:FuncId} {k:Nat} {cds:List D} {Sa:ab} {d:D} {S':ab} (h:Con (Ew m) f k cds Sa d S'):Con (E m) f k cds Sa d S':=⟨h.1,h.2⟩
theorem GV:ownKnob Tryz.prog.godebug=none:=by kernel_rfl
theorem jS:laidOutB Tryz.prog=true:=by kernel_rfl
end Go.Proofs.YtlicaibhgcenhaaGreatDoor
namespace Go.Par
open Go.Ab
abbrev Bs:=List UInt8
structure Ent where
 path:Bs
 dir:Bool
 data:Bs
 deriving DecidableEq
structure Mrk where
 path:Bs
 kind:Int
 data:Bs
 deriving DecidableEq
def Ent.c (e:Ent):List D:=[.s e.path,.b e.dir,.s e.data]
def Mrk.c (m:Mrk):List D:=[.s m.path,.k .i64 m.kind,.s m.data]
def b8 (e:Ent):Bs:=
 if e.dir then [100,32]++e.path else if e.data=[] then [102,32]++e.path else [102,32]++e.path++[32]++e.data
def bX (m:Mrk):Bs:=
 if m.kind=2 then [100,32]++m.path else if m.kind=3 then [120,32]++m.path else if m.kind=4 then [98,32]++m.path else b8 ⟨m.path,false,m.data⟩
def less (n:Int) (k:Nat):Int:=if n - k < 0 then -1 else n - k
def yo (n:Int) (p d:Nat):Int:=if n - p < 0 then -1 else if n - p - d < 0 then -1 else n - p - d
end Go.Par
namespace Go.Par
open Go.Ab
def cut (c:UInt8):Bs→List Bs
 | []=>[[]]
 | x :: r=>if x=c then [] :: cut c r else match cut c r with
   | []=>[[x]]
   | a :: q=>(x :: a) :: q
def join (c:UInt8):List Bs→Bs
 | []=>[]
 | [a]=>a
 | a :: b :: q=>a++c :: join c (b :: q)
theorem wR (c:UInt8):∀ l:Bs,cut c l≠[]
 | []=>by simp [cut]
 | x :: r=>by
   unfold cut;split
   · simp
   · split <;> simp
theorem lN (c:UInt8) (x:UInt8) (r:Bs) (h:x≠c):∃ a q,cut c r=a :: q∧cut c (x :: r)=(x :: a) :: q:=by
 match hc:cut c r with
 | []=>exact absurd hc (wR c r)
 | a :: q=>exact ⟨a,q,rfl,by rw [cut,if_neg h,hc]⟩
theorem ot (c:UInt8):∀ l:Bs,join c (cut c l)=l
 | []=>rfl
 | x :: r=>by
   by_cases h:x=c
   · subst h;rw [cut,if_pos rfl]
     match hc:cut x r with
     | []=>exact absurd hc (wR x r)
     | a :: q=>
       have:=ot x r
       rw [hc] at this;simp [join,this]
   · obtain ⟨a,q,h1,h2⟩:=lN c x r h
     have:=ot c r
     rw [h1] at this;rw [h2]
     match q,this with
     | [],this=>simpa [join] using this
     | b :: q,this=>simpa [join] using this
theorem wU (c:UInt8):∀ (a r:Bs),c ∉ a→cut c (a++c :: r)=a :: cut c r
 | [],r,_=>by simp [cut]
 | x :: a,r,h=>by
   have hx:x≠c:=by rintro rfl; simp at h
   have ih:=wU c a r (by simp at h; exact h.2);simp only [zAm];rw [cut,if_neg hx,ih]
theorem sw (c:UInt8):∀ (a:Bs),c ∉ a→cut c a=[a]
 | [],_=>rfl
 | x :: a,h=>by
   have hx:x≠c:=by rintro rfl; simp at h
   rw [cut,if_neg hx,sw c a (by simp at h; exact h.2)]
theorem yp (c:UInt8):∀ (w:List Bs),w≠[]→(∀ a∈w,c ∉ a)→cut c (join c w)=w
 | [],h,_=>absurd rfl h
 | [a],_,h=>sw c a (h a (by simp))
 | a :: b :: q,_,h=>by
   rw [join,wU c a _ (h a (by simp)),yp c (b :: q) (by simp) (fun x hx=>h x (by simp [hx]))]
theorem CX {l:Bs} {c:UInt8} {i:Nat} (h:Lib.index l [c]=(i:Int)) (b:UInt8) (hb:b≠c):Lib.index (b :: l) [c]=((i+1:Nat):Int):=by
 rw [Lib.index]
 have:([c]:Bs).isPrefixOf (b :: l)=false:=by simp [List.isPrefixOf,Ne.symm hb]
 rw [this,h]
 simp
theorem yq (c:UInt8):∀ s:Bs,Lib.splitK [c] 0 (Lib.count s [c]) s=cut c s
 | []=>by
   have:Lib.count [] [c]=0:=Lib.count_miss (by simp [Lib.index])
   rw [this]; rfl
 | b :: l=>by
   have ih:=yq c l;by_cases hb:b=c
   · subst hb;have hi:Lib.index (b :: l) [b]=((0:Nat):Int):=by simp [Lib.index,List.isPrefixOf]
     rw [Lib.count_cons_eq,Nat.add_comm,Lib.splitK,hi,cut,if_pos rfl];simp [ih]
   · rw [Lib.count_cons_ne b c l hb];obtain ⟨a,q,h1,h2⟩:=lN c b l hb;rw [h2];rcases Lib.index_spec l [c] with ⟨hm,_⟩|⟨i,hi,_⟩
     · rw [Lib.count_miss hm] at ih ⊢;rw [h1] at ih;simp only [Lib.splitK] at ih ⊢;simp at ih;rw [← ih.1,← ih.2]
     · rw [Lib.count_hit (by simp) hi,Nat.add_comm] at ih ⊢;rw [h1] at ih;simp only [Lib.splitK] at ih ⊢;rw [CX hi b hb];rw [hi] at ih;have n1:¬ (((i:Nat):Int) == -1)=true:=by intro e; have:=beq_iff_eq.1 e; omega
       have n2:¬ (((i+1:Nat):Int) == -1)=true:=by intro e; have:=beq_iff_eq.1 e; omega
       rw [if_neg n1] at ih;rw [if_neg n2];simp only [zBX,Nat.add_zero,List.length_cons,List.length_nil] at ih ⊢;rw [List.cons.injEq] at ih;obtain ⟨e1,e2⟩:=ih;rw [← e1,← e2]
       simp
def dQ (b:UInt8):Bool:=decide (97≤b.toNat) && decide (b.toNat≤122)
def dR (b:UInt8):Bool:=decide (48≤b.toNat) && decide (b.toNat≤57)
def aU (s:Bs):Bool:=decide (1≤s.length) && decide (s.length≤3) && s.all dQ
def cy (s:Bs):Bool:=decide (s.length≤6) && s.all fun b=>dQ b || dR b
def bz:Bs→List Bs
 | []=>[]
 | x :: r=>if x=47∧r≠[] then cut 47 r else []
def ac (s:Bs):Bool:=decide (s.length≤12) && (bz s).all aU && decide (1≤(bz s).length) && decide ((bz s).length≤3)
def gb (s:Bs):Nat→Nat
 | 0=>0
 | k+1=>if s[k+1]?=some 47 then k+1 else gb s k
def iu (s:Bs):Nat:=gb s (s.length - 1)
def ae (s:Bs):Bs:=if ac s then (if iu s=0 then [47] else s.take (iu s)) else []
def pathName (s:Bs):Bs:=if ac s then s.drop (iu s+1) else []
structure gc (s:Bs) (c:UInt8) (i fr:Nat) (done:List Bs):Prop where
 len:done.length≤fr
 le:fr≤i
 fin:i≤s.length→cut c s=done++cut c (s.drop fr)
 free:∀ k,fr≤k→k < i→s[k]?≠some c
 all:s.length < i→cut c s=done
 up:i≤s.length+1
theorem wV (s:Bs) (c:UInt8):gc s c 0 0 []:=⟨by simp,zAM _,fun _=>by simp,fun k _ h=>absurd h (Nat.not_lt_zero _),fun h=>absurd h (Nat.not_lt_zero _),zAG _⟩
theorem sx {s:Bs} {c:UInt8} {i fr:Nat} (h:∀ k,fr≤k→k < i→s[k]?≠some c):c ∉ (s.take i).drop fr:=by
 intro hm;obtain ⟨k,hk⟩:=List.mem_iff_getElem?.1 hm;rw [zAj,zAk] at hk;split at hk
 · exact h (fr+k) (by omega) (by omega) hk
 · cases hk
theorem gc.hit {s:Bs} {c:UInt8} {i fr:Nat} {done:List Bs} (h:gc s c i fr done) (hi:i < s.length) (hc:s[i]?=some c):gc s c (i+1) (i+1) (done++[(s.take i).drop fr]):=by
 have:=h.len
 have:=h.le
 refine ⟨by simp; omega,zAM _,fun _=>?_,fun k h1 h2=>by omega,fun h'=>by omega,by omega⟩;rw [h.fin (by omega),zAi];congr 1
 have e:s.drop fr=(s.take i).drop fr++c :: s.drop (i+1):=by
  have h1:s.drop fr=(s.take i++s.drop i).drop fr:=by rw [zAv]
  rw [h1,List.drop_append];have h2:fr - (s.take i).length=0:=by simp; omega
  rw [h2,List.drop_zero];congr 1
  obtain ⟨hlt,he⟩:=List.getElem?_eq_some_iff.1 hc;rw [List.drop_eq_getElem_cons hlt,he]
 rw [e,wU c _ _ (sx h.free)];rfl
theorem gc.miss {s:Bs} {c:UInt8} {i fr:Nat} {done:List Bs} (h:gc s c i fr done) (hi:i < s.length) (hc:s[i]?≠some c):gc s c (i+1) fr done:=by
 refine ⟨h.len,Nat.le_succ_of_le h.le,fun _=>h.fin (by omega),fun k h1 h2=>?_,fun h'=>by omega,by omega⟩;by_cases hk:k=i
 · subst hk; exact hc
 · exact h.free k h1 (by omega)
theorem gc.last {s:Bs} {c:UInt8} {fr:Nat} {done:List Bs} (h:gc s c s.length fr done):gc s c (s.length+1) (s.length+1) (done++[(s.take s.length).drop fr]):=by
 have:=h.len
 have:=h.le
 refine ⟨by simp; omega,zAM _,fun h'=>by omega,fun k h1 h2=>by omega,fun _=>?_,zAM _⟩;rw [h.fin (zAM _)]
 have:=sx h.free
 rw [zAN] at this ⊢;rw [sw c _ this]
theorem kH (c:UInt8):∀ l:Bs,(cut c l).length≤l.length+1
 | []=>zAM _
 | x :: r=>by
   have:=kH c r
   by_cases h:x=c
   · rw [cut,if_pos h]; simp; omega
   · obtain ⟨a,q,h1,h2⟩:=lN c x r h;rw [h1] at this;rw [h2];simp at this ⊢;omega
theorem CY (s:Bs):(bz s).length≤s.length+1:=by
 match s with
 | []=>simp [bz]
 | x :: r=>
   have:=kH 47 r
   have hn:bz (x :: r)=if x=47∧r≠[] then cut 47 r else []:=rfl
   rw [hn];split
   · simp; omega
   · simp
theorem yr (c:UInt8):∀ (w:List Bs),∀ a∈w,a.length≤(join c w).length
 | [],a,h=>by simp at h
 | [b],a,h=>by simp at h; simp [join,h]
 | b :: d :: q,a,h=>by
   rcases List.mem_cons.1 h with rfl|h
   · simp [join]
   · have:=yr c (d :: q) a h
     simp [join];omega
theorem jT (c:UInt8) (l:Bs):∀ a∈cut c l,a.length≤l.length:=by
 intro a h
 have:=yr c (cut c l) a h
 rwa [ot] at this
theorem qu (s:Bs):∀ a∈bz s,a.length≤s.length:=by
 match s with
 | []=>simp [bz]
 | x :: r=>
   intro a h;have hn:bz (x :: r)=if x=47∧r≠[] then cut 47 r else []:=rfl
   rw [hn] at h;split at h
   · have:=jT 47 r a h
     simp; omega
   · simp at h
end Go.Par
namespace Go.Par
open Go.Ab
abbrev lt (a b:Bs):Bool:=Op.bytesLess a b
theorem fW:∀ a:Bs,lt a a=false
 | []=>rfl
 | x :: a=>by
   have:=fW a
   simp only [lt,Op.bytesLess] at this ⊢;simp [this]
theorem lt_trans:∀ a b c:Bs,lt a b=true→lt b c=true→lt a c=true
 | [],_,[],_,h=>by simp [lt,Op.bytesLess] at h
 | [],_,_ :: _,_,_=>rfl
 | _ :: _,[],_,h,_=>by simp [lt,Op.bytesLess] at h
 | _ :: _,_ :: _,[],_,h=>by simp [lt,Op.bytesLess] at h
 | x :: a,y :: b,z :: c,h1,h2=>by
   have ih:=lt_trans a b c;simp only [lt,Op.bytesLess,zAe,zAC,decide_eq_true_eq,beq_iff_eq] at h1 h2 ih ⊢;rcases h1 with h1|⟨rfl,h1⟩
   · rcases h2 with h2|⟨rfl,h2⟩
     · left; exact UInt8.lt_trans h1 h2
     · left; exact h1
   · rcases h2 with h2|⟨rfl,h2⟩
     · left; exact h2
     · right; exact ⟨rfl,ih h1 h2⟩
theorem lO (a b:Bs) (h:lt a b=true):lt b a=false:=by
 cases h':lt b a with
 | false=>rfl
 | true=>have:=lt_trans a b a h h'; rw [fW] at this; cases this
theorem mS {a b:Bs} (h:lt a b=true):a≠b:=by
 rintro rfl;rw [fW] at h;cases h
theorem fu:∀ a b:Bs,lt a b=true∨a=b∨lt b a=true
 | [],[]=>.inr (.inl rfl)
 | [],_ :: _=>.inl rfl
 | _ :: _,[]=>.inr (.inr rfl)
 | x :: a,y :: b=>by
   have ih:=fu a b;simp only [lt,Op.bytesLess,zAe,zAC,decide_eq_true_eq,beq_iff_eq] at ih ⊢;rcases Nat.lt_trichotomy x.toNat y.toNat with h|h|h
   · left; left; exact UInt8.lt_iff_toNat_lt.2 h
   · have:x=y:=UInt8.toNat_inj.1 h
     subst this;rcases ih with ih|rfl|ih
     · left; right; exact ⟨rfl,ih⟩
     · right; left; rfl
     · right; right; right; exact ⟨rfl,ih⟩
   · right; right; left; exact UInt8.lt_iff_toNat_lt.2 h
theorem At:∀ (a b:Bs),b≠[]→lt a (a++b)=true
 | [],[],h=>absurd rfl h
 | [],_ :: _,_=>rfl
 | x :: a,b,h=>by
   have:=At a b h
   simp only [lt,zAm,Op.bytesLess] at this ⊢;simp [this]
def al (w:List Bs):Prop:=w.Pairwise fun a b=>lt a b=true
theorem vl {w:List Bs} (h:∀ (i:Nat) (a b:Bs),w[i]?=some a→w[i+1]?=some b→lt a b=true):al w:=by
 induction w with
 | nil=>exact .nil
 | cons x w ih=>
   have ih:=ih fun i a b h1 h2=>h (i+1) a b (by simpa using h1) (by simpa using h2);refine .cons (fun b hb=>?_) ih
   match w,ih,hb with
   | y :: w,ih,hb=>
     have h0:=h 0 x y rfl rfl;rcases List.mem_cons.1 hb with rfl|hb
     · exact h0
     · exact lt_trans x y b h0 ((List.pairwise_cons.1 ih).1 b hb)
theorem pG {w:List Bs} (h:al w) {i j:Nat} {a b:Bs} (hi:w[i]?=some a) (hj:w[j]?=some b) (hij:i < j):lt a b=true:=by
 obtain ⟨hi',rfl⟩:=List.getElem?_eq_some_iff.1 hi;obtain ⟨hj',rfl⟩:=List.getElem?_eq_some_iff.1 hj;exact zAz.1 h i j hi' hj' hij
theorem jj {w:List Bs} (h:al w) {i j:Nat} {a b:Bs} (hi:w[i]?=some a) (hj:w[j]?=some b) (hl:lt a b=true):i < j:=by
 rcases Nat.lt_trichotomy i j with k|k|k
 · exact k
 · subst k; rw [hi] at hj; cases hj; rw [fW] at hl; cases hl
 · have:=pG h hj hi k
   rw [lO _ _ hl] at this;cases this
theorem nk (s:Bs):∀ k,gb s k≤k
 | 0=>zAM _
 | k+1=>by
   unfold gb;split
   · exact zAM _
   · exact Nat.le_succ_of_le (nk s k)
theorem ou (s:Bs) (j:Nat):∀ k,(∀ i,j < i→i≤j+k→s[i]?≠some 47)→gb s (j+k)=gb s j
 | 0,_=>rfl
 | k+1,h=>by
   rw [← Nat.add_assoc,gb,if_neg (h (j+k+1) (by omega) (by omega))];exact ou s j k fun i h1 h2=>h i h1 (by omega)
theorem vm (a b:Bs) (hb:47 ∉ b) (hne:b≠[]):iu (a++47 :: b)=a.length:=by
 unfold iu;have hl:0 < b.length:=List.length_pos_iff.2 hne;have e:(a++47 :: b).length - 1=a.length+b.length:=by simp
 rw [e,ou]
 · cases h:a.length with
   | zero=>rfl
   | succ n=>
     unfold gb;rw [if_pos];rw [← h,zAU (zAM _)]
     simp
 · intro i h1 h2 h3;rw [zAU (by omega)] at h3
   have:i - a.length=(i - a.length - 1)+1:=by omega
   rw [this,List.getElem?_cons_succ] at h3;exact hb (zAD h3)
theorem jU {a:Bs} (h:aU a=true):47 ∉ a∧a≠[]:=by
 simp only [aU,zAC,decide_eq_true_eq,zAr] at h;obtain ⟨⟨h1,h2⟩,h3⟩:=h;refine ⟨fun hm=>?_,fun he=>by rw [he] at h1; simp at h1⟩
 have:=h3 47 hm
 simp [dQ] at this
def cF:List Bs→Bs
 | []=>[]
 | a :: q=>47 :: (a++cF q)
theorem rB:∀ (a:Bs) (q:List Bs),47 :: join 47 (a :: q)=cF (a :: q)
 | a,[]=>by simp [join,cF]
 | a,b :: q=>by
   have:=rB b q
   rw [join,cF,← this]
theorem jk:∀ (w:List Bs) (a:Bs),cF (w++[a])=cF w++47 :: a
 | [],a=>by simp [cF]
 | b :: w,a=>by
   have:=jk w a
   simp [cF,this]
theorem nn {s:Bs} (h:ac s=true):s=cF (bz s)∧(bz s).all aU=true∧1≤(bz s).length∧(bz s).length≤3∧s.length≤12:=by
 simp only [ac,zAC,decide_eq_true_eq] at h;obtain ⟨⟨⟨h1,h2⟩,h3⟩,h4⟩:=h;refine ⟨?_,h2,h3,h4,h1⟩
 match s,h3 with
 | x :: r,h3=>
   have hn:bz (x :: r)=if x=47∧r≠[] then cut 47 r else []:=rfl
   rw [hn] at h3 ⊢;split at h3
   · rename_i hx;rw [if_pos hx,hx.1]
     have:=ot 47 r
     match hc:cut 47 r with
     | []=>exact absurd hc (wR 47 r)
     | a :: q=>rw [hc] at this; rw [← rB,this]
   · simp at h3
theorem EH {w:List Bs} (hw:w.all aU=true) (hne:w≠[]):bz (cF w)=w:=by
 match w,hne with
 | a :: q,_=>
   rw [← rB,bz];have hf:∀ x∈a :: q,47 ∉ x:=fun x hx=>(jU (zAr.1 hw x hx)).1;have hj:join 47 (a :: q)≠[]:=by
    have ha:=(jU (zAr.1 hw a (by simp))).2
    match q with
    | []=>simpa [join] using ha
    | b :: q=>simp [join]
   rw [if_pos ⟨rfl,hj⟩,yp 47 _ (by simp) hf]
theorem qv:∀ {w:List Bs},w.all aU=true→(cF w).length≤4 * w.length
 | [],_=>by simp [cF]
 | a :: w,h=>by
   simp only [List.all_cons,zAC] at h
   have:=qv h.2
   have h1:=h.1;simp only [aU,zAC,decide_eq_true_eq] at h1;simp only [cF,List.length_cons,zAL];omega
theorem mu {w:List Bs} (hw:w.all aU=true) (h1:1≤w.length) (h3:w.length≤3):ac (cF w)=true:=by
 have hn:=EH hw (by rintro rfl; simp at h1)
 have:=qv hw
 simp only [ac,hn,hw,zAC,decide_eq_true_eq];refine ⟨⟨⟨?_,trivial⟩,h1⟩,h3⟩;omega
theorem iU {s:Bs} (h:ac s=true):∃ w a,bz s=w++[a]∧w.all aU=true∧aU a=true∧w.length≤2∧s=cF w++47 :: a:=by
 obtain ⟨h1,h2,h3,h4,_⟩:=nn h;have hne:bz s≠[]:=by intro e; rw [e] at h3; simp at h3
 refine ⟨(bz s).dropLast,(bz s).getLast hne,(zBa hne).symm,?_,?_,?_,?_⟩
 · exact zAr.2 fun x hx=>zAr.1 h2 x (List.dropLast_subset _ hx)
 · exact zAr.1 h2 _ (List.getLast_mem hne)
 · simp; omega
 · rw [← jk,zBa hne]; exact h1
theorem iB {w:List Bs} {a:Bs} (hw:w.all aU=true) (ha:aU a=true) (hl:w.length≤2):ae (cF w++47 :: a)=if w=[] then [47] else cF w:=by
 have hok:ac (cF w++47 :: a)=true:=by
  rw [← jk];exact mu (by simp [hw,ha]) (by simp) (by simp; omega)
 obtain ⟨f1,f2⟩:=jU ha;rw [ae,if_pos hok,vm _ _ f1 f2]
 match w with
 | []=>simp [cF]
 | b :: q=>
   rw [if_neg (by simp [cF]),if_neg (by simp)]
   simp
theorem sy {w:List Bs} {a:Bs} (hw:w.all aU=true) (ha:aU a=true) (hl:w.length≤2):pathName (cF w++47 :: a)=a:=by
 have hok:ac (cF w++47 :: a)=true:=by
  rw [← jk];exact mu (by simp [hw,ha]) (by simp) (by simp; omega)
 obtain ⟨f1,f2⟩:=jU ha;rw [pathName,if_pos hok,vm _ _ f1 f2]
 simp
theorem g9 {s:Bs} (h:ac s=true):ae s=[47]∨(ac (ae s)=true∧lt (ae s) s=true):=by
 obtain ⟨w,a,h1,hw,ha,hl,rfl⟩:=iU h;rw [iB hw ha hl];by_cases hn:w=[]
 · rw [if_pos hn]; exact .inl rfl
 · rw [if_neg hn];refine .inr ⟨mu hw ?_ (by omega),At _ _ (by simp)⟩;exact List.length_pos_iff.2 hn
theorem qw {s:Bs} (h:ac s=true):ae s=47 :: join 47 ((bz s).dropLast):=by
 obtain ⟨w,a,h1,hw,ha,hl,rfl⟩:=iU h;rw [iB hw ha hl,h1];simp only [List.dropLast_concat]
 match w with
 | []=>rfl
 | b :: q=>rw [if_neg (by simp),rB]
theorem yu {b:UInt8} (h:((b.toNat:Int) < 97∨(b.toNat:Int) > 122)∧((b.toNat:Int) < 48∨(b.toNat:Int) > 57)):(dQ b || dR b)=false:=by
 have h1:dQ b=false:=by
  unfold dQ;rcases h.1 with h|h
  · have:¬ 97≤b.toNat:=by omega
    simp [this]
  · have:¬ b.toNat≤122:=by omega
    simp [this]
 have h2:dR b=false:=by
  unfold dR;rcases h.2 with h|h
  · have:¬ 48≤b.toNat:=by omega
    simp [this]
  · have:¬ b.toNat≤57:=by omega
    simp [this]
 rw [h1,h2]; rfl
theorem B1 {b:UInt8} (h:((97:Int)≤b.toNat∧(b.toNat:Int)≤122)∨((48:Int)≤b.toNat∧(b.toNat:Int)≤57)):(dQ b || dR b)=true:=by
 rcases h with h|h
 · have:dQ b=true:=by
     unfold dQ
     have:97≤b.toNat:=by omega
     have:b.toNat≤122:=by omega
     simp [*]
   rw [this]; rfl
 · have:dR b=true:=by
     unfold dR
     have:48≤b.toNat:=by omega
     have:b.toNat≤57:=by omega
     simp [*]
   rw [this]; simp
theorem yv (s:Bs):iu s≤s.length:=zAo (nk s _) (Nat.sub_le _ _)
theorem aC {s:Bs} (h:ac s=true):1≤s.length∧s.length≤12:=by
 obtain ⟨h1,_,h3,_,h5⟩:=nn h;refine ⟨?_,h5⟩
 match s,h3 with
 | x :: r,_=>simp
theorem sA (s:Bs):(ae s).length≤12:=by
 unfold ae;split
 · rename_i h
   have:=aC h
   split
   · simp
   · rw [zAW]; omega
 · simp
theorem jV {s:Bs} {w:List Bs} (h:bz s=w):ac s=(decide (s.length≤12) && w.all aU && decide (1≤w.length) && decide (w.length≤3)):=by rw [ac,h]
end Go.Par
namespace Go.Par
open Go.Ab
def ah (t:List Ent) (p:Bs):Option Ent:=t.find? fun e=>decide (e.path=p)
def ef:Option Ent→Bool
 | some e=>e.dir
 | none=>false
def fv (t:List Ent) (p:Bs):Bool:=decide (p=[47]) || ef (ah t p)
def aY (t:List Ent) (p:Bs):Int:=
 if ae p=[47] then 0 else match ah t (ae p) with
  | none=>2
  | some e=>if e.dir then 0 else 3
def ew (e:Ent):Bool:=ac e.path && cy e.data && !(e.dir && !decide (e.data=[]))
def lP (t:List Ent) (e:Ent):Nat→Bool
 | 0=>true
 | j+1=>match t[j]? with
   | some e'=>lt e'.path e.path
   | none=>true
def okC (t:List Ent) (i:Nat):Bool:=match t[i]? with
 | some e=>ew e && lP t e i
 | none=>true
def okS (t:List Ent) (i:Nat):Bool:=match t[i]? with
 | some e=>ew e && lP t e i && fv (t.take i) (ae e.path)
 | none=>true
def okI (t:List Ent) (i:Nat):Bool:=match t[i]? with
 | some e=>ew e && lP t e i && decide (aY t e.path=0)
 | none=>true
def af (t:List Ent):Bool:=decide (t.length≤16) && (List.range t.length).all (okS t)
def my (t:List Ent):Bool:=decide (t.length≤16) && (List.range t.length).all (okI t)
theorem bN {n:Nat} {p:Nat→Bool}:(List.range n).all p=true↔∀ i,i < n→p i=true:=by
 simp [zAr]
theorem sB {t:List Ent} (h:∀ i,i < t.length→okC t i=true):al (t.map (·.path)):=by
 refine vl fun i a b h1 h2=>?_;simp only [zAQ,Option.map_eq_some_iff] at h1 h2;obtain ⟨e1,he1,rfl⟩:=h1;obtain ⟨e2,he2,rfl⟩:=h2
 have:=h (i+1) (List.getElem?_eq_some_iff.1 he2).1
 simp only [okC,he2,lP,he1,zAC] at this;exact this.2
theorem cg {t:List Ent} {p:Bs} {e:Ent} (h:ah t p=some e):e∈t∧e.path=p:=by
 have h1:=List.mem_of_find?_eq_some h;have h2:=List.find?_some h;exact ⟨h1,by simpa using h2⟩
theorem Au {t:List Ent} (hs:al (t.map (·.path))) {i:Nat} {e:Ent} (hi:t[i]?=some e) {p:Bs} (hl:lt p e.path=true):ah (t.take i) p=ah t p:=by
 have h1:ah t p=(ah (t.take i) p).or (ah (t.drop i) p):=by
  unfold ah;rw [← zBO,zAv]
 have h2:ah (t.drop i) p=none:=by
  unfold ah;rw [List.find?_eq_none];intro e' he' hp;simp only [decide_eq_true_eq] at hp;obtain ⟨j,hj⟩:=List.mem_iff_getElem?.1 he';rw [zAj] at hj;have a1:(t.map (·.path))[i]?=some e.path:=by simp [hi]
  have a2:(t.map (·.path))[i+j]?=some e'.path:=by simp [hj]
  rw [hp] at a2
  have:=jj hs a2 a1 hl
  omega
 rw [h1,h2]
 simp
theorem Hl {t:List Ent} {i:Nat} (h:okS t i=true):okC t i=true:=by
 unfold okS at h;unfold okC
 match he:t[i]?,h with
 | some e,h=>
   simp only [zAC] at h ⊢;exact h.1
 | none,_=>rfl
theorem Gu {t:List Ent} {i:Nat} (h:okI t i=true):okC t i=true:=by
 unfold okI at h;unfold okC
 match he:t[i]?,h with
 | some e,h=>
   simp only [zAC] at h ⊢;exact h.1
 | none,_=>rfl
theorem EI {t:List Ent} (hs:al (t.map (·.path))) (i:Nat):okI t i=okS t i:=by
 unfold okI okS
 match he:t[i]? with
 | none=>rfl
 | some e=>
   simp only;cases hok:ew e with
   | false=>simp
   | true=>
     congr 1
     simp only [ew,zAC] at hok;unfold aY fv;rcases g9 hok.1.1 with h|⟨h1,h2⟩
     · simp [h]
     · have hne:ae e.path≠[47]:=by
         intro h;rw [h] at h1
         revert h1
         decide
       rw [Au hs he h2,if_neg hne];simp only [hne,decide_false,zAs]
       match ah t (ae e.path) with
       | none=>simp [ef]
       | some e'=>cases hd:e'.dir <;> simp [ef,hd]
theorem kI (t:List Ent):my t=af t:=by
 unfold my af;congr 1
 rw [zAI,bN,bN];constructor
 · intro h i hi;have hs:=sB fun i hi=>Gu (h i hi);rw [← EI hs];exact h i hi
 · intro h i hi;have hs:=sB fun i hi=>Hl (h i hi);rw [EI hs];exact h i hi
def ox (t:List Ent) (p:Bs):Int:=match t.findIdx? fun e=>decide (e.path=p) with
 | some i=>i
 | none=>-1
theorem oy {t:List Ent} {p:Bs} {i:Nat} {e:Ent} (h:t[i]?=some e) (hp:e.path=p) (hb:∀ k e,k < i→t[k]?=some e→e.path≠p):ox t p=i:=by
 have:(t.findIdx? fun e=>decide (e.path=p))=some i:=by
  rw [List.findIdx?_eq_some_iff_getElem];obtain ⟨hlt,rfl⟩:=List.getElem?_eq_some_iff.1 h;refine ⟨hlt,by simpa using hp,fun j hj=>?_⟩
  have:=hb j t[j] hj (zAB (by omega))
  simpa using this
 rw [ox,this]
theorem np {t:List Ent} {p:Bs} (hb:∀ (k:Nat) e,t[k]?=some e→e.path≠p):ox t p=-1:=by
 have:(t.findIdx? fun e=>decide (e.path=p))=none:=by
  rw [List.findIdx?_eq_none_iff];intro e he;obtain ⟨k,hk⟩:=List.mem_iff_getElem?.1 he;simpa using hb k e hk
 rw [ox,this]
theorem oz (t:List Ent) (p:Bs):(∃ (i:Nat),ox t p=i∧∃ hi:i < t.length,ah t p=some t[i])∨(ox t p=-1∧ah t p=none):=by
 match h:t.findIdx? fun e=>decide (e.path=p) with
 | some i=>
   left;rw [List.findIdx?_eq_some_iff_getElem] at h;obtain ⟨hlt,h1,h2⟩:=h;refine ⟨i,oy (zAB hlt) (by simpa using h1) (fun k e hk he=>?_),hlt,?_⟩
   · obtain ⟨hk',rfl⟩:=List.getElem?_eq_some_iff.1 he;simpa using h2 k hk
   · unfold ah;rw [List.find?_eq_some_iff_getElem];exact ⟨h1,i,hlt,rfl,fun j hj=>by simpa using h2 j hj⟩
 | none=>
   right;rw [List.findIdx?_eq_none_iff] at h;refine ⟨np fun k e he=>by simpa using h e (zAD he),?_⟩;unfold ah;rw [List.find?_eq_none];intro e he;simpa using h e he
theorem Aw {t:List Ent} {i:Nat} (hi:i < t.length):okS t i=(ew t[i] && (if 0 < i then lt (t[i - 1]'(by omega)).path t[i].path else true) && fv (t.take i) (ae t[i].path)):=by
 have h:t[i]?=some t[i]:=zAB hi;unfold okS;rw [h];simp only;congr 2
 match i,hi with
 | 0,_=>rfl
 | k+1,hi=>
   have h':t[k]?=some t[k]:=zAB (by omega);simp [lP,h']
theorem Ax {t:List Ent} {i:Nat} (hi:i < t.length):okI t i=(ew t[i] && (if 0 < i then lt (t[i - 1]'(by omega)).path t[i].path else true) && decide (aY t t[i].path=0)):=by
 have h:t[i]?=some t[i]:=zAB hi;unfold okI;rw [h];simp only;congr 2
 match i,hi with
 | 0,_=>rfl
 | k+1,hi=>
   have h':t[k]?=some t[k]:=zAB (by omega);simp [lP,h']
theorem oA {t:List Ent} {i:Nat} (hi:i < t.length) (h:okS t i=false):af t=false:=by
 unfold af;rw [zAq];right;rw [zBY];exact ⟨i,List.mem_range.2 hi,by simp [h]⟩
theorem mT {t:List Ent} {i:Nat} (hi:i < t.length) (h:okI t i=false):af t=false:=by
 rw [← kI];unfold my;rw [zAq];right;rw [zBY];exact ⟨i,List.mem_range.2 hi,by simp [h]⟩
theorem yw {t:List Ent} (hl:t.length≤16) (h:∀ k,k < t.length→okS t k=true):af t=true:=by
 unfold af;rw [zAC,bN];exact ⟨by simpa using hl,h⟩
theorem oB {t:List Ent} (hl:t.length≤16) (h:∀ k,k < t.length→okI t k=true):af t=true:=by
 rw [← kI];unfold my;rw [zAC,bN];exact ⟨by simpa using hl,h⟩
theorem az {t:List Ent} (h:af t=true):t.length≤16:=by
 unfold af at h;rw [zAC] at h;simpa using h.1
theorem dm {t:List Ent} (h:af t=true):∀ e∈t,ew e=true:=by
 intro e he;obtain ⟨i,hi⟩:=List.mem_iff_getElem?.1 he;unfold af at h;rw [zAC,bN] at h
 have:=h.2 i (List.getElem?_eq_some_iff.1 hi).1
 unfold okS at this;rw [hi] at this;simp only [zAC] at this;exact this.1.1
theorem eE {e:Ent} (h:ew e=true):e.path.length≤12∧e.data.length≤6:=by
 simp only [ew,zAC] at h;refine ⟨(aC h.1.1).2,?_⟩
 have:=h.1.2
 simp only [cy,zAC,decide_eq_true_eq] at this;exact this.1
theorem qx (e:Ent):(b8 e).length≤e.path.length+e.data.length+3:=by
 unfold b8;split
 · simp; omega
 · split
   · simp; omega
   · simp; omega
end Go.Par
namespace Go.Par
open Go.Ab
structure Opn where
 kind:Int
 path:Bs
 tgt:Bs
 data:Bs
 deriving DecidableEq
def Opn.c (o:Opn):List D:=[.k .i64 o.kind,.s o.path,.s o.tgt,.s o.data]
def op0:Opn:=⟨0,[],[],[]⟩
def dn (o:Opn):Bool:=
 ac o.path && if o.kind=5 then ac o.tgt && decide (o.data=[]) else if o.kind=2 then decide (o.tgt=[]) && cy o.data
  else decide (o.kind=1∨o.kind=3∨o.kind=4) && decide (o.tgt=[]) && decide (o.data=[])
def opWords:List Bs:=[[],[109,97,107,101],[112,117,116],[114,109],[114,109,100,105,114],[109,111,118,101]]
def lQ (k:Int):Bs:=opWords.getD k.toNat []
def aO (w:Bs):Int:=
 if w=[109,97,107,101] then 1 else if w=[112,117,116] then 2 else if w=[114,109] then 3 else if w=[114,109,100,105,114] then 4 else if w=[109,111,118,101] then 5 else 0
def bL (w:List Bs) (i:Nat):Bs:=w.getD i []
def cm (k:Int) (p more:Bs):Opn:=if k=5 then ⟨k,p,more,[]⟩ else ⟨k,p,[],more⟩
def aV (w:List Bs):Option Opn:=
 if 2≤w.length∧w.length≤3∧dn (cm (aO (bL w 0)) (bL w 1) (bL w 2))=true then some (cm (aO (bL w 0)) (bL w 1) (bL w 2)) else none
theorem Ay:cy []=true:=rfl
theorem rC (o:Opn):dn o=(decide (1≤o.kind) && decide (o.kind≤5) && ac o.path && if o.kind=5 then ac o.tgt && decide (o.data=[]) else decide (o.tgt=[]) && cy o.data && (decide (o.kind=2) || decide (o.data=[]))):=by
 unfold dn;cases ac o.path
 · simp
 · by_cases h5:o.kind=5
   · simp [h5]
   · by_cases h2:o.kind=2
     · simp [h2]
     · simp only [h5,h2,if_false,decide_false,zAs,zBA,Bool.and_true];by_cases hd:o.data=[]
       · rw [hd,Ay]
         have:decide (o.kind=1∨o.kind=3∨o.kind=4)=(decide (1≤o.kind) && decide (o.kind≤5)):=by
          rw [zAI]; simp; omega
         rw [this];simp [Bool.and_assoc]
       · simp [hd]
theorem vn {o:Opn} (h:dn o=true):1≤o.kind∧o.kind≤5:=by
 simp only [dn,zAC] at h;obtain ⟨_,h⟩:=h;split at h
 · omega
 · split at h
   · omega
   · simp only [zAC,decide_eq_true_eq] at h;omega
theorem Hu {k:Int} (h1:1≤k) (h2:k≤5):k=1∨k=2∨k=3∨k=4∨k=5:=by omega
theorem pH (w:Bs):0≤aO w∧aO w≤5:=by
 unfold aO;repeat' split
 all_goals omega
theorem yx {w:Bs} (h:1≤aO w):lQ (aO w)=w:=by
 unfold aO at h ⊢;repeat' split
 all_goals first
  | (rename_i e; rw [e]; rfl)
  | (exfalso; simp_all)
def io (w:Bs):Nat→Int
 | 0=>0
 | n+1=>if lQ (n+1:Nat)=w then (n+1:Nat) else io w n
theorem yy (w:Bs):io w 5=aO w:=by
 unfold aO;by_cases h1:w=[109,97,107,101]
 · rw [h1]; decide
 by_cases h2:w=[112,117,116]
 · rw [h2]; decide
 by_cases h3:w=[114,109]
 · rw [h3]; decide
 by_cases h4:w=[114,109,100,105,114]
 · rw [h4]; decide
 by_cases h5:w=[109,111,118,101]
 · rw [h5]; decide
 simp only [h1,h2,h3,h4,h5,if_false];have e:∀ k:Nat,lQ (k:Nat)=opWords.getD k []:=fun k=>rfl;simp only [io,e];have g1:opWords.getD (0+1) []=[109,97,107,101]:=rfl;have g2:opWords.getD (1+1) []=[112,117,116]:=rfl;have g3:opWords.getD (2+1) []=[114,109]:=rfl;have g4:opWords.getD (3+1) []=[114,109,100,105,114]:=rfl;have g5:opWords.getD (4+1) []=[109,111,118,101]:=rfl;rw [g1,g2,g3,g4,g5,if_neg (Ne.symm h5),if_neg (Ne.symm h4),if_neg (Ne.symm h3),if_neg (Ne.symm h2),if_neg (Ne.symm h1)]
theorem iV {w:List Bs} {o:Opn} (h:aV w=some o):2≤w.length∧w.length≤3∧dn o=true∧o=cm (aO (bL w 0)) (bL w 1) (bL w 2):=by
 unfold aV at h;split at h
 · rename_i hc;cases h;exact ⟨hc.1,hc.2.1,hc.2.2,rfl⟩
 · cases h
theorem tX (k:Int) (p q:Bs):(cm k p q).kind=k:=by
 unfold cm;split <;> rfl
theorem yz {o:Opn} (h:dn o=true):o.path.length≤12∧o.tgt.length≤12∧o.data.length≤6:=by
 simp only [dn,zAC] at h;obtain ⟨h1,h⟩:=h;refine ⟨(aC h1).2,?_⟩;split at h
 · simp only [zAC,decide_eq_true_eq] at h
   have:=(aC h.1).2
   rw [h.2]
   simp; omega
 · split at h
   · simp only [zAC,decide_eq_true_eq,cy] at h;rw [h.1]
     simp; exact h.2.1
   · simp only [zAC,decide_eq_true_eq] at h;rw [h.2,h.1.2]
     simp
end Go.Par
namespace Go.Par
open Go.Ab
theorem c47 (b:UInt8):((b.toNat:Int)=47)↔b=47:=by
 constructor
 · intro h;exact UInt8.toNat_inj.1 (Int.ofNat_inj.1 h)
 · intro h;rw [h]; rfl
def under (s d:Bs):Bool:=decide (d=[47]) || (decide (d.length < s.length) && decide (s.take d.length=d) && decide (s[d.length]?=some 47))
def bC (s d:Bs):Bool:=ac s && (decide (d=[47]) || ac d) && under s d
theorem sC {s d:Bs} (h:under s d=true) (hd:d≠[47]):lt d s=true:=by
 simp only [under,hd,decide_false,zAs,zAC,decide_eq_true_eq] at h;have e:s=d++s.drop d.length:=by
  have h1:=h.1.2
  conv=>lhs; rw [← zAv d.length s,h1]
 rw [e];exact At _ _ (by intro h0; have:=congrArg List.length h0; simp at this; omega)
theorem jW:ac [47]=false:=by decide
theorem nq:ac []=false:=by decide
def ag (l:List Mrk) (p:Bs):Option Mrk:=l.find? fun m=>decide (m.path=p)
def cN (m:Mrk):Bool:=decide (m.kind=2) || decide (m.kind=4)
def kJ:Option Mrk→Bool
 | some m=>cN m
 | none=>false
def bare (l:List Mrk) (p:Bs):Bool:=l.any fun m=>decide (m.kind=4) && under p m.path
def jX (l:List Mrk) (p:Bs):Bool:=l.any fun m=>decide (m.kind=4) && bC p m.path
def ci (m:Mrk):Bool:=decide (1≤m.kind) && decide (m.kind≤4) && ac m.path && (if m.kind=1 then cy m.data else decide (m.data=[]))
def jl (l:List Mrk) (e:Mrk):Nat→Bool
 | 0=>true
 | j+1=>match l[j]? with
   | some e'=>lt e'.path e.path
   | none=>true
def inM (l:List Mrk) (p:Bs):Bool:=decide (ae p=[47]) || kJ (ag l (ae p))
def wW (l:List Mrk) (i:Nat):Bool:=match l[i]? with
 | some m=>ci m && jl l m i
 | none=>true
def rc (l:List Mrk) (i:Nat):Bool:=match l[i]? with
 | some m=>ci m && jl l m i && inM (l.take i) m.path && !(decide (2 < m.kind) && bare (l.take i) m.path)
 | none=>true
def nr (l:List Mrk) (i:Nat):Bool:=match l[i]? with
 | some m=>ci m && jl l m i && inM l m.path && !(decide (2 < m.kind) && jX l m.path)
 | none=>true
def ax (l:List Mrk):Bool:=decide (l.length≤32) && (List.range l.length).all (rc l)
def lR (l:List Mrk):Bool:=decide (l.length≤32) && (List.range l.length).all (nr l)
theorem yA {l:List Mrk} (h:∀ i,i < l.length→wW l i=true):al (l.map (·.path)):=by
 refine vl fun i a b h1 h2=>?_;simp only [zAQ,Option.map_eq_some_iff] at h1 h2;obtain ⟨e1,he1,rfl⟩:=h1;obtain ⟨e2,he2,rfl⟩:=h2
 have:=h (i+1) (List.getElem?_eq_some_iff.1 he2).1
 simp only [wW,he2,jl,he1,zAC] at this;exact this.2
theorem eQ {m:Mrk} (h:ci m=true):ac m.path=true:=by
 simp only [ci,zAC] at h;exact h.1.2
theorem Az {m:Mrk} (h:cy m.data=false):ci m=false:=by
 unfold ci;rw [zAq];right;split
 · exact h
 · simp only [decide_eq_false_iff_not];intro h0;rw [h0] at h;cases h
theorem bO {t:List Mrk} {p:Bs} {e:Mrk} (h:ag t p=some e):e∈t∧e.path=p:=by
 have h1:=List.mem_of_find?_eq_some h;have h2:=List.find?_some h;exact ⟨h1,by simpa using h2⟩
theorem yB {t:List Mrk} (hs:al (t.map (·.path))) {i:Nat} {e:Mrk} (hi:t[i]?=some e) {p:Bs} (hl:lt p e.path=true):ag (t.take i) p=ag t p:=by
 have h1:ag t p=(ag (t.take i) p).or (ag (t.drop i) p):=by
  unfold ag;rw [← zBO,zAv]
 have h2:ag (t.drop i) p=none:=by
  unfold ag;rw [List.find?_eq_none];intro e' he' hp;simp only [decide_eq_true_eq] at hp;obtain ⟨j,hj⟩:=List.mem_iff_getElem?.1 he';rw [zAj] at hj;have a1:(t.map (·.path))[i]?=some e.path:=by simp [hi]
  have a2:(t.map (·.path))[i+j]?=some e'.path:=by simp [hj]
  rw [hp] at a2
  have:=jj hs a2 a1 hl
  omega
 rw [h1,h2]
 simp
theorem CZ {t:List Mrk} (hs:al (t.map (·.path))) (hok:∀ m∈t,ac m.path=true) {i:Nat} {e:Mrk} (hi:t[i]?=some e):jX t e.path=bare (t.take i) e.path:=by
 rw [zAI];simp only [jX,bare,zAp,zAC,decide_eq_true_eq];constructor
 · rintro ⟨m,hm,hk,hu⟩;simp only [bC,zAC] at hu;have hne:m.path≠[47]:=by
    intro h
    have:=hok m hm
    rw [h,jW] at this;cases this
   obtain ⟨j,hj⟩:=List.mem_iff_getElem?.1 hm;have a1:(t.map (·.path))[i]?=some e.path:=by simp [hi]
   have a2:(t.map (·.path))[j]?=some m.path:=by simp [hj]
   have hlt:=jj hs a2 a1 (sC hu.2 hne);refine ⟨m,?_,hk,hu.2⟩;rw [List.mem_iff_getElem?];exact ⟨j,by rw [zAk,if_pos hlt,hj]⟩
 · rintro ⟨m,hm,hk,hu⟩;have hm':=zAy hm;exact ⟨m,hm',hk,by simp [bC,hok e (zAD hi),hok m hm',hu]⟩
theorem AA {t:List Mrk} {i:Nat} (h:rc t i=true):wW t i=true:=by
 unfold rc at h;unfold wW
 match he:t[i]?,h with
 | some e,h=>
   simp only [zAC] at h ⊢;exact h.1.1
 | none,_=>rfl
theorem GW {t:List Mrk} {i:Nat} (h:nr t i=true):wW t i=true:=by
 unfold nr at h;unfold wW
 match he:t[i]?,h with
 | some e,h=>
   simp only [zAC] at h ⊢;exact h.1.1
 | none,_=>rfl
theorem yC {t:List Mrk} (h:∀ i,i < t.length→wW t i=true):∀ m∈t,ci m=true:=by
 intro m hm;obtain ⟨i,hi⟩:=List.mem_iff_getElem?.1 hm
 have:=h i (List.getElem?_eq_some_iff.1 hi).1
 simp only [wW,hi,zAC] at this;exact this.1
theorem B2 {t:List Mrk} (hc:∀ i,i < t.length→wW t i=true) (i:Nat):nr t i=rc t i:=by
 have hs:=yA hc;have hok:=yC hc;unfold nr rc
 match he:t[i]? with
 | none=>rfl
 | some e=>
   simp only;have hp:=eQ (hok e (zAD he));rw [CZ hs (fun m hm=>eQ (hok m hm)) he];congr 2
   unfold inM;rcases g9 hp with h|⟨h1,h2⟩
   · simp [h]
   · rw [yB hs he h2]
theorem lS (t:List Mrk):lR t=ax t:=by
 unfold lR ax;congr 1
 rw [zAI,bN,bN];constructor
 · intro h i hi;rw [← B2 fun i hi=>GW (h i hi)];exact h i hi
 · intro h i hi;rw [B2 fun i hi=>AA (h i hi)];exact h i hi
theorem B3 {t:List Mrk} {i:Nat} (hi:i < t.length):rc t i=(ci t[i] && (if 0 < i then lt (t[i - 1]'(by omega)).path t[i].path else true) && inM (t.take i) t[i].path && !(decide (2 < t[i].kind) && bare (t.take i) t[i].path)):=by
 have h:t[i]?=some t[i]:=zAB hi;unfold rc;rw [h];simp only;congr 3
 match i,hi with
 | 0,_=>rfl
 | k+1,hi=>
   have h':t[k]?=some t[k]:=zAB (by omega);simp [jl,h']
theorem FQ {t:List Mrk} {i:Nat} (hi:i < t.length):nr t i=(ci t[i] && (if 0 < i then lt (t[i - 1]'(by omega)).path t[i].path else true) && inM t t[i].path && !(decide (2 < t[i].kind) && jX t t[i].path)):=by
 have h:t[i]?=some t[i]:=zAB hi;unfold nr;rw [h];simp only;congr 3
 match i,hi with
 | 0,_=>rfl
 | k+1,hi=>
   have h':t[k]?=some t[k]:=zAB (by omega);simp [jl,h']
theorem yD {t:List Mrk} {i:Nat} (hi:i < t.length):nr t i=(ci t[i] && (if 0 < i then lt (t[i - 1]'(by omega)).path t[i].path else true) && inM t t[i].path && !((decide (t[i].kind=3) || decide (t[i].kind=4)) && jX t t[i].path)):=by
 rw [FQ hi];cases hm:ci t[i] with
 | false=>simp
 | true=>
   have:decide (2 < t[i].kind)=(decide (t[i].kind=3) || decide (t[i].kind=4)):=by
    simp only [ci,zAC,decide_eq_true_eq] at hm;rw [zAI]
    simp
    omega
   rw [this]
theorem tY {t:List Mrk} {i:Nat} (hi:i < t.length) (h:rc t i=false):ax t=false:=by
 unfold ax;rw [zAq];right;rw [zBY];exact ⟨i,List.mem_range.2 hi,by simp [h]⟩
theorem sD {t:List Mrk} {i:Nat} (hi:i < t.length) (h:nr t i=false):ax t=false:=by
 rw [← lS];unfold lR;rw [zAq];right;rw [zBY];exact ⟨i,List.mem_range.2 hi,by simp [h]⟩
theorem wX {t:List Mrk} (hl:t.length≤32) (h:∀ k,k < t.length→rc t k=true):ax t=true:=by
 unfold ax;rw [zAC,bN];exact ⟨by simpa using hl,h⟩
theorem mU {t:List Mrk} (hl:t.length≤32) (h:∀ k,k < t.length→nr t k=true):ax t=true:=by
 rw [← lS];unfold lR;rw [zAC,bN];exact ⟨by simpa using hl,h⟩
theorem yE {t:List Mrk} (h:ax t=true):t.length≤32:=by
 unfold ax at h;rw [zAC] at h;simpa using h.1
theorem wY {t:List Mrk} (h:ax t=true):∀ e∈t,ci e=true:=by
 unfold ax at h;rw [zAC,bN] at h;exact yC fun i hi=>AA (h.2 i hi)
theorem lT {t:List Mrk} (h:ax t=true):al (t.map (·.path)):=by
 unfold ax at h;rw [zAC,bN] at h;exact yA fun i hi=>AA (h.2 i hi)
theorem sE {d:Bs} (h:cy d=true):d.length≤6:=by
 simp only [cy,zAC,decide_eq_true_eq] at h;exact h.1
theorem wZ (e:Mrk):(bX e).length≤e.path.length+e.data.length+3:=by
 have:=qx ⟨e.path,false,e.data⟩
 unfold bX;split
 · simp; omega
 · split
   · simp; omega
   · split
     · simp; omega
     · simpa using this
def kK (t:List Mrk) (p:Bs):Int:=match t.findIdx? fun e=>decide (e.path=p) with
 | some i=>i
 | none=>-1
theorem vo {t:List Mrk} {p:Bs} {i:Nat} {e:Mrk} (h:t[i]?=some e) (hp:e.path=p) (hb:∀ k e,k < i→t[k]?=some e→e.path≠p):kK t p=i:=by
 have:(t.findIdx? fun e=>decide (e.path=p))=some i:=by
  rw [List.findIdx?_eq_some_iff_getElem];obtain ⟨hlt,rfl⟩:=List.getElem?_eq_some_iff.1 h;refine ⟨hlt,by simpa using hp,fun j hj=>?_⟩
  have:=hb j t[j] hj (zAB (by omega))
  simpa using this
 rw [kK,this]
theorem qy {t:List Mrk} {p:Bs} (hb:∀ (k:Nat) e,t[k]?=some e→e.path≠p):kK t p=-1:=by
 have:(t.findIdx? fun e=>decide (e.path=p))=none:=by
  rw [List.findIdx?_eq_none_iff];intro e he;obtain ⟨k,hk⟩:=List.mem_iff_getElem?.1 he;simpa using hb k e hk
 rw [kK,this]
theorem C0 (t:List Mrk) (p:Bs):(∃ (i:Nat),kK t p=i∧∃ hi:i < t.length,ag t p=some t[i])∨(kK t p=-1∧ag t p=none):=by
 match h:t.findIdx? fun e=>decide (e.path=p) with
 | some i=>
   left;rw [List.findIdx?_eq_some_iff_getElem] at h;obtain ⟨hlt,h1,h2⟩:=h;refine ⟨i,vo (zAB hlt) (by simpa using h1) (fun k e hk he=>?_),hlt,?_⟩
   · obtain ⟨hk',rfl⟩:=List.getElem?_eq_some_iff.1 he;simpa using h2 k hk
   · unfold ag;rw [List.find?_eq_some_iff_getElem];exact ⟨h1,i,hlt,rfl,fun j hj=>by simpa using h2 j hj⟩
 | none=>
   right;rw [List.findIdx?_eq_none_iff] at h;refine ⟨qy fun k e he=>by simpa using h e (zAD he),?_⟩;unfold ag;rw [List.find?_eq_none];intro e he;simpa using h e he
def bZ (l:List Mrk) (p:Bs):Int:=match ag l p with
 | some m=>m.kind
 | none=>0
end Go.Par
namespace Go.Par
open Go.Ab
def qz:Ent:=⟨[47],true,[]⟩
def eZ:Ent:=⟨[],false,[]⟩
def am (t:List Ent) (p:Bs):Option Ent:=if p=[47] then some qz else ah t p
def dF:List Ent→Ent→List Ent
 | [],e=>[e]
 | x :: r,e=>if lt x.path e.path then x :: dF r e else if x.path=e.path then e :: r else e :: x :: r
def aK (s a b:Bs):Option Bs:=
 if ac s && ac a && ac b then (if s≠a∧under s a=false then some s else if ac (b++s.drop a.length) then some (b++s.drop a.length) else none) else none
def jY (t:List Ent) (p:Bs):List Bs:=(t.filter fun e=>decide (ae e.path=p)).map fun e=>pathName e.path
def cL (t:List Ent) (p:Bs):Int:=if aY t p≠0 then aY t p else if (am t p).isSome then 4 else if 16≤t.length then 8 else 0
def dG (t:List Ent) (p:Bs):Int:=if cL t p=4∧ef (am t p)=true then 5 else if cL t p=4 then 0 else cL t p
def eI (t:List Ent) (o:Opn):Int:=match am t o.path with
 | none=>2
 | some e=>if o.kind=3∧e.dir=true then 5 else if o.kind=4∧e.dir=false then 3 else if 0 < (jY t o.path).length then 6 else 0
def cz (t:List Ent) (o:Opn):Int:=
 if (am t o.path).isNone then 2 else if aY t o.tgt≠0 then aY t o.tgt else if (am t o.tgt).isSome then 4 else if under o.tgt o.path then 7
 else if t.all (fun e=>(aK e.path o.path o.tgt).isSome) then 0 else 8
def cj (t:List Ent) (o:Opn):Int:=
 if o.kind=1 then cL t o.path else if o.kind=2 then dG t o.path else if o.kind=5 then cz t o else eI t o
def gD (a b:Bs) (e:Ent):Ent:=⟨(aK e.path a b).getD [],e.dir,e.data⟩
def cb (t:List Ent) (es:List Ent):List Ent:=es.foldl dF t
def iW (t:List Ent) (p:Bs):List Ent:=t.filter fun e=>decide (e.path≠p)
def lU (t:List Ent) (a b:Bs):List Ent:=cb [] (t.map (gD a b))
def doT (t:List Ent) (o:Opn):List Ent:=
 if o.kind=1 then dF t ⟨o.path,true,[]⟩ else if o.kind=2 then dF t ⟨o.path,false,o.data⟩ else if o.kind=5 then lU t o.path o.tgt else iW t o.path
def ao (t:List Ent) (o:Opn):List Ent × Int:=
 if af t=false then ([],1) else if dn o=false then (t,1) else if cj t o≠0 then (t,cj t o) else (doT t o,0)
theorem sF (t:List Ent) (p:Bs):aY t p=match am t (ae p) with
   | none=>2
   | some e=>if e.dir then 0 else 3:=by
 unfold aY am;by_cases h:ae p=[47]
 · simp [h,qz]
 · simp only [h,if_false] <;> (cases ah t (ae p) <;> rfl)
theorem gd (t:List Ent) (e:Ent):t.length≤(dF t e).length∧(dF t e).length≤t.length+1:=by
 induction t with
 | nil=>simp [dF]
 | cons x r ih=>
   unfold dF;split
   · simp; omega
   · split <;> simp
theorem putAll_len:∀ (es t:List Ent),(cb t es).length≤t.length+es.length
 | [],t=>by simp [cb]
 | e :: es,t=>by
   have h1:=putAll_len es (dF t e);have h2:=(gd t e).2;simp only [cb,List.foldl_cons,List.length_cons] at h1 ⊢;omega
theorem yF (t es:List Ent) (e:Ent):cb t (es++[e])=dF (cb t es) e:=by simp [cb]
theorem oC (t:List Ent) (p:Bs):(jY t p).length≤t.length:=by
 unfold jY;rw [zAA];exact zAV _ _
theorem pI {s d:Bs} (h:under s d=true) (hd:d≠[47]):d.length < s.length∧s.take d.length=d:=by
 simp only [under,hd,decide_false,zAs,zAC,decide_eq_true_eq] at h;exact h.1
theorem aW {s:Bs} (h:ac s=true):s≠[47]:=by
 rintro rfl
 revert h
 decide
theorem jZ {α:Type} {l:List α} {i:Nat} {x:α} {p:α→Bool} (h:l[i]?=some x):(l.take (i+1)).filter p=(l.take i).filter p++if p x then [x] else []:=by
 rw [dP h,zAg];congr 1
 simp only [List.filter_cons,List.filter_nil]
def re (n:Nat) (t:List Ent):Prop:=∀ e∈t,e.path.length≤n∧e.data.length≤n
end Go.Par
namespace Go.Par
open Go.Ab
def cX:List Mrk→Mrk→List Mrk
 | [],e=>[e]
 | x :: r,e=>if lt x.path e.path then x :: cX r e else if x.path=e.path then e :: r else e :: x :: r
def j0:Nat→List Mrk→Bs→List Mrk
 | 0,l,_=>l
 | n+1,l,p=>if ae p=[47] then l else j0 n (if bZ l (ae p)=0 then cX l ⟨ae p,2,[]⟩ else l) (ae p)
theorem iX (t:List Mrk) (e:Mrk):t.length≤(cX t e).length∧(cX t e).length≤t.length+1:=by
 induction t with
 | nil=>simp [cX]
 | cons x r ih=>
   unfold cX;split
   · simp; omega
   · split <;> simp
theorem yG {t:List Mrk} {e x:Mrk} (h:x∈cX t e):x=e∨x∈t:=by
 induction t with
 | nil=>simp [cX] at h; exact .inl h
 | cons y r ih=>
   unfold cX at h;split at h
   · rcases List.mem_cons.1 h with h|h
     · exact .inr (by simp [h])
     · rcases ih h with h|h
       · exact .inl h
       · exact .inr (by simp [h])
   · split at h
     · rcases List.mem_cons.1 h with h|h
       · exact .inl h
       · exact .inr (by simp [h])
     · rcases List.mem_cons.1 h with h|h
       · exact .inl h
       · exact .inr h
theorem sG:∀ (n:Nat) (l:List Mrk) (p:Bs),(j0 n l p).length≤l.length+n
 | 0,l,_=>zAM _
 | n+1,l,p=>by
   unfold j0;split
   · omega
   · split
     · have h1:=sG n (cX l ⟨ae p,2,[]⟩) (ae p);have h2:=(iX l ⟨ae p,2,[]⟩).2;omega
     · have h1:=sG n l (ae p);omega
theorem ei {p:Bs} (h:ac p=true) (hr:ae p≠[47]):(ae p).length < p.length:=by
 obtain ⟨w,a,h1,hw,ha,hl,rfl⟩:=iU h;rw [iB hw ha hl] at hr ⊢;by_cases hn:w=[]
 · rw [if_pos hn] at hr; exact absurd rfl hr
 · rw [if_neg hn]; simp
end Go.Par
namespace Go.Par
open Go.Ab
end Go.Par
