/- Texts of this claim, set close: lemmas and contracts. -/
import Derived.Test.YtagejnomlkfndaaGreatDoorYY3
import Derived.Test.YtagejnomlkfndaaGreatDoorRows
import Derived.Test.YtagejnomlkfndaaGreatDoorYY4
set_option linter.unusedVariables false
set_option linter.unusedSimpArgs false
namespace Go.Proofs.YtagejnomlkfndaaGreatDoor
open Go Go.RowKit Go.Ab
noncomputable def tys:List (Nat × TD):=[(2,⟨.int .i64,1,8,.k .i64 0,none,false,false,false⟩),
 (3,⟨.int .i64,1,8,.k .i64 0,none,false,false,false⟩),
 (4,⟨.bool,1,1,.b false,none,false,false,false⟩),
 (5,⟨.int .u8,1,1,.k .u8 0,none,false,false,false⟩),
 (6,⟨.int .u8,1,1,.k .u8 0,none,false,false,false⟩),
 (7,⟨.struct [(0,1),(1,1),(2,1),(3,1)],4,24,.agg [.k .i64 0,.k .i64 0,.b false,.k .u8 0],some [1,1,0,1],false,false,false⟩),
 (8,⟨.struct [(0,1),(1,1),(2,1),(3,1)],4,24,.agg [.k .i64 0,.k .i64 0,.b false,.k .u8 0],some [1,1,0,1],false,false,false⟩),
 (9,⟨.str,1,16,.s [],none,false,false,false⟩),
 (10,⟨.str,1,16,.s [],none,false,false,false⟩),
 (11,⟨.str,1,16,.s [],none,false,false,false⟩),
 (12,⟨.int .u64,1,8,.k .u64 0,none,false,false,false⟩),
 (13,⟨.struct [(0,1),(1,1)],2,24,.agg [.s [],.k .u64 0],none,false,false,false⟩),
 (14,⟨.struct [(0,1),(1,1)],2,24,.agg [.s [],.k .u64 0],none,false,false,false⟩),
 (15,⟨.other,1,8,.v (.pointer none),none,false,false,false⟩),
 (16,⟨.other,1,8,.v (.pointer none),none,false,false,false⟩),
 (17,⟨.other,1,8,.v (.pointer none),none,false,false,false⟩),
 (18,⟨.struct [(0,1)],1,8,.agg [.v (.pointer none)],none,false,false,false⟩),
 (19,⟨.struct [(0,1)],1,8,.agg [.v (.pointer none)],none,false,false,false⟩),
 (21,⟨.int .i32,1,4,.k .i32 0,none,false,false,false⟩),
 (22,⟨.slice 157,1,24,.nil,none,false,false,false⟩),
 (23,⟨.slice 24,1,24,.nil,none,false,false,false⟩),
 (24,⟨.slice 160,1,24,.nil,none,false,false,false⟩),
 (25,⟨.struct [(0,1),(1,1),(2,1)],3,72,.agg [.nil,.nil,.nil],none,false,false,false⟩),
 (26,⟨.struct [(0,1),(1,1),(2,1)],3,72,.agg [.nil,.nil,.nil],none,false,false,false⟩),
 (27,⟨.slice 85,1,24,.nil,none,false,false,false⟩),
 (30,⟨.slice 66,1,24,.nil,none,false,false,false⟩),
 (31,⟨.slice 32,1,24,.nil,none,false,false,false⟩),
 (32,⟨.slice 166,1,24,.nil,none,false,false,false⟩),
 (33,⟨.struct [(0,1),(1,1),(2,1)],3,72,.agg [.nil,.nil,.nil],none,false,false,false⟩),
 (34,⟨.struct [(0,1),(1,1),(2,1)],3,72,.agg [.nil,.nil,.nil],none,false,false,false⟩),
 (35,⟨.slice 3,1,24,.nil,none,false,false,false⟩),
 (39,⟨.slice 53,1,24,.nil,none,false,false,false⟩),
 (48,⟨.slice 5,1,24,.nil,none,false,false,false⟩),
 (49,⟨.slice 132,1,24,.nil,none,false,false,false⟩),
 (50,⟨.slice 121,1,24,.nil,none,false,false,false⟩),
 (51,⟨.slice 70,1,24,.nil,none,false,false,false⟩),
 (52,⟨.struct [(0,1),(1,1),(2,1),(3,1)],4,56,.agg [.k .i64 0,.s [],.s [],.s []],some [1,2,2,2],false,false,false⟩),
 (53,⟨.struct [(0,1),(1,1),(2,1),(3,1)],4,56,.agg [.k .i64 0,.s [],.s [],.s []],some [1,2,2,2],false,false,false⟩),
 (54,⟨.struct [(0,3),(3,1),(4,1),(5,1),(6,1),(7,1),(8,1),(9,1),(10,4)],14,248,.agg [.nil,.nil,.nil,.k .i64 0,.k .i64 0,.nil,.nil,.nil,.nil,.b false,.k .i64 0,.s [],.s [],.s []],none,false,false,false⟩),
 (55,⟨.struct [(0,3),(3,1),(4,1),(5,1),(6,1),(7,1),(8,1),(9,1),(10,4)],14,248,.agg [.nil,.nil,.nil,.k .i64 0,.k .i64 0,.nil,.nil,.nil,.nil,.b false,.k .i64 0,.s [],.s [],.s []],none,false,false,false⟩),
 (58,⟨.struct [(0,1),(1,1),(2,1),(3,4),(7,1)],8,96,.agg [.k .i64 0,.k .i64 0,.s [],.k .i64 0,.s [],.s [],.s [],.k .i64 0],some [1,1,2,1,2,2,2,1],false,false,false⟩),
 (59,⟨.struct [(0,1),(1,1),(2,1),(3,4),(7,1)],8,96,.agg [.k .i64 0,.k .i64 0,.s [],.k .i64 0,.s [],.s [],.s [],.k .i64 0],some [1,1,2,1,2,2,2,1],false,false,false⟩),
 (65,⟨.struct [(0,1),(1,1),(2,1)],3,40,.agg [.s [],.b false,.s []],some [2,0,2],false,false,false⟩),
 (66,⟨.struct [(0,1),(1,1),(2,1)],3,40,.agg [.s [],.b false,.s []],some [2,0,2],false,false,false⟩),
 (67,⟨.struct [(0,1),(1,1),(2,3),(5,1),(6,1)],7,80,.agg [.s [],.b false,.s [],.b false,.s [],.k .i64 0,.k .i64 0],some [2,0,2,0,2,1,1],false,false,false⟩),
 (68,⟨.struct [(0,1),(1,1),(2,3),(5,1),(6,1)],7,80,.agg [.s [],.b false,.s [],.b false,.s [],.k .i64 0,.k .i64 0],some [2,0,2,0,2,1,1],false,false,false⟩),
 (69,⟨.struct [(0,1),(1,1),(2,7)],9,96,.agg [.k .i64 0,.k .i64 0,.s [],.b false,.s [],.b false,.s [],.k .i64 0,.k .i64 0],some [1,1,2,0,2,0,2,1,1],false,false,false⟩),
 (70,⟨.struct [(0,1),(1,1),(2,7)],9,96,.agg [.k .i64 0,.k .i64 0,.s [],.b false,.s [],.b false,.s [],.k .i64 0,.k .i64 0],some [1,1,2,0,2,0,2,1,1],false,false,false⟩),
 (72,⟨.slice 89,1,24,.nil,none,false,false,false⟩),
 (76,⟨.slice 59,1,24,.nil,none,false,false,false⟩),
 (82,⟨.slice 200,1,24,.nil,none,false,false,false⟩),
 (83,⟨.slice 202,1,24,.nil,none,false,false,false⟩),
 (84,⟨.slice 207,1,24,.nil,none,false,false,false⟩),
 (85,⟨.struct [(0,1),(1,1),(2,1),(3,1)],4,56,.agg [.k .i64 0,.s [],.s [],.s []],some [1,2,2,2],false,false,false⟩),
 (86,⟨.struct [(0,3),(3,1),(4,1),(5,1),(6,1),(7,1),(8,1),(9,1),(10,4)],14,248,.agg [.nil,.nil,.nil,.k .i64 0,.k .i64 0,.nil,.nil,.nil,.nil,.b false,.k .i64 0,.s [],.s [],.s []],none,false,false,false⟩),
 (87,⟨.struct [(0,3),(3,1),(4,1),(5,1),(6,1),(7,1),(8,1),(9,1),(10,4)],14,248,.agg [.nil,.nil,.nil,.k .i64 0,.k .i64 0,.nil,.nil,.nil,.nil,.b false,.k .i64 0,.s [],.s [],.s []],none,false,false,false⟩),
 (88,⟨.struct [(0,1),(1,1),(2,1),(3,4),(7,1)],8,96,.agg [.k .i64 0,.k .i64 0,.s [],.k .i64 0,.s [],.s [],.s [],.k .i64 0],some [1,1,2,1,2,2,2,1],false,false,false⟩),
 (89,⟨.struct [(0,1),(1,1),(2,1),(3,4),(7,1)],8,96,.agg [.k .i64 0,.k .i64 0,.s [],.k .i64 0,.s [],.s [],.s [],.k .i64 0],some [1,1,2,1,2,2,2,1],false,false,false⟩),
 (115,⟨.other,1,8,.v (.pointer none),none,false,false,false⟩),
 (121,⟨.slice 68,1,24,.nil,none,false,false,false⟩),
 (131,⟨.struct [(0,1),(1,1),(2,1),(3,1)],4,40,.agg [.k .i64 0,.s [],.k .i64 0,.k .i64 0],some [1,2,1,1],false,false,false⟩),
 (132,⟨.struct [(0,1),(1,1),(2,1),(3,1)],4,40,.agg [.k .i64 0,.s [],.k .i64 0,.k .i64 0],some [1,2,1,1],false,false,false⟩),
 (140,⟨.slice 9,1,24,.nil,none,false,false,false⟩),
 (157,⟨.struct [(0,1),(1,1),(2,1)],3,40,.agg [.s [],.b false,.s []],some [2,0,2],false,false,false⟩),
 (159,⟨.struct [(0,1),(1,1),(2,1)],3,40,.agg [.s [],.k .i64 0,.s []],some [2,1,2],false,false,false⟩),
 (160,⟨.struct [(0,1),(1,1),(2,1)],3,40,.agg [.s [],.k .i64 0,.s []],some [2,1,2],false,false,false⟩),
 (166,⟨.struct [(0,1),(1,1),(2,1)],3,40,.agg [.s [],.k .i64 0,.s []],some [2,1,2],false,false,false⟩),
 (174,⟨.struct [(0,1),(1,1)],2,32,.agg [.nil,.k .i64 0],none,false,false,false⟩),
 (175,⟨.struct [(0,1),(1,1)],2,32,.agg [.nil,.k .i64 0],none,false,false,false⟩),
 (180,⟨.other,1,8,.v (.pointer none),none,false,false,false⟩),
 (200,⟨.struct [(0,1),(1,1),(2,1),(3,1)],4,40,.agg [.k .i64 0,.s [],.k .i64 0,.k .i64 0],some [1,2,1,1],false,false,false⟩),
 (202,⟨.slice 205,1,24,.nil,none,false,false,false⟩),
 (204,⟨.struct [(0,1),(1,1),(2,3),(5,1),(6,1)],7,80,.agg [.s [],.b false,.s [],.b false,.s [],.k .i64 0,.k .i64 0],some [2,0,2,0,2,1,1],false,false,false⟩),
 (205,⟨.struct [(0,1),(1,1),(2,3),(5,1),(6,1)],7,80,.agg [.s [],.b false,.s [],.b false,.s [],.k .i64 0,.k .i64 0],some [2,0,2,0,2,1,1],false,false,false⟩),
 (206,⟨.struct [(0,1),(1,1),(2,7)],9,96,.agg [.k .i64 0,.k .i64 0,.s [],.b false,.s [],.b false,.s [],.k .i64 0,.k .i64 0],some [1,1,2,0,2,0,2,1,1],false,false,false⟩),
 (207,⟨.struct [(0,1),(1,1),(2,7)],9,96,.agg [.k .i64 0,.k .i64 0,.s [],.b false,.s [],.b false,.s [],.k .i64 0,.k .i64 0],some [1,1,2,0,2,0,2,1,1],false,false,false⟩),
 (281,⟨.int .u64,1,8,.k .u64 0,none,false,false,false⟩),
 (282,⟨.other,1,8,.v (.pointer none),none,false,false,false⟩),
 (283,⟨.struct [(0,1),(1,1)],2,32,.agg [.v (.pointer none),.nil],none,false,false,false⟩),
 (284,⟨.struct [(0,1),(1,1)],2,32,.agg [.v (.pointer none),.nil],none,false,false,false⟩),
 (297,⟨.int .i64,1,8,.k .i64 0,none,false,false,false⟩),
 (305,⟨.int .u32,1,4,.k .u32 0,none,false,false,false⟩),
 (307,⟨.int .u64,1,8,.k .u64 0,none,false,false,false⟩),
 (308,⟨.other,1,8,.v (.pointer none),none,false,false,false⟩),
 (314,⟨.int .u64,1,8,.k .u64 0,none,false,false,false⟩),
 (318,⟨.other,1,8,.v (.pointer none),none,false,false,false⟩),
 (325,⟨.parr 256 5,256,256,.agg [.k .u8 0,.k .u8 0,.k .u8 0,.k .u8 0,.k .u8 0,.k .u8 0,.k .u8 0,.k .u8 0,.k .u8 0,.k .u8 0,.k .u8 0,.k .u8 0,.k .u8 0,.k .u8 0,.k .u8 0,.k .u8 0,.k .u8 0,.k .u8 0,.k .u8 0,.k .u8 0,.k .u8 0,.k .u8 0,.k .u8 0,.k .u8 0,.k .u8 0,.k .u8 0,.k .u8 0,.k .u8 0,.k .u8 0,.k .u8 0,.k .u8 0,.k .u8 0,.k .u8 0,.k .u8 0,.k .u8 0,.k .u8 0,.k .u8 0,.k .u8 0,.k .u8 0,.k .u8 0,.k .u8 0,.k .u8 0,.k .u8 0,.k .u8 0,.k .u8 0,.k .u8 0,.k .u8 0,.k .u8 0,.k .u8 0,.k .u8 0,.k .u8 0,.k .u8 0,.k .u8 0,.k .u8 0,.k .u8 0,.k .u8 0,.k .u8 0,.k .u8 0,.k .u8 0,.k .u8 0,.k .u8 0,.k .u8 0,.k .u8 0,.k .u8 0,.k .u8 0,.k .u8 0,.k .u8 0,.k .u8 0,.k .u8 0,.k .u8 0,.k .u8 0,.k .u8 0,.k .u8 0,.k .u8 0,.k .u8 0,.k .u8 0,.k .u8 0,.k .u8 0,.k .u8 0,.k .u8 0,.k .u8 0,.k .u8 0,.k .u8 0,.k .u8 0,.k .u8 0,.k .u8 0,.k .u8 0,.k .u8 0,.k .u8 0,.k .u8 0,.k .u8 0,.k .u8 0,.k .u8 0,.k .u8 0,.k .u8 0,.k .u8 0,.k .u8 0,.k .u8 0,.k .u8 0,.k .u8 0,.k .u8 0,.k .u8 0,.k .u8 0,.k .u8 0,.k .u8 0,.k .u8 0,.k .u8 0,.k .u8 0,.k .u8 0,.k .u8 0,.k .u8 0,.k .u8 0,.k .u8 0,.k .u8 0,.k .u8 0,.k .u8 0,.k .u8 0,.k .u8 0,.k .u8 0,.k .u8 0,.k .u8 0,.k .u8 0,.k .u8 0,.k .u8 0,.k .u8 0,.k .u8 0,.k .u8 0,.k .u8 0,.k .u8 0,.k .u8 0,.k .u8 0,.k .u8 0,.k .u8 0,.k .u8 0,.k .u8 0,.k .u8 0,.k .u8 0,.k .u8 0,.k .u8 0,.k .u8 0,.k .u8 0,.k .u8 0,.k .u8 0,.k .u8 0,.k .u8 0,.k .u8 0,.k .u8 0,.k .u8 0,.k .u8 0,.k .u8 0,.k .u8 0,.k .u8 0,.k .u8 0,.k .u8 0,.k .u8 0,.k .u8 0,.k .u8 0,.k .u8 0,.k .u8 0,.k .u8 0,.k .u8 0,.k .u8 0,.k .u8 0,.k .u8 0,.k .u8 0,.k .u8 0,.k .u8 0,.k .u8 0,.k .u8 0,.k .u8 0,.k .u8 0,.k .u8 0,.k .u8 0,.k .u8 0,.k .u8 0,.k .u8 0,.k .u8 0,.k .u8 0,.k .u8 0,.k .u8 0,.k .u8 0,.k .u8 0,.k .u8 0,.k .u8 0,.k .u8 0,.k .u8 0,.k .u8 0,.k .u8 0,.k .u8 0,.k .u8 0,.k .u8 0,.k .u8 0,.k .u8 0,.k .u8 0,.k .u8 0,.k .u8 0,.k .u8 0,.k .u8 0,.k .u8 0,.k .u8 0,.k .u8 0,.k .u8 0,.k .u8 0,.k .u8 0,.k .u8 0,.k .u8 0,.k .u8 0,.k .u8 0,.k .u8 0,.k .u8 0,.k .u8 0,.k .u8 0,.k .u8 0,.k .u8 0,.k .u8 0,.k .u8 0,.k .u8 0,.k .u8 0,.k .u8 0,.k .u8 0,.k .u8 0,.k .u8 0,.k .u8 0,.k .u8 0,.k .u8 0,.k .u8 0,.k .u8 0,.k .u8 0,.k .u8 0,.k .u8 0,.k .u8 0,.k .u8 0,.k .u8 0,.k .u8 0,.k .u8 0,.k .u8 0,.k .u8 0,.k .u8 0,.k .u8 0,.k .u8 0,.k .u8 0,.k .u8 0,.k .u8 0,.k .u8 0,.k .u8 0,.k .u8 0,.k .u8 0,.k .u8 0,.k .u8 0,.k .u8 0,.k .u8 0,.k .u8 0,.k .u8 0,.k .u8 0,.k .u8 0,.k .u8 0],none,false,false,false⟩),
 (326,⟨.struct [(0,1),(1,1)],2,2,.agg [.k .u8 0,.k .u8 0],some [1,1],false,false,false⟩),
 (327,⟨.struct [(0,1),(1,1)],2,2,.agg [.k .u8 0,.k .u8 0],some [1,1],false,false,false⟩),
 (328,⟨.parr 16 327,32,32,.agg [.k .u8 0,.k .u8 0,.k .u8 0,.k .u8 0,.k .u8 0,.k .u8 0,.k .u8 0,.k .u8 0,.k .u8 0,.k .u8 0,.k .u8 0,.k .u8 0,.k .u8 0,.k .u8 0,.k .u8 0,.k .u8 0,.k .u8 0,.k .u8 0,.k .u8 0,.k .u8 0,.k .u8 0,.k .u8 0,.k .u8 0,.k .u8 0,.k .u8 0,.k .u8 0,.k .u8 0,.k .u8 0,.k .u8 0,.k .u8 0,.k .u8 0,.k .u8 0],none,false,false,false⟩),
 (331,⟨.other,1,8,.v (.pointer none),none,false,false,false⟩),
 (335,⟨.struct [(0,1),(1,1),(2,1),(3,1)],4,40,.agg [.v (.pointer none),.v (.pointer none),.v (.pointer none),.s []],none,false,false,false⟩),
 (336,⟨.struct [(0,1),(1,1),(2,1),(3,1)],4,40,.agg [.v (.pointer none),.v (.pointer none),.v (.pointer none),.s []],none,false,false,false⟩),
 (340,⟨.int .u8,1,1,.k .u8 0,none,false,false,false⟩),
 (341,⟨.int .u8,1,1,.k .u8 0,none,false,false,false⟩),
 (343,⟨.int .i32,1,4,.k .i32 0,none,false,false,false⟩),
 (344,⟨.int .i32,1,4,.k .i32 0,none,false,false,false⟩)]
noncomputable def gls (_m:Int):List (Nat × List D):=[
 (0,[.k .i64 _m])
 ]
noncomputable abbrev E (m:Int):Env:=⟨Tryz.prog,lk tys,lk (gls m)⟩
theorem I3:qu Tryz.prog tys=true:=by kernel_rfl
theorem GC:Tryz.prog.follows .mixedOrders=true:=by kernel_rfl
theorem iT {m:Int}:dW (E m):=pi rfl I3
theorem mix {m:Int}:(E m).P.follows .mixedOrders=true:=GC
theorem G0 {m : Int} {f : FuncId} {fn : Func} {c : Code} {k : Nat} {cds : List D} {Sa : ac} {d : D} {S' : ac} (hf : (E m).P.funcs[f]? = some fn) (h : Cd (E m) k c (py 0 cds) Sa k (HC (E m) k fn.results.toList d S')) (hb : fn.body = some c := by exact rfl) (hname : (fn.name == "runtime.NumGoroutine") = false := by exact rfl) (hok : gm fn.ntmps c = true := by exact rfl) (hle : cds.length ≤ fn.ntmps := by exact zAC rfl) : Con (E m) f k cds Sa d S' := bK iT mix hf hb hname hok hle h
noncomputable def I4:List (Nat × TD):=(50,⟨.slice 121,1,24,.nil,none,true,false,false⟩) :: tys
noncomputable abbrev Eh (m:Int):Env:=⟨Tryz.prog,lk I4,lk (gls m)⟩
theorem I5:qu Tryz.prog I4=true:=by kernel_rfl
theorem DS {m:Int}:dW (Eh m):=pi rfl I5
theorem HW {m:Int}:(Eh m).P.follows .mixedOrders=true:=GC
theorem cH {m:Int} {f:FuncId} {k:Nat} {cds:List D} {Sa:ac} {d:D} {S':ac} (h:Con (E m) f k cds Sa d S'):Con (Eh m) f k cds Sa d S':=⟨h.1,h.2⟩
theorem cE {m:Int} {f:FuncId} {k:Nat} {cds:List D} {Sa:ac} {d:D} {S':ac} (h:Con (Eh m) f k cds Sa d S'):Con (E m) f k cds Sa d S':=⟨h.1,h.2⟩
noncomputable def Js:List (Nat × TD):=(49,⟨.slice 132,1,24,.nil,none,false,true,false⟩) :: (121,⟨.slice 68,1,24,.nil,none,false,true,false⟩) :: (51,⟨.slice 70,1,24,.nil,none,false,true,false⟩) :: tys
noncomputable abbrev Ew (m:Int):Env:=⟨Tryz.prog,lk Js,lk (gls m)⟩
theorem I6:qu Tryz.prog Js=true:=by kernel_rfl
theorem tF {m:Int}:dW (Ew m):=pi rfl I6
theorem Ce {m:Int}:(Ew m).P.follows .mixedOrders=true:=GC
theorem cV {m:Int} {f:FuncId} {k:Nat} {cds:List D} {Sa:ac} {d:D} {S':ac} (h:Con (E m) f k cds Sa d S'):Con (Ew m) f k cds Sa d S':=⟨h.1,h.2⟩
theorem cVE {m:Int} {f:FuncId} {k:Nat} {cds:List D} {Sa:ac} {d:D} {S':ac} (h:Con (Ew m) f k cds Sa d S'):Con (E m) f k cds Sa d S':=⟨h.1,h.2⟩
noncomputable def Jt:List (Nat × TD):=(121,⟨.slice 68,1,24,.nil,none,false,false,true⟩) :: I4
noncomputable abbrev Et (m:Int):Env:=⟨Tryz.prog,lk Jt,lk (gls m)⟩
theorem I7:qu Tryz.prog Jt=true:=by kernel_rfl
theorem pE {m:Int}:dW (Et m):=pi rfl I7
theorem xW {m:Int}:(Et m).P.follows .mixedOrders=true:=GC
theorem cT {m:Int} {f:FuncId} {k:Nat} {cds:List D} {Sa:ac} {d:D} {S':ac} (h:Con (E m) f k cds Sa d S'):Con (Et m) f k cds Sa d S':=⟨h.1,h.2⟩
theorem cTE {m:Int} {f:FuncId} {k:Nat} {cds:List D} {Sa:ac} {d:D} {S':ac} (h:Con (Et m) f k cds Sa d S'):Con (E m) f k cds Sa d S':=⟨h.1,h.2⟩
theorem Ju:ownKnob Tryz.prog.godebug=none:=by kernel_rfl
theorem pF:laidOutB Tryz.prog=true:=by kernel_rfl
end Go.Proofs.YtagejnomlkfndaaGreatDoor
namespace Go.Ab
open Go Go.RowKit
abbrev WsT:=List (List (List D))
abbrev anZ (ws:List (List (List D))):List aE:=ws.map aE.an
theorem kH:∀ ws,imZ (anZ ws)=some (ws.map fun xs=>[D.sl xs])
 | []=>rfl
 | xs :: r=>by
   show (match imZ (anZ r) with
    | some q=>some ([D.sl xs] :: q)
    | none=>none)=_
   rw [kH r];rfl
theorem eU:∀ ws,dL (anZ ws)=[]
 | []=>rfl
 | xs :: r=>eU r
theorem bi (f:Nat→Nat) (ws:List (List (List D))):(anZ ws).map (Hz f)=anZ ws:=by
 unfold anZ;rw [zBE];rfl
theorem co (ns:List Nat) (ws:List (List (List D))):(anZ ws).map (xn ns)=anZ ws:=by
 unfold anZ;rw [zBE];rfl
theorem GD {ws:List (List (List D))} {i:Nat} {xs:List (List D)} (h:ws[i]?=some xs):(anZ ws)[i]?=some (.an xs):=by
 unfold anZ;rw [zAO,h];rfl
theorem lQ (ws:List (List (List D))):(anZ ws).length=ws.length:=zAA ..
theorem wz (S:ac) (e2:TypeId):∀ ws,gk S e2 (anZ ws)=some (anZ ws,[])
 | []=>rfl
 | xs :: r=>by
   show (match gk S e2 (anZ r) with
    | some (zs,ns)=>some (aE.an xs :: zs,ns)
    | none=>none)=_
   rw [wz S e2 r];rfl
theorem oy {S:ac} {e2:TypeId} {a:Nat} {xs:List (List D)} (ha:lk S a=some (.own e2 xs)):∀ (ws:List (List (List D))) (i:Nat),i < ws.length→gk S e2 ((anZ ws).set i (.nm a))=some (anZ (ws.set i xs),[a])
 | [],i,h=>absurd h (Nat.not_lt_zero _)
 | y :: r,0,_=>by
   show (match lk S a with
    | some (.own e3 xs)=>match Nat.beq e2 e3 with
      | true=>match gk S e2 (anZ r) with
        | some (zs,ns)=>some (aE.an xs :: zs,a :: ns)
        | none=>none
      | false=>none
    | _=>none)=_
   rw [ha];simp only [zBI,wz];rfl
 | y :: r,i+1,h=>by
   show (match gk S e2 ((anZ r).set i (.nm a)) with
    | some (zs,ns)=>some (aE.an y :: zs,ns)
    | none=>none)=_
   rw [oy ha r i (by simpa using h)];rfl
theorem lwc (n a i:Nat) {k0:Nat} {tm:Tm} {S:ac} {nx e e2:Nat} {ws:List (List (List D))} {xs:List (List D)} {J:Tm→ac→Nat→Prop} (ts ns:List Nat) (h1:lk S n=some (.deep e e2 ((anZ ws).set i (.nm a)))) (h2:lk S a=some (.own e2 xs)) (hi:i < ws.length) (h3:dd [n,a]=true)
   (h:dd ns=true∧lF 0 k0 ns=true∧J (kg ns (tm.map fun (t,d)=>(t,mvD n nx d)) ts) (iQ ns (((nx,Blk.deep e e2 (anZ (ws.set i xs))) :: del n (del a S)).map fun (t,b)=>(t,mvB n nx b)) ns 0) ns.length):g9 k0 tm S nx J:=by
 refine ⟨[.close n],ts,ns,?_⟩;have hm:mv (.close n) tm S nx=some (tm.map fun (t,d)=>(t,mvD n nx d),(((nx,Blk.deep e e2 (anZ (ws.set i xs))) :: del n (del a S)).map fun (t,b)=>(t,mvB n nx b)),nx+1):=by
  unfold mv;simp only [h1,oy h2 ws i hi,h3,u7]
 unfold mvs;rw [hm];exact h
end Go.Ab
namespace Go.Proofs.YtagejnomlkfndaaGreatDoor
open Go Go.RowKit Go.Ab
noncomputable def Jv:List (Nat × TD):=(50,⟨.slice 121,1,24,.nil,none,true,false,false⟩) :: (31,⟨.slice 32,1,24,.nil,none,true,false,false⟩) :: tys
noncomputable abbrev Ed (m:Int):Env:=⟨Tryz.prog,lk Jv,lk (gls m)⟩
theorem I8:qu Tryz.prog Jv=true:=by kernel_rfl
theorem zU {m:Int}:dW (Ed m):=pi rfl I8
theorem GE {m:Int}:(Ed m).P.follows .mixedOrders=true:=GC
theorem cD {m:Int} {f:FuncId} {k:Nat} {cds:List D} {Sa:ac} {d:D} {S':ac} (h:Con (E m) f k cds Sa d S'):Con (Ed m) f k cds Sa d S':=⟨h.1,h.2⟩
theorem cDE {m:Int} {f:FuncId} {k:Nat} {cds:List D} {Sa:ac} {d:D} {S':ac} (h:Con (Ed m) f k cds Sa d S'):Con (E m) f k cds Sa d S':=⟨h.1,h.2⟩
end Go.Proofs.YtagejnomlkfndaaGreatDoor
