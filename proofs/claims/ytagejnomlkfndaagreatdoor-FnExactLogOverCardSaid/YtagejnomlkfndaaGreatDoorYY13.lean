/- Texts of this claim, set close: lemmas and contracts. -/
import Derived.Shelf.SlSortCmp.NoneTotal
import Derived.Shelf.SlicesQ.Reverse
import Derived.Shelf.SlGeneric
import Derived.Ground.SlsfProg
import Derived.Ground.SlgnProg
import Derived.Test.YtagejnomlkfndaaGreatDoorProg
import Derived.Test.YtagejnomlkfndaaGreatDoorYY11
import Derived.Lib.SlicesCompact
import Derived.Test.YtagejnomlkfndaaGreatDoorYY5
import Derived.Test.YtagejnomlkfndaaGreatDoorTie
import Derived.Test.YtagejnomlkfndaaGreatDoorYY3
import Derived.Test.YtagejnomlkfndaaGreatDoorYY7
import Derived.Test.YtagejnomlkfndaaGreatDoorCards
import Derived.ProofKit
import Derived.LaidMore
import Derived.Lay
import Derived.SevenTiedAt
import Derived.Stop.Joined
set_option linter.unusedSimpArgs false
set_option linter.unusedVariables false
set_option maxHeartbeats 1000000
set_option maxRecDepth 100000
namespace Go.Proofs
open Go.Shelf
def Tryz.sortE_ren:Go.Shelf.Ren:=⟨fun|6=>251|15=>285|14=>284|28=>307|29=>308|20=>299|21=>300|22=>301|23=>302|24=>303|25=>304|26=>305|27=>306|46=>325|47=>326|48=>327|49=>328|50=>329|57=>337|n=>n,fun|22=>30|24=>66|25=>262|3=>3|39=>281|0=>0|53=>305|55=>307|4=>4|46=>298|45=>297|50=>302|5=>5|9=>9|66=>314|70=>318|76=>331|77=>332|n=>n,fun|n=>n⟩
theorem Tryz.sortE:Go.Proofs.SlLaysF0.n6 Tryz.prog Tryz.sortE_ren:={
 mixed:=by kernel_rfl
 f6:=⟨Tryz.f251.name,by decide,Tryz.func251.trans (congrArg some (by kernel_rfl))⟩
 f14:=⟨Tryz.f284.name,by decide,Tryz.func284.trans (congrArg some (by kernel_rfl))⟩
 f15:=Tryz.func285.trans (congrArg some (by kernel_rfl))
 f20:=⟨Tryz.f299.name,by decide,Tryz.func299.trans (congrArg some (by kernel_rfl))⟩
 f21:=⟨Tryz.f300.name,by decide,Tryz.func300.trans (congrArg some (by kernel_rfl))⟩
 f22:=⟨Tryz.f301.name,by decide,Tryz.func301.trans (congrArg some (by kernel_rfl))⟩
 f23:=⟨Tryz.f302.name,by decide,Tryz.func302.trans (congrArg some (by kernel_rfl))⟩
 f24:=⟨Tryz.f303.name,by decide,Tryz.func303.trans (congrArg some (by kernel_rfl))⟩
 f25:=⟨Tryz.f304.name,by decide,Tryz.func304.trans (congrArg some (by kernel_rfl))⟩
 f26:=⟨Tryz.f305.name,by decide,Tryz.func305.trans (congrArg some (by kernel_rfl))⟩
 f27:=⟨Tryz.f306.name,by decide,Tryz.func306.trans (congrArg some (by kernel_rfl))⟩
 f28:=Tryz.func307.trans (congrArg some (by kernel_rfl))
 f29:=Tryz.func308.trans (congrArg some (by kernel_rfl))
 f46:=⟨Tryz.f325.name,by decide,Tryz.func325.trans (congrArg some (by kernel_rfl))⟩
 f47:=Tryz.func326.trans (congrArg some (by kernel_rfl))
 f48:=Tryz.func327.trans (congrArg some (by kernel_rfl))
 f49:=⟨Tryz.f328.name,by decide,Tryz.func328.trans (congrArg some (by kernel_rfl))⟩
 f50:=⟨Tryz.f329.name,by decide,Tryz.func329.trans (congrArg some (by kernel_rfl))⟩
 f57:=⟨Tryz.f337.name,by decide,Tryz.func337.trans (congrArg some (by kernel_rfl))⟩
 t0:=Tryz.underlying0
 a0:=Tryz.isAgg0
 z0:=Tryz.sizeOf0
 v0:=Tryz.zeroValue0
 t3:=Tryz.underlying3
 a3:=Tryz.isAgg3
 z3:=Tryz.sizeOf3
 v3:=Tryz.zeroValue3
 t4:=Tryz.underlying4
 a4:=Tryz.isAgg4
 z4:=Tryz.sizeOf4
 v4:=Tryz.zeroValue4
 t5:=Tryz.underlying5
 a5:=Tryz.isAgg5
 z5:=Tryz.sizeOf5
 v5:=Tryz.zeroValue5
 t9:=Tryz.underlying9
 a9:=Tryz.isAgg9
 z9:=Tryz.sizeOf9
 v9:=Tryz.zeroValue9
 t22:=Tryz.underlying30
 a22:=Tryz.isAgg30
 z22:=Tryz.sizeOf30
 v22:=Tryz.zeroValue30
 t25:=Tryz.underlying262
 a25:=Tryz.isAgg262
 z25:=Tryz.sizeOf262
 v25:=Tryz.zeroValue262
 t39:=Tryz.underlying281
 a39:=Tryz.isAgg281
 z39:=Tryz.sizeOf281
 v39:=Tryz.zeroValue281
 t45:=Tryz.underlying297
 a45:=Tryz.isAgg297
 z45:=Tryz.sizeOf297
 v45:=Tryz.zeroValue297
 t46:=Tryz.underlying298
 a46:=Tryz.isAgg298
 z46:=Tryz.sizeOf298
 v46:=Tryz.zeroValue298
 t50:=Tryz.underlying302
 a50:=Tryz.isAgg302
 z50:=Tryz.sizeOf302
 v50:=Tryz.zeroValue302
 t53:=Tryz.underlying305
 a53:=Tryz.isAgg305
 z53:=Tryz.sizeOf305
 v53:=Tryz.zeroValue305
 t55:=Tryz.underlying307
 a55:=Tryz.isAgg307
 z55:=Tryz.sizeOf307
 v55:=Tryz.zeroValue307
 t66:=Tryz.underlying314
 a66:=Tryz.isAgg314
 z66:=Tryz.sizeOf314
 v66:=Tryz.zeroValue314
 t70:=Tryz.underlying318
 a70:=Tryz.isAgg318
 z70:=Tryz.sizeOf318
 v70:=Tryz.zeroValue318
 t76:=Tryz.underlying331
 a76:=Tryz.isAgg331
 z76:=Tryz.sizeOf331
 v76:=Tryz.zeroValue331
 t77:=Tryz.underlying332
 a77:=Tryz.isAgg332
 z77:=Tryz.sizeOf332
 v77:=Tryz.zeroValue332 }
def Tryz.sortM_ren:Go.Shelf.Ren:=⟨fun|6=>255|15=>285|14=>290|28=>307|29=>308|20=>311|21=>312|22=>313|23=>314|24=>315|25=>316|26=>317|27=>318|46=>332|47=>326|48=>327|49=>333|50=>334|57=>338|n=>n,fun|22=>32|24=>166|25=>265|3=>3|39=>281|0=>0|53=>305|55=>307|4=>4|46=>298|45=>297|50=>302|5=>5|9=>9|66=>314|70=>318|76=>331|77=>332|n=>n,fun|n=>n⟩
theorem Tryz.sortM:Go.Proofs.SlLaysF0.n6 Tryz.prog Tryz.sortM_ren:={
 mixed:=by kernel_rfl
 f6:=⟨Tryz.f255.name,by decide,Tryz.func255.trans (congrArg some (by kernel_rfl))⟩
 f14:=⟨Tryz.f290.name,by decide,Tryz.func290.trans (congrArg some (by kernel_rfl))⟩
 f15:=Tryz.func285.trans (congrArg some (by kernel_rfl))
 f20:=⟨Tryz.f311.name,by decide,Tryz.func311.trans (congrArg some (by kernel_rfl))⟩
 f21:=⟨Tryz.f312.name,by decide,Tryz.func312.trans (congrArg some (by kernel_rfl))⟩
 f22:=⟨Tryz.f313.name,by decide,Tryz.func313.trans (congrArg some (by kernel_rfl))⟩
 f23:=⟨Tryz.f314.name,by decide,Tryz.func314.trans (congrArg some (by kernel_rfl))⟩
 f24:=⟨Tryz.f315.name,by decide,Tryz.func315.trans (congrArg some (by kernel_rfl))⟩
 f25:=⟨Tryz.f316.name,by decide,Tryz.func316.trans (congrArg some (by kernel_rfl))⟩
 f26:=⟨Tryz.f317.name,by decide,Tryz.func317.trans (congrArg some (by kernel_rfl))⟩
 f27:=⟨Tryz.f318.name,by decide,Tryz.func318.trans (congrArg some (by kernel_rfl))⟩
 f28:=Tryz.func307.trans (congrArg some (by kernel_rfl))
 f29:=Tryz.func308.trans (congrArg some (by kernel_rfl))
 f46:=⟨Tryz.f332.name,by decide,Tryz.func332.trans (congrArg some (by kernel_rfl))⟩
 f47:=Tryz.func326.trans (congrArg some (by kernel_rfl))
 f48:=Tryz.func327.trans (congrArg some (by kernel_rfl))
 f49:=⟨Tryz.f333.name,by decide,Tryz.func333.trans (congrArg some (by kernel_rfl))⟩
 f50:=⟨Tryz.f334.name,by decide,Tryz.func334.trans (congrArg some (by kernel_rfl))⟩
 f57:=⟨Tryz.f338.name,by decide,Tryz.func338.trans (congrArg some (by kernel_rfl))⟩
 t0:=Tryz.underlying0
 a0:=Tryz.isAgg0
 z0:=Tryz.sizeOf0
 v0:=Tryz.zeroValue0
 t3:=Tryz.underlying3
 a3:=Tryz.isAgg3
 z3:=Tryz.sizeOf3
 v3:=Tryz.zeroValue3
 t4:=Tryz.underlying4
 a4:=Tryz.isAgg4
 z4:=Tryz.sizeOf4
 v4:=Tryz.zeroValue4
 t5:=Tryz.underlying5
 a5:=Tryz.isAgg5
 z5:=Tryz.sizeOf5
 v5:=Tryz.zeroValue5
 t9:=Tryz.underlying9
 a9:=Tryz.isAgg9
 z9:=Tryz.sizeOf9
 v9:=Tryz.zeroValue9
 t22:=Tryz.underlying32
 a22:=Tryz.isAgg32
 z22:=Tryz.sizeOf32
 v22:=Tryz.zeroValue32
 t25:=Tryz.underlying265
 a25:=Tryz.isAgg265
 z25:=Tryz.sizeOf265
 v25:=Tryz.zeroValue265
 t39:=Tryz.underlying281
 a39:=Tryz.isAgg281
 z39:=Tryz.sizeOf281
 v39:=Tryz.zeroValue281
 t45:=Tryz.underlying297
 a45:=Tryz.isAgg297
 z45:=Tryz.sizeOf297
 v45:=Tryz.zeroValue297
 t46:=Tryz.underlying298
 a46:=Tryz.isAgg298
 z46:=Tryz.sizeOf298
 v46:=Tryz.zeroValue298
 t50:=Tryz.underlying302
 a50:=Tryz.isAgg302
 z50:=Tryz.sizeOf302
 v50:=Tryz.zeroValue302
 t53:=Tryz.underlying305
 a53:=Tryz.isAgg305
 z53:=Tryz.sizeOf305
 v53:=Tryz.zeroValue305
 t55:=Tryz.underlying307
 a55:=Tryz.isAgg307
 z55:=Tryz.sizeOf307
 v55:=Tryz.zeroValue307
 t66:=Tryz.underlying314
 a66:=Tryz.isAgg314
 z66:=Tryz.sizeOf314
 v66:=Tryz.zeroValue314
 t70:=Tryz.underlying318
 a70:=Tryz.isAgg318
 z70:=Tryz.sizeOf318
 v70:=Tryz.zeroValue318
 t76:=Tryz.underlying331
 a76:=Tryz.isAgg331
 z76:=Tryz.sizeOf331
 v76:=Tryz.zeroValue331
 t77:=Tryz.underlying332
 a77:=Tryz.isAgg332
 z77:=Tryz.sizeOf332
 v77:=Tryz.zeroValue332 }
end Go.Proofs
namespace Go.Par
open Go.Ab
theorem fX (a b:List Ent):(bo a b).length≤32:=by
 unfold bo;split
 · rename_i h;rw [zAE] at h;refine zAq (zAa _ _) ?_;rw [zAA];have h1:=putAll_len b a
   have:=aN h.1
   have:=aN h.2
   omega
 · simp
theorem filter_step {l:List Bs} {i:Nat} {x:Bs} (p:Bs→Bool) (h:l[i]?=some x):((l.take (i+1)).filter p).length=((l.take i).filter p).length+if p x then 1 else 0:=by
 rw [zAY,h,zAj,zAT];congr 1
 cases hp:p x <;> simp [hp]
end Go.Par
namespace Go.Proofs.YtagejnomlkfndaaGreatDoor
open Go Go.RowKit
theorem joined_of {P:Program} {f:FuncId} {fn:Func} {s:ChangeSpec} {c:OpenClaim}
   (k1:c.wf (OpenSpec.ofChange s)=true) (k2:laidOutB P=true) (k3:mapsRowed P=true) (k4:fn.params.all (P.readableRec ·)=true) (k5:namedTie P c.named s.vars=true)
   (k6:(c.stops == [])=true) (k7:(P.stops == [])=true) (k8:(c.knobs == [])=true) (k9:(P.stopKnobs == [])=true)
   (k10:(c.inPlace == P.inPlace f)=true) (k11:(c.unfollowed == P.unfollowed f)=true) (k12:(c.recurses == P.recurses f)=true) (k13:(c.named == P.varsNamed f)=true)
   (k14:(c.maps == (fn.params.toList++s.plain.varTypes P).any (P.mapsRec ·))=true) (k15:(c.ifaces == (fn.params.toList++s.plain.varTypes P).any (P.ifacesRec ·))=true) (k16:(c.mapsOut == P.mapsAmong fn.resultTypes.toList)=true)
   (k17:(c.loops == (fn.params.toList++s.plain.varTypes P).any (P.loopsFrom ·))=true) (k18:(c.wideKeys == (fn.params.toList++s.plain.varTypes P++fn.resultTypes.toList).any (P.wideKeysFrom ·))=true)
   (k19:s.vars.all (P.varReadable ·)=true) (k20:fn.resultTypes.all (fun t=>P.readableRec t && decide (t < P.types.size))=true) (k21:(c.ifacesOut == fn.resultTypes.toList.any (P.ifacesRec ·))=true) (k22:(c.loopsOut == fn.resultTypes.toList.any (P.loopsFrom ·))=true) (k23:(c.plainKeys == P.plainKeys)=true)
   (k24:c.shortTexts.isNone=true) (k25:P.stopsHeard=true) (k26:P.mayEnter=true) (k27:(c.lifted == P.liftsFinal)=true) (k28:(P.make == some c.make)=true)
   (k29:(c.kinds == (if c.domain.isEmpty then [] else fn.params.toList.map fun t=>match P.underlying t with|some (.int k)=>some k|_=>none))=true) (k30:(c.pinned == c.pinnedBy)=true)
   (k31:(c.veiled == (fn.params.toList++s.plain.varTypes P++fn.resultTypes.toList).any (P.veiledRec ·))=true) (k32:c.veiledFits P fn.params.toList (fn.params.toList++s.plain.varTypes P++fn.resultTypes.toList)=true):joinedFacts P f fn s c=true:=by
 unfold joinedFacts;simp only [zAE];exact ⟨⟨⟨⟨⟨⟨⟨⟨⟨⟨⟨⟨⟨⟨⟨⟨⟨⟨⟨⟨⟨⟨⟨⟨⟨⟨⟨⟨⟨⟨⟨k1,k2⟩,k3⟩,k4⟩,k5⟩,k6⟩,k7⟩,k8⟩,k9⟩,k10⟩,k11⟩,k12⟩,k13⟩,k14⟩,k15⟩,k16⟩,k17⟩,k18⟩,k19⟩,k20⟩,k21⟩,k22⟩,k23⟩,k24⟩,k25⟩,k26⟩,k27⟩,k28⟩,k29⟩,k30⟩,k31⟩,k32⟩
def io0:List Char:=(List.map Char.ofNat [104,97,114,110,101,115,115,32,54,56,50,54,101,98,48,52,102,57,50,101,50,54,53,49,55,57,54,52,54,101,50,57,98,55,50,101,102,54,99,97,54,51,101,56,55,57,55,101,57,102,50,98,52,102,102,101,53,51,98,52,55,54,97,99,49,99,99,99,102,97,51,98,32,99,117,116,32,97,116,32,108,111,111,112,46,101,120,97,109,112,108,101,47,112,97,114,103,101,116,105,110,103,47,108,97,119,115,46,70,110,69,120,97,99,116,76,111,103,79,118,101,114,32,108,111,111,112,46,101,120,97,109,112,108,101,47,112,97,114,103,101,116,105,110,103,47,108,97,119,115,46,70,110,87,111,114,108,100,65,115,107,32,108,111,111,112,46,101,120,97,109,112,108,101,47,112,97,114,103,101,116,105,110,103,47,108,97,119,115,46,70,110,69,120,97,99,116,87,111,114,108,100,80,108,97,121,32,108,111,111,112,46,101,120,97,109,112,108,101,47,112,97,114,103,101,116,105,110,103,47,108,97,119,115,46,70,110,69,120,97,99,116,87,111,114,108,100,68,111])
def ioW:List (List Char):=[(List.map Char.ofNat [104,97,114,110,101,115,115]),(List.map Char.ofNat [54,56,50,54,101,98,48,52,102,57,50,101,50,54,53,49,55,57,54,52,54,101,50,57,98,55,50,101,102,54,99,97,54,51,101,56,55,57,55,101,57,102,50,98,52,102,102,101,53,51,98,52,55,54,97,99,49,99,99,99,102,97,51,98]),(List.map Char.ofNat [99,117,116]),(List.map Char.ofNat [97,116]),(List.map Char.ofNat [108,111,111,112,46,101,120,97,109,112,108,101,47,112,97,114,103,101,116,105,110,103,47,108,97,119,115,46,70,110,69,120,97,99,116,76,111,103,79,118,101,114]),(List.map Char.ofNat [108,111,111,112,46,101,120,97,109,112,108,101,47,112,97,114,103,101,116,105,110,103,47,108,97,119,115,46,70,110,87,111,114,108,100,65,115,107]),(List.map Char.ofNat [108,111,111,112,46,101,120,97,109,112,108,101,47,112,97,114,103,101,116,105,110,103,47,108,97,119,115,46,70,110,69,120,97,99,116,87,111,114,108,100,80,108,97,121]),(List.map Char.ofNat [108,111,111,112,46,101,120,97,109,112,108,101,47,112,97,114,103,101,116,105,110,103,47,108,97,119,115,46,70,110,69,120,97,99,116,87,111,114,108,100,68,111])]
def ioR:List (List Char):=ioW.drop 3
def cut0:List Char:=List.map Char.ofNat [99,117,116]
theorem io_text:Tryz.prog.initOrder=String.ofList io0:=by kernel_rfl
theorem io_signs:wordsSigns Tryz.prog.initOrder.toList=ioW:=by
 rw [io_text,String.toList_ofList]
 kernel_rfl
theorem io_behind:behindMainWord (wordsSigns Tryz.prog.initOrder.toList)=cut0 :: ioR:=by
 rw [io_signs]
 kernel_rfl
theorem io_strip:stripLifts liftWords (cut0 :: ioR)=([],cut0 :: ioR):=by kernel_rfl
theorem later0:Tryz.prog.laysLater=false:=by kernel_rfl
theorem reflect0:Tryz.prog.bearsReflect=false:=by kernel_rfl
theorem door0:Tryz.prog.doorFits []=true:=by kernel_rfl
theorem may0:Tryz.prog.mayEnter=true:=by
 unfold Program.mayEnter;rw [io_behind];simp only [io_strip,later0,reflect0,door0]
 kernel_rfl
theorem headLifts0:Tryz.prog.headLifts=[]:=by
 unfold Program.headLifts;rw [io_behind,io_strip]
 kernel_rfl
theorem lifts0:Tryz.prog.liftsFinal=false:=by
 unfold Program.liftsFinal;rw [io_behind,headLifts0]
 kernel_rfl
theorem make0:Tryz.prog.make=some .cut:=by
 unfold Program.make;rw [io_behind];simp only [headLifts0]
 kernel_rfl
theorem mainIs0:Tryz.prog.mainIs=some (true,(List.map Char.ofNat [54,56,50,54,101,98,48,52,102,57,50,101,50,54,53,49,55,57,54,52,54,101,50,57,98,55,50,101,102,54,99,97,54,51,101,56,55,57,55,101,57,102,50,98,52,102,102,101,53,51,98,52,55,54,97,99,49,99,99,99,102,97,51,98])):=by
 unfold Program.mainIs;rw [io_signs]
 kernel_rfl
theorem rowed0:mapsRowed Tryz.prog=true:=by kernel_rfl
theorem plainKeys0:Tryz.prog.plainKeys=true:=by kernel_rfl
theorem heard0:Tryz.prog.stopsHeard=true:=by kernel_rfl
theorem stops0:Tryz.prog.stops=[]:=by kernel_rfl
theorem knobs0:Tryz.prog.stopKnobs=[]:=by kernel_rfl
theorem looks0:Tryz.prog.looks []=false:=by kernel_rfl
theorem noneGoes:Tryz.prog.funcs.any Func.goes=false:=by kernel_rfl
theorem goes0 (c:OpenClaim) (h:c.start=.entering):false=c.goesBy Tryz.prog:=by
 unfold OpenClaim.goesBy Program.goesAt Program.goesFrom Program.goes;rw [h,noneGoes]
 have:∀ f,((Tryz.prog.closure f).any fun g=>(Tryz.prog.funcs[g]?).any Func.goes)=false:=fun f=>by
  rw [List.any_eq_false];intro g _;cases hg:Tryz.prog.funcs[g]? with
  | none=>simp
  | some fn=>
    have hm:=zBc hg
    have:=Array.any_eq_false'.1 noneGoes fn hm
    simpa using this
 cases Tryz.prog.funcNamed c.func with
 | none=>rfl
 | some f=>simp [this f]
end Go.Proofs.YtagejnomlkfndaaGreatDoor
namespace Go.Proofs.YtagejnomlkfndaaGreatDoor
open Go Go.RowKit Go.Ab
variable {m:Int}
theorem Jz {W:World} (hm:W.cell? ⟨0,0,none⟩=some (.int .i64 m)):∀ g cs,(E m).gl g=some cs→VI W pz (.ep cs) (.pointer (some ⟨g,0,none⟩)):=by
 intro g cs h;have h':lk (gls m) g=some cs:=h;unfold gls at h';rw [au] at h';split at h'
 · rename_i hg;subst hg;cases h';exact IZ hm rfl (.k _ _)
 · simp [lk] at h'
theorem nX (W:World) (h:W.ShapedOpen Tryz.prog):∃ m,W.cell? ⟨0,0,none⟩=some (.int .i64 m):=
 Go.Proofs.cell_of_shapedOpen_int (zero:=#[.int .i64 0]) (t:=3) h (of_decide_eq_true (by kernel_rfl)) (by kernel_rfl) rfl (by kernel_rfl) (by kernel_rfl) Tryz.underlying3
end Go.Proofs.YtagejnomlkfndaaGreatDoor
