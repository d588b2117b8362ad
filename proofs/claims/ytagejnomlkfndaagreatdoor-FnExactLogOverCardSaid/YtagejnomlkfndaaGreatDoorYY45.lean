/- Texts of this claim, set close: lemmas and contracts. -/
import Derived.Test.YtagejnomlkfndaaGreatDoorYY42
import Derived.Test.YtagejnomlkfndaaGreatDoorYY29
import Derived.Test.YtagejnomlkfndaaGreatDoorYY9
set_option linter.unusedSimpArgs false
set_option linter.unusedVariables false
set_option maxHeartbeats 1000000
set_option maxRecDepth 10000
namespace Go.Proofs.YtagejnomlkfndaaGreatDoor
open Go Go.RowKit Go.Ab Go.Par
variable {m:Int}
theorem st1 {S:ac} {n:Nat} {e e2:TypeId} {zs:List aE} {ws:WsT} (h:lk S n=some (.deep e e2 zs)) (hz:zs=anZ ws):nz [n] S [n] 0=some [(0,.deep e e2 (anZ ws))]:=by
 subst hz;simp only [nz,h,lE,kH]
theorem dO1 {c:Nat} {l:List Nat} {t:Nat} {e e2:TypeId} {ws:WsT} (h:ltB c l=true):(ltB c l && kC c [(t,.deep e e2 (anZ ws))])=true:=by
 simp only [h,kC,cz,eU];rfl
theorem IF {n:Nat} {ds:List D} {S:ac} {e e2:TypeId} {zs:List aE} {ws:WsT} (h:lk S n=some (.deep e e2 zs)) (hz:zs=anZ ws) (hm:kf [n] (en ds++[])=[]):kD [n] ds S=[]:=by
 subst hz;unfold kD;simp only [bV,h,cz,eU,List.append_nil] at hm ⊢;exact hm
def mkO (k:Int) (o:Ovr):Ovr:=⟨mkL fE 3 k o.base.length,gZ fM 3 (k+3 * o.base.length) o.layers,mkL fM 3 (k+3 * o.base.length+3 * tot o.layers) o.upper.length⟩
def ir (o:Ovr):Nat:=o.base.length+tot o.layers+o.upper.length
structure WO (o:Ovr):Prop where
 bl:o.base.length≤9223372036854775807
 b:∀ e∈o.base,wE e
 ll:o.layers.length≤9223372036854775807
 l:∀ l∈o.layers,l.length≤9223372036854775807∧∀ e∈l,wM1 e
 ul:o.upper.length≤9223372036854775807
 u:∀ e∈o.upper,wM1 e
structure BO (o:Ovr):Prop where
 bl:o.base.length≤1048576
 b:∀ e∈o.base,bE1 e
 ll:o.layers.length≤1048576
 l:∀ l∈o.layers,l.length≤1048576∧∀ e∈l,bM1 e
 ul:o.upper.length≤1048576
 u:∀ e∈o.upper,bM1 e
structure CO (o:Ovr):Prop where
 bl:o.base.length≤1048576
 ll:o.layers.length≤1048576
 l:∀ l∈o.layers,l.length≤1048576
 ul:o.upper.length≤1048576
theorem BO.cnt {o:Ovr} (h:BO o):CO o:=⟨h.bl,h.ll,fun l hl=>(h.l l hl).1,h.ul⟩
abbrev oT (o:Ovr) (a b c:Nat):ac:=[(a,.own 66 (o.base.map Ent.c)),(b,.deep 32 166 (anZ (o.layers.map fun l=>l.map Mrk.c))),(c,.own 166 (o.upper.map Mrk.c))]
theorem Ds (o:Ovr) (n:Int) (hn:0≤n∧n≤1048576) (h:WO o):∃ r:Int,Con (E m) 7 0 [.agg o.c,.k .i64 n] [] (.k .i64 r) []∧(r=-1∨(0≤r∧r+ir o≤n∧BO o)):=by
 obtain ⟨r1,c1,h1⟩:=Dn (m:=m) o.base n hn h.bl h.b;rcases h1 with rfl|⟨p1,q1,b1⟩
 · refine ⟨-1,?_,.inl rfl⟩;refine G0 Tryz.func7 ?_;repeat' first|refine Ra ⟨?_⟩|refine R0 c1 ⟨?_⟩|refine Rd (fun h=>⟨?_⟩) fun h=>⟨?_⟩|refine Rb ⟨?_⟩|fail
   exact Rf
 · obtain ⟨r2,c2,h2⟩:=yZ (m:=m) o.layers r1 ⟨p1,by omega⟩ h.ll h.l;rcases h2 with rfl|⟨p2,q2,b2⟩
   · refine ⟨-1,?_,.inl rfl⟩;refine G0 Tryz.func7 ?_;repeat' first|refine Ra ⟨?_⟩|refine R0 c1 ⟨?_⟩|refine R0 c2 ⟨?_⟩|refine Rd (fun h=>⟨?_⟩) fun h=>⟨?_⟩|refine Rb ⟨?_⟩|fail
     exact Rf
   · obtain ⟨r3,c3,h3⟩:=rV (m:=m) o.upper r2 ⟨p2,by omega⟩ h.ul h.u;rcases h3 with rfl|⟨p3,q3,b3⟩
     · refine ⟨-1,?_,.inl rfl⟩;refine G0 Tryz.func7 ?_;repeat' first|refine Ra ⟨?_⟩|refine R0 c1 ⟨?_⟩|refine R0 c2 ⟨?_⟩|refine R0 c3 ⟨?_⟩|refine Rd (fun h=>⟨?_⟩) fun h=>⟨?_⟩|refine Rb ⟨?_⟩|fail
       exact Rf
     · refine ⟨r3,?_,.inr ⟨p3,by unfold ir; omega,by omega,b1,by omega,b2,by omega,b3⟩⟩;refine G0 Tryz.func7 ?_;repeat' first|refine Ra ⟨?_⟩|refine R0 c1 ⟨?_⟩|refine R0 c2 ⟨?_⟩|refine R0 c3 ⟨?_⟩|refine Rd (fun h=>⟨?_⟩) fun h=>⟨?_⟩|refine Rb ⟨?_⟩|fail
       exact Rf
theorem Dt (o:Ovr) (h:CO o):Con (E m) 10 0 [.agg o.c] [] (.agg [.own 0,.own 1,.own 2]) (oT o 0 1 2):=by
 have c1:=Ct (m:=m) o.base h.bl;have c2:=yJ (m:=m) o.layers h.ll h.l;have c3:=ry (m:=m) o.upper h.ul;refine G0 Tryz.func10 ?_;repeat' first|refine Ra ⟨?_⟩|refine Rk [] 1 c1 ⟨?_⟩|(refine Rc [] 1 rfl rfl c2 ?_ rfl rfl (dO1 rfl) <;> conv=>whnf)|refine Rk [] 1 c3 ⟨?_⟩|refine Rd (fun h=>⟨?_⟩) fun h=>⟨?_⟩|refine Rb ⟨?_⟩|fail
 refine ak.here ⟨[],[3,4,5],?_⟩
 conv=>whnf
 refine ⟨rfl,rfl,rfl,?_⟩;exact congrArg (fun z=>[(0,Blk.own _ _),(1,Blk.deep _ _ z),(2,Blk.own _ _)]) (by rw [bi,co])
theorem Du (o:Ovr) (h:CO o):Con (E m) 13 0 [.agg o.c,.agg o.c] [] (.b true) []:=by
 have c1:=Cu (m:=m) o.base h.bl;have c2:=y0 (m:=m) o.layers h.ll h.l;have c3:=rz (m:=m) o.upper h.ul;refine G0 Tryz.func13 ?_;repeat' first|refine Ra ⟨?_⟩|refine R0 c1 ⟨?_⟩|refine R0 c2 ⟨?_⟩|refine R0 c3 ⟨?_⟩|refine Rd (fun h=>⟨?_⟩) fun h=>⟨?_⟩|refine Rb ⟨?_⟩|fail
 exact Rf
theorem y8 (o:Ovr) (k:Int) (hk:0≤k∧k+3 * ir o≤10000000) (h:CO o):Con (E m) 16 3 [.agg [.own 0,.own 1,.own 2],.k .i64 k] (oT o 0 1 2) (.k .i64 (k+3 * ir o)) (oT (mkO k o) 0 1 2):=by
 unfold ir at hk ⊢;have c1:=yc (m:=m) o.base k (by omega) (by have:=h.bl; omega);have c2:=uO (m:=m) o.layers (k+3 * o.base.length) (by omega) h.ll h.l;have c3:=nT (m:=m) o.upper (k+3 * o.base.length+3 * tot o.layers) (by omega) (by have:=h.ul; omega);have e:k+3 * ((o.base.length+tot o.layers+o.upper.length:Nat):Int)=k+3 * o.base.length+3 * tot o.layers+3 * o.upper.length:=by omega
 rw [e];refine G0 Tryz.func16 ?_;repeat' first|refine Ra ⟨?_⟩|refine Rk [0] 0 c1 ⟨?_⟩|(refine ⟨[1],_,_,_,_,0,⟨rfl,rfl,st1 rfl rfl,c2,rfl,dO1 rfl⟩,.inl ⟨[],trivial,rfl,.inr (IF rfl rfl rfl),?_⟩⟩ <;> conv=>whnf)|refine Rk [2] 0 c3 ⟨?_⟩|refine Rd (fun h=>⟨?_⟩) fun h=>⟨?_⟩|refine Rb ⟨?_⟩|fail
 refine ak.here ⟨[],[0,1,2],?_⟩
 conv=>whnf
 refine ⟨rfl,rfl,rfl,?_⟩;exact congrArg (fun z=>[(0,Blk.own _ _),(1,Blk.deep _ _ z),(2,Blk.own _ _)]) (by rw [bi,co]; rfl)
theorem y9 (o:Ovr) (k:Int) (hk:0≤k∧k+3 * ir o≤10000000) (h:CO o):Con (E m) 19 0 [.agg (mkO k o).c,.k .i64 k] [] (.k .i64 (k+3 * ir o)) []:=by
 unfold ir at hk ⊢;have c1:=yd (m:=m) o.base.length k (by omega) (by have:=h.bl; omega);have c2:=uP (m:=m) o.layers (k+3 * o.base.length) (by omega) h.ll h.l;have c3:=nU (m:=m) o.upper.length (k+3 * o.base.length+3 * tot o.layers) (by omega) (by have:=h.ul; omega);have e:k+3 * ((o.base.length+tot o.layers+o.upper.length:Nat):Int)=k+3 * o.base.length+3 * tot o.layers+3 * o.upper.length:=by omega
 rw [e];refine G0 Tryz.func19 ?_;repeat' first|refine Ra ⟨?_⟩|refine R0 c1 ⟨?_⟩|refine R0 c2 ⟨?_⟩|refine R0 c3 ⟨?_⟩|refine Rd (fun h=>⟨?_⟩) fun h=>⟨?_⟩|refine Rb ⟨?_⟩|fail
 exact Rf
variable {m:Int}
theorem st3 {S:ac} {a b c:Nat} {e e2 ta tc:TypeId} {xa xc:List (List D)} {zs:List aE} {ws:WsT} (ha:lk S a=some (.own ta xa)) (hb:lk S b=some (.deep e e2 zs)) (hc:lk S c=some (.own tc xc)) (hz:zs=anZ ws):nz [a,b,c] S [a,b,c] 0=some [(0,.own ta xa),(1,.deep e e2 (anZ ws)),(2,.own tc xc)]:=by
 subst hz;simp only [nz,ha,hb,hc,lE,kH]
theorem JF {a b c:Nat} {ds:List D} {S:ac} {e e2 ta tc:TypeId} {xa xc:List (List D)} {zs:List aE} {ws:WsT} (ha:lk S a=some (.own ta xa)) (hb:lk S b=some (.deep e e2 zs)) (hc:lk S c=some (.own tc xc)) (hz:zs=anZ ws) (hm:kf [a,b,c] (en ds++[])=[]):kD [a,b,c] ds S=[]:=by
 subst hz;unfold kD;simp only [bV,ha,hb,hc,cz,eU,List.append_nil] at hm ⊢;exact hm
theorem Jh {c:Nat} {l:List Nat} {a b d:Nat} {e e2 ta tc:TypeId} {xa xc:List (List D)} {ws:WsT} (h:ltB c l=true):(ltB c l && kC c [(a,.own ta xa),(b,.deep e e2 (anZ ws)),(d,.own tc xc)])=true:=by
 simp only [h,kC,cz,eU];rfl
def wcT (w:Wld) (a b c d e f g:Nat):List D:=[.own a,.own b,.own c,.k .i64 w.clock,.k .i64 w.count,.own d,.own e,.own f,.own g,.b w.waits,.k .i64 w.op.kind,.s w.op.path,.s w.op.tgt,.s w.op.data]
abbrev hZ (w:Wld):List aE:=anZ (w.holds.map fun l=>l.map Hld.c)
abbrev oZ (o:Ovr):List aE:=anZ (o.layers.map fun l=>l.map Mrk.c)
abbrev wT (w:Wld):ac:=[(0,.own 66 (w.over.base.map Ent.c)),(1,.deep 32 166 (oZ w.over)),(2,.own 166 (w.over.upper.map Mrk.c)),(3,.own 132 (w.leases.map Lse.c)),(4,.deep 121 68 (hZ w)),(5,.own 3 (ck w.floors)),(6,.own 70 (w.net.map Mes.c))]
def l8 (w:Wld):Nat:=ir w.over+w.leases.length+tot w.holds+w.floors.length+w.net.length
def mkW (w:Wld) (k:Int):Int:=k+3 * ir w.over+4 * w.leases.length+7 * tot w.holds+1 * w.floors.length+9 * w.net.length
structure WW (w:Wld):Prop where
 o:WO w.over
 ll:w.leases.length≤9223372036854775807
 l:∀ e∈w.leases,wL e
 hl:w.holds.length≤9223372036854775807
 h:∀ l∈w.holds,l.length≤9223372036854775807∧∀ e∈l,wH e
 fl:w.floors.length≤9223372036854775807
 nl:w.net.length≤9223372036854775807
 n:∀ e∈w.net,wM e
 p:w.op.path.length≤9223372036854775807∧w.op.tgt.length≤9223372036854775807∧w.op.data.length≤9223372036854775807
structure BW (w:Wld):Prop where
 o:BO w.over
 ll:w.leases.length≤1048576
 l:∀ e∈w.leases,bL e
 hl:w.holds.length≤1048576
 h:∀ l∈w.holds,l.length≤1048576∧∀ e∈l,bH e
 fl:w.floors.length≤1048576
 nl:w.net.length≤1048576
 n:∀ e∈w.net,bM e
 p:w.op.path.length≤1048576∧w.op.tgt.length≤1048576∧w.op.data.length≤1048576
structure CW (w:Wld):Prop where
 o:CO w.over
 ll:w.leases.length≤1048576
 hl:w.holds.length≤1048576
 h:∀ l∈w.holds,l.length≤1048576
 fl:w.floors.length≤1048576
 nl:w.net.length≤1048576
theorem BW.cnt {w:Wld} (h:BW w):CW w:=⟨h.o.cnt,h.ll,h.hl,fun l hl=>(h.h l hl).1,h.fl,h.nl⟩
theorem Be (w:Wld) (n:Int) (hn:0≤n∧n≤1048576) (h:WW w):∃ r:Int,Con (E m) 36 0 [.agg w.c,.k .i64 n] [] (.k .i64 r) []∧(r=-1∨(0≤r∧r+l8 w≤n∧BW w)):=by
 obtain ⟨r1,c1,h1⟩:=Ds (m:=m) w.over n hn h.o;rcases h1 with rfl|⟨p1,q1,b1⟩
 · refine ⟨-1,?_,.inl rfl⟩;refine G0 Tryz.func36 ?_;repeat' first|refine Ra ⟨?_⟩|refine R0 c1 ⟨?_⟩|refine Rd (fun h=>⟨?_⟩) fun h=>⟨?_⟩|refine Rb ⟨?_⟩|fail
   exact Rf
 · obtain ⟨r2,c2,h2⟩:=yQ (m:=m) w.leases r1 ⟨p1,by omega⟩ h.ll h.l;rcases h2 with rfl|⟨p2,q2,b2⟩
   · refine ⟨-1,?_,.inl rfl⟩;refine G0 Tryz.func36 ?_;repeat' first|refine Ra ⟨?_⟩|refine R0 c1 ⟨?_⟩|refine R0 c2 ⟨?_⟩|refine Rd (fun h=>⟨?_⟩) fun h=>⟨?_⟩|refine Rb ⟨?_⟩|fail
     exact Rf
   · obtain ⟨r3,c3,h3⟩:=y4 (m:=m) w.holds r2 ⟨p2,by omega⟩ h.hl h.h;rcases h3 with rfl|⟨p3,q3,b3⟩
     · refine ⟨-1,?_,.inl rfl⟩;refine G0 Tryz.func36 ?_;repeat' first|refine Ra ⟨?_⟩|refine R0 c1 ⟨?_⟩|refine R0 c2 ⟨?_⟩|refine R0 c3 ⟨?_⟩|refine Rd (fun h=>⟨?_⟩) fun h=>⟨?_⟩|refine Rb ⟨?_⟩|fail
       exact Rf
     · obtain ⟨r4,c4,h4⟩:=Do (m:=m) w.floors r3 ⟨p3,by omega⟩ h.fl;rcases h4 with rfl|⟨p4,q4⟩
       · refine ⟨-1,?_,.inl rfl⟩;refine G0 Tryz.func36 ?_;repeat' first|refine Ra ⟨?_⟩|refine R0 c1 ⟨?_⟩|refine R0 c2 ⟨?_⟩|refine R0 c3 ⟨?_⟩|refine R0 c4 ⟨?_⟩|refine Rd (fun h=>⟨?_⟩) fun h=>⟨?_⟩|refine Rb ⟨?_⟩|fail
         exact Rf
       · obtain ⟨r5,c5,h5⟩:=Df (m:=m) w.net r4 ⟨p4,by omega⟩ h.nl h.n;rcases h5 with rfl|⟨p5,q5,b5⟩
         · refine ⟨-1,?_,.inl rfl⟩;refine G0 Tryz.func36 ?_;repeat' first|refine Ra ⟨?_⟩|refine R0 c1 ⟨?_⟩|refine R0 c2 ⟨?_⟩|refine R0 c3 ⟨?_⟩|refine R0 c4 ⟨?_⟩|refine R0 c5 ⟨?_⟩|refine Rd (fun h=>⟨?_⟩) fun h=>⟨?_⟩|refine Rb ⟨?_⟩|fail
           exact Rf
         · have c6:=An (m:=m) w.op r5 ⟨p5,by omega⟩ h.p.1 h.p.2.1 h.p.2.2;have h6:=z8 r5 w.op.path.length w.op.tgt.length w.op.data.length;generalize mL r5 w.op.path.length w.op.tgt.length w.op.data.length=r6 at c6 h6;by_cases h0:r6 < 0
           · refine ⟨-1,?_,.inl rfl⟩;refine G0 Tryz.func36 ?_;repeat' first|refine Ra ⟨?_⟩|refine R0 c1 ⟨?_⟩|refine R0 c2 ⟨?_⟩|refine R0 c3 ⟨?_⟩|refine R0 c4 ⟨?_⟩|refine R0 c5 ⟨?_⟩|refine R0 c6 ⟨?_⟩|refine Rd (fun h=>⟨?_⟩) fun h=>⟨?_⟩|refine Rb ⟨?_⟩|fail
             exact Rf
           · refine ⟨r6,?_,.inr ⟨by omega,by unfold l8; omega,b1,by omega,b2,by omega,b3,by omega,by omega,b5,⟨by omega,by omega,by omega⟩⟩⟩;refine G0 Tryz.func36 ?_;repeat' first|refine Ra ⟨?_⟩|refine R0 c1 ⟨?_⟩|refine R0 c2 ⟨?_⟩|refine R0 c3 ⟨?_⟩|refine R0 c4 ⟨?_⟩|refine R0 c5 ⟨?_⟩|refine R0 c6 ⟨?_⟩|refine Rd (fun h=>⟨?_⟩) fun h=>⟨?_⟩|refine Rb ⟨?_⟩|fail
             exact Rf
theorem Bf (w:Wld) (h:CW w):Con (E m) 38 0 [.agg w.c] [] (.agg (wcT w 0 1 2 3 4 5 6)) (wT w):=by
 have c1:=Dt (m:=m) w.over h.o;have c2:=yR (m:=m) w.leases h.ll;have c3:=y5 (m:=m) w.holds h.hl h.h;have c4:=Dp (m:=m) w.floors h.fl;have c5:=Dg (m:=m) w.net h.nl;have c6:=Am (m:=m) w.op;refine G0 Tryz.func38 ?_;repeat' first|refine Ra ⟨?_⟩|(refine Rc [] 3 rfl rfl c1 ?_ rfl rfl (Jh rfl) <;> conv=>whnf)|refine Rk [] 1 c2 ⟨?_⟩|(refine Rc [] 1 rfl rfl c3 ?_ rfl rfl (dO1 rfl) <;> conv=>whnf)|refine Rk [] 1 c4 ⟨?_⟩|refine Rk [] 1 c5 ⟨?_⟩|refine R0 c6 ⟨?_⟩|refine Rd (fun h=>⟨?_⟩) fun h=>⟨?_⟩|refine Rb ⟨?_⟩|fail
 refine ak.here ⟨[],[3,4,5,6,7,8,9],?_⟩
 conv=>whnf
 refine ⟨rfl,rfl,rfl,?_⟩;have key:∀ z1 z2,z1=oZ w.over→z2=hZ w→([(0,Blk.own 66 (w.over.base.map Ent.c)),(1,.deep 32 166 z1),(2,.own 166 (w.over.upper.map Mrk.c)),(3,.own 132 (w.leases.map Lse.c)),(4,.deep 121 68 z2),(5,.own 3 (ck w.floors)),(6,.own 70 (w.net.map Mes.c))]:ac)=wT w:=by
  rintro _ _ rfl rfl;rfl
 exact key _ _ (by rw [bi,co]) (by rw [bi,co])
theorem rX (w:Wld) (h:CW w):Con (E m) 31 0 [.agg w.c,.agg w.c] [] (.b true) []:=by
 have c1:=Du (m:=m) w.over h.o;have c2:=yS (m:=m) w.leases h.ll;have c3:=y6 (m:=m) w.holds h.hl h.h;have c4:=CZ (m:=m) w.floors h.fl;have c5:=Dh (m:=m) w.net h.nl;have c6:=GO (m:=m) w.op w.op;rw [GH] at c6;refine G0 Tryz.func31 ?_;repeat' first|refine Ra ⟨?_⟩|refine R0 c1 ⟨?_⟩|refine R0 c2 ⟨?_⟩|refine R0 c3 ⟨?_⟩|refine R0 c4 ⟨?_⟩|refine R0 c5 ⟨?_⟩|refine R0 c6 ⟨?_⟩|refine Rd (fun h=>⟨?_⟩) fun h=>⟨?_⟩|refine Rb ⟨?_⟩|fail
 exact Rf
def mkD (w:Wld) (k:Int):Wld:={ w with
 over:=mkO k w.over
 leases:=mkL fLs 4 (k+3 * ir w.over) w.leases.length
 holds:=gZ fHd 7 (k+3 * ir w.over+4 * w.leases.length) w.holds
 floors:=mkL fI 1 (k+3 * ir w.over+4 * w.leases.length+7 * tot w.holds) w.floors.length
 net:=mkL fMs 9 (k+3 * ir w.over+4 * w.leases.length+7 * tot w.holds+1 * w.floors.length) w.net.length }
theorem n9 (w:Wld) (k:Int) (hk:0≤k∧k+9 * l8 w≤10000000) (h:CW w):Con (E m) 34 7 [.agg (wcT w 0 1 2 3 4 5 6),.k .i64 k] (wT w) (.k .i64 (mkW w k)) (wT (mkD w k)):=by
 unfold mkW;have ht:l8 w=ir w.over+w.leases.length+tot w.holds+w.floors.length+w.net.length:=rfl;have c1:=y8 (m:=m) w.over k (by omega) h.o;have c2:=uI (m:=m) w.leases (k+3 * ir w.over) (by omega) (by have:=h.ll; omega);have c3:=uQ (m:=m) w.holds (k+3 * ir w.over+4 * w.leases.length) (by omega) h.hl h.h;have c4:=ye (m:=m) w.floors (k+3 * ir w.over+4 * w.leases.length+7 * tot w.holds) (by omega) (by have:=h.fl; omega);have c5:=yT (m:=m) w.net (k+3 * ir w.over+4 * w.leases.length+7 * tot w.holds+1 * w.floors.length) (by omega) (by have:=h.nl; omega);refine G0 Tryz.func34 ?_;repeat' first|refine Ra ⟨?_⟩|(refine ⟨[0,1,2],_,_,_,_,0,⟨rfl,rfl,st3 rfl rfl rfl rfl,c1,rfl,Jh rfl⟩,.inl ⟨[],trivial,rfl,.inr (JF rfl rfl rfl rfl rfl),?_⟩⟩ <;> conv=>whnf)|refine Rk [3] 0 c2 ⟨?_⟩|(refine ⟨[4],_,_,_,_,0,⟨rfl,rfl,st1 rfl rfl,c3,rfl,dO1 rfl⟩,.inl ⟨[],trivial,rfl,.inr (IF rfl rfl rfl),?_⟩⟩ <;> conv=>whnf)|refine Rk [5] 0 c4 ⟨?_⟩|refine Rk [6] 0 c5 ⟨?_⟩|refine Rd (fun h=>⟨?_⟩) fun h=>⟨?_⟩|refine Rb ⟨?_⟩|fail
 refine ak.here ⟨[],[0,1,2,3,4,5,6],?_⟩
 conv=>whnf
 refine ⟨rfl,rfl,rfl,?_⟩;have key:∀ z1 z2,z1=oZ (mkO k w.over)→z2=hZ (mkD w k)→([(0,Blk.own 66 ((mkD w k).over.base.map Ent.c)),(1,.deep 32 166 z1),(2,.own 166 ((mkD w k).over.upper.map Mrk.c)),(3,.own 132 ((mkD w k).leases.map Lse.c)),(4,.deep 121 68 z2),(5,.own 3 (ck (mkD w k).floors)),(6,.own 70 ((mkD w k).net.map Mes.c))]:ac)=wT (mkD w k):=by
  rintro _ _ rfl rfl;rfl
 exact key _ _ (by rw [bi,co]) (by rw [bi,co]; rfl)
theorem vK (w:Wld) (k:Int) (hk:0≤k∧k+9 * l8 w≤10000000) (h:CW w):Con (E m) 35 0 [.agg (mkD w k).c,.k .i64 k] [] (.k .i64 (mkW w k)) []:=by
 unfold mkW;have ht:l8 w=ir w.over+w.leases.length+tot w.holds+w.floors.length+w.net.length:=rfl;have c1:=y9 (m:=m) w.over k (by omega) h.o;have c2:=uJ (m:=m) w.leases.length (k+3 * ir w.over) (by omega) (by have:=h.ll; omega);have c3:=uR (m:=m) w.holds (k+3 * ir w.over+4 * w.leases.length) (by omega) h.hl h.h;have c4:=yf (m:=m) w.floors.length (k+3 * ir w.over+4 * w.leases.length+7 * tot w.holds) (by omega) (by have:=h.fl; omega);have c5:=yU (m:=m) w.net.length (k+3 * ir w.over+4 * w.leases.length+7 * tot w.holds+1 * w.floors.length) (by omega) (by have:=h.nl; omega);refine G0 Tryz.func35 ?_;repeat' first|refine Ra ⟨?_⟩|refine R0 c1 ⟨?_⟩|refine R0 c2 ⟨?_⟩|refine R0 c3 ⟨?_⟩|refine R0 c4 ⟨?_⟩|refine R0 c5 ⟨?_⟩|refine Rd (fun h=>⟨?_⟩) fun h=>⟨?_⟩|refine Rb ⟨?_⟩|fail
 exact Rf
end Go.Proofs.YtagejnomlkfndaaGreatDoor
