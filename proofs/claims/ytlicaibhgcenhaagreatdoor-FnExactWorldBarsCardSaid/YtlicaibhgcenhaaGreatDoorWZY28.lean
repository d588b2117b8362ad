/- Texts of this claim, set close: lemmas and contracts. -/
import Derived.Test.YtlicaibhgcenhaaGreatDoorWZY27
import Derived.Test.YtlicaibhgcenhaaGreatDoorWZY19
import Derived.Test.YtlicaibhgcenhaaGreatDoorWZY10
set_option linter.unusedSimpArgs false
set_option linter.unusedVariables false
set_option maxHeartbeats 1000000
set_option maxRecDepth 10000
namespace Go.Proofs.YtlicaibhgcenhaaGreatDoor
open Go Go.RowKit Go.Ab Go.Par
variable {m : Int}
theorem st1 {S : Store} {n : Nat} {e e2 : TypeId} {zs : List Slot} {ws : WsT} (h : lk S n = some (.deep e e2 zs)) (hz : zs = anZ ws) : argS [n] S [n] 0 = some [(0, .deep e e2 (anZ ws))] := by
 subst hz
 simp only [argS, h, argB, imZ_an]
theorem dom1 {c : Nat} {l : List Nat} {t : Nat} {e e2 : TypeId} {ws : WsT} (h : ltB c l = true) : (ltB c l && domB c [(t, .deep e e2 (anZ ws))]) = true := by
 simp only [h, domB, blkNames, names_an]
 rfl
theorem lent1 {n : Nat} {ds : List D} {S : Store} {e e2 : TypeId} {zs : List Slot} {ws : WsT} (h : lk S n = some (.deep e e2 zs)) (hz : zs = anZ ws) (hm : minus [n] (nmDs ds ++ []) = []) : lent [n] ds S = [] := by
 subst hz
 unfold lent
 simp only [storeNames, h, blkNames, names_an, List.append_nil] at hm ⊢
 exact hm
def mkO (k : Int) (o : Ovr) : Ovr := ⟨mkL fE 3 k o.base.length, mkLL fM 3 (k + 3 * o.base.length) o.layers, mkL fM 3 (k + 3 * o.base.length + 3 * tot o.layers) o.upper.length⟩
def totO (o : Ovr) : Nat := o.base.length + tot o.layers + o.upper.length
structure WO (o : Ovr) : Prop where
 bl : o.base.length ≤ 9223372036854775807
 b : ∀ e ∈ o.base, wE e
 ll : o.layers.length ≤ 9223372036854775807
 l : ∀ l ∈ o.layers, l.length ≤ 9223372036854775807 ∧ ∀ e ∈ l, wM1 e
 ul : o.upper.length ≤ 9223372036854775807
 u : ∀ e ∈ o.upper, wM1 e
structure BO (o : Ovr) : Prop where
 bl : o.base.length ≤ 1048576
 b : ∀ e ∈ o.base, bE1 e
 ll : o.layers.length ≤ 1048576
 l : ∀ l ∈ o.layers, l.length ≤ 1048576 ∧ ∀ e ∈ l, bM1 e
 ul : o.upper.length ≤ 1048576
 u : ∀ e ∈ o.upper, bM1 e
abbrev oT (o : Ovr) (a b c : Nat) : Store := [(a, .own 150 (o.base.map Ent.c)), (b, .deep 47 197 (anZ (o.layers.map fun l => l.map Mrk.c))), (c, .own 197 (o.upper.map Mrk.c))]
theorem szOver_any (o : Ovr) (n : Int) (hn : 0 ≤ n ∧ n ≤ 1048576) (h : WO o) : ∃ r : Int, Con (E m) 36 0 [.agg o.c, .k .i64 n] [] (.k .i64 r) [] ∧ (r = -1 ∨ (0 ≤ r ∧ r + totO o ≤ n ∧ BO o)) := by
 obtain ⟨r1, c1, h1⟩ := szEntS_any (m := m) o.base n hn h.bl h.b
 rcases h1 with rfl | ⟨p1, q1, b1⟩
 · refine ⟨-1, ?_, .inl rfl⟩
   refine con_of_cd tyOk mix Tryz.func36 rfl rfl rfl (Nat.le_of_ble_eq_true rfl) ?_
   repeat' first | refine Ra ⟨?_⟩ | refine R0 c1 ⟨?_⟩ | refine Rd (fun h => ⟨?_⟩) fun h => ⟨?_⟩ | refine Rb ⟨?_⟩ | fail
   exact Rf
 · obtain ⟨r2, c2, h2⟩ := szMarkSS_any (m := m) o.layers r1 ⟨p1, by omega⟩ h.ll h.l
   rcases h2 with rfl | ⟨p2, q2, b2⟩
   · refine ⟨-1, ?_, .inl rfl⟩
     refine con_of_cd tyOk mix Tryz.func36 rfl rfl rfl (Nat.le_of_ble_eq_true rfl) ?_
     repeat' first | refine Ra ⟨?_⟩ | refine R0 c1 ⟨?_⟩ | refine R0 c2 ⟨?_⟩ | refine Rd (fun h => ⟨?_⟩) fun h => ⟨?_⟩ | refine Rb ⟨?_⟩ | fail
     exact Rf
   · obtain ⟨r3, c3, h3⟩ := szMarkS_any (m := m) o.upper r2 ⟨p2, by omega⟩ h.ul h.u
     rcases h3 with rfl | ⟨p3, q3, b3⟩
     · refine ⟨-1, ?_, .inl rfl⟩
       refine con_of_cd tyOk mix Tryz.func36 rfl rfl rfl (Nat.le_of_ble_eq_true rfl) ?_
       repeat' first | refine Ra ⟨?_⟩ | refine R0 c1 ⟨?_⟩ | refine R0 c2 ⟨?_⟩ | refine R0 c3 ⟨?_⟩ | refine Rd (fun h => ⟨?_⟩) fun h => ⟨?_⟩ | refine Rb ⟨?_⟩ | fail
       exact Rf
     · refine ⟨r3, ?_, .inr ⟨p3, by unfold totO; omega, by omega, b1, by omega, b2, by omega, b3⟩⟩
       refine con_of_cd tyOk mix Tryz.func36 rfl rfl rfl (Nat.le_of_ble_eq_true rfl) ?_
       repeat' first | refine Ra ⟨?_⟩ | refine R0 c1 ⟨?_⟩ | refine R0 c2 ⟨?_⟩ | refine R0 c3 ⟨?_⟩ | refine Rd (fun h => ⟨?_⟩) fun h => ⟨?_⟩ | refine Rb ⟨?_⟩ | fail
       exact Rf
theorem toOver_con (o : Ovr) (h : BO o) : Con (E m) 43 0 [.agg o.c] [] (.agg [.own 0, .own 1, .own 2]) (oT o 0 1 2) := by
 have c1 := toEntS_con (m := m) o.base h.bl
 have c2 := toMarkSS_con (m := m) o.layers h.ll fun l hl => (h.l l hl).1
 have c3 := toMarkS_con (m := m) o.upper h.ul
 refine con_of_cd tyOk mix Tryz.func43 rfl rfl rfl (Nat.le_of_ble_eq_true rfl) ?_
 repeat' first | refine Ra ⟨?_⟩ | refine Rk [] 1 c1 ⟨?_⟩ | (refine Rc [] 1 rfl rfl c2 ?_ rfl rfl (dom1 rfl) <;> conv => whnf) | refine Rk [] 1 c3 ⟨?_⟩ | refine Rd (fun h => ⟨?_⟩) fun h => ⟨?_⟩ | refine Rb ⟨?_⟩ | fail
 refine CallEnd.here ⟨[], [3, 4, 5], ?_⟩
 conv => whnf
 refine ⟨rfl, rfl, rfl, ?_⟩
 exact congrArg (fun z => [(0, Blk.own _ _), (1, Blk.deep _ _ z), (2, Blk.own _ _)]) (by rw [ren_an, car_an])
theorem eqOver_con (o : Ovr) (h : BO o) : Con (E m) 52 0 [.agg o.c, .agg o.c] [] (.b true) [] := by
 have c1 := eqEntS_con (m := m) o.base h.bl
 have c2 := eqMarkSS_con (m := m) o.layers h.ll fun l hl => (h.l l hl).1
 have c3 := eqMarkS_con (m := m) o.upper h.ul
 refine con_of_cd tyOk mix Tryz.func52 rfl rfl rfl (Nat.le_of_ble_eq_true rfl) ?_
 repeat' first | refine Ra ⟨?_⟩ | refine R0 c1 ⟨?_⟩ | refine R0 c2 ⟨?_⟩ | refine R0 c3 ⟨?_⟩ | refine Rd (fun h => ⟨?_⟩) fun h => ⟨?_⟩ | refine Rb ⟨?_⟩ | fail
 exact Rf
theorem markOver_con (o : Ovr) (k : Int) (hk : 0 ≤ k ∧ k + 3 * totO o ≤ 10000000) (h : BO o) : Con (E m) 57 3 [.agg [.own 0, .own 1, .own 2], .k .i64 k] (oT o 0 1 2) (.k .i64 (k + 3 * totO o)) (oT (mkO k o) 0 1 2) := by
 unfold totO at hk ⊢
 have c1 := markEntS_con (m := m) o.base k (by omega) (by have := h.bl; omega)
 have c2 := markMarkSS_con (m := m) o.layers (k + 3 * o.base.length) (by omega) h.ll fun l hl => (h.l l hl).1
 have c3 := markMarkS_con (m := m) o.upper (k + 3 * o.base.length + 3 * tot o.layers) (by omega) (by have := h.ul; omega)
 have e : k + 3 * ((o.base.length + tot o.layers + o.upper.length : Nat) : Int) = k + 3 * o.base.length + 3 * tot o.layers + 3 * o.upper.length := by omega
 rw [e]
 refine con_of_cd tyOk mix Tryz.func57 rfl rfl rfl (Nat.le_of_ble_eq_true rfl) ?_
 repeat' first | refine Ra ⟨?_⟩ | refine Rk [0] 0 c1 ⟨?_⟩ | (refine ⟨[1], _, _, _, _, 0, ⟨rfl, rfl, st1 rfl rfl, c2, rfl, dom1 rfl⟩, .inl ⟨[], trivial, rfl, .inr (lent1 rfl rfl rfl), ?_⟩⟩ <;> conv => whnf) | refine Rk [2] 0 c3 ⟨?_⟩ | refine Rd (fun h => ⟨?_⟩) fun h => ⟨?_⟩ | refine Rb ⟨?_⟩ | fail
 refine CallEnd.here ⟨[], [0, 1, 2], ?_⟩
 conv => whnf
 refine ⟨rfl, rfl, rfl, ?_⟩
 exact congrArg (fun z => [(0, Blk.own _ _), (1, Blk.deep _ _ z), (2, Blk.own _ _)]) (by rw [ren_an, car_an]; rfl)
theorem st3 {S : Store} {a b c : Nat} {e e2 ta tc : TypeId} {xa xc : List (List D)} {zs : List Slot} {ws : WsT} (ha : lk S a = some (.own ta xa)) (hb : lk S b = some (.deep e e2 zs)) (hc : lk S c = some (.own tc xc)) (hz : zs = anZ ws) : argS [a, b, c] S [a, b, c] 0 = some [(0, .own ta xa), (1, .deep e e2 (anZ ws)), (2, .own tc xc)] := by
 subst hz
 simp only [argS, ha, hb, hc, argB, imZ_an]
theorem lent3 {a b c : Nat} {ds : List D} {S : Store} {e e2 ta tc : TypeId} {xa xc : List (List D)} {zs : List Slot} {ws : WsT} (ha : lk S a = some (.own ta xa)) (hb : lk S b = some (.deep e e2 zs)) (hc : lk S c = some (.own tc xc)) (hz : zs = anZ ws) (hm : minus [a, b, c] (nmDs ds ++ []) = []) : lent [a, b, c] ds S = [] := by
 subst hz
 unfold lent
 simp only [storeNames, ha, hb, hc, blkNames, names_an, List.append_nil] at hm ⊢
 exact hm
theorem domO {c : Nat} {l : List Nat} {a b d : Nat} {e e2 ta tc : TypeId} {xa xc : List (List D)} {ws : WsT} (h : ltB c l = true) : (ltB c l && domB c [(a, .own ta xa), (b, .deep e e2 (anZ ws)), (d, .own tc xc)]) = true := by
 simp only [h, domB, blkNames, names_an]
 rfl
def wcT (w : Wld) (a b c d e f g : Nat) : List D := [.own a, .own b, .own c, .k .i64 w.clock, .k .i64 w.count, .own d, .own e, .own f, .own g, .b w.waits, .k .i64 w.op.kind, .s w.op.path, .s w.op.tgt, .s w.op.data]
abbrev hZ (w : Wld) : List Slot := anZ (w.holds.map fun l => l.map Hld.c)
abbrev oZ (o : Ovr) : List Slot := anZ (o.layers.map fun l => l.map Mrk.c)
abbrev wT (w : Wld) : Store := [(0, .own 150 (w.over.base.map Ent.c)), (1, .deep 47 197 (oZ w.over)), (2, .own 197 (w.over.upper.map Mrk.c)), (3, .own 93 (w.leases.map Lse.c)), (4, .deep 159 152 (hZ w)), (5, .own 3 (ints w.floors)), (6, .own 154 (w.net.map Mes.c))]
def totW (w : Wld) : Nat := totO w.over + w.leases.length + tot w.holds + w.floors.length + w.net.length
def mkW (w : Wld) (k : Int) : Int := k + 3 * totO w.over + 4 * w.leases.length + 7 * tot w.holds + 1 * w.floors.length + 9 * w.net.length
structure WW (w : Wld) : Prop where
 o : WO w.over
 ll : w.leases.length ≤ 9223372036854775807
 l : ∀ e ∈ w.leases, wL e
 hl : w.holds.length ≤ 9223372036854775807
 h : ∀ l ∈ w.holds, l.length ≤ 9223372036854775807 ∧ ∀ e ∈ l, wH e
 fl : w.floors.length ≤ 9223372036854775807
 nl : w.net.length ≤ 9223372036854775807
 n : ∀ e ∈ w.net, wM e
 p : w.op.path.length ≤ 9223372036854775807 ∧ w.op.tgt.length ≤ 9223372036854775807 ∧ w.op.data.length ≤ 9223372036854775807
structure BW (w : Wld) : Prop where
 o : BO w.over
 ll : w.leases.length ≤ 1048576
 l : ∀ e ∈ w.leases, bL e
 hl : w.holds.length ≤ 1048576
 h : ∀ l ∈ w.holds, l.length ≤ 1048576 ∧ ∀ e ∈ l, bH e
 fl : w.floors.length ≤ 1048576
 nl : w.net.length ≤ 1048576
 n : ∀ e ∈ w.net, bM e
 p : w.op.path.length ≤ 1048576 ∧ w.op.tgt.length ≤ 1048576 ∧ w.op.data.length ≤ 1048576
theorem szWorld_any (w : Wld) (n : Int) (hn : 0 ≤ n ∧ n ≤ 1048576) (h : WW w) : ∃ r : Int, Con (E m) 10 0 [.agg w.c, .k .i64 n] [] (.k .i64 r) [] ∧ (r = -1 ∨ (0 ≤ r ∧ r + totW w ≤ n ∧ BW w)) := by
 obtain ⟨r1, c1, h1⟩ := szOver_any (m := m) w.over n hn h.o
 rcases h1 with rfl | ⟨p1, q1, b1⟩
 · refine ⟨-1, ?_, .inl rfl⟩
   refine con_of_cd tyOk mix Tryz.func10 rfl rfl rfl (Nat.le_of_ble_eq_true rfl) ?_
   repeat' first | refine Ra ⟨?_⟩ | refine R0 c1 ⟨?_⟩ | refine Rd (fun h => ⟨?_⟩) fun h => ⟨?_⟩ | refine Rb ⟨?_⟩ | fail
   exact Rf
 · obtain ⟨r2, c2, h2⟩ := szLeaseS_any (m := m) w.leases r1 ⟨p1, by omega⟩ h.ll h.l
   rcases h2 with rfl | ⟨p2, q2, b2⟩
   · refine ⟨-1, ?_, .inl rfl⟩
     refine con_of_cd tyOk mix Tryz.func10 rfl rfl rfl (Nat.le_of_ble_eq_true rfl) ?_
     repeat' first | refine Ra ⟨?_⟩ | refine R0 c1 ⟨?_⟩ | refine R0 c2 ⟨?_⟩ | refine Rd (fun h => ⟨?_⟩) fun h => ⟨?_⟩ | refine Rb ⟨?_⟩ | fail
     exact Rf
   · obtain ⟨r3, c3, h3⟩ := szHoldSS_any (m := m) w.holds r2 ⟨p2, by omega⟩ h.hl h.h
     rcases h3 with rfl | ⟨p3, q3, b3⟩
     · refine ⟨-1, ?_, .inl rfl⟩
       refine con_of_cd tyOk mix Tryz.func10 rfl rfl rfl (Nat.le_of_ble_eq_true rfl) ?_
       repeat' first | refine Ra ⟨?_⟩ | refine R0 c1 ⟨?_⟩ | refine R0 c2 ⟨?_⟩ | refine R0 c3 ⟨?_⟩ | refine Rd (fun h => ⟨?_⟩) fun h => ⟨?_⟩ | refine Rb ⟨?_⟩ | fail
       exact Rf
     · obtain ⟨r4, c4, h4⟩ := szIntS_any (m := m) w.floors r3 ⟨p3, by omega⟩ h.fl
       rcases h4 with rfl | ⟨p4, q4⟩
       · refine ⟨-1, ?_, .inl rfl⟩
         refine con_of_cd tyOk mix Tryz.func10 rfl rfl rfl (Nat.le_of_ble_eq_true rfl) ?_
         repeat' first | refine Ra ⟨?_⟩ | refine R0 c1 ⟨?_⟩ | refine R0 c2 ⟨?_⟩ | refine R0 c3 ⟨?_⟩ | refine R0 c4 ⟨?_⟩ | refine Rd (fun h => ⟨?_⟩) fun h => ⟨?_⟩ | refine Rb ⟨?_⟩ | fail
         exact Rf
       · obtain ⟨r5, c5, h5⟩ := szMsgS_any (m := m) w.net r4 ⟨p4, by omega⟩ h.nl h.n
         rcases h5 with rfl | ⟨p5, q5, b5⟩
         · refine ⟨-1, ?_, .inl rfl⟩
           refine con_of_cd tyOk mix Tryz.func10 rfl rfl rfl (Nat.le_of_ble_eq_true rfl) ?_
           repeat' first | refine Ra ⟨?_⟩ | refine R0 c1 ⟨?_⟩ | refine R0 c2 ⟨?_⟩ | refine R0 c3 ⟨?_⟩ | refine R0 c4 ⟨?_⟩ | refine R0 c5 ⟨?_⟩ | refine Rd (fun h => ⟨?_⟩) fun h => ⟨?_⟩ | refine Rb ⟨?_⟩ | fail
           exact Rf
         · have c6 := szOp_con (m := m) w.op r5 ⟨p5, by omega⟩ h.p.1 h.p.2.1 h.p.2.2
           have h6 := less3_or r5 w.op.path.length w.op.tgt.length w.op.data.length
           generalize less3 r5 w.op.path.length w.op.tgt.length w.op.data.length = r6 at c6 h6
           by_cases h0 : r6 < 0
           · refine ⟨-1, ?_, .inl rfl⟩
             refine con_of_cd tyOk mix Tryz.func10 rfl rfl rfl (Nat.le_of_ble_eq_true rfl) ?_
             repeat' first | refine Ra ⟨?_⟩ | refine R0 c1 ⟨?_⟩ | refine R0 c2 ⟨?_⟩ | refine R0 c3 ⟨?_⟩ | refine R0 c4 ⟨?_⟩ | refine R0 c5 ⟨?_⟩ | refine R0 c6 ⟨?_⟩ | refine Rd (fun h => ⟨?_⟩) fun h => ⟨?_⟩ | refine Rb ⟨?_⟩ | fail
             exact Rf
           · refine ⟨r6, ?_, .inr ⟨by omega, by unfold totW; omega, b1, by omega, b2, by omega, b3, by omega, by omega, b5, ⟨by omega, by omega, by omega⟩⟩⟩
             refine con_of_cd tyOk mix Tryz.func10 rfl rfl rfl (Nat.le_of_ble_eq_true rfl) ?_
             repeat' first | refine Ra ⟨?_⟩ | refine R0 c1 ⟨?_⟩ | refine R0 c2 ⟨?_⟩ | refine R0 c3 ⟨?_⟩ | refine R0 c4 ⟨?_⟩ | refine R0 c5 ⟨?_⟩ | refine R0 c6 ⟨?_⟩ | refine Rd (fun h => ⟨?_⟩) fun h => ⟨?_⟩ | refine Rb ⟨?_⟩ | fail
             exact Rf
theorem toWorld_con (w : Wld) (h : BW w) : Con (E m) 13 0 [.agg w.c] [] (.agg (wcT w 0 1 2 3 4 5 6)) (wT w) := by
 have c1 := toOver_con (m := m) w.over h.o
 have c2 := toLeaseS_con (m := m) w.leases h.ll
 have c3 := toHoldSS_con (m := m) w.holds h.hl fun l hl => (h.h l hl).1
 have c4 := toIntS_con (m := m) w.floors h.fl
 have c5 := toMsgS_con (m := m) w.net h.nl
 have c6 := toOp_con (m := m) w.op
 refine con_of_cd tyOk mix Tryz.func13 rfl rfl rfl (Nat.le_of_ble_eq_true rfl) ?_
 repeat' first | refine Ra ⟨?_⟩ | (refine Rc [] 3 rfl rfl c1 ?_ rfl rfl (domO rfl) <;> conv => whnf) | refine Rk [] 1 c2 ⟨?_⟩ | (refine Rc [] 1 rfl rfl c3 ?_ rfl rfl (dom1 rfl) <;> conv => whnf) | refine Rk [] 1 c4 ⟨?_⟩ | refine Rk [] 1 c5 ⟨?_⟩ | refine R0 c6 ⟨?_⟩ | refine Rd (fun h => ⟨?_⟩) fun h => ⟨?_⟩ | refine Rb ⟨?_⟩ | fail
 refine CallEnd.here ⟨[], [3, 4, 5, 6, 7, 8, 9], ?_⟩
 conv => whnf
 refine ⟨rfl, rfl, rfl, ?_⟩
 have key : ∀ z1 z2, z1 = oZ w.over → z2 = hZ w → ([(0, Blk.own 150 (w.over.base.map Ent.c)), (1, .deep 47 197 z1), (2, .own 197 (w.over.upper.map Mrk.c)), (3, .own 93 (w.leases.map Lse.c)), (4, .deep 159 152 z2), (5, .own 3 (ints w.floors)), (6, .own 154 (w.net.map Mes.c))] : Store) = wT w := by
  rintro _ _ rfl rfl
  rfl
 exact key _ _ (by rw [ren_an, car_an]) (by rw [ren_an, car_an])
theorem eqWorld_con (w : Wld) (h : BW w) : Con (E m) 17 0 [.agg w.c, .agg w.c] [] (.b true) [] := by
 have c1 := eqOver_con (m := m) w.over h.o
 have c2 := eqLeaseS_con (m := m) w.leases h.ll
 have c3 := eqHoldSS_con (m := m) w.holds h.hl fun l hl => (h.h l hl).1
 have c4 := eqIntS_con (m := m) w.floors h.fl
 have c5 := eqMsgS_con (m := m) w.net h.nl
 have c6 := eqOp_con (m := m) w.op w.op
 rw [eqO_self] at c6
 refine con_of_cd tyOk mix Tryz.func17 rfl rfl rfl (Nat.le_of_ble_eq_true rfl) ?_
 repeat' first | refine Ra ⟨?_⟩ | refine R0 c1 ⟨?_⟩ | refine R0 c2 ⟨?_⟩ | refine R0 c3 ⟨?_⟩ | refine R0 c4 ⟨?_⟩ | refine R0 c5 ⟨?_⟩ | refine R0 c6 ⟨?_⟩ | refine Rd (fun h => ⟨?_⟩) fun h => ⟨?_⟩ | refine Rb ⟨?_⟩ | fail
 exact Rf
def mkD (w : Wld) (k : Int) : Wld := { w with
 over := mkO k w.over
 leases := mkL fLs 4 (k + 3 * totO w.over) w.leases.length
 holds := mkLL fHd 7 (k + 3 * totO w.over + 4 * w.leases.length) w.holds
 floors := mkL fI 1 (k + 3 * totO w.over + 4 * w.leases.length + 7 * tot w.holds) w.floors.length
 net := mkL fMs 9 (k + 3 * totO w.over + 4 * w.leases.length + 7 * tot w.holds + 1 * w.floors.length) w.net.length }
theorem markWorld_con (w : Wld) (k : Int) (hk : 0 ≤ k ∧ k + 9 * totW w ≤ 10000000) (h : BW w) : Con (E m) 18 7 [.agg (wcT w 0 1 2 3 4 5 6), .k .i64 k] (wT w) (.k .i64 (mkW w k)) (wT (mkD w k)) := by
 unfold mkW
 have ht : totW w = totO w.over + w.leases.length + tot w.holds + w.floors.length + w.net.length := rfl
 have c1 := markOver_con (m := m) w.over k (by omega) h.o
 have c2 := markLeaseS_con (m := m) w.leases (k + 3 * totO w.over) (by omega) (by have := h.ll; omega)
 have c3 := markHoldSS_con (m := m) w.holds (k + 3 * totO w.over + 4 * w.leases.length) (by omega) h.hl fun l hl => (h.h l hl).1
 have c4 := markIntS_con (m := m) w.floors (k + 3 * totO w.over + 4 * w.leases.length + 7 * tot w.holds) (by omega) (by have := h.fl; omega)
 have c5 := markMsgS_con (m := m) w.net (k + 3 * totO w.over + 4 * w.leases.length + 7 * tot w.holds + 1 * w.floors.length) (by omega) (by have := h.nl; omega)
 refine con_of_cd tyOk mix Tryz.func18 rfl rfl rfl (Nat.le_of_ble_eq_true rfl) ?_
 repeat' first | refine Ra ⟨?_⟩ | (refine ⟨[0, 1, 2], _, _, _, _, 0, ⟨rfl, rfl, st3 rfl rfl rfl rfl, c1, rfl, domO rfl⟩, .inl ⟨[], trivial, rfl, .inr (lent3 rfl rfl rfl rfl rfl), ?_⟩⟩ <;> conv => whnf) | refine Rk [3] 0 c2 ⟨?_⟩ | (refine ⟨[4], _, _, _, _, 0, ⟨rfl, rfl, st1 rfl rfl, c3, rfl, dom1 rfl⟩, .inl ⟨[], trivial, rfl, .inr (lent1 rfl rfl rfl), ?_⟩⟩ <;> conv => whnf) | refine Rk [5] 0 c4 ⟨?_⟩ | refine Rk [6] 0 c5 ⟨?_⟩ | refine Rd (fun h => ⟨?_⟩) fun h => ⟨?_⟩ | refine Rb ⟨?_⟩ | fail
 refine CallEnd.here ⟨[], [0, 1, 2, 3, 4, 5, 6], ?_⟩
 conv => whnf
 refine ⟨rfl, rfl, rfl, ?_⟩
 have key : ∀ z1 z2, z1 = oZ (mkO k w.over) → z2 = hZ (mkD w k) → ([(0, Blk.own 150 ((mkD w k).over.base.map Ent.c)), (1, .deep 47 197 z1), (2, .own 197 ((mkD w k).over.upper.map Mrk.c)), (3, .own 93 ((mkD w k).leases.map Lse.c)), (4, .deep 159 152 z2), (5, .own 3 (ints (mkD w k).floors)), (6, .own 154 ((mkD w k).net.map Mes.c))] : Store) = wT (mkD w k) := by
  rintro _ _ rfl rfl
  rfl
 exact key _ _ (by rw [ren_an, car_an]) (by rw [ren_an, car_an]; rfl)
end Go.Proofs.YtlicaibhgcenhaaGreatDoor
namespace Go.Proofs.YtlicaibhgcenhaaGreatDoor
open Go Go.RowKit Go.Ab Go.Par
theorem rows_of {α : Type} {c : α → List D} {Q : α → Prop} {t : TypeId} (inv : ∀ cs, Shp Tryz.prog t cs → ∃ e, cs = c e ∧ Q e) : ∀ (xs : List (List D)), (∀ cs ∈ xs, Shp Tryz.prog t cs) → ∃ es : List α, xs = es.map c ∧ ∀ e ∈ es, Q e
 | [], _ => ⟨[], rfl, by simp⟩
 | cs :: xs, h => by
   obtain ⟨e, rfl, h1⟩ := inv cs (h cs (by simp))
   obtain ⟨es, rfl, h3⟩ := rows_of inv xs fun c hc => h c (by simp [hc])
   refine ⟨e :: es, rfl, fun x hx => ?_⟩
   rcases List.mem_cons.1 hx with rfl | hx
   · exact h1
   · exact h3 x hx
theorem sl_of {α : Type} {c : α → List D} {Q : α → Prop} {s t : TypeId} (hu : Tryz.prog.underlying s = some (.slice t)) (inv : ∀ cs, Shp Tryz.prog t cs → ∃ e, cs = c e ∧ Q e) {ds : List D} (h : Shp Tryz.prog s ds) : ∃ es : List α, ds = [.sl (es.map c)] ∧ es.length ≤ 9223372036854775807 ∧ ∀ e ∈ es, Q e := by
 obtain ⟨xs, rfl, hl, hc⟩ := h.slice_inv hu
 obtain ⟨es, rfl, he⟩ := rows_of inv xs hc
 rw [List.length_map] at hl
 exact ⟨es, rfl, hl, he⟩
theorem ent_inv (cs : List D) (h : Shp Tryz.prog 142 cs) : ∃ e : Ent, cs = Ent.c e ∧ wE e := by
 have h2 : ShpF Tryz.prog [9, 4, 9] cs := h.struct_inv Tryz.underlying142
 obtain ⟨a, _, rfl, ha, b, _, rfl, hb, c, _, rfl, hc, rfl⟩ := h2
 obtain ⟨p, rfl, hp⟩ := ha.str_inv Tryz.underlying9
 obtain ⟨q, rfl⟩ := hb.bool_inv Tryz.underlying4
 obtain ⟨r, rfl, hr⟩ := hc.str_inv Tryz.underlying9
 exact ⟨⟨p, q, r⟩, rfl, hp, hr⟩
theorem mark_inv (cs : List D) (h : Shp Tryz.prog 203 cs) : ∃ e : Mrk, cs = Mrk.c e ∧ wM1 e := by
 have h2 : ShpF Tryz.prog [9, 3, 9] cs := h.struct_inv Tryz.underlying203
 obtain ⟨a, _, rfl, ha, b, _, rfl, hb, c, _, rfl, hc, rfl⟩ := h2
 obtain ⟨p, rfl, hp⟩ := ha.str_inv Tryz.underlying9
 obtain ⟨q, rfl, _⟩ := hb.int_inv Tryz.underlying3
 obtain ⟨r, rfl, hr⟩ := hc.str_inv Tryz.underlying9
 exact ⟨⟨p, q, r⟩, rfl, hp, hr⟩
theorem marks_inv (cs : List D) (h : Shp Tryz.prog 30 cs) : ∃ l : List Mrk, cs = layC l ∧ (l.length ≤ 9223372036854775807 ∧ ∀ e ∈ l, wM1 e) := by
 obtain ⟨es, rfl, h1, h2⟩ := sl_of Tryz.underlying30 mark_inv h
 exact ⟨es, rfl, h1, h2⟩
theorem over_inv (cs : List D) (h : Shp Tryz.prog 32 cs) : ∃ o : Ovr, cs = Ovr.c o ∧ WO o := by
 have h2 : ShpF Tryz.prog [28, 29, 30] cs := h.struct_inv Tryz.underlying32
 obtain ⟨a, _, rfl, ha, b, _, rfl, hb, c, _, rfl, hc, rfl⟩ := h2
 obtain ⟨x, rfl, x1, x2⟩ := sl_of Tryz.underlying28 ent_inv ha
 obtain ⟨y, rfl, y1, y2⟩ := sl_of Tryz.underlying29 marks_inv hb
 obtain ⟨z, rfl, z1, z2⟩ := sl_of Tryz.underlying30 mark_inv hc
 exact ⟨⟨x, y, z⟩, rfl, x1, x2, y1, y2, z1, z2⟩
theorem lease_inv (cs : List D) (h : Shp Tryz.prog 137 cs) : ∃ e : Lse, cs = Lse.c e ∧ wL e := by
 have h2 : ShpF Tryz.prog [3, 9, 3, 3] cs := h.struct_inv Tryz.underlying137
 obtain ⟨a, _, rfl, ha, b, _, rfl, hb, c, _, rfl, hc, d, _, rfl, hd, rfl⟩ := h2
 obtain ⟨x, rfl, _⟩ := ha.int_inv Tryz.underlying3
 obtain ⟨p, rfl, hp⟩ := hb.str_inv Tryz.underlying9
 obtain ⟨y, rfl, _⟩ := hc.int_inv Tryz.underlying3
 obtain ⟨z, rfl, _⟩ := hd.int_inv Tryz.underlying3
 exact ⟨⟨x, p, y, z⟩, rfl, hp⟩
theorem hold_inv (cs : List D) (h : Shp Tryz.prog 144 cs) : ∃ e : Hld, cs = Hld.c e ∧ wH e := by
 have h2 : ShpF Tryz.prog [9, 4, 142, 3, 3] cs := h.struct_inv Tryz.underlying144
 obtain ⟨a, _, rfl, ha, b, _, rfl, hb, c, _, rfl, hc, d, _, rfl, hd, e, _, rfl, he, rfl⟩ := h2
 obtain ⟨p, rfl, hp⟩ := ha.str_inv Tryz.underlying9
 obtain ⟨q, rfl⟩ := hb.bool_inv Tryz.underlying4
 obtain ⟨x, rfl, hx⟩ := ent_inv _ hc
 obtain ⟨y, rfl, _⟩ := hd.int_inv Tryz.underlying3
 obtain ⟨z, rfl, _⟩ := he.int_inv Tryz.underlying3
 exact ⟨⟨p, q, x, y, z⟩, rfl, hp, hx.1, hx.2⟩
theorem holds_inv (cs : List D) (h : Shp Tryz.prog 139 cs) : ∃ l : List Hld, cs = hlsC l ∧ (l.length ≤ 9223372036854775807 ∧ ∀ e ∈ l, wH e) := by
 obtain ⟨es, rfl, h1, h2⟩ := sl_of Tryz.underlying139 hold_inv h
 exact ⟨es, rfl, h1, h2⟩
theorem int_inv (cs : List D) (h : Shp Tryz.prog 3 cs) : ∃ n : Int, cs = [D.k .i64 n] ∧ True := by
 obtain ⟨x, rfl, _⟩ := h.int_inv Tryz.underlying3
 exact ⟨x, rfl, trivial⟩
theorem msg_inv (cs : List D) (h : Shp Tryz.prog 146 cs) : ∃ e : Mes, cs = Mes.c e ∧ wM e := by
 have h2 : ShpF Tryz.prog [3, 3, 144] cs := h.struct_inv Tryz.underlying146
 obtain ⟨a, _, rfl, ha, b, _, rfl, hb, c, _, rfl, hc, rfl⟩ := h2
 obtain ⟨x, rfl, _⟩ := ha.int_inv Tryz.underlying3
 obtain ⟨y, rfl, _⟩ := hb.int_inv Tryz.underlying3
 obtain ⟨z, rfl, hz⟩ := hold_inv _ hc
 exact ⟨⟨x, y, z⟩, rfl, hz⟩
theorem op_inv (cs : List D) (h : Shp Tryz.prog 38 cs) : ∃ o : Opn, cs = Opn.c o ∧ (o.path.length ≤ 9223372036854775807 ∧ o.tgt.length ≤ 9223372036854775807 ∧ o.data.length ≤ 9223372036854775807) := by
 have h2 : ShpF Tryz.prog [3, 9, 9, 9] cs := h.struct_inv Tryz.underlying38
 obtain ⟨a, _, rfl, ha, b, _, rfl, hb, c, _, rfl, hc, d, _, rfl, hd, rfl⟩ := h2
 obtain ⟨x, rfl, _⟩ := ha.int_inv Tryz.underlying3
 obtain ⟨p, rfl, hp⟩ := hb.str_inv Tryz.underlying9
 obtain ⟨q, rfl, hq⟩ := hc.str_inv Tryz.underlying9
 obtain ⟨r, rfl, hr⟩ := hd.str_inv Tryz.underlying9
 exact ⟨⟨x, p, q, r⟩, rfl, hp, hq, hr⟩
theorem lWorld_shp {d : D} (h : ShpV Tryz.prog 40 d) : ∃ w : Wld, d = .agg w.c ∧ WW w := by
 obtain ⟨ds, rfl, h1⟩ := h.struct Tryz.underlying40
 have h2 : ShpF Tryz.prog [32, 3, 3, 33, 34, 35, 36, 4, 38] ds := h1
 obtain ⟨a, _, rfl, ha, b, _, rfl, hb, c, _, rfl, hc, d, _, rfl, hd, e, _, rfl, he, f, _, rfl, hf, g, _, rfl, hg, i, _, rfl, hi, j, _, rfl, hj, rfl⟩ := h2
 obtain ⟨o, rfl, ho⟩ := over_inv _ ha
 obtain ⟨x, rfl, _⟩ := hb.int_inv Tryz.underlying3
 obtain ⟨y, rfl, _⟩ := hc.int_inv Tryz.underlying3
 obtain ⟨ls, rfl, l1, l2⟩ := sl_of Tryz.underlying33 lease_inv hd
 obtain ⟨hs, rfl, k1, k2⟩ := sl_of Tryz.underlying34 holds_inv he
 obtain ⟨fl, rfl, f1, _⟩ := sl_of Tryz.underlying35 int_inv hf
 obtain ⟨nt, rfl, n1, n2⟩ := sl_of Tryz.underlying36 msg_inv hg
 obtain ⟨q, rfl⟩ := hi.bool_inv Tryz.underlying4
 obtain ⟨p, rfl, hp⟩ := op_inv _ hj
 exact ⟨⟨o, x, y, ls, hs, fl, nt, q, p⟩, rfl, ho, l1, l2, k1, k2, f1, n1, n2, hp⟩
end Go.Proofs.YtlicaibhgcenhaaGreatDoor
