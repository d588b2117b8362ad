/- Texts of this claim, set close: lemmas and contracts. -/
import Derived.Test.YtlicaibhgcenhaaGreatDoorWZY30
import Derived.Test.YtlicaibhgcenhaaGreatDoorWZY32
set_option linter.unusedSimpArgs false
set_option linter.unusedVariables false
set_option maxHeartbeats 1000000
set_option maxRecDepth 10000
namespace Go.Proofs.YtlicaibhgcenhaaGreatDoor
open Go Go.RowKit Go.Ab Go.Par
variable {m : Int}
theorem sWho_con (n : Int) : Con (E m) 162 0 [.k .i64 n] [] (.b (whoB n)) [] := by
 by_cases h1 : 0 ≤ n
 · by_cases h2 : n ≤ 2
   · refine con_of_cd tyOk mix Tryz.func162 rfl rfl rfl (Nat.le_of_ble_eq_true rfl) ?_
     repeat' first | refine Ra ⟨?_⟩ | refine Rd (fun h => ⟨?_⟩) fun h => ⟨?_⟩ | refine Rb ⟨?_⟩ | fail
     refine Rg ⟨?_⟩
     first | rfl | (simp_all [whoB]; done) | (simp [whoB] <;> (repeat' split) <;> omega) | (simp only [whoB]; repeat' split) <;> first | omega | (simp_all; done) | (simp_all; omega) | (rw [Bool.eq_iff_iff]; simp [*, whoB] <;> omega)
   · refine con_of_cd tyOk mix Tryz.func162 rfl rfl rfl (Nat.le_of_ble_eq_true rfl) ?_
     repeat' first | refine Ra ⟨?_⟩ | refine Rd (fun h => ⟨?_⟩) fun h => ⟨?_⟩ | refine Rb ⟨?_⟩ | fail
     refine Rg ⟨?_⟩
     first | rfl | (simp_all [whoB]; done) | (simp [whoB] <;> (repeat' split) <;> omega) | (simp only [whoB]; repeat' split) <;> first | omega | (simp_all; done) | (simp_all; omega) | (rw [Bool.eq_iff_iff]; simp [*, whoB] <;> omega)
 · refine con_of_cd tyOk mix Tryz.func162 rfl rfl rfl (Nat.le_of_ble_eq_true rfl) ?_
   repeat' first | refine Ra ⟨?_⟩ | refine Rd (fun h => ⟨?_⟩) fun h => ⟨?_⟩ | refine Rb ⟨?_⟩ | fail
   refine Rg ⟨?_⟩
   first | rfl | (simp_all [whoB]; done) | (simp [whoB] <;> (repeat' split) <;> omega) | (simp only [whoB]; repeat' split) <;> first | omega | (simp_all; done) | (simp_all; omega) | (rw [Bool.eq_iff_iff]; simp [*, whoB] <;> omega)
theorem sOverView_con (o : Ovr) (hb : BndV o) : Con (E m) 87 0 [.agg o.c] [] (vwD (overT o)) [] := by
 have c1 := sOverOk_con (m := m) o hb
 have c2 := sView_con (m := m) o hb
 cases h : overT o with
 | none =>
   have : overOk o = false := by rw [overOk, h]; rfl
   rw [this] at c1
   refine con_of_cd tyOk mix Tryz.func87 rfl rfl rfl (Nat.le_of_ble_eq_true rfl) ?_
   repeat' first | refine Ra ⟨?_⟩ | refine R0 c1 ⟨?_⟩ | refine Rd (fun h => ⟨?_⟩) fun h => ⟨?_⟩ | refine Rb ⟨?_⟩ | fail
   exact Rz
 | some x =>
   have h1 : overOk o = true := by rw [overOk, h]; rfl
   rw [h1] at c1
   have h2 : viewT o = some x.2 := by
    obtain ⟨t, v⟩ := x
    obtain ⟨g1, g2, g3⟩ := overT_iff.1 h
    rw [viewT, g1]
    exact g2
   rw [h2] at c2
   refine con_of_cd tyOk mix Tryz.func87 rfl rfl rfl (Nat.le_of_ble_eq_true rfl) ?_
   repeat' first | refine Ra ⟨?_⟩ | refine R0 c1 ⟨?_⟩ | refine R0 c2 ⟨?_⟩ | refine Rd (fun h => ⟨?_⟩) fun h => ⟨?_⟩ | refine Rb ⟨?_⟩ | fail
   exact Rz
theorem sPlain_con (w : Wld) (hb : BndW w) : Con (E m) 88 0 [.agg w.c] [] (.b (numsOk w)) [] := by
 have hhl := hb.hl
 have hfl := hb.fl
 have hnl := hb.nl
 have e1 : (w.holds.map hlsC).length = w.holds.length := List.length_map ..
 have e2 : (ints w.floors).length = w.floors.length := List.length_map ..
 have e3 : (w.net.map Mes.c).length = w.net.length := List.length_map ..
 by_cases hn : NumW w ∧ w.net.length ≤ 12
 · obtain ⟨⟨h1, h2, h3, h4, h5, h6⟩, h7⟩ := hn
   have hx : numsOk w = w.floors.all fun f => decide (0 ≤ f) && decide (f ≤ w.count) := by simp [numsOk, h1, h2, h3, h4, h5, h6, h7]
   rw [hx]
   refine con_of_cd tyOk mix Tryz.func88 rfl rfl rfl (Nat.le_of_ble_eq_true rfl) ?_
   repeat' first | refine Ra ⟨?_⟩ | refine Rd (fun h => ⟨?_⟩) fun h => ⟨?_⟩ | refine Rb ⟨?_⟩ | fail
   refine Cd.loop2 (fun mq tm S nx => ∃ (i : Nat), mq = (w.floors.length - i) ∧ tm = [(1, .bp 0 0), (3, .k .i64 i)] ∧ S = [(0, .box 54 w.c)] ∧ nx = 1 ∧ (i ≤ w.floors.length) ∧ ((w.floors.all fun f => decide (0 ≤ f) && decide (f ≤ w.count)) = ((w.floors.drop i).all fun f => decide (0 ≤ f) && decide (f ≤ w.count)))) ?_ ?_
   · refine la [1, 3] ?_
     conv => whnf
     refine ⟨rfl, rfl, _, 0, rfl, rfl, rfl, rfl, Nat.zero_le _, rfl⟩
   · rintro mq tm S nx ⟨i, hn, rfl, rfl, rfl, hi, ha⟩
     rcases drop_or w.floors i hi with ⟨rfl, hd⟩ | ⟨f, r, hx', hd, hr, hlt⟩
     · rw [hd] at ha
       rw [ha]
       repeat' first | refine Ra ⟨?_⟩ | refine Rd (fun h => ⟨?_⟩) fun h => ⟨?_⟩ | refine Rb ⟨?_⟩ | fail
       exact Rf
     · rw [hd, List.all_cons] at ha
       by_cases g1 : 0 ≤ f
       · by_cases g2 : f ≤ w.count
         · rw [decide_eq_true g1, decide_eq_true g2] at ha
           repeat' first | refine Ra ⟨?_⟩ | refine Rd (fun h => ⟨?_⟩) fun h => ⟨?_⟩ | refine Rb ⟨?_⟩ | fail
           refine .here ⟨mq - 1, by omega, ?_⟩
           refine la [1, 3] ?_
           conv => whnf
           refine ⟨rfl, rfl, i + 1, (by omega), rfl, rfl, rfl, by omega, (by rw [ha, hr]; simp)⟩
         · rw [decide_eq_false g2] at ha
           simp only [Bool.and_false, Bool.false_and] at ha
           rw [ha]
           repeat' first | refine Ra ⟨?_⟩ | refine Rd (fun h => ⟨?_⟩) fun h => ⟨?_⟩ | refine Rb ⟨?_⟩ | fail
           exact Rf
       · rw [decide_eq_false g1] at ha
         simp only [Bool.false_and] at ha
         rw [ha]
         repeat' first | refine Ra ⟨?_⟩ | refine Rd (fun h => ⟨?_⟩) fun h => ⟨?_⟩ | refine Rb ⟨?_⟩ | fail
         exact Rf
 · have hx : numsOk w = false := by
     rw [← Bool.not_eq_true]
     intro h
     simp only [numsOk, Bool.and_eq_true, decide_eq_true_eq] at h
     obtain ⟨⟨⟨⟨⟨⟨⟨a1, a2⟩, a3⟩, a4⟩, a5⟩, a6⟩, a7⟩, a8⟩ := h
     exact hn ⟨⟨a1, a2, a3, a4, a5, a6⟩, a7⟩
   rw [hx]
   unfold NumW at hn
   refine con_of_cd tyOk mix Tryz.func88 rfl rfl rfl (Nat.le_of_ble_eq_true rfl) ?_
   repeat' first | refine Ra ⟨?_⟩ | refine Rd (fun h => ⟨?_⟩) fun h => ⟨?_⟩ | refine Rb ⟨?_⟩ | fail
   all_goals first | exact Rf | (exfalso; omega)
def lsD : Option Lse → D
 | some l => .tup [.agg l.c, .b true]
 | none => .tup [.agg [.k .i64 0, .s [], .k .i64 0, .k .i64 0], .b false]
theorem sLease_con (w : Wld) (who : Int) (p : Bs) (hll : w.leases.length ≤ 1048576) : Con (E m) 227 0 [.agg w.c, .k .i64 who, .s p] [] (lsD (leaseOf w.leases who p)) [] := by
 have e1 : (w.leases.map Lse.c).length = w.leases.length := List.length_map ..
 refine con_of_cd tyOk mix Tryz.func227 rfl rfl rfl (Nat.le_of_ble_eq_true rfl) ?_
 repeat' first | refine Ra ⟨?_⟩ | refine Rd (fun h => ⟨?_⟩) fun h => ⟨?_⟩ | refine Rb ⟨?_⟩ | fail
 refine Cd.loop2 (fun mq tm S nx => ∃ (i : Nat), mq = (w.leases.length - i) ∧ tm = [(1, .k .i64 who), (2, .s p), (3, .bp 0 0), (6, .bp 1 0), (8, .k .i64 i)] ∧ S = [(0, .box 54 w.c), (1, .box 93 [.k .i64 0, .s [], .k .i64 0, .k .i64 0])] ∧ nx = 2 ∧ (i ≤ w.leases.length) ∧ (leaseOf w.leases who p = leaseOf (w.leases.drop i) who p)) ?_ ?_
 · refine la [1, 2, 3, 6, 8] ?_
   conv => whnf
   refine ⟨rfl, rfl, _, 0, rfl, rfl, rfl, rfl, Nat.zero_le _, rfl⟩
 · rintro mq tm S nx ⟨i, hn, rfl, rfl, rfl, hi, ha⟩
   rcases drop_or w.leases i hi with ⟨rfl, hd⟩ | ⟨x, r, hx', hd, hr, hlt⟩
   · rw [hd] at ha
     rw [ha]
     repeat' first | refine Ra ⟨?_⟩ | refine Rd (fun h => ⟨?_⟩) fun h => ⟨?_⟩ | refine Rb ⟨?_⟩ | fail
     exact Rf
   · have hc : leaseOf (x :: r) who p = (if leaseB who p x = true then some x else leaseOf r who p) := by
       rw [leaseOf, List.find?_cons]
       cases leaseB who p x <;> rfl
     rw [hd, hc] at ha
     by_cases g1 : x.who = who
     · by_cases g2 : x.path = p
       · have q : leaseB who p x = true := by simp [leaseB, g1, g2]
         rw [if_pos q] at ha
         rw [ha]
         repeat' first | refine Ra ⟨?_⟩ | refine Rd (fun h => ⟨?_⟩) fun h => ⟨?_⟩ | refine Rb ⟨?_⟩ | fail
         exact Rf
       · have q : leaseB who p x = false := by simp [leaseB, g2]
         rw [if_neg (by rw [q]; simp)] at ha
         repeat' first | refine Ra ⟨?_⟩ | refine Rd (fun h => ⟨?_⟩) fun h => ⟨?_⟩ | refine Rb ⟨?_⟩ | fail
         refine .here ⟨mq - 1, by omega, ?_⟩
         refine la [1, 2, 3, 6, 8] ?_
         conv => whnf
         refine ⟨rfl, rfl, i + 1, (by omega), rfl, rfl, rfl, by omega, (by rw [ha, hr])⟩
     · have q : leaseB who p x = false := by simp [leaseB, g1]
       rw [if_neg (by rw [q]; simp)] at ha
       repeat' first | refine Ra ⟨?_⟩ | refine Rd (fun h => ⟨?_⟩) fun h => ⟨?_⟩ | refine Rb ⟨?_⟩ | fail
       refine .here ⟨mq - 1, by omega, ?_⟩
       refine la [1, 2, 3, 6, 8] ?_
       conv => whnf
       refine ⟨rfl, rfl, i + 1, (by omega), rfl, rfl, rfl, by omega, (by rw [ha, hr])⟩
theorem sLeases_con (w : Wld) (hb : BndW w) (hc : 0 ≤ w.clock ∧ w.clock ≤ 10000) : Con (E m) 89 0 [.agg w.c] [] (.b (lsOk w.count w.clock w.leases)) [] := by
 have hll := hb.ll
 have e1 : (w.leases.map Lse.c).length = w.leases.length := List.length_map ..
 unfold lsOk
 refine con_of_cd tyOk mix Tryz.func89 rfl rfl rfl (Nat.le_of_ble_eq_true rfl) ?_
 repeat' first | refine Ra ⟨?_⟩ | refine Rd (fun h => ⟨?_⟩) fun h => ⟨?_⟩ | refine Rb ⟨?_⟩ | fail
 refine Cd.loop2 (fun mq tm S nx => ∃ (i : Nat), mq = (w.leases.length - i) ∧ tm = [(1, .bp 0 0), (3, .k .i64 i)] ∧ S = [(0, .box 54 w.c)] ∧ nx = 1 ∧ (i ≤ w.leases.length) ∧ ((List.range w.leases.length).all (lsAt w.count w.clock w.leases) = ((List.range w.leases.length).drop i).all (lsAt w.count w.clock w.leases))) ?_ ?_
 · refine la [1, 3] ?_
   conv => whnf
   refine ⟨rfl, rfl, _, 0, rfl, rfl, rfl, rfl, Nat.zero_le _, rfl⟩
 · rintro mq tm S nx ⟨i, hn, rfl, rfl, rfl, hi, ha⟩
   by_cases hlt : i < w.leases.length
   · have hx' : w.leases[i]? = some w.leases[i] := List.getElem?_eq_getElem hlt
     generalize w.leases[i] = x at hx'
     rw [drop_range hlt, List.all_cons] at ha
     have hbx := hb.ls x (List.mem_of_getElem? hx')
     have c1 := sWho_con (m := m) x.who
     have c2 := sPathOk_con (m := m) x.path (by unfold bndL at hbx; omega)
     have hat : lsAt w.count w.clock w.leases i = (whoB x.who && pathOk x.path && decide (1 ≤ x.num) && decide (x.num ≤ w.count) && decide (x.til ≤ w.clock + 5) && (w.leases.take i).all fun k => !leaseB x.who x.path k) := by rw [lsAt, hx']
     by_cases hg : whoB x.who = true ∧ pathOk x.path = true ∧ 1 ≤ x.num ∧ x.num ≤ w.count ∧ x.til ≤ w.clock + 5
     · obtain ⟨b1, b2, b3, b4, b5⟩ := hg
       rw [b1] at c1
       rw [b2] at c2
       have hat : lsAt w.count w.clock w.leases i = (w.leases.take i).all fun k => !leaseB x.who x.path k := by rw [hat, b1, b2, decide_eq_true b3, decide_eq_true b4, decide_eq_true b5]; simp
       repeat' first | refine Ra ⟨?_⟩ | refine R0 c1 ⟨?_⟩ | refine R0 c2 ⟨?_⟩ | refine Rd (fun h => ⟨?_⟩) fun h => ⟨?_⟩ | refine Rb ⟨?_⟩ | fail
       obtain ⟨mo, hmo⟩ : ∃ mo, mo = mq := ⟨_, rfl⟩
       subst hmo
       have hno := hn
       refine Cd.loop2 (fun mq tm S nx => ∃ (k : Nat), mq = (i - k) ∧ tm = [(1, .bp 0 0), (3, .k .i64 i), (4, .bp 1 0), (5, .k .i64 k)] ∧ S = [(0, .box 54 w.c), (1, .box 93 x.c)] ∧ nx = 2 ∧ (k ≤ i) ∧ ((w.leases.take k).all (fun y => !leaseB x.who x.path y) = true)) ?_ ?_
       · refine la [1, 3, 4, 5] ?_
         conv => whnf
         refine ⟨rfl, rfl, _, 0, rfl, rfl, rfl, rfl, Nat.zero_le _, rfl⟩
       · rintro mq tm S nx ⟨k, hn, rfl, rfl, rfl, hk, hp⟩
         by_cases hki : k < i
         · have hy : w.leases[k]? = some (w.leases[k]'(by omega)) := List.getElem?_eq_getElem (by omega)
           generalize w.leases[k]'(by omega) = y at hy
           by_cases q1 : y.who = x.who
           · by_cases q2 : y.path = x.path
             · have hf : ((w.leases.take i).all fun k => !leaseB x.who x.path k) = false := all_false (i := k) (x := y) (by rw [List.getElem?_take, if_pos hki]; exact hy) (by simp [leaseB, q1, q2])
               rw [hat, hf, Bool.false_and] at ha
               rw [ha]
               repeat' first | refine Ra ⟨?_⟩ | refine Rd (fun h => ⟨?_⟩) fun h => ⟨?_⟩ | refine Rb ⟨?_⟩ | fail
               exact Rf
             · repeat' first | refine Ra ⟨?_⟩ | refine Rd (fun h => ⟨?_⟩) fun h => ⟨?_⟩ | refine Rb ⟨?_⟩ | fail
               refine .here ⟨mq - 1, by omega, ?_⟩
               refine la [1, 3, 4, 5] ?_
               conv => whnf
               refine ⟨rfl, rfl, k + 1, (by omega), rfl, rfl, rfl, by omega, all_take_succ hp hy (by simp [leaseB, q2])⟩
           · repeat' first | refine Ra ⟨?_⟩ | refine Rd (fun h => ⟨?_⟩) fun h => ⟨?_⟩ | refine Rb ⟨?_⟩ | fail
             refine .here ⟨mq - 1, by omega, ?_⟩
             refine la [1, 3, 4, 5] ?_
             conv => whnf
             refine ⟨rfl, rfl, k + 1, (by omega), rfl, rfl, rfl, by omega, all_take_succ hp hy (by simp [leaseB, q1])⟩
         · have : k = i := by omega
           subst this
           rw [hat, hp, Bool.true_and] at ha
           repeat' first | refine Ra ⟨?_⟩ | refine Rd (fun h => ⟨?_⟩) fun h => ⟨?_⟩ | refine Rb ⟨?_⟩ | fail
           refine .here ⟨mo - 1, by omega, ?_⟩
           refine la [1, 3] ?_
           conv => whnf
           refine ⟨rfl, rfl, k + 1, (by omega), rfl, rfl, rfl, by omega, ha⟩
     · have hf : lsAt w.count w.clock w.leases i = false := by
         rw [hat, ← Bool.not_eq_true]
         intro h
         simp only [Bool.and_eq_true, decide_eq_true_eq] at h
         exact hg ⟨h.1.1.1.1.1, h.1.1.1.1.2, h.1.1.1.2, h.1.1.2, h.1.2⟩
       rw [hf, Bool.false_and] at ha
       rw [ha]
       repeat' first | refine Ra ⟨?_⟩ | refine R0 c1 ⟨?_⟩ | refine R0 c2 ⟨?_⟩ | refine Rd (fun h => ⟨?_⟩) fun h => ⟨?_⟩ | refine Rb ⟨?_⟩ | fail
       all_goals first | exact Rf | (exfalso; simp_all <;> omega)
   · have : i = w.leases.length := by omega
     subst this
     rw [drop_range_end] at ha
     rw [ha]
     repeat' first | refine Ra ⟨?_⟩ | refine Rd (fun h => ⟨?_⟩) fun h => ⟨?_⟩ | refine Rb ⟨?_⟩ | fail
     exact Rf
theorem sSo_con (v : List Ent) (w : Wld) (hb : BndW w) (hv : v.length ≤ 1073741824) (who : Int) (h : Hld) : Con (E m) 164 0 [.agg w.c, .sl (v.map Ent.c), .k .i64 who, .agg h.c] [] (.b (soV v w.clock w.leases who h)) [] := by
 have c1 := sGet_con (m := m) v h.path hv
 have c2 := sLease_con (m := m) w who h.path hb.ll
 by_cases hc : w.clock < h.til
 · rw [soV_of hc]
   obtain ⟨g, has, g1, g2, g3⟩ : ∃ (g : Ent) (has : Bool), entD (entGet v h.path) = .tup [.agg g.c, .b has] ∧ (entGet v h.path).isSome = has ∧ (entGet v h.path).getD ent0 = g := by
    cases hg : entGet v h.path with
    | none => exact ⟨ent0, false, rfl, rfl, rfl⟩
    | some g => exact ⟨g, true, rfl, rfl, rfl⟩
   rw [g1] at c1
   have hsn : seenAs v h = (decide (has = h.has) && decide (g = h.ent)) := by rw [seenAs, g2, g3]
   obtain ⟨l, ok, k1, k2⟩ : ∃ (l : Lse) (ok : Bool), lsD (leaseOf w.leases who h.path) = .tup [.agg l.c, .b ok] ∧ fitsL w.clock w.leases who h = (ok && (decide (w.clock < l.til) && decide (h.num ≤ l.num) && decide (h.til ≤ l.til))) := by
    unfold fitsL
    cases hg : leaseOf w.leases who h.path with
    | none => exact ⟨⟨0, [], 0, 0⟩, false, rfl, rfl⟩
    | some l => exact ⟨l, true, rfl, by simp⟩
   rw [k1] at c2
   rw [hsn, k2]
   have e3 : ee g h.ent = decide (g = h.ent) := by
    by_cases q : g = h.ent
    · rw [decide_eq_true q, q]; exact ee_eq _
    · rw [decide_eq_false q]; exact ee_ne q
   have e4 : (has == h.has) = decide (has = h.has) := by
    by_cases q : has = h.has
    · rw [decide_eq_true q, q]; simp
    · rw [decide_eq_false q]; simpa using q
   by_cases q1 : has = h.has
   · rw [decide_eq_true q1] at e4 ⊢
     by_cases q2 : g = h.ent
     · rw [decide_eq_true q2] at e3 ⊢
       cases ok with
       | true =>
         refine con_of_cd tyOk mix Tryz.func164 rfl rfl rfl (Nat.le_of_ble_eq_true rfl) ?_
         repeat' first | refine Ra ⟨?_⟩ | refine R0 c1 ⟨?_⟩ | refine R0 c2 ⟨?_⟩ | refine Rd (fun h => ⟨?_⟩) fun h => ⟨?_⟩ | refine Rb ⟨?_⟩ | fail
         all_goals exact Rf
       | false =>
         refine con_of_cd tyOk mix Tryz.func164 rfl rfl rfl (Nat.le_of_ble_eq_true rfl) ?_
         repeat' first | refine Ra ⟨?_⟩ | refine R0 c1 ⟨?_⟩ | refine R0 c2 ⟨?_⟩ | refine Rd (fun h => ⟨?_⟩) fun h => ⟨?_⟩ | refine Rb ⟨?_⟩ | fail
         all_goals exact Rf
     · rw [decide_eq_false q2] at e3 ⊢
       refine con_of_cd tyOk mix Tryz.func164 rfl rfl rfl (Nat.le_of_ble_eq_true rfl) ?_
       repeat' first | refine Ra ⟨?_⟩ | refine R0 c1 ⟨?_⟩ | refine R0 c2 ⟨?_⟩ | refine Rd (fun h => ⟨?_⟩) fun h => ⟨?_⟩ | refine Rb ⟨?_⟩ | fail
       all_goals exact Rf
   · rw [decide_eq_false q1] at e4 ⊢
     refine con_of_cd tyOk mix Tryz.func164 rfl rfl rfl (Nat.le_of_ble_eq_true rfl) ?_
     repeat' first | refine Ra ⟨?_⟩ | refine R0 c1 ⟨?_⟩ | refine R0 c2 ⟨?_⟩ | refine Rd (fun h => ⟨?_⟩) fun h => ⟨?_⟩ | refine Rb ⟨?_⟩ | fail
     all_goals exact Rf
 · rw [soV_off hc]
   refine con_of_cd tyOk mix Tryz.func164 rfl rfl rfl (Nat.le_of_ble_eq_true rfl) ?_
   repeat' first | refine Ra ⟨?_⟩ | refine Rd (fun h => ⟨?_⟩) fun h => ⟨?_⟩ | refine Rb ⟨?_⟩ | fail
   exact Rf
end Go.Proofs.YtlicaibhgcenhaaGreatDoor
