/- Texts of this claim, set close: lemmas and contracts. -/
import Derived.Test.YtlicaibhgcenhaaGreatDoorWZY34
import Derived.Test.YtlicaibhgcenhaaGreatDoorWZY5
import Derived.Test.YtlicaibhgcenhaaGreatDoorTie
import Derived.Test.YtlicaibhgcenhaaGreatDoorWZY3
import Derived.Test.YtlicaibhgcenhaaGreatDoorWZY9
import Derived.Test.YtlicaibhgcenhaaGreatDoorCards
import Derived.ProofKit
import Derived.LaidMore
import Derived.Lay
import Derived.SevenTiedAt
import Derived.Stop.Joined
set_option linter.unusedSimpArgs false
set_option linter.unusedVariables false
set_option maxHeartbeats 1000000
set_option maxRecDepth 100000
namespace Go.Proofs.YtlicaibhgcenhaaGreatDoor
open Go Go.RowKit Go.Ab Go.Par
variable {m : Int}
theorem bndE_ok {t : List Ent} (h : treeOk t = true) : bndE 1073741823 t := fun e he => by have := entOk_len (treeOk_ent h e he); omega
theorem sWaits_con (v : List Ent) (w : Wld) (hb : BndW w) (hv : treeOk v = true) : Con (E m) 90 0 [.agg w.c, .sl (v.map Ent.c)] [] (.b (waitOk v w)) [] := by
 have hop := hb.op
 have hvl := treeOk_len hv
 have c1 := sTreeDo_con (m := m) v w.op (by omega) (bndE_ok hv) hop.1 hop.2.1 hop.2.2
 unfold waitOk
 by_cases hw : w.waits = true
 · rw [if_pos hw]
   refine con_of_cd tyOk mix Tryz.func90 rfl rfl rfl (Nat.le_of_ble_eq_true rfl) ?_
   repeat' first | refine Ra ⟨?_⟩ | refine Rk [] 1 c1 ⟨?_⟩ | refine Rd (fun h => ⟨?_⟩) fun h => ⟨?_⟩ | refine Rb ⟨?_⟩ | fail
   all_goals exact Rf
 · rw [if_neg hw, op_eq0]
   have hw : w.waits = false := by simpa using hw
   refine con_of_cd tyOk mix Tryz.func90 rfl rfl rfl (Nat.le_of_ble_eq_true rfl) ?_
   repeat' first | refine Ra ⟨?_⟩ | refine Rk [] 1 c1 ⟨?_⟩ | refine Rd (fun h => ⟨?_⟩) fun h => ⟨?_⟩ | refine Rb ⟨?_⟩ | fail
   all_goals exact Rf
theorem sWorldOk_con (w : Wld) (hb : BndW w) : Con (E m) 41 0 [.agg w.c] [] (.b (worldOk w)) [] := by
 have hnl := hb.nl
 have e3 : (w.net.map Mes.c).length = w.net.length := List.length_map ..
 have c1 := sOverView_con (m := m) w.over hb.over
 cases h : overT w.over with
 | none =>
   have hx : worldOk w = false := by rw [worldOk, h]
   rw [hx]
   rw [h] at c1
   refine con_of_cd tyOk mix Tryz.func41 rfl rfl rfl (Nat.le_of_ble_eq_true rfl) ?_
   repeat' first | refine Ra ⟨?_⟩ | refine R0 c1 ⟨?_⟩ | refine Rd (fun h => ⟨?_⟩) fun h => ⟨?_⟩ | refine Rb ⟨?_⟩ | fail
   exact Rf
 | some tv =>
   obtain ⟨t, v⟩ := tv
   have hv := (overT_ok h).2.2.2
   have hvl := treeOk_len hv
   have hx : worldOk w = worldOkV v w := by rw [worldOk, h]
   rw [hx]
   rw [h] at c1
   have c2 := sPlain_con (m := m) w hb
   cases g1 : numsOk w with
   | false =>
     have hf : worldOkV v w = false := by simp [worldOkV, g1]
     rw [hf]
     rw [g1] at c2
     refine con_of_cd tyOk mix Tryz.func41 rfl rfl rfl (Nat.le_of_ble_eq_true rfl) ?_
     repeat' first | refine Ra ⟨?_⟩ | refine R0 c1 ⟨?_⟩ | refine R0 c2 ⟨?_⟩ | refine Rd (fun h => ⟨?_⟩) fun h => ⟨?_⟩ | refine Rb ⟨?_⟩ | fail
     exact Rf
   | true =>
     rw [g1] at c2
     have hn := g1
     simp only [numsOk, Bool.and_eq_true, decide_eq_true_eq] at hn
     obtain ⟨⟨⟨⟨⟨⟨⟨a1, a2⟩, a3⟩, a4⟩, a5⟩, a6⟩, a7⟩, a8⟩ := hn
     have c3 := sLeases_con (m := m) w hb ⟨a1, a2⟩
     cases g2 : lsOk w.count w.clock w.leases with
     | false =>
       have hf : worldOkV v w = false := by simp [worldOkV, g2]
       rw [hf]
       rw [g2] at c3
       refine con_of_cd tyOk mix Tryz.func41 rfl rfl rfl (Nat.le_of_ble_eq_true rfl) ?_
       repeat' first | refine Ra ⟨?_⟩ | refine R0 c1 ⟨?_⟩ | refine R0 c2 ⟨?_⟩ | refine R0 c3 ⟨?_⟩ | refine Rd (fun h => ⟨?_⟩) fun h => ⟨?_⟩ | refine Rb ⟨?_⟩ | fail
       exact Rf
     | true =>
       rw [g2] at c3
       have c4 := sWaits_con (m := m) v w hb hv
       cases g3 : waitOk v w with
       | false =>
         have hf : worldOkV v w = false := by simp [worldOkV, g3]
         rw [hf]
         rw [g3] at c4
         refine con_of_cd tyOk mix Tryz.func41 rfl rfl rfl (Nat.le_of_ble_eq_true rfl) ?_
         repeat' first | refine Ra ⟨?_⟩ | refine R0 c1 ⟨?_⟩ | refine R0 c2 ⟨?_⟩ | refine R0 c3 ⟨?_⟩ | refine R0 c4 ⟨?_⟩ | refine Rd (fun h => ⟨?_⟩) fun h => ⟨?_⟩ | refine Rb ⟨?_⟩ | fail
         exact Rf
       | true =>
         rw [g3] at c4
         have hx2 : worldOkV v w = ((List.range 3).all (hldOk v w) && w.net.all fun m => mesOk w.count m && grOk v w m && bkOk w m) := by simp [worldOkV, g1, g2, g3]
         rw [hx2]
         refine con_of_cd tyOk mix Tryz.func41 rfl rfl rfl (Nat.le_of_ble_eq_true rfl) ?_
         repeat' first | refine Ra ⟨?_⟩ | refine R0 c1 ⟨?_⟩ | refine R0 c2 ⟨?_⟩ | refine R0 c3 ⟨?_⟩ | refine R0 c4 ⟨?_⟩ | refine Rd (fun h => ⟨?_⟩) fun h => ⟨?_⟩ | refine Rb ⟨?_⟩ | fail
         refine Cd.loop2 (fun mq tm S nx => ∃ (i : Nat), mq = (3 - i) ∧ tm = [(1, .bp 0 0), (3, .sl (v.map Ent.c)), (5, .k .i64 i)] ∧ S = [(0, .box 54 w.c)] ∧ nx = 1 ∧ (i ≤ 3) ∧ ((List.range 3).all (hldOk v w) = ((List.range 3).drop i).all (hldOk v w))) ?_ ?_
         · refine la [1, 3, 5] ?_
           conv => whnf
           refine ⟨rfl, rfl, _, 0, rfl, rfl, rfl, rfl, Nat.zero_le _, rfl⟩
         · rintro mq tm S nx ⟨i, hn, rfl, rfl, rfl, hi, ha⟩
           by_cases hlt : i < 3
           · rw [drop_range hlt, List.all_cons] at ha
             have q1 : w.holds[i]? = some (w.holds[i]'(by omega)) := List.getElem?_eq_getElem (by omega)
             have c5 := sHeld_con (m := m) v w hb (by omega) i _ q1
             cases g4 : hldOk v w i with
             | true =>
               rw [g4] at c5 ha
               repeat' first | refine Ra ⟨?_⟩ | refine R0 c5 ⟨?_⟩ | refine Rd (fun h => ⟨?_⟩) fun h => ⟨?_⟩ | refine Rb ⟨?_⟩ | fail
               refine .here ⟨mq - 1, by omega, ?_⟩
               refine la [1, 3, 5] ?_
               conv => whnf
               refine ⟨rfl, rfl, i + 1, (by omega), rfl, rfl, rfl, by omega, (by rw [ha]; simp)⟩
             | false =>
               rw [g4] at c5 ha
               rw [ha, Bool.false_and, Bool.false_and]
               repeat' first | refine Ra ⟨?_⟩ | refine R0 c5 ⟨?_⟩ | refine Rd (fun h => ⟨?_⟩) fun h => ⟨?_⟩ | refine Rb ⟨?_⟩ | fail
               exact Rf
           · have : i = 3 := by omega
             subst this
             rw [drop_range_end] at ha
             rw [ha]
             repeat' first | refine Ra ⟨?_⟩ | refine Rd (fun h => ⟨?_⟩) fun h => ⟨?_⟩ | refine Rb ⟨?_⟩ | fail
             refine Cd.loop2 (fun mq tm S nx => ∃ (i : Nat), mq = (w.net.length - i) ∧ tm = [(1, .bp 0 0), (3, .sl (v.map Ent.c)), (6, .k .i64 i)] ∧ S = [(0, .box 54 w.c)] ∧ nx = 1 ∧ (i ≤ w.net.length) ∧ ((w.net.all fun m => mesOk w.count m && grOk v w m && bkOk w m) = ((w.net.drop i).all fun m => mesOk w.count m && grOk v w m && bkOk w m))) ?_ ?_
             · refine la [1, 3, 6] ?_
               conv => whnf
               refine ⟨rfl, rfl, _, 0, rfl, rfl, rfl, rfl, Nat.zero_le _, rfl⟩
             · rintro mq tm S nx ⟨i, hn, rfl, rfl, rfl, hi, ha⟩
               rcases drop_or w.net i hi with ⟨rfl, hd⟩ | ⟨x, r, hx', hd, hr, hlt⟩
               · rw [hd] at ha
                 rw [ha]
                 repeat' first | refine Ra ⟨?_⟩ | refine Rd (fun h => ⟨?_⟩) fun h => ⟨?_⟩ | refine Rb ⟨?_⟩ | fail
                 exact Rf
               · rw [hd, List.all_cons] at ha
                 have c5 := sMsg_con (m := m) v w hb (by omega) a5 a6 x (hb.nt x (List.mem_of_getElem? hx'))
                 cases g4 : mesOk w.count x && grOk v w x && bkOk w x with
                 | true =>
                   rw [g4] at c5 ha
                   repeat' first | refine Ra ⟨?_⟩ | refine R0 c5 ⟨?_⟩ | refine Rd (fun h => ⟨?_⟩) fun h => ⟨?_⟩ | refine Rb ⟨?_⟩ | fail
                   refine .here ⟨mq - 1, by omega, ?_⟩
                   refine la [1, 3, 6] ?_
                   conv => whnf
                   refine ⟨rfl, rfl, i + 1, (by omega), rfl, rfl, rfl, by omega, (by rw [ha, hr]; simp)⟩
                 | false =>
                   rw [g4] at c5 ha
                   rw [ha, Bool.false_and, Bool.and_false]
                   repeat' first | refine Ra ⟨?_⟩ | refine R0 c5 ⟨?_⟩ | refine Rd (fun h => ⟨?_⟩) fun h => ⟨?_⟩ | refine Rb ⟨?_⟩ | fail
                   exact Rf
theorem sTurns_con (w : Wld) (p : Opn) (hb : BndW w) (hp : bndO 1073741823 p) {t v : List Ent} (ho : overT w.over = some (t, v)) : Con (E m) 93 0 [.agg w.c, .agg p.c] [] (.sl (strs (turnsV v p))) [] := by
 have hv := (overT_ok ho).2.2.2
 have hvl := treeOk_len hv
 have c1 := sView_con (m := m) w.over hb.over
 have h2 : viewT w.over = some v := by
  obtain ⟨g1, g2, g3⟩ := overT_iff.1 ho
  rw [viewT, g1]
  exact g2
 rw [h2] at c1
 have c2 := sTreeDo_con (m := m) v p (by omega) (bndE_ok hv) hp.1 hp.2.1 hp.2.2
 unfold turnsV
 by_cases h : (treeDo v p).2 = 0
 · rw [if_pos h]
   have c3 := sTurned_con (m := m) v (treeDo v p).1 hv (treeDo_ok hv p)
   refine con_of_cd tyOk mix Tryz.func93 rfl rfl rfl (Nat.le_of_ble_eq_true rfl) ?_
   repeat' first | refine Ra ⟨?_⟩ | refine R0 c1 ⟨?_⟩ | refine Rk [] 1 c2 ⟨?_⟩ | refine R0 c3 ⟨?_⟩ | refine Rd (fun h => ⟨?_⟩) fun h => ⟨?_⟩ | refine Rb ⟨?_⟩ | fail
   exact Rz
 · rw [if_neg h]
   refine con_of_cd tyOk mix Tryz.func93 rfl rfl rfl (Nat.le_of_ble_eq_true rfl) ?_
   repeat' first | refine Ra ⟨?_⟩ | refine R0 c1 ⟨?_⟩ | refine Rk [] 1 c2 ⟨?_⟩ | refine Rd (fun h => ⟨?_⟩) fun h => ⟨?_⟩ | refine Rb ⟨?_⟩ | fail
   exact Rz
theorem sIn_con (t : List Bs) (p : Bs) (ht : t.length ≤ 1048576) : Con (E m) 94 0 [.sl (strs t), .s p] [] (.b (decide (p ∈ t))) [] := by
 have e1 : (strs t).length = t.length := List.length_map ..
 refine con_of_cd tyOk mix Tryz.func94 rfl rfl rfl (Nat.le_of_ble_eq_true rfl) ?_
 repeat' first | refine Ra ⟨?_⟩ | refine Rd (fun h => ⟨?_⟩) fun h => ⟨?_⟩ | refine Rb ⟨?_⟩ | fail
 refine Cd.loop2 (fun mq tm S nx => ∃ (i : Nat), mq = (t.length - i) ∧ tm = [(0, .sl (strs t)), (1, .s p), (5, .k .i64 i)] ∧ S = [] ∧ nx = 0 ∧ (i ≤ t.length) ∧ (decide (p ∈ t) = decide (p ∈ t.drop i))) ?_ ?_
 · refine la [0, 1, 5] ?_
   conv => whnf
   refine ⟨rfl, rfl, _, 0, rfl, rfl, rfl, rfl, Nat.zero_le _, rfl⟩
 · rintro mq tm S nx ⟨i, hn, rfl, rfl, rfl, hi, ha⟩
   rcases drop_or t i hi with ⟨rfl, hd⟩ | ⟨x, r, hx', hd, hr, hlt⟩
   · rw [hd] at ha
     rw [ha]
     repeat' first | refine Ra ⟨?_⟩ | refine Rd (fun h => ⟨?_⟩) fun h => ⟨?_⟩ | refine Rb ⟨?_⟩ | fail
     exact Rf
   · rw [hd] at ha
     by_cases q : x = p
     · have : decide (p ∈ x :: r) = true := by simp [q]
       rw [this] at ha
       rw [ha]
       repeat' first | refine Ra ⟨?_⟩ | refine Rd (fun h => ⟨?_⟩) fun h => ⟨?_⟩ | refine Rb ⟨?_⟩ | fail
       exact Rf
     · have : decide (p ∈ x :: r) = decide (p ∈ r) := by simp [Ne.symm q]
       rw [this] at ha
       repeat' first | refine Ra ⟨?_⟩ | refine Rd (fun h => ⟨?_⟩) fun h => ⟨?_⟩ | refine Rb ⟨?_⟩ | fail
       refine .here ⟨mq - 1, by omega, ?_⟩
       refine la [0, 1, 5] ?_
       conv => whnf
       refine ⟨rfl, rfl, i + 1, (by omega), rfl, rfl, rfl, by omega, (by rw [ha, hr])⟩
theorem sBars_con (w : Wld) (p : Opn) (hb : BndW w) (hp : bndO 1073741823 p) {t v : List Ent} (ho : overT w.over = some (t, v)) : Con (E m) 42 0 [.agg w.c, .agg p.c] [] (.own 0) [(0, .own 93 ((barsV v w.clock w.leases p).map Lse.c))] := by
 have hll := hb.ll
 have e1 : (w.leases.map Lse.c).length = w.leases.length := List.length_map ..
 have c2 := sTurns_con (m := m) w p hb hp ho
 have htl : (turnsV v p).length ≤ 1048576 := by
  unfold turnsV
  split
  · have := turned_len v (treeDo v p).1
    omega
  · simp
 unfold barsV
 refine con_of_cd tyOk mix Tryz.func42 rfl rfl rfl (Nat.le_of_ble_eq_true rfl) ?_
 repeat' first | refine Ra ⟨?_⟩ | refine R0 c2 ⟨?_⟩ | refine Rd (fun h => ⟨?_⟩) fun h => ⟨?_⟩ | refine Rb ⟨?_⟩ | fail
 refine Cd.loop2 (fun mq tm S nx => ∃ (i : Nat) (A : List Lse), mq = (w.leases.length - i) ∧ tm = [(2, .bp 0 0), (5, .own 1), (6, .sl (strs (turnsV v p))), (7, .k .i64 i)] ∧ S = [(0, .box 54 w.c), (1, .own 93 (A.map Lse.c))] ∧ nx = 2 ∧ (i ≤ w.leases.length) ∧ (A = (w.leases.take i).filter (fun l => decide (w.clock < l.til) && decide (l.path ∈ turnsV v p))) ∧ (A.length ≤ i)) ?_ ?_
 · refine la [2, 5, 6, 7] ?_
   conv => whnf
   refine ⟨rfl, rfl, _, 0, [], rfl, rfl, rfl, rfl, Nat.zero_le _, (by simp), by simp⟩
 · rintro mq tm S nx ⟨i, A, hn, rfl, rfl, rfl, hi, hA, hAl⟩
   have e2 : (A.map Lse.c).length = A.length := List.length_map ..
   rcases drop_or w.leases i hi with ⟨rfl, hd⟩ | ⟨x, r, hx', hd, hr, hlt⟩
   · rw [List.take_length] at hA
     subst hA
     repeat' first | refine Ra ⟨?_⟩ | refine Rd (fun h => ⟨?_⟩) fun h => ⟨?_⟩ | refine Rb ⟨?_⟩ | fail
     exact Rf
   · have c3 := sIn_con (m := m) (turnsV v p) x.path htl
     have hstep : ∀ B, B = (w.leases.take i).filter (fun l => decide (w.clock < l.til) && decide (l.path ∈ turnsV v p)) ++ (if w.clock < x.til ∧ x.path ∈ turnsV v p then [x] else []) → B = (w.leases.take (i + 1)).filter (fun l => decide (w.clock < l.til) && decide (l.path ∈ turnsV v p)) := by
      intro B hB
      rw [hB, List.take_add_one, hx', List.filter_append]
      congr 1
      by_cases q1 : w.clock < x.til <;> by_cases q2 : x.path ∈ turnsV v p <;> simp [q1, q2]
     by_cases q1 : w.clock < x.til
     · by_cases q2 : x.path ∈ turnsV v p
       · rw [decide_eq_true q2] at c3
         repeat' first | refine Ra ⟨?_⟩ | refine R0 c3 ⟨?_⟩ | refine Rd (fun h => ⟨?_⟩) fun h => ⟨?_⟩ | refine Rb ⟨?_⟩ | fail
         refine .here ⟨mq - 1, by omega, ?_⟩
         refine la [2, 5, 6, 7] ?_
         conv => whnf
         refine ⟨rfl, rfl, i + 1, A ++ [x], (by omega), rfl, ?_, rfl, by omega, (by rw [← hstep _ rfl, if_pos ⟨q1, q2⟩, hA]), (by simp; omega)⟩
         rw [List.map_append]
         rfl
       · rw [decide_eq_false q2] at c3
         repeat' first | refine Ra ⟨?_⟩ | refine R0 c3 ⟨?_⟩ | refine Rd (fun h => ⟨?_⟩) fun h => ⟨?_⟩ | refine Rb ⟨?_⟩ | fail
         refine .here ⟨mq - 1, by omega, ?_⟩
         refine la [2, 5, 6, 7] ?_
         conv => whnf
         refine ⟨rfl, rfl, i + 1, A, (by omega), rfl, rfl, rfl, by omega, (by rw [← hstep _ rfl, if_neg (fun h => q2 h.2), hA]; simp), (by omega)⟩
     · repeat' first | refine Ra ⟨?_⟩ | refine Rd (fun h => ⟨?_⟩) fun h => ⟨?_⟩ | refine Rb ⟨?_⟩ | fail
       refine .here ⟨mq - 1, by omega, ?_⟩
       refine la [2, 5, 6, 7] ?_
       conv => whnf
       refine ⟨rfl, rfl, i + 1, A, (by omega), rfl, rfl, rfl, by omega, (by rw [← hstep _ rfl, if_neg (fun h => q1 h.1), hA]; simp), (by omega)⟩
theorem sWorldBars_con (w : Wld) (p : Opn) (hb : BndW w) (hp : bndO 1073741823 p) : Con (E m) 12 0 [.agg w.c, .agg p.c] [] (.own 0) [(0, .own 93 ((worldBars w p).map Lse.c))] := by
 have c1 := sWorldOk_con (m := m) w hb
 cases hok : worldOk w with
 | false =>
   rw [hok] at c1
   have hx : worldBars w p = [] := by simp [worldBars, hok]
   rw [hx]
   refine con_of_cd tyOk mix Tryz.func12 rfl rfl rfl (Nat.le_of_ble_eq_true rfl) ?_
   repeat' first | refine Ra ⟨?_⟩ | refine R0 c1 ⟨?_⟩ | refine Rd (fun h => ⟨?_⟩) fun h => ⟨?_⟩ | refine Rb ⟨?_⟩ | fail
   exact Rf
 | true =>
   rw [hok] at c1
   obtain ⟨t, v, ho, hw, hs⟩ := worldOk_some hok
   have hx : worldBars w p = barsV v w.clock w.leases p := by simp [worldBars, hok, hs]
   rw [hx]
   have c2 := sBars_con (m := m) w p hb hp ho
   refine con_of_cd tyOk mix Tryz.func12 rfl rfl rfl (Nat.le_of_ble_eq_true rfl) ?_
   repeat' first | refine Ra ⟨?_⟩ | refine R0 c1 ⟨?_⟩ | refine Rk [] 1 c2 ⟨?_⟩ | refine Rd (fun h => ⟨?_⟩) fun h => ⟨?_⟩ | refine Rb ⟨?_⟩ | fail
   exact Rf
end Go.Proofs.YtlicaibhgcenhaaGreatDoor
namespace Go.Proofs.YtlicaibhgcenhaaGreatDoor
open Go Go.RowKit
theorem joined_of {P : Program} {f : FuncId} {fn : Func} {s : ChangeSpec} {c : OpenClaim}
   (k1 : c.wf (OpenSpec.ofChange s) = true) (k2 : laidOutB P = true) (k3 : mapsRowed P = true) (k4 : fn.params.all (P.readableRec ·) = true) (k5 : namedTie P c.named s.vars = true)
   (k6 : (c.stops == []) = true) (k7 : (P.stops == []) = true) (k8 : (c.knobs == []) = true) (k9 : (P.stopKnobs == []) = true)
   (k10 : (c.inPlace == P.inPlace f) = true) (k11 : (c.unfollowed == P.unfollowed f) = true) (k12 : (c.recurses == P.recurses f) = true) (k13 : (c.named == P.varsNamed f) = true)
   (k14 : (c.maps == (fn.params.toList ++ s.plain.varTypes P).any (P.mapsRec ·)) = true) (k15 : (c.ifaces == (fn.params.toList ++ s.plain.varTypes P).any (P.ifacesRec ·)) = true) (k16 : (c.mapsOut == P.mapsAmong fn.resultTypes.toList) = true)
   (k17 : (c.loops == (fn.params.toList ++ s.plain.varTypes P).any (P.loopsFrom ·)) = true) (k18 : (c.wideKeys == (fn.params.toList ++ s.plain.varTypes P ++ fn.resultTypes.toList).any (P.wideKeysFrom ·)) = true)
   (k19 : s.vars.all (P.varReadable ·) = true) (k20 : fn.resultTypes.all (fun t => P.readableRec t && decide (t < P.types.size)) = true) (k21 : (c.ifacesOut == fn.resultTypes.toList.any (P.ifacesRec ·)) = true) (k22 : (c.loopsOut == fn.resultTypes.toList.any (P.loopsFrom ·)) = true) (k23 : (c.plainKeys == P.plainKeys) = true)
   (k24 : c.shortTexts.isNone = true) (k25 : P.stopsHeard = true) (k26 : P.mayEnter = true) (k27 : (c.lifted == P.liftsFinal) = true) (k28 : (P.make == some c.make) = true)
   (k29 : (c.kinds == (if c.domain.isEmpty then [] else fn.params.toList.map fun t => match P.underlying t with | some (.int k) => some k | _ => none)) = true) (k30 : (c.pinned == c.pinnedBy) = true)
   (k31 : (c.veiled == (fn.params.toList ++ s.plain.varTypes P ++ fn.resultTypes.toList).any (P.veiledRec ·)) = true) (k32 : c.veiledFits P fn.params.toList (fn.params.toList ++ s.plain.varTypes P ++ fn.resultTypes.toList) = true) : joinedFacts P f fn s c = true := by
 unfold joinedFacts
 simp only [Bool.and_eq_true]
 exact ⟨⟨⟨⟨⟨⟨⟨⟨⟨⟨⟨⟨⟨⟨⟨⟨⟨⟨⟨⟨⟨⟨⟨⟨⟨⟨⟨⟨⟨⟨⟨k1, k2⟩, k3⟩, k4⟩, k5⟩, k6⟩, k7⟩, k8⟩, k9⟩, k10⟩, k11⟩, k12⟩, k13⟩, k14⟩, k15⟩, k16⟩, k17⟩, k18⟩, k19⟩, k20⟩, k21⟩, k22⟩, k23⟩, k24⟩, k25⟩, k26⟩, k27⟩, k28⟩, k29⟩, k30⟩, k31⟩, k32⟩
def io0 : List Char := (List.map Char.ofNat [104, 97, 114, 110, 101, 115, 115, 32, 50, 100, 53, 97, 56, 54, 51, 48, 101, 50, 97, 56, 51, 51, 54, 101, 52, 48, 53, 100, 101, 51, 99, 98, 102, 48, 55, 99, 57, 50, 55, 53, 102, 54, 53, 98, 101, 48, 53, 99, 99, 98, 48, 56, 99, 48, 99, 99, 55, 51, 52, 49, 99, 100, 53, 57, 98, 102, 57, 50, 57, 97, 100, 49, 32, 99, 117, 116, 32, 97, 116, 32, 108, 111, 111, 112, 46, 101, 120, 97, 109, 112, 108, 101, 47, 112, 97, 114, 103, 101, 116, 105, 110, 103, 47, 108, 97, 119, 115, 46, 70, 110, 69, 120, 97, 99, 116, 68, 101, 115, 107, 82, 117, 110, 32, 108, 111, 111, 112, 46, 101, 120, 97, 109, 112, 108, 101, 47, 112, 97, 114, 103, 101, 116, 105, 110, 103, 47, 108, 97, 119, 115, 46, 70, 110, 68, 101, 115, 107, 32, 108, 111, 111, 112, 46, 101, 120, 97, 109, 112, 108, 101, 47, 112, 97, 114, 103, 101, 116, 105, 110, 103, 47, 108, 97, 119, 115, 46, 70, 110, 68, 101, 115, 107, 70, 114, 101, 115, 104, 32, 108, 111, 111, 112, 46, 101, 120, 97, 109, 112, 108, 101, 47, 112, 97, 114, 103, 101, 116, 105, 110, 103, 47, 108, 97, 119, 115, 46, 70, 110, 69, 120, 97, 99, 116, 87, 111, 114, 108, 100, 66, 97, 114, 115])
def ioW : List (List Char) := [(List.map Char.ofNat [104, 97, 114, 110, 101, 115, 115]), (List.map Char.ofNat [50, 100, 53, 97, 56, 54, 51, 48, 101, 50, 97, 56, 51, 51, 54, 101, 52, 48, 53, 100, 101, 51, 99, 98, 102, 48, 55, 99, 57, 50, 55, 53, 102, 54, 53, 98, 101, 48, 53, 99, 99, 98, 48, 56, 99, 48, 99, 99, 55, 51, 52, 49, 99, 100, 53, 57, 98, 102, 57, 50, 57, 97, 100, 49]), (List.map Char.ofNat [99, 117, 116]), (List.map Char.ofNat [97, 116]), (List.map Char.ofNat [108, 111, 111, 112, 46, 101, 120, 97, 109, 112, 108, 101, 47, 112, 97, 114, 103, 101, 116, 105, 110, 103, 47, 108, 97, 119, 115, 46, 70, 110, 69, 120, 97, 99, 116, 68, 101, 115, 107, 82, 117, 110]), (List.map Char.ofNat [108, 111, 111, 112, 46, 101, 120, 97, 109, 112, 108, 101, 47, 112, 97, 114, 103, 101, 116, 105, 110, 103, 47, 108, 97, 119, 115, 46, 70, 110, 68, 101, 115, 107]), (List.map Char.ofNat [108, 111, 111, 112, 46, 101, 120, 97, 109, 112, 108, 101, 47, 112, 97, 114, 103, 101, 116, 105, 110, 103, 47, 108, 97, 119, 115, 46, 70, 110, 68, 101, 115, 107, 70, 114, 101, 115, 104]), (List.map Char.ofNat [108, 111, 111, 112, 46, 101, 120, 97, 109, 112, 108, 101, 47, 112, 97, 114, 103, 101, 116, 105, 110, 103, 47, 108, 97, 119, 115, 46, 70, 110, 69, 120, 97, 99, 116, 87, 111, 114, 108, 100, 66, 97, 114, 115])]
def ioR : List (List Char) := ioW.drop 3
theorem io_text : Tryz.prog.initOrder = String.ofList io0 := by kernel_rfl
theorem io_signs : wordsSigns Tryz.prog.initOrder.toList = ioW := by
 rw [io_text, String.toList_ofList]
 kernel_rfl
theorem io_behind : behindMainWord (wordsSigns Tryz.prog.initOrder.toList) = (List.map Char.ofNat [99, 117, 116]) :: ioR := by
 rw [io_signs]
 kernel_rfl
theorem io_strip : stripLifts liftWords ((List.map Char.ofNat [99, 117, 116]) :: ioR) = ([], (List.map Char.ofNat [99, 117, 116]) :: ioR) := by kernel_rfl
theorem later0 : Tryz.prog.laysLater = false := by kernel_rfl
theorem reflect0 : Tryz.prog.bearsReflect = false := by kernel_rfl
theorem door0 : Tryz.prog.doorFits [] = true := by kernel_rfl
theorem may0 : Tryz.prog.mayEnter = true := by
 unfold Program.mayEnter
 rw [io_behind]
 simp only [io_strip, later0, reflect0, door0]
 kernel_rfl
theorem headLifts0 : Tryz.prog.headLifts = [] := by
 unfold Program.headLifts
 rw [io_behind, io_strip]
 kernel_rfl
theorem lifts0 : Tryz.prog.liftsFinal = false := by
 unfold Program.liftsFinal
 rw [io_behind, headLifts0]
 kernel_rfl
theorem make0 : Tryz.prog.make = some .cut := by
 unfold Program.make
 rw [io_behind]
 simp only [headLifts0]
 kernel_rfl
theorem mainIs0 : Tryz.prog.mainIs = some (true, (List.map Char.ofNat [50, 100, 53, 97, 56, 54, 51, 48, 101, 50, 97, 56, 51, 51, 54, 101, 52, 48, 53, 100, 101, 51, 99, 98, 102, 48, 55, 99, 57, 50, 55, 53, 102, 54, 53, 98, 101, 48, 53, 99, 99, 98, 48, 56, 99, 48, 99, 99, 55, 51, 52, 49, 99, 100, 53, 57, 98, 102, 57, 50, 57, 97, 100, 49])) := by
 unfold Program.mainIs
 rw [io_signs]
 kernel_rfl
theorem rowed0 : mapsRowed Tryz.prog = true := by kernel_rfl
theorem plainKeys0 : Tryz.prog.plainKeys = true := by kernel_rfl
theorem heard0 : Tryz.prog.stopsHeard = true := by kernel_rfl
theorem stops0 : Tryz.prog.stops = [] := by kernel_rfl
theorem knobs0 : Tryz.prog.stopKnobs = [] := by kernel_rfl
theorem looks0 : Tryz.prog.looks [] = false := by kernel_rfl
theorem noneGoes : Tryz.prog.funcs.any Func.goes = false := by kernel_rfl
theorem goes0 (c : OpenClaim) (h : c.start = .entering) : false = c.goesBy Tryz.prog := by
 unfold OpenClaim.goesBy Program.goesAt Program.goesFrom Program.goes
 rw [h, noneGoes]
 have : ∀ f, ((Tryz.prog.closure f).any fun g => (Tryz.prog.funcs[g]?).any Func.goes) = false := fun f => by
  rw [List.any_eq_false]
  intro g _
  cases hg : Tryz.prog.funcs[g]? with
  | none => simp
  | some fn =>
    have hm := Array.mem_of_getElem? hg
    have := Array.any_eq_false'.1 noneGoes fn hm
    simpa using this
 cases Tryz.prog.funcNamed c.func with
 | none => rfl
 | some f => simp [this f]
end Go.Proofs.YtlicaibhgcenhaaGreatDoor
namespace Go.Proofs.YtlicaibhgcenhaaGreatDoor
open Go Go.RowKit Go.Ab
variable {m : Int}
theorem gl_m {W : World} (hm : W.cell? ⟨1, 0, none⟩ = some (.int .i64 m)) : ∀ g cs, (E m).gl g = some cs → VI W noAv (.ep cs) (.pointer (some ⟨g, 0, none⟩)) := by
 intro g cs h
 have h' : lk (gls m) g = some cs := h
 unfold gls at h'
 rw [lk_cons] at h'
 split at h'
 · rename_i hg
   subst hg
   cases h'
   exact gl_one hm rfl (.k _ _)
 · simp [lk] at h'
theorem maxLen_shaped (W : World) (h : W.ShapedOpen Tryz.prog) : ∃ m, W.cell? ⟨1, 0, none⟩ = some (.int .i64 m) :=
 Go.Proofs.cell_of_shapedOpen_int (zero := #[.int .i64 0]) (t := 3) h (of_decide_eq_true (by kernel_rfl)) (by kernel_rfl) rfl (by kernel_rfl) (by kernel_rfl) Tryz.underlying3
end Go.Proofs.YtlicaibhgcenhaaGreatDoor
