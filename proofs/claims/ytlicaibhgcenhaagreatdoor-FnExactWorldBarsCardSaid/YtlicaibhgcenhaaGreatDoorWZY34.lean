/- Texts of this claim, set close: lemmas and contracts. -/
import Derived.Test.YtlicaibhgcenhaaGreatDoorWZY33
set_option linter.unusedSimpArgs false
set_option linter.unusedVariables false
set_option maxHeartbeats 1000000
set_option maxRecDepth 10000
namespace Go.Proofs.YtlicaibhgcenhaaGreatDoor
open Go Go.RowKit Go.Ab Go.Par
variable {m : Int}
def hldAt (v : List Ent) (w : Wld) (who : Int) (hs : List Hld) (j : Nat) : Bool := hsAt w.count hs j && match hs[j]? with
 | some h => soV v w.clock w.leases who h
 | none => true
theorem all_range_get {α : Type} (l : List α) (f : α → Bool) : l.all f = (List.range l.length).all fun j => match l[j]? with
   | some x => f x
   | none => true := by
 rw [Bool.eq_iff_iff, all_range, List.all_eq_true]
 constructor
 · intro h j hj
   rw [List.getElem?_eq_getElem hj]
   exact h _ (List.getElem_mem hj)
 · intro h x hx
   obtain ⟨j, hj, rfl⟩ := List.mem_iff_getElem.1 hx
   have := h j hj
   rw [List.getElem?_eq_getElem hj] at this
   exact this
theorem hldOk_eq {v : List Ent} {w : Wld} {k : Nat} {hs : List Hld} (h : w.holds[k]? = some hs) : hldOk v w k = (List.range hs.length).all (hldAt v w k hs) := by
 have h1 := holdsOf_nat h
 rw [hldOk, h1, hsOk, all_range_get hs]
 rw [Bool.eq_iff_iff, Bool.and_eq_true, all_range, all_range, all_range]
 constructor
 · rintro ⟨a, b⟩ j hj
   rw [hldAt, Bool.and_eq_true]
   refine ⟨a j hj, ?_⟩
   have := b j hj
   cases hq : hs[j]? with
   | none => rfl
   | some x => rw [hq] at this; exact this
 · intro a
   refine ⟨fun j hj => ?_, fun j hj => ?_⟩
   · have := a j hj; rw [hldAt, Bool.and_eq_true] at this; exact this.1
   · have := a j hj
     rw [hldAt, Bool.and_eq_true] at this
     have := this.2
     cases hq : hs[j]? with
     | none => rfl
     | some x => rw [hq] at this; exact this
theorem sHeld_con (v : List Ent) (w : Wld) (hb : BndW w) (hv : v.length ≤ 1073741824) (who : Nat) (hs : List Hld) (g3 : w.holds[who]? = some hs) : Con (E m) 91 0 [.agg w.c, .sl (v.map Ent.c), .k .i64 (who : Int)] [] (.b (hldOk v w who)) [] := by
 obtain ⟨hbx, hln⟩ := hb.hs hs (List.mem_of_getElem? g3)
 have e3 : (hs.map Hld.c).length = hs.length := List.length_map ..
 have e4 : (w.holds.map hlsC).length = w.holds.length := List.length_map ..
 have hwl := (List.getElem?_eq_some_iff.1 g3).1
 have g5 : (w.holds.map hlsC)[who]? = some (hlsC hs) := mg g3
 rw [hldOk_eq g3]
 refine con_of_cd tyOk mix Tryz.func91 rfl rfl rfl (Nat.le_of_ble_eq_true rfl) ?_
 repeat' first | refine Ra ⟨?_⟩ | refine Rd (fun h => ⟨?_⟩) fun h => ⟨?_⟩ | refine Rb ⟨?_⟩ | fail
 refine Cd.loop2 (fun mq tm S nx => ∃ (i : Nat), mq = (hs.length - i) ∧ tm = [(1, .sl (v.map Ent.c)), (2, .k .i64 (who : Int)), (3, .bp 0 0), (7, .sl (hs.map Hld.c)), (8, .k .i64 i)] ∧ S = [(0, .box 54 w.c)] ∧ nx = 1 ∧ (i ≤ hs.length) ∧ ((List.range hs.length).all (hldAt v w who hs) = ((List.range hs.length).drop i).all (hldAt v w who hs))) ?_ ?_
 · refine la [1, 2, 3, 7, 8] ?_
   conv => whnf
   refine ⟨rfl, rfl, _, 0, rfl, rfl, rfl, rfl, Nat.zero_le _, rfl⟩
 · rintro mq tm S nx ⟨i, hn, rfl, rfl, rfl, hi, ha⟩
   by_cases hlt : i < hs.length
   · have hx' : hs[i]? = some hs[i] := List.getElem?_eq_getElem hlt
     generalize hs[i] = x at hx'
     rw [drop_range hlt, List.all_cons] at ha
     have hbh := hbx x (List.mem_of_getElem? hx')
     have c1 := sPathOk_con (m := m) x.path (by have := hbh.1; omega)
     have c2 := sSo_con (m := m) v w hb hv who x
     have hat : hldAt v w who hs i = (pathOk x.path && decide (0 ≤ x.num) && decide (x.num ≤ w.count) && ((hs.take i).all fun k => !decide (k.path = x.path)) && soV v w.clock w.leases who x) := by rw [hldAt, hsAt, hx']
     by_cases hg : pathOk x.path = true ∧ 0 ≤ x.num ∧ x.num ≤ w.count ∧ soV v w.clock w.leases who x = true
     · obtain ⟨b1, b2, b3, b4⟩ := hg
       rw [b1] at c1
       rw [b4] at c2
       have hat : hldAt v w who hs i = (hs.take i).all fun k => !decide (k.path = x.path) := by rw [hat, b1, b4, decide_eq_true b2, decide_eq_true b3]; simp
       repeat' first | refine Ra ⟨?_⟩ | refine R0 c1 ⟨?_⟩ | refine R0 c2 ⟨?_⟩ | refine Rd (fun h => ⟨?_⟩) fun h => ⟨?_⟩ | refine Rb ⟨?_⟩ | fail
       obtain ⟨mo, hmo⟩ : ∃ mo, mo = mq := ⟨_, rfl⟩
       subst hmo
       have hno := hn
       refine Cd.loop2 (fun mq tm S nx => ∃ (k : Nat), mq = (i - k) ∧ tm = [(1, .sl (v.map Ent.c)), (2, .k .i64 (who : Int)), (3, .bp 0 0), (7, .sl (hs.map Hld.c)), (8, .k .i64 i), (9, .bp 1 0), (10, .k .i64 k)] ∧ S = [(0, .box 54 w.c), (1, .box 152 x.c)] ∧ nx = 2 ∧ (k ≤ i) ∧ ((hs.take k).all (fun y => !decide (y.path = x.path)) = true)) ?_ ?_
       · refine la [1, 2, 3, 7, 8, 9, 10] ?_
         conv => whnf
         refine ⟨rfl, rfl, _, 0, rfl, rfl, rfl, rfl, Nat.zero_le _, rfl⟩
       · rintro mq tm S nx ⟨k, hn, rfl, rfl, rfl, hk, hp⟩
         by_cases hki : k < i
         · have hy : hs[k]? = some (hs[k]'(by omega)) := List.getElem?_eq_getElem (by omega)
           generalize hs[k]'(by omega) = y at hy
           by_cases q2 : y.path = x.path
           · have hf : ((hs.take i).all fun k => !decide (k.path = x.path)) = false := all_false (i := k) (x := y) (by rw [List.getElem?_take, if_pos hki]; exact hy) (by simp [q2])
             rw [hat, hf, Bool.false_and] at ha
             rw [ha]
             repeat' first | refine Ra ⟨?_⟩ | refine Rd (fun h => ⟨?_⟩) fun h => ⟨?_⟩ | refine Rb ⟨?_⟩ | fail
             exact Rf
           · repeat' first | refine Ra ⟨?_⟩ | refine Rd (fun h => ⟨?_⟩) fun h => ⟨?_⟩ | refine Rb ⟨?_⟩ | fail
             refine .here ⟨mq - 1, by omega, ?_⟩
             refine la [1, 2, 3, 7, 8, 9, 10] ?_
             conv => whnf
             refine ⟨rfl, rfl, k + 1, (by omega), rfl, rfl, rfl, by omega, all_take_succ hp hy (by simp [q2])⟩
         · have : k = i := by omega
           subst this
           rw [hat, hp, Bool.true_and] at ha
           repeat' first | refine Ra ⟨?_⟩ | refine Rd (fun h => ⟨?_⟩) fun h => ⟨?_⟩ | refine Rb ⟨?_⟩ | fail
           refine .here ⟨mo - 1, by omega, ?_⟩
           refine la [1, 2, 3, 7, 8] ?_
           conv => whnf
           refine ⟨rfl, rfl, k + 1, (by omega), rfl, rfl, rfl, by omega, ha⟩
     · have hf : hldAt v w who hs i = false := by
         rw [hat, ← Bool.not_eq_true]
         intro h
         simp only [Bool.and_eq_true, decide_eq_true_eq] at h
         exact hg ⟨h.1.1.1.1, h.1.1.1.2, h.1.1.2, h.2⟩
       rw [hf, Bool.false_and] at ha
       rw [ha]
       repeat' first | refine Ra ⟨?_⟩ | refine R0 c1 ⟨?_⟩ | refine R0 c2 ⟨?_⟩ | refine Rd (fun h => ⟨?_⟩) fun h => ⟨?_⟩ | refine Rb ⟨?_⟩ | fail
       all_goals first | exact Rf | (exfalso; simp_all <;> omega)
   · have : i = hs.length := by omega
     subst this
     rw [drop_range_end] at ha
     rw [ha]
     repeat' first | refine Ra ⟨?_⟩ | refine Rd (fun h => ⟨?_⟩) fun h => ⟨?_⟩ | refine Rb ⟨?_⟩ | fail
     exact Rf
theorem sGiven_con (w : Wld) (hb : BndW w) (x : Mes) (k : Nat) (hs : List Hld) (f : Int) (hk : x.who = (k : Int)) (g3 : w.holds[k]? = some hs) (g1 : w.floors[k]? = some f) : Con (E m) 165 0 [.agg w.c, .agg x.c] [] (.b (decide (x.hold.num ≤ f) && hs.all fun h => !(decide (h.path = x.hold.path) && decide (h.num ≤ x.hold.num)))) [] := by
 obtain ⟨hbx, hln⟩ := hb.hs hs (List.mem_of_getElem? g3)
 have e3 : (hs.map Hld.c).length = hs.length := List.length_map ..
 have g5 : (w.holds.map hlsC)[k]? = some (hlsC hs) := mg g3
 obtain ⟨kind, who, h⟩ := x
 simp only at hk
 subst hk
 refine con_of_cd tyOk mix Tryz.func165 rfl rfl rfl (Nat.le_of_ble_eq_true rfl) ?_
 repeat' first | refine Ra ⟨?_⟩ | refine Rd (fun h => ⟨?_⟩) fun h => ⟨?_⟩ | refine Rb ⟨?_⟩ | fail
 refine Cd.loop2 (fun mq tm S nx => ∃ (i : Nat), mq = (hs.length - i) ∧ tm = [(2, .bp 0 0), (3, .bp 1 0), (5, .sl (hs.map Hld.c)), (6, .k .i64 i)] ∧ S = [(0, .box 54 w.c), (1, .box 154 (Mes.c ⟨kind, k, h⟩))] ∧ nx = 2 ∧ (i ≤ hs.length) ∧ ((hs.all fun y => !(decide (y.path = h.path) && decide (y.num ≤ h.num))) = ((hs.drop i).all fun y => !(decide (y.path = h.path) && decide (y.num ≤ h.num))))) ?_ ?_
 · refine la [2, 3, 5, 6] ?_
   conv => whnf
   refine ⟨rfl, rfl, _, 0, rfl, rfl, rfl, rfl, Nat.zero_le _, rfl⟩
 · rintro mq tm S nx ⟨i, hn, rfl, rfl, rfl, hi, ha⟩
   rcases drop_or hs i hi with ⟨rfl, hd⟩ | ⟨y, r, hy, hd, hr, hlt⟩
   · rw [hd] at ha
     rw [ha]
     repeat' first | refine Ra ⟨?_⟩ | refine Rd (fun h => ⟨?_⟩) fun h => ⟨?_⟩ | refine Rb ⟨?_⟩ | fail
     all_goals exact Rf
   · rw [hd, List.all_cons] at ha
     by_cases q1 : y.path = h.path
     · by_cases q2 : y.num ≤ h.num
       · rw [decide_eq_true q1, decide_eq_true q2] at ha
         simp only [Bool.and_self, Bool.not_true, Bool.false_and] at ha
         rw [ha, Bool.and_false]
         repeat' first | refine Ra ⟨?_⟩ | refine Rd (fun h => ⟨?_⟩) fun h => ⟨?_⟩ | refine Rb ⟨?_⟩ | fail
         exact Rf
       · rw [decide_eq_false q2] at ha
         repeat' first | refine Ra ⟨?_⟩ | refine Rd (fun h => ⟨?_⟩) fun h => ⟨?_⟩ | refine Rb ⟨?_⟩ | fail
         refine .here ⟨mq - 1, by omega, ?_⟩
         refine la [2, 3, 5, 6] ?_
         conv => whnf
         refine ⟨rfl, rfl, i + 1, (by omega), rfl, rfl, rfl, by omega, (by rw [ha, hr]; simp)⟩
     · rw [decide_eq_false q1] at ha
       repeat' first | refine Ra ⟨?_⟩ | refine Rd (fun h => ⟨?_⟩) fun h => ⟨?_⟩ | refine Rb ⟨?_⟩ | fail
       refine .here ⟨mq - 1, by omega, ?_⟩
       refine la [2, 3, 5, 6] ?_
       conv => whnf
       refine ⟨rfl, rfl, i + 1, (by omega), rfl, rfl, rfl, by omega, (by rw [ha, hr]; simp)⟩
theorem sMsg_con (v : List Ent) (w : Wld) (hb : BndW w) (hv : v.length ≤ 1073741824) (hhl : w.holds.length = 3) (hfl : w.floors.length = 3) (x : Mes) (hx : bndH x.hold) : Con (E m) 92 0 [.agg w.c, .sl (v.map Ent.c), .agg x.c] [] (.b (mesOk w.count x && grOk v w x && bkOk w x)) [] := by
 have c1 := sWho_con (m := m) x.who
 have c2 := sPathOk_con (m := m) x.hold.path (by have := hx.1; omega)
 by_cases hg : whoB x.who = true ∧ pathOk x.hold.path = true ∧ 0 ≤ x.hold.num ∧ x.hold.num ≤ w.count ∧ 1 ≤ x.kind ∧ x.kind ≤ 4
 · obtain ⟨b1, b2, b3, b4, b5, b6⟩ := hg
   obtain ⟨k, hk, hk3⟩ := who_nat b1
   have g1 : w.floors[k]? = some (w.floors[k]'(by omega)) := List.getElem?_eq_getElem (by omega)
   generalize w.floors[k]'(by omega) = f at g1
   have g3 : w.holds[k]? = some (w.holds[k]'(by omega)) := List.getElem?_eq_getElem (by omega)
   generalize w.holds[k]'(by omega) = hs at g3
   have g2 := floorOf_nat g1
   have g4 := holdsOf_nat g3
   have c3 := sSo_con (m := m) v w hb hv x.who x.hold
   have c4 := sGiven_con (m := m) w hb x k hs f hk g3 g1
   rw [b1] at c1
   rw [b2] at c2
   have e1 : mesOk w.count x = (decide (x.kind = 2) || decide (x.hold = bareH x.hold.path x.hold.num)) := by
    rw [mesOk, b1, b2, decide_eq_true b3, decide_eq_true b4, decide_eq_true b5, decide_eq_true b6]; simp
   have e2 : grOk v w x = (!decide (x.kind = 2) || decide (x.hold.num ≤ f) || soV v w.clock w.leases x.who x.hold) := by rw [grOk, hk, g2]
   have e3 : bkOk w x = (!decide (x.kind = 4) || (decide (x.hold.num ≤ f) && hs.all fun h => !(decide (h.path = x.hold.path) && decide (h.num ≤ x.hold.num)))) := by rw [bkOk, hk, g2, g4]
   rw [e1, e2, e3]
   clear e1 e2 e3
   obtain ⟨kind, who, h⟩ := x
   simp only at hk b3 b4 b5 b6 c1 c2 c3 c4 ⊢
   subst hk
   by_cases h2 : kind = 2
   · subst h2
     simp only [decide_true, Bool.true_or, Bool.not_true, Bool.false_or, Bool.true_and, (by decide : decide ((2 : Int) = 4) = false), Bool.not_false, Bool.and_true]
     by_cases q : h.num ≤ f
     · rw [decide_eq_true q, Bool.true_or]
       refine con_of_cd tyOk mix Tryz.func92 rfl rfl rfl (Nat.le_of_ble_eq_true rfl) ?_
       repeat' first | refine Ra ⟨?_⟩ | refine R0 c1 ⟨?_⟩ | refine R0 c2 ⟨?_⟩ | refine R0 c3 ⟨?_⟩ | refine Rd (fun h => ⟨?_⟩) fun h => ⟨?_⟩ | refine Rb ⟨?_⟩ | fail
       all_goals exact Rf
     · rw [decide_eq_false q, Bool.false_or]
       refine con_of_cd tyOk mix Tryz.func92 rfl rfl rfl (Nat.le_of_ble_eq_true rfl) ?_
       repeat' first | refine Ra ⟨?_⟩ | refine R0 c1 ⟨?_⟩ | refine R0 c2 ⟨?_⟩ | refine R0 c3 ⟨?_⟩ | refine Rd (fun h => ⟨?_⟩) fun h => ⟨?_⟩ | refine Rb ⟨?_⟩ | fail
       all_goals exact Rf
   · rw [decide_eq_false h2, Bool.false_or, Bool.not_false, Bool.true_or, Bool.true_or, Bool.and_true]
     have e9 : eh h (bareH h.path h.num) = decide (h = bareH h.path h.num) := by
      by_cases q : h = bareH h.path h.num
      · rw [decide_eq_true q]
        rw [← q]
        exact eh_eq _
      · rw [decide_eq_false q]; exact eh_ne q
     by_cases q : h = bareH h.path h.num
     · rw [decide_eq_true q] at e9 ⊢
       rw [Bool.true_and]
       by_cases h4 : kind = 4
       · subst h4
         simp only [decide_true, Bool.not_true, Bool.false_or]
         refine con_of_cd tyOk mix Tryz.func92 rfl rfl rfl (Nat.le_of_ble_eq_true rfl) ?_
         repeat' first | refine Ra ⟨?_⟩ | refine R0 c1 ⟨?_⟩ | refine R0 c2 ⟨?_⟩ | refine R0 c3 ⟨?_⟩ | refine R0 c4 ⟨?_⟩ | refine Rd (fun h => ⟨?_⟩) fun h => ⟨?_⟩ | refine Rb ⟨?_⟩ | fail
         all_goals exact Rf
       · rw [decide_eq_false h4]
         refine con_of_cd tyOk mix Tryz.func92 rfl rfl rfl (Nat.le_of_ble_eq_true rfl) ?_
         repeat' first | refine Ra ⟨?_⟩ | refine R0 c1 ⟨?_⟩ | refine R0 c2 ⟨?_⟩ | refine R0 c3 ⟨?_⟩ | refine R0 c4 ⟨?_⟩ | refine Rd (fun h => ⟨?_⟩) fun h => ⟨?_⟩ | refine Rb ⟨?_⟩ | fail
         all_goals exact Rf
     · rw [decide_eq_false q] at e9 ⊢
       rw [Bool.false_and]
       refine con_of_cd tyOk mix Tryz.func92 rfl rfl rfl (Nat.le_of_ble_eq_true rfl) ?_
       repeat' first | refine Ra ⟨?_⟩ | refine R0 c1 ⟨?_⟩ | refine R0 c2 ⟨?_⟩ | refine R0 c3 ⟨?_⟩ | refine R0 c4 ⟨?_⟩ | refine Rd (fun h => ⟨?_⟩) fun h => ⟨?_⟩ | refine Rb ⟨?_⟩ | fail
       all_goals exact Rf
 · have hf : mesOk w.count x = false := by
     rw [← Bool.not_eq_true]
     intro h
     simp only [mesOk, Bool.and_eq_true, decide_eq_true_eq] at h
     obtain ⟨⟨⟨⟨⟨⟨a1, a2⟩, a3⟩, a4⟩, a5⟩, a6⟩, a7⟩ := h
     exact hg ⟨a3, a4, a5, a6, a1, a2⟩
   rw [hf, Bool.false_and, Bool.false_and]
   by_cases b1 : whoB x.who = true
   · rw [b1] at c1
     by_cases b2 : pathOk x.hold.path = true
     · rw [b2] at c2
       have hg : ¬ (0 ≤ x.hold.num ∧ x.hold.num ≤ w.count ∧ 1 ≤ x.kind ∧ x.kind ≤ 4) := fun h => hg ⟨b1, b2, h⟩
       by_cases b3 : 0 ≤ x.hold.num
       · by_cases b4 : x.hold.num ≤ w.count
         · by_cases b5 : 1 ≤ x.kind
           · have b6 : ¬ x.kind ≤ 4 := fun h => hg ⟨b3, b4, b5, h⟩
             refine con_of_cd tyOk mix Tryz.func92 rfl rfl rfl (Nat.le_of_ble_eq_true rfl) ?_
             repeat' first | refine Ra ⟨?_⟩ | refine R0 c1 ⟨?_⟩ | refine R0 c2 ⟨?_⟩ | refine Rd (fun h => ⟨?_⟩) fun h => ⟨?_⟩ | refine Rb ⟨?_⟩ | fail
             all_goals exact Rf
           · refine con_of_cd tyOk mix Tryz.func92 rfl rfl rfl (Nat.le_of_ble_eq_true rfl) ?_
             repeat' first | refine Ra ⟨?_⟩ | refine R0 c1 ⟨?_⟩ | refine R0 c2 ⟨?_⟩ | refine Rd (fun h => ⟨?_⟩) fun h => ⟨?_⟩ | refine Rb ⟨?_⟩ | fail
             all_goals exact Rf
         · refine con_of_cd tyOk mix Tryz.func92 rfl rfl rfl (Nat.le_of_ble_eq_true rfl) ?_
           repeat' first | refine Ra ⟨?_⟩ | refine R0 c1 ⟨?_⟩ | refine R0 c2 ⟨?_⟩ | refine Rd (fun h => ⟨?_⟩) fun h => ⟨?_⟩ | refine Rb ⟨?_⟩ | fail
           all_goals exact Rf
       · refine con_of_cd tyOk mix Tryz.func92 rfl rfl rfl (Nat.le_of_ble_eq_true rfl) ?_
         repeat' first | refine Ra ⟨?_⟩ | refine R0 c1 ⟨?_⟩ | refine R0 c2 ⟨?_⟩ | refine Rd (fun h => ⟨?_⟩) fun h => ⟨?_⟩ | refine Rb ⟨?_⟩ | fail
         all_goals exact Rf
     · have b2 : pathOk x.hold.path = false := by simpa using b2
       rw [b2] at c2
       refine con_of_cd tyOk mix Tryz.func92 rfl rfl rfl (Nat.le_of_ble_eq_true rfl) ?_
       repeat' first | refine Ra ⟨?_⟩ | refine R0 c1 ⟨?_⟩ | refine R0 c2 ⟨?_⟩ | refine Rd (fun h => ⟨?_⟩) fun h => ⟨?_⟩ | refine Rb ⟨?_⟩ | fail
       all_goals exact Rf
   · have b1 : whoB x.who = false := by simpa using b1
     rw [b1] at c1
     refine con_of_cd tyOk mix Tryz.func92 rfl rfl rfl (Nat.le_of_ble_eq_true rfl) ?_
     repeat' first | refine Ra ⟨?_⟩ | refine R0 c1 ⟨?_⟩ | refine R0 c2 ⟨?_⟩ | refine Rd (fun h => ⟨?_⟩) fun h => ⟨?_⟩ | refine Rb ⟨?_⟩ | fail
     all_goals exact Rf
end Go.Proofs.YtlicaibhgcenhaaGreatDoor
