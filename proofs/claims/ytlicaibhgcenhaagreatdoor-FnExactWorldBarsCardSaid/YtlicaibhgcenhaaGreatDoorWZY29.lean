/- Texts of this claim, set close: lemmas and contracts. -/
import Derived.Test.YtlicaibhgcenhaaGreatDoorWZY24
set_option linter.unusedSimpArgs false
set_option linter.unusedVariables false
set_option maxHeartbeats 1000000
set_option maxRecDepth 10000
namespace Go.Proofs.YtlicaibhgcenhaaGreatDoor
open Go Go.RowKit Go.Ab Go.Par
variable {m : Int}
theorem who_nat {n : Int} (h : whoB n = true) : ∃ k : Nat, n = (k : Int) ∧ k < 3 := by
 simp only [whoB, Bool.and_eq_true, decide_eq_true_eq] at h
 exact ⟨n.toNat, by omega, by omega⟩
theorem floorOf_nat {fl : List Int} {k : Nat} {f : Int} (h : fl[k]? = some f) : floorOf fl (k : Int) = f := by
 simp [floorOf, List.getD, h]
theorem holdsOf_nat {hs : List (List Hld)} {k : Nat} {l : List Hld} (h : hs[k]? = some l) : holdsOf hs (k : Int) = l := by
 simp [holdsOf, List.getD, h]
theorem soV_of {v : List Ent} {clk : Int} {ls : List Lse} {who : Int} {h : Hld} (hc : clk < h.til) : soV v clk ls who h = (seenAs v h && fitsL clk ls who h) := by
 rw [soV, decide_eq_false (by omega), Bool.false_or]
theorem soV_off {v : List Ent} {clk : Int} {ls : List Lse} {who : Int} {h : Hld} (hc : ¬ clk < h.til) : soV v clk ls who h = true := by
 rw [soV, decide_eq_true (by omega), Bool.true_or]
def heldB (v : List Ent) (w : Wld) : Bool := ((List.range w.holds.length).all fun i => (holdsOf w.holds (i : Int)).all (soV v w.clock w.leases i)) && w.net.all (grOk v w)
theorem heldOk_con (v : List Ent) (w : Wld) (hb : BndW w) (hv : treeOk v = true) (hfl : w.floors.length = 3) (hwho : ∀ x ∈ w.net, whoB x.who = true) : Con (E m) 107 0 [.agg w.c, .sl (v.map Ent.c)] [] (.b (heldB v w)) [] := by
 have hhl := hb.hl
 have hnl := hb.nl
 have e1 : (w.holds.map hlsC).length = w.holds.length := List.length_map ..
 have e2 : (w.net.map Mes.c).length = w.net.length := List.length_map ..
 refine con_of_cd tyOk mix Tryz.func107 rfl rfl rfl (Nat.le_of_ble_eq_true rfl) ?_
 repeat' first | refine Ra ⟨?_⟩ | refine Rd (fun h => ⟨?_⟩) fun h => ⟨?_⟩ | refine Rb ⟨?_⟩ | fail
 refine Cd.loop2 (fun mq tm S nx => ∃ (i : Nat), mq = (w.holds.length - i) ∧ tm = [(1, .sl (v.map Ent.c)), (2, .bp 0 0), (13, .sl (w.holds.map hlsC)), (14, .k .i64 ((w.holds.map hlsC).length : Int)), (15, .k .i64 i)] ∧ S = [(0, .box 54 w.c)] ∧ nx = 1 ∧ (i ≤ w.holds.length) ∧ (((List.range w.holds.length).all fun i => (holdsOf w.holds (i : Int)).all (soV v w.clock w.leases i)) = (((List.range w.holds.length).drop i).all fun i => (holdsOf w.holds (i : Int)).all (soV v w.clock w.leases i)))) ?_ ?_
 · refine la [1, 2, 13, 14, 15] ?_
   conv => whnf
   refine ⟨rfl, rfl, _, 0, rfl, rfl, rfl, rfl, Nat.zero_le _, rfl⟩
 · rintro mq tm S nx ⟨i, hn, rfl, rfl, rfl, hi, ha⟩
   by_cases hlt : i < w.holds.length
   · have hx' : w.holds[i]? = some w.holds[i] := List.getElem?_eq_getElem hlt
     generalize w.holds[i] = hs at hx'
     rw [drop_range hlt, List.all_cons, holdsOf_nat hx'] at ha
     obtain ⟨hbx, hln⟩ := hb.hs hs (List.mem_of_getElem? hx')
     have e3 : (hs.map Hld.c).length = hs.length := List.length_map ..
     repeat' first | refine Ra ⟨?_⟩ | refine Rd (fun h => ⟨?_⟩) fun h => ⟨?_⟩ | refine Rb ⟨?_⟩ | fail
     obtain ⟨mo, hmo⟩ : ∃ mo, mo = mq := ⟨_, rfl⟩
     subst hmo
     have hno := hn
     refine Cd.loop2 (fun mq tm S nx => ∃ (k : Nat), mq = (hs.length - k) ∧ tm = [(1, .sl (v.map Ent.c)), (2, .bp 0 0), (5, .k .i64 i), (13, .sl (w.holds.map hlsC)), (14, .k .i64 ((w.holds.map hlsC).length : Int)), (15, .k .i64 i), (20, .sl (hs.map Hld.c)), (21, .k .i64 ((hs.map Hld.c).length : Int)), (22, .k .i64 k)] ∧ S = [(0, .box 54 w.c)] ∧ nx = 1 ∧ (k ≤ hs.length) ∧ (hs.all (soV v w.clock w.leases i) = (hs.drop k).all (soV v w.clock w.leases i))) ?_ ?_
     · refine la [1, 2, 5, 13, 14, 15, 20, 21, 22] ?_
       conv => whnf
       refine ⟨rfl, rfl, _, 0, rfl, rfl, rfl, rfl, Nat.zero_le _, rfl⟩
     · rintro mq tm S nx ⟨k, hn, rfl, rfl, rfl, hk, hp⟩
       rcases (drop_or hs k hk).symm with ⟨x, r, hy, hd, hr, hlt2⟩ | ⟨rfl, hd⟩
       · rw [hd, List.all_cons] at hp
         have c1 := holdSo_con (m := m) v w hb hv i x
         by_cases hc : w.clock < x.til
         · rw [soV_of hc] at hp
           cases hs : seenAs v x && fitsL w.clock w.leases i x with
           | true =>
             rw [hs] at c1 hp
             repeat' first | refine Ra ⟨?_⟩ | refine R0 c1 ⟨?_⟩ | refine Rd (fun h => ⟨?_⟩) fun h => ⟨?_⟩ | refine Rb ⟨?_⟩ | fail
             refine .here ⟨mq - 1, by omega, ?_⟩
             refine la [1, 2, 5, 13, 14, 15, 20, 21, 22] ?_
             conv => whnf
             refine ⟨rfl, rfl, k + 1, (by omega), rfl, rfl, rfl, by omega, (by rw [hp, hr]; simp)⟩
           | false =>
             rw [hs] at c1 hp
             have hf : heldB v w = false := by rw [heldB, ha, hp]; simp
             rw [hf]
             repeat' first | refine Ra ⟨?_⟩ | refine R0 c1 ⟨?_⟩ | refine Rd (fun h => ⟨?_⟩) fun h => ⟨?_⟩ | refine Rb ⟨?_⟩ | fail
             exact Rf
         · rw [soV_off hc] at hp
           repeat' first | refine Ra ⟨?_⟩ | refine Rd (fun h => ⟨?_⟩) fun h => ⟨?_⟩ | refine Rb ⟨?_⟩ | fail
           refine .here ⟨mq - 1, by omega, ?_⟩
           refine la [1, 2, 5, 13, 14, 15, 20, 21, 22] ?_
           conv => whnf
           refine ⟨rfl, rfl, k + 1, (by omega), rfl, rfl, rfl, by omega, (by rw [hp, hr]; simp)⟩
       · rw [hd] at hp
         repeat' first | refine Ra ⟨?_⟩ | refine Rd (fun h => ⟨?_⟩) fun h => ⟨?_⟩ | refine Rb ⟨?_⟩ | fail
         refine .here ⟨mo - 1, by omega, ?_⟩
         refine la [1, 2, 13, 14, 15] ?_
         conv => whnf
         refine ⟨rfl, rfl, i + 1, (by omega), rfl, rfl, rfl, by omega, (by rw [ha, hp]; simp)⟩
   · have hie : i = w.holds.length := by omega
     subst hie
     rw [drop_range_end] at ha
     have hx : heldB v w = w.net.all (grOk v w) := by rw [heldB, ha]; simp
     rw [hx]
     repeat' first | refine Ra ⟨?_⟩ | refine Rd (fun h => ⟨?_⟩) fun h => ⟨?_⟩ | refine Rb ⟨?_⟩ | fail
     refine Cd.loop2 (fun mq tm S nx => ∃ (i : Nat), mq = (w.net.length - i) ∧ tm = [(1, .sl (v.map Ent.c)), (2, .bp 0 0), (42, .sl (w.net.map Mes.c)), (43, .k .i64 ((w.net.map Mes.c).length : Int)), (44, .k .i64 i)] ∧ S = [(0, .box 54 w.c)] ∧ nx = 1 ∧ (i ≤ w.net.length) ∧ (w.net.all (grOk v w) = (w.net.drop i).all (grOk v w))) ?_ ?_
     · refine la [1, 2, 42, 43, 44] ?_
       conv => whnf
       refine ⟨rfl, rfl, _, 0, rfl, rfl, rfl, rfl, Nat.zero_le _, rfl⟩
     · rintro mq tm S nx ⟨i, hn, rfl, rfl, rfl, hi, ha⟩
       rcases drop_or w.net i hi with ⟨rfl, hd⟩ | ⟨x, r, hx', hd, hr, hlt⟩
       · rw [hd] at ha
         rw [ha]
         repeat' first | refine Ra ⟨?_⟩ | refine Rd (fun h => ⟨?_⟩) fun h => ⟨?_⟩ | refine Rb ⟨?_⟩ | fail
         exact Rf
       · rw [hd, List.all_cons] at ha
         obtain ⟨k, hk1, hk2⟩ := who_nat (hwho x (List.mem_of_getElem? hx'))
         obtain ⟨kind, who, h⟩ := x
         simp only at hk1
         subst hk1
         have g1 : w.floors[k]? = some (w.floors[k]'(by omega)) := List.getElem?_eq_getElem (by omega)
         generalize w.floors[k]'(by omega) = f at g1
         have g2 := floorOf_nat g1
         have c1 := holdSo_con (m := m) v w hb hv k h
         by_cases q1 : kind = 2
         · by_cases q2 : w.clock < h.til
           · by_cases q3 : f < h.num
             · have q4 : grOk v w ⟨kind, k, h⟩ = (seenAs v h && fitsL w.clock w.leases k h) := by
                 rw [grOk, soV_of q2]
                 simp only [g2]
                 rw [decide_eq_true q1, decide_eq_false (by omega)]
                 simp
               rw [q4] at ha
               subst q1
               cases hs : seenAs v h && fitsL w.clock w.leases k h with
               | true =>
                 rw [hs] at c1 ha
                 repeat' first | refine Ra ⟨?_⟩ | refine R0 c1 ⟨?_⟩ | refine Rd (fun h => ⟨?_⟩) fun h => ⟨?_⟩ | refine Rb ⟨?_⟩ | fail
                 refine .here ⟨mq - 1, by omega, ?_⟩
                 refine la [1, 2, 42, 43, 44] ?_
                 conv => whnf
                 refine ⟨rfl, rfl, i + 1, (by omega), rfl, rfl, rfl, by omega, (by rw [ha, hr]; simp)⟩
               | false =>
                 rw [hs] at c1 ha
                 rw [Bool.false_and] at ha
                 rw [ha]
                 repeat' first | refine Ra ⟨?_⟩ | refine R0 c1 ⟨?_⟩ | refine Rd (fun h => ⟨?_⟩) fun h => ⟨?_⟩ | refine Rb ⟨?_⟩ | fail
                 exact Rf
             · have q4 : grOk v w ⟨kind, k, h⟩ = true := by
                 rw [grOk]
                 simp only [g2]
                 rw [decide_eq_true (by omega : h.num ≤ f)]
                 simp
               rw [q4] at ha
               subst q1
               repeat' first | refine Ra ⟨?_⟩ | refine Rd (fun h => ⟨?_⟩) fun h => ⟨?_⟩ | refine Rb ⟨?_⟩ | fail
               refine .here ⟨mq - 1, by omega, ?_⟩
               refine la [1, 2, 42, 43, 44] ?_
               conv => whnf
               refine ⟨rfl, rfl, i + 1, (by omega), rfl, rfl, rfl, by omega, (by rw [ha, hr]; simp)⟩
           · have q4 : grOk v w ⟨kind, k, h⟩ = true := by
               rw [grOk, soV_off q2]
               simp
             rw [q4] at ha
             subst q1
             repeat' first | refine Ra ⟨?_⟩ | refine Rd (fun h => ⟨?_⟩) fun h => ⟨?_⟩ | refine Rb ⟨?_⟩ | fail
             refine .here ⟨mq - 1, by omega, ?_⟩
             refine la [1, 2, 42, 43, 44] ?_
             conv => whnf
             refine ⟨rfl, rfl, i + 1, (by omega), rfl, rfl, rfl, by omega, (by rw [ha, hr]; simp)⟩
         · have q4 : grOk v w ⟨kind, k, h⟩ = true := by
             rw [grOk, decide_eq_false q1]
             simp
           rw [q4] at ha
           repeat' first | refine Ra ⟨?_⟩ | refine Rd (fun h => ⟨?_⟩) fun h => ⟨?_⟩ | refine Rb ⟨?_⟩ | fail
           refine .here ⟨mq - 1, by omega, ?_⟩
           refine la [1, 2, 42, 43, 44] ?_
           conv => whnf
           refine ⟨rfl, rfl, i + 1, (by omega), rfl, rfl, rfl, by omega, (by rw [ha, hr]; simp)⟩
theorem uniq_at {hs : List Hld} (hu : hs.Pairwise fun a b => a.path ≠ b.path) {p : Bs} {n : Int} {i : Nat} {x : Hld} (h : hs[i]? = some x) (hx : hb p x = true) : (hs.all fun h => !(decide (h.path = p) && decide (h.num ≤ n))) = !decide (x.num ≤ n) := by
 have hx : x.path = p := of_decide_eq_true hx
 have hi := (List.getElem?_eq_some_iff.1 h).1
 have hxe := (List.getElem?_eq_some_iff.1 h).2
 rw [List.pairwise_iff_getElem] at hu
 by_cases q : x.num ≤ n
 · rw [decide_eq_true q]
   exact all_false h (by simp [hx, q])
 · rw [decide_eq_false q, Bool.not_false, List.all_eq_true]
   intro y hy
   obtain ⟨j, hj, rfl⟩ := List.mem_iff_getElem.1 hy
   by_cases e : j = i
   · subst e; rw [hxe]; simp [q]
   · have : hs[j].path ≠ p := by
       rcases Nat.lt_or_gt_of_ne e with g | g
       · have := hu j i hj hi g; rw [hxe, hx] at this; exact this
       · have := hu i j hi hj g; rw [hxe, hx] at this; exact fun e => this e.symm
     simp [this]
theorem backOk_con (w : Wld) (hb : BndW w) (hhl : w.holds.length = 3) (hfl : w.floors.length = 3) (hwho : ∀ x ∈ w.net, whoB x.who = true) (hu : ∀ l ∈ w.holds, l.Pairwise fun a b => a.path ≠ b.path) : Con (E m) 108 0 [.agg w.c] [] (.b (w.net.all (bkOk w))) [] := by
 have hnl := hb.nl
 have e2 : (w.net.map Mes.c).length = w.net.length := List.length_map ..
 refine con_of_cd tyOk mix Tryz.func108 rfl rfl rfl (Nat.le_of_ble_eq_true rfl) ?_
 repeat' first | refine Ra ⟨?_⟩ | refine Rd (fun h => ⟨?_⟩) fun h => ⟨?_⟩ | refine Rb ⟨?_⟩ | fail
 refine Cd.loop2 (fun mq tm S nx => ∃ (i : Nat), mq = (w.net.length - i) ∧ tm = [(1, .bp 0 0), (7, .sl (w.net.map Mes.c)), (8, .k .i64 ((w.net.map Mes.c).length : Int)), (9, .k .i64 i)] ∧ S = [(0, .box 54 w.c)] ∧ nx = 1 ∧ (i ≤ w.net.length) ∧ (w.net.all (bkOk w) = (w.net.drop i).all (bkOk w))) ?_ ?_
 · refine la [1, 7, 8, 9] ?_
   conv => whnf
   refine ⟨rfl, rfl, _, 0, rfl, rfl, rfl, rfl, Nat.zero_le _, rfl⟩
 · rintro mq tm S nx ⟨i, hn, rfl, rfl, rfl, hi, ha⟩
   rcases drop_or w.net i hi with ⟨rfl, hd⟩ | ⟨x, r, hx', hd, hr, hlt⟩
   · rw [hd] at ha
     rw [ha]
     repeat' first | refine Ra ⟨?_⟩ | refine Rd (fun h => ⟨?_⟩) fun h => ⟨?_⟩ | refine Rb ⟨?_⟩ | fail
     exact Rf
   · rw [hd, List.all_cons] at ha
     obtain ⟨k, hk1, hk2⟩ := who_nat (hwho x (List.mem_of_getElem? hx'))
     obtain ⟨kind, who, h⟩ := x
     simp only at hk1
     subst hk1
     have g1 : w.floors[k]? = some (w.floors[k]'(by omega)) := List.getElem?_eq_getElem (by omega)
     generalize w.floors[k]'(by omega) = f at g1
     have g2 := floorOf_nat g1
     have g3 : w.holds[k]? = some (w.holds[k]'(by omega)) := List.getElem?_eq_getElem (by omega)
     generalize w.holds[k]'(by omega) = hs at g3
     have g4 := holdsOf_nat g3
     have hbx := hb.hs hs (List.mem_of_getElem? g3)
     have c1 := holdAt_con (m := m) hs h.path hbx.2
     have q : bkOk w ⟨kind, k, h⟩ = (!decide (kind = 4) || (decide (h.num ≤ f) && hs.all fun x => !(decide (x.path = h.path) && decide (x.num ≤ h.num)))) := by
      rw [bkOk]
      simp only [g2, g4]
     rw [q] at ha
     by_cases q1 : kind = 4
     · rw [decide_eq_true q1] at ha
       subst q1
       by_cases q2 : h.num ≤ f
       · rw [decide_eq_true q2] at ha
         rcases ixL_or (Go.Proofs.YtlicaibhgcenhaaGreatDoor.hb h.path) hs with ⟨h1, h2⟩ | ⟨j, y, h1, h2, h3, h4⟩
         · rw [h1] at c1
           have q3 : (hs.all fun x => !(decide (x.path = h.path) && decide (x.num ≤ h.num))) = true := by
            rw [List.all_eq_true]
            intro y hy
            have := h2 y hy
            simp only [decide_eq_false_iff_not] at this
            simp [this]
           rw [q3] at ha
           repeat' first | refine Ra ⟨?_⟩ | refine R0 c1 ⟨?_⟩ | refine Rd (fun h => ⟨?_⟩) fun h => ⟨?_⟩ | refine Rb ⟨?_⟩ | fail
           refine .here ⟨mq - 1, by omega, ?_⟩
           refine la [1, 7, 8, 9] ?_
           conv => whnf
           refine ⟨rfl, rfl, i + 1, (by omega), rfl, rfl, rfl, by omega, (by rw [ha, hr]; simp)⟩
         · rw [h1] at c1
           rw [uniq_at (hu hs (List.mem_of_getElem? g3)) h2 h3] at ha
           by_cases q3 : y.num ≤ h.num
           · rw [decide_eq_true q3] at ha
             simp only [Bool.not_true, Bool.and_false, Bool.or_false, Bool.false_and] at ha
             rw [ha]
             repeat' first | refine Ra ⟨?_⟩ | refine R0 c1 ⟨?_⟩ | refine Rd (fun h => ⟨?_⟩) fun h => ⟨?_⟩ | refine Rb ⟨?_⟩ | fail
             exact Rf
           · rw [decide_eq_false q3] at ha
             repeat' first | refine Ra ⟨?_⟩ | refine R0 c1 ⟨?_⟩ | refine Rd (fun h => ⟨?_⟩) fun h => ⟨?_⟩ | refine Rb ⟨?_⟩ | fail
             refine .here ⟨mq - 1, by omega, ?_⟩
             refine la [1, 7, 8, 9] ?_
             conv => whnf
             refine ⟨rfl, rfl, i + 1, (by omega), rfl, rfl, rfl, by omega, (by rw [ha, hr]; simp)⟩
       · rw [decide_eq_false q2] at ha
         simp only [Bool.not_true, Bool.false_and, Bool.or_false] at ha
         rw [ha]
         repeat' first | refine Ra ⟨?_⟩ | refine R0 c1 ⟨?_⟩ | refine Rd (fun h => ⟨?_⟩) fun h => ⟨?_⟩ | refine Rb ⟨?_⟩ | fail
         exact Rf
     · rw [decide_eq_false q1] at ha
       repeat' first | refine Ra ⟨?_⟩ | refine R0 c1 ⟨?_⟩ | refine Rd (fun h => ⟨?_⟩) fun h => ⟨?_⟩ | refine Rb ⟨?_⟩ | fail
       refine .here ⟨mq - 1, by omega, ?_⟩
       refine la [1, 7, 8, 9] ?_
       conv => whnf
       refine ⟨rfl, rfl, i + 1, (by omega), rfl, rfl, rfl, by omega, (by rw [ha, hr]; simp)⟩
end Go.Proofs.YtlicaibhgcenhaaGreatDoor
