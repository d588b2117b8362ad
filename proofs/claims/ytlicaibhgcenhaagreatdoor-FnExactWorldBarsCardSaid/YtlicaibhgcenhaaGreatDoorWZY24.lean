/- Texts of this claim, set close: lemmas and contracts. -/
import Derived.Test.YtlicaibhgcenhaaGreatDoorWZY23
set_option linter.unusedSimpArgs false
set_option linter.unusedVariables false
set_option maxHeartbeats 1000000
set_option maxRecDepth 10000
namespace Go.Proofs.YtlicaibhgcenhaaGreatDoor
open Go Go.RowKit Go.Ab Go.Par
variable {m : Int}
def bndL (l : Lse) : Prop := l.path.length ≤ 1073741823
def bndH (h : Hld) : Prop := h.path.length ≤ 1073741823 ∧ h.ent.path.length ≤ 1073741823 ∧ h.ent.data.length ≤ 1073741823
structure BndW (w : Wld) : Prop where
 over : BndV w.over
 ls : ∀ l ∈ w.leases, bndL l
 ll : w.leases.length ≤ 1048576
 hs : ∀ l ∈ w.holds, (∀ h ∈ l, bndH h) ∧ l.length ≤ 1048576
 hl : w.holds.length ≤ 1048576
 fl : w.floors.length ≤ 1048576
 nt : ∀ x ∈ w.net, bndH x.hold
 nl : w.net.length ≤ 1048576
 op : bndO 1073741823 w.op
theorem drop_range {n i : Nat} (h : i < n) : (List.range n).drop i = i :: (List.range n).drop (i + 1) := by
 rw [List.drop_eq_getElem_cons (by simpa using h)]
 simp
theorem drop_range_end (n : Nat) : (List.range n).drop n = [] := by simp
theorem ix_self {ls : List Lse} {i : Nat} {l : Lse} (h : ls[i]? = some l) : decide (ixL (leaseB l.who l.path) ls = (i : Int)) = (ls.take i).all fun k => !leaseB l.who l.path k := by
 have hl : leaseB l.who l.path l = true := by simp [leaseB]
 cases ha : (ls.take i).all fun k => !leaseB l.who l.path k with
 | true => rw [ixL_hit ha h hl]; simp
 | false =>
   refine decide_eq_false fun he => ?_
   rcases ixL_or (leaseB l.who l.path) ls with ⟨h1, _⟩ | ⟨j, x, h1, h2, h3, h4⟩
   · omega
   · have : j = i := by omega
     subst this
     rw [h4] at ha
     cases ha
theorem hx_self {ls : List Hld} {i : Nat} {h : Hld} (g : ls[i]? = some h) : decide (ixL (hb h.path) ls = (i : Int)) = (ls.take i).all fun k => !decide (k.path = h.path) := by
 have hl : hb h.path h = true := by simp
 cases ha : (ls.take i).all fun k => !decide (k.path = h.path) with
 | true => rw [ixL_hit (f := hb h.path) ha g hl]; simp
 | false =>
   refine decide_eq_false fun he => ?_
   rcases ixL_or (hb h.path) ls with ⟨h1, _⟩ | ⟨j, x, h1, h2, h3, h4⟩
   · omega
   · have : j = i := by omega
     subst this
     rw [h4] at ha
     cases ha
def netB (cnt : Int) (net : List Mes) : Bool := decide (net.length ≤ 12) && net.all (mesOk cnt)
theorem netOk_con (w : Wld) (hb : BndW w) : Con (E m) 103 0 [.agg w.c] [] (.b (netB w.count w.net)) [] := by
 have hnl := hb.nl
 have e1 : (w.net.map Mes.c).length = w.net.length := List.length_map ..
 by_cases hl : w.net.length ≤ 12
 · have hx : netB w.count w.net = w.net.all (mesOk w.count) := by simp [netB, hl]
   rw [hx]
   refine con_of_cd tyOk mix Tryz.func103 rfl rfl rfl (Nat.le_of_ble_eq_true rfl) ?_
   repeat' first | refine Ra ⟨?_⟩ | refine Rd (fun h => ⟨?_⟩) fun h => ⟨?_⟩ | refine Rb ⟨?_⟩ | fail
   refine Cd.loop2 (fun mq tm S nx => ∃ (i : Nat), mq = (w.net.length - i) ∧ tm = [(1, .bp 0 0), (10, .sl (w.net.map Mes.c)), (11, .k .i64 ((w.net.map Mes.c).length : Int)), (12, .k .i64 i)] ∧ S = [(0, .box 54 w.c)] ∧ nx = 1 ∧ (i ≤ w.net.length) ∧ (w.net.all (mesOk w.count) = (w.net.drop i).all (mesOk w.count))) ?_ ?_
   · refine la [1, 10, 11, 12] ?_
     conv => whnf
     refine ⟨rfl, rfl, _, 0, rfl, rfl, rfl, rfl, Nat.zero_le _, rfl⟩
   · rintro mq tm S nx ⟨i, hn, rfl, rfl, rfl, hi, ha⟩
     rcases drop_or w.net i hi with ⟨rfl, hd⟩ | ⟨x, r, hx', hd, hr, hlt⟩
     · rw [hd] at ha
       rw [ha]
       repeat' first | refine Ra ⟨?_⟩ | refine Rd (fun h => ⟨?_⟩) fun h => ⟨?_⟩ | refine Rb ⟨?_⟩ | fail
       exact Rf
     · rw [hd] at ha
       have hbx := hb.nt x (List.mem_of_getElem? hx')
       obtain ⟨k, who, ⟨p, has, ⟨ep, ed, eb⟩, num, til⟩⟩ := x
       have c1 := within_con (m := m) k 1 4
       have c2 := isWho_con (m := m) who
       have c3 := iPathOk_con (m := m) p (by have := hbx.1; simp only at this; omega)
       have c4 := within_con (m := m) num 0 w.count
       cases hm : mesOk w.count ⟨k, who, ⟨p, has, ⟨ep, ed, eb⟩, num, til⟩⟩ with
       | true =>
         simp only [mesOk, bareH, ent0, Bool.and_eq_true, Bool.or_eq_true, decide_eq_true_eq, Hld.mk.injEq, Ent.mk.injEq, true_and] at hm
         obtain ⟨⟨⟨⟨⟨⟨b1, b2⟩, b3⟩, b4⟩, b5⟩, b6⟩, b7⟩ := hm
         rw [decide_eq_true b1, decide_eq_true b2] at c1
         rw [b3] at c2
         rw [b4] at c3
         rw [decide_eq_true b5, decide_eq_true b6] at c4
         have hr' : w.net.all (mesOk w.count) = (w.net.drop (i + 1)).all (mesOk w.count) := by rw [ha, hr]; simp [mesOk, bareH, ent0, *]
         by_cases h2 : k = 2
         · repeat' first | refine Ra ⟨?_⟩ | refine R0 c1 ⟨?_⟩ | refine R0 c2 ⟨?_⟩ | refine R0 c3 ⟨?_⟩ | refine R0 c4 ⟨?_⟩ | refine Rd (fun h => ⟨?_⟩) fun h => ⟨?_⟩ | refine Rb ⟨?_⟩ | fail
           refine .here ⟨mq - 1, by omega, ?_⟩
           refine la [1, 10, 11, 12] ?_
           conv => whnf
           refine ⟨rfl, rfl, i + 1, (by omega), rfl, rfl, rfl, by omega, hr'⟩
         · obtain ⟨q1, ⟨q2, q3, q4⟩, q5⟩ : has = false ∧ (ep = [] ∧ ed = false ∧ eb = []) ∧ til = 0 := by
             rcases b7 with h | h
             · exact absurd h h2
             · exact h
           subst q1 q2 q3 q4 q5
           have e9 := eh_eq ⟨p, false, ⟨[], false, []⟩, num, 0⟩
           repeat' first | refine Ra ⟨?_⟩ | refine R0 c1 ⟨?_⟩ | refine R0 c2 ⟨?_⟩ | refine R0 c3 ⟨?_⟩ | refine R0 c4 ⟨?_⟩ | refine Rd (fun h => ⟨?_⟩) fun h => ⟨?_⟩ | refine Rb ⟨?_⟩ | fail
           refine .here ⟨mq - 1, by omega, ?_⟩
           refine la [1, 10, 11, 12] ?_
           conv => whnf
           refine ⟨rfl, rfl, i + 1, (by omega), rfl, rfl, rfl, by omega, hr'⟩
       | false =>
         have hf : w.net.all (mesOk w.count) = false := all_false hx' hm
         rw [hf]
         simp only [mesOk, bareH, ent0] at hm
         repeat' first | refine Ra ⟨?_⟩ | refine R0 c1 ⟨?_⟩ | refine R0 c2 ⟨?_⟩ | refine R0 c3 ⟨?_⟩ | refine R0 c4 ⟨?_⟩ | refine Rd (fun h => ⟨?_⟩) fun h => ⟨?_⟩ | refine Rb ⟨?_⟩ | fail
         all_goals first | exact Rf | (exfalso; simp_all; done)
 · have hx : netB w.count w.net = false := by simp [netB, hl]
   rw [hx]
   refine con_of_cd tyOk mix Tryz.func103 rfl rfl rfl (Nat.le_of_ble_eq_true rfl) ?_
   repeat' first | refine Ra ⟨?_⟩ | refine Rd (fun h => ⟨?_⟩) fun h => ⟨?_⟩ | refine Rb ⟨?_⟩ | fail
   exact Rf
theorem leasesOk_con (w : Wld) (hb : BndW w) (hc : 0 ≤ w.clock ∧ w.clock ≤ 10000) : Con (E m) 104 0 [.agg w.c] [] (.b (lsOk w.count w.clock w.leases)) [] := by
 have hll := hb.ll
 have e1 : (w.leases.map Lse.c).length = w.leases.length := List.length_map ..
 unfold lsOk
 refine con_of_cd tyOk mix Tryz.func104 rfl rfl rfl (Nat.le_of_ble_eq_true rfl) ?_
 repeat' first | refine Ra ⟨?_⟩ | refine Rd (fun h => ⟨?_⟩) fun h => ⟨?_⟩ | refine Rb ⟨?_⟩ | fail
 refine Cd.loop2 (fun mq tm S nx => ∃ (i : Nat), mq = (w.leases.length - i) ∧ tm = [(1, .bp 0 0), (6, .sl (w.leases.map Lse.c)), (7, .k .i64 ((w.leases.map Lse.c).length : Int)), (8, .k .i64 i)] ∧ S = [(0, .box 54 w.c)] ∧ nx = 1 ∧ (i ≤ w.leases.length) ∧ ((List.range w.leases.length).all (lsAt w.count w.clock w.leases) = ((List.range w.leases.length).drop i).all (lsAt w.count w.clock w.leases))) ?_ ?_
 · refine la [1, 6, 7, 8] ?_
   conv => whnf
   refine ⟨rfl, rfl, _, 0, rfl, rfl, rfl, rfl, Nat.zero_le _, rfl⟩
 · rintro mq tm S nx ⟨i, hn, rfl, rfl, rfl, hi, ha⟩
   by_cases hlt : i < w.leases.length
   · have hx' : w.leases[i]? = some w.leases[i] := List.getElem?_eq_getElem hlt
     generalize w.leases[i] = x at hx'
     rw [drop_range hlt] at ha
     have hbx := hb.ls x (List.mem_of_getElem? hx')
     have e2 := ix_self hx'
     have c1 := isWho_con (m := m) x.who
     have c2 := iPathOk_con (m := m) x.path (by unfold bndL at hbx; omega)
     have c3 := within_con (m := m) x.num 1 w.count
     have c4 := leaseAt_con (m := m) w.leases x.who x.path hll
     cases hm : lsAt w.count w.clock w.leases i with
     | true =>
       have hr' : (List.range w.leases.length).all (lsAt w.count w.clock w.leases) = ((List.range w.leases.length).drop (i + 1)).all (lsAt w.count w.clock w.leases) := by rw [ha]; simp [hm]
       rw [lsAt, hx'] at hm
       simp only [Bool.and_eq_true, decide_eq_true_eq] at hm
       obtain ⟨⟨⟨⟨⟨b1, b2⟩, b3⟩, b4⟩, b5⟩, b6⟩ := hm
       rw [b6] at e2
       have b7 := of_decide_eq_true e2
       rw [b1] at c1
       rw [b2] at c2
       rw [decide_eq_true b3, decide_eq_true b4] at c3
       rw [b7] at c4
       repeat' first | refine Ra ⟨?_⟩ | refine R0 c1 ⟨?_⟩ | refine R0 c2 ⟨?_⟩ | refine R0 c3 ⟨?_⟩ | refine R0 c4 ⟨?_⟩ | refine Rd (fun h => ⟨?_⟩) fun h => ⟨?_⟩ | refine Rb ⟨?_⟩ | fail
       refine .here ⟨mq - 1, by omega, ?_⟩
       refine la [1, 6, 7, 8] ?_
       conv => whnf
       refine ⟨rfl, rfl, i + 1, (by omega), rfl, rfl, rfl, by omega, hr'⟩
     | false =>
       have hf : (List.range w.leases.length).all (lsAt w.count w.clock w.leases) = false := by rw [ha]; simp [hm]
       rw [hf]
       rw [lsAt, hx'] at hm
       simp only [← e2] at hm
       repeat' first | refine Ra ⟨?_⟩ | refine R0 c1 ⟨?_⟩ | refine R0 c2 ⟨?_⟩ | refine R0 c3 ⟨?_⟩ | refine R0 c4 ⟨?_⟩ | refine Rd (fun h => ⟨?_⟩) fun h => ⟨?_⟩ | refine Rb ⟨?_⟩ | fail
       all_goals first | exact Rf | (exfalso; simp_all; done)
   · have : i = w.leases.length := by omega
     subst this
     rw [drop_range_end] at ha
     rw [ha]
     repeat' first | refine Ra ⟨?_⟩ | refine Rd (fun h => ⟨?_⟩) fun h => ⟨?_⟩ | refine Rb ⟨?_⟩ | fail
     exact Rf
theorem holdsOk_con (w : Wld) (hb : BndW w) : Con (E m) 105 0 [.agg w.c] [] (.b (w.holds.all (hsOk w.count))) [] := by
 have hhl := hb.hl
 have e1 : (w.holds.map hlsC).length = w.holds.length := List.length_map ..
 refine con_of_cd tyOk mix Tryz.func105 rfl rfl rfl (Nat.le_of_ble_eq_true rfl) ?_
 repeat' first | refine Ra ⟨?_⟩ | refine Rd (fun h => ⟨?_⟩) fun h => ⟨?_⟩ | refine Rb ⟨?_⟩ | fail
 refine Cd.loop2 (fun mq tm S nx => ∃ (i : Nat), mq = (w.holds.length - i) ∧ tm = [(1, .bp 0 0), (8, .sl (w.holds.map hlsC)), (9, .k .i64 ((w.holds.map hlsC).length : Int)), (10, .k .i64 i)] ∧ S = [(0, .box 54 w.c)] ∧ nx = 1 ∧ (i ≤ w.holds.length) ∧ (w.holds.all (hsOk w.count) = (w.holds.drop i).all (hsOk w.count))) ?_ ?_
 · refine la [1, 8, 9, 10] ?_
   conv => whnf
   refine ⟨rfl, rfl, _, 0, rfl, rfl, rfl, rfl, Nat.zero_le _, rfl⟩
 · rintro mq tm S nx ⟨i, hn, rfl, rfl, rfl, hi, ha⟩
   rcases drop_or w.holds i hi with ⟨rfl, hd⟩ | ⟨hs, r, hx', hd, hr, hlt⟩
   · rw [hd] at ha
     rw [ha]
     repeat' first | refine Ra ⟨?_⟩ | refine Rd (fun h => ⟨?_⟩) fun h => ⟨?_⟩ | refine Rb ⟨?_⟩ | fail
     exact Rf
   · rw [hd] at ha
     obtain ⟨hbx, hln⟩ := hb.hs hs (List.mem_of_getElem? hx')
     have e3 : (hs.map Hld.c).length = hs.length := List.length_map ..
     repeat' first | refine Ra ⟨?_⟩ | refine Rd (fun h => ⟨?_⟩) fun h => ⟨?_⟩ | refine Rb ⟨?_⟩ | fail
     obtain ⟨mo, hmo⟩ : ∃ mo, mo = mq := ⟨_, rfl⟩
     subst hmo
     have hno := hn
     refine Cd.loop2 (fun mq tm S nx => ∃ (k : Nat), mq = (hs.length - k) ∧ tm = [(1, .bp 0 0), (4, .sl (hs.map Hld.c)), (8, .sl (w.holds.map hlsC)), (9, .k .i64 ((w.holds.map hlsC).length : Int)), (10, .k .i64 i), (14, .sl (hs.map Hld.c)), (15, .k .i64 ((hs.map Hld.c).length : Int)), (16, .k .i64 k)] ∧ S = [(0, .box 54 w.c)] ∧ nx = 1 ∧ (k ≤ hs.length) ∧ (hsOk w.count hs = ((List.range hs.length).drop k).all (hsAt w.count hs))) ?_ ?_
     · refine la [1, 4, 8, 9, 10, 14, 15, 16] ?_
       conv => whnf
       refine ⟨rfl, rfl, _, 0, rfl, rfl, rfl, rfl, Nat.zero_le _, rfl⟩
     · rintro mq tm S nx ⟨k, hn, rfl, rfl, rfl, hk, hp⟩
       by_cases hkl : k < hs.length
       · have hy : hs[k]? = some hs[k] := List.getElem?_eq_getElem hkl
         generalize hs[k] = x at hy
         rw [drop_range hkl] at hp
         have hbh := hbx x (List.mem_of_getElem? hy)
         have e2 := hx_self hy
         have c1 := iPathOk_con (m := m) x.path (by have := hbh.1; omega)
         have c2 := within_con (m := m) x.num 0 w.count
         have c3 := holdAt_con (m := m) hs x.path hln
         cases hm : hsAt w.count hs k with
         | true =>
           have hr' : hsOk w.count hs = ((List.range hs.length).drop (k + 1)).all (hsAt w.count hs) := by rw [hp]; simp [hm]
           rw [hsAt, hy] at hm
           simp only [Bool.and_eq_true, decide_eq_true_eq] at hm
           obtain ⟨⟨⟨b1, b2⟩, b3⟩, b4⟩ := hm
           rw [b4] at e2
           have b7 := of_decide_eq_true e2
           rw [b1] at c1
           rw [decide_eq_true b2, decide_eq_true b3] at c2
           rw [b7] at c3
           repeat' first | refine Ra ⟨?_⟩ | refine R0 c1 ⟨?_⟩ | refine R0 c2 ⟨?_⟩ | refine R0 c3 ⟨?_⟩ | refine Rd (fun h => ⟨?_⟩) fun h => ⟨?_⟩ | refine Rb ⟨?_⟩ | fail
           refine .here ⟨mq - 1, by omega, ?_⟩
           refine la [1, 4, 8, 9, 10, 14, 15, 16] ?_
           conv => whnf
           refine ⟨rfl, rfl, k + 1, (by omega), rfl, rfl, rfl, by omega, hr'⟩
         | false =>
           have hf : w.holds.all (hsOk w.count) = false := all_false hx' (by rw [hp]; simp [hm])
           rw [hf]
           rw [hsAt, hy] at hm
           simp only [← e2] at hm
           repeat' first | refine Ra ⟨?_⟩ | refine R0 c1 ⟨?_⟩ | refine R0 c2 ⟨?_⟩ | refine R0 c3 ⟨?_⟩ | refine Rd (fun h => ⟨?_⟩) fun h => ⟨?_⟩ | refine Rb ⟨?_⟩ | fail
           all_goals first | exact Rf | (exfalso; simp_all; done)
       · have : k = hs.length := by omega
         subst this
         rw [drop_range_end] at hp
         repeat' first | refine Ra ⟨?_⟩ | refine Rd (fun h => ⟨?_⟩) fun h => ⟨?_⟩ | refine Rb ⟨?_⟩ | fail
         refine .here ⟨mo - 1, by omega, ?_⟩
         refine la [1, 8, 9, 10] ?_
         conv => whnf
         refine ⟨rfl, rfl, i + 1, (by omega), rfl, rfl, rfl, by omega, (by rw [ha, hr]; simp [hp])⟩
theorem op_eq0 (p : Opn) : decide (p = op0) = (decide (p.kind = 0) && (decide (p.path = []) && (decide (p.tgt = []) && (decide (p.data = []) && true)))) := by
 obtain ⟨a, b, c, d⟩ := p
 simp [op0, Bool.eq_iff_iff]
theorem waitOk_con (v : List Ent) (w : Wld) (hb : BndW w) (hv : treeOk v = true) : Con (E m) 106 0 [.agg w.c, .sl (v.map Ent.c)] [] (.b (waitOk v w)) [] := by
 have hop := hb.op
 have c1 := iTreeDo_con (m := m) v w.op (bE0 hv) hop.1 hop.2.1 hop.2.2
 unfold waitOk
 cases hw : w.waits with
 | false =>
   rw [if_neg (by simp), op_eq0]
   refine con_of_cd tyOk mix Tryz.func106 rfl rfl rfl (Nat.le_of_ble_eq_true rfl) ?_
   repeat' first | refine Ra ⟨?_⟩ | refine Rk [] 1 c1 ⟨?_⟩ | refine Rd (fun h => ⟨?_⟩) fun h => ⟨?_⟩ | refine Rb ⟨?_⟩ | fail
   exact Rf
 | true =>
   rw [if_pos rfl]
   refine con_of_cd tyOk mix Tryz.func106 rfl rfl rfl (Nat.le_of_ble_eq_true rfl) ?_
   repeat' first | refine Ra ⟨?_⟩ | refine Rk [] 1 c1 ⟨?_⟩ | refine Rd (fun h => ⟨?_⟩) fun h => ⟨?_⟩ | refine Rb ⟨?_⟩ | fail
   exact Rf
theorem holdSo_con (v : List Ent) (w : Wld) (hb : BndW w) (hv : treeOk v = true) (who : Int) (h : Hld) : Con (E m) 173 0 [.agg w.c, .sl (v.map Ent.c), .k .i64 who, .agg h.c] [] (.b (seenAs v h && fitsL w.clock w.leases who h)) [] := by
 have hll := hb.ll
 have c1 := iGet_con (m := m) v h.path (bE0 hv)
 have c2 := leaseAt_con (m := m) w.leases who h.path hll
 rw [if_pos hv] at c1
 have hsn : seenAs v h = (decide ((entGet v h.path).isSome = h.has) && decide ((entGet v h.path).getD ent0 = h.ent)) := rfl
 have hlo : fitsL w.clock w.leases who h = match leaseOf w.leases who h.path with
  | some l => decide (w.clock < l.til) && decide (h.num ≤ l.num) && decide (h.til ≤ l.til)
  | none => false := rfl
 have ends : ∀ (g : Ent) (has : Bool), entD (entGet v h.path) = .tup [.agg g.c, .b has] → (entGet v h.path).isSome = has → (entGet v h.path).getD ent0 = g → Con (E m) 173 0 [.agg w.c, .sl (v.map Ent.c), .k .i64 who, .agg h.c] [] (.b (seenAs v h && fitsL w.clock w.leases who h)) [] := by
  intro g has g1 g2 g3
  rw [g1] at c1
  rw [g2, g3] at hsn
  have e3 : ee h.ent g = decide (g = h.ent) := by
   by_cases q : g = h.ent
   · rw [decide_eq_true q, q]; exact ee_eq _
   · rw [decide_eq_false q]; exact ee_ne fun e => q e.symm
  by_cases q1 : has = h.has
  · by_cases q2 : g = h.ent
    · have q3 : seenAs v h = true := by rw [hsn, decide_eq_true q1, decide_eq_true q2]; rfl
      rw [q3, Bool.true_and]
      rw [decide_eq_true q2] at e3
      rcases ixL_or (leaseB who h.path) w.leases with ⟨h1, h2⟩ | ⟨i, l, h1, h2, h3, h4⟩
      · have : leaseOf w.leases who h.path = none := by
          rw [leaseOf, List.find?_eq_none]
          intro x hx
          rw [h2 x hx]
          simp
        rw [this] at hlo
        simp only at hlo
        rw [hlo]
        rw [h1] at c2
        subst q1
        have q0 : (h.has == h.has) = true := by simp
        refine con_of_cd tyOk mix Tryz.func173 rfl rfl rfl (Nat.le_of_ble_eq_true rfl) ?_
        repeat' first | refine Ra ⟨?_⟩ | refine R0 c1 ⟨?_⟩ | refine R0 c2 ⟨?_⟩ | refine Rd (fun h => ⟨?_⟩) fun h => ⟨?_⟩ | refine Rb ⟨?_⟩ | fail
        exact Rf
      · have : leaseOf w.leases who h.path = some l := by
          have hi := (List.getElem?_eq_some_iff.1 h2).1
          rw [leaseOf, List.find?_eq_some_iff_getElem]
          refine ⟨h3, i, hi, (List.getElem?_eq_some_iff.1 h2).2, fun j hj => ?_⟩
          have := List.all_eq_true.1 h4 w.leases[j] (List.mem_take_iff_getElem.2 ⟨j, by omega, rfl⟩)
          simpa using this
        rw [this] at hlo
        simp only at hlo
        rw [hlo]
        rw [h1] at c2
        subst q1
        have q0 : (h.has == h.has) = true := by simp
        refine con_of_cd tyOk mix Tryz.func173 rfl rfl rfl (Nat.le_of_ble_eq_true rfl) ?_
        repeat' first | refine Ra ⟨?_⟩ | refine R0 c1 ⟨?_⟩ | refine R0 c2 ⟨?_⟩ | refine Rd (fun h => ⟨?_⟩) fun h => ⟨?_⟩ | refine Rb ⟨?_⟩ | fail
        all_goals exact Rf
    · have q3 : seenAs v h = false := by rw [hsn, decide_eq_false q2]; simp
      rw [q3, Bool.false_and]
      rw [decide_eq_false q2] at e3
      subst q1
      have q0 : (h.has == h.has) = true := by simp
      refine con_of_cd tyOk mix Tryz.func173 rfl rfl rfl (Nat.le_of_ble_eq_true rfl) ?_
      repeat' first | refine Ra ⟨?_⟩ | refine R0 c1 ⟨?_⟩ | refine R0 c2 ⟨?_⟩ | refine Rd (fun h => ⟨?_⟩) fun h => ⟨?_⟩ | refine Rb ⟨?_⟩ | fail
      exact Rf
  · have q3 : seenAs v h = false := by rw [hsn, decide_eq_false q1]; simp
    rw [q3, Bool.false_and]
    have q4 : (h.has == has) = false := by simpa using fun e => q1 e.symm
    refine con_of_cd tyOk mix Tryz.func173 rfl rfl rfl (Nat.le_of_ble_eq_true rfl) ?_
    repeat' first | refine Ra ⟨?_⟩ | refine R0 c1 ⟨?_⟩ | refine R0 c2 ⟨?_⟩ | refine Rd (fun h => ⟨?_⟩) fun h => ⟨?_⟩ | refine Rb ⟨?_⟩ | fail
    exact Rf
 cases hg : entGet v h.path with
 | none => exact ends ent0 false (by rw [hg]; rfl) (by rw [hg]; rfl) (by rw [hg]; rfl)
 | some g => exact ends g true (by rw [hg]; rfl) (by rw [hg]; rfl) (by rw [hg]; rfl)
end Go.Proofs.YtlicaibhgcenhaaGreatDoor
