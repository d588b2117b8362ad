/- Texts of this claim, set close: lemmas and contracts. -/
import Derived.Test.YtlicaibhgcenhaaGreatDoorWZY21
import Derived.Test.YtlicaibhgcenhaaGreatDoorWZY4
set_option linter.unusedSimpArgs false
set_option linter.unusedVariables false
set_option maxHeartbeats 1000000
set_option maxRecDepth 10000
namespace Go.Proofs.YtlicaibhgcenhaaGreatDoor
open Go Go.RowKit Go.Ab Go.Par
variable {m : Int}
def layC (l : List Mrk) : List D := [.sl (l.map Mrk.c)]
end Go.Proofs.YtlicaibhgcenhaaGreatDoor
namespace Go.Par
open Go.Ab Go.Proofs.YtlicaibhgcenhaaGreatDoor
def Ovr.c (o : Ovr) : List D := [.sl (o.base.map Ent.c), .sl (o.layers.map layC), .sl (o.upper.map Mrk.c)]
end Go.Par
namespace Go.Proofs.YtlicaibhgcenhaaGreatDoor
open Go Go.RowKit Go.Ab Go.Par
variable {m : Int}
structure BndV (o : Ovr) : Prop where
 base : ∀ e ∈ o.base, e.path.length ≤ 1073741823 ∧ e.data.length ≤ 1073741823
 lay : ∀ l ∈ o.layers, (∀ e ∈ l, e.path.length ≤ 1073741823 ∧ e.data.length ≤ 1073741823) ∧ l.length ≤ 1048576
 upper : ∀ e ∈ o.upper, e.path.length ≤ 1073741823 ∧ e.data.length ≤ 1073741823
 bl : o.base.length ≤ 1048576
 ll : o.layers.length ≤ 1048576
 ul : o.upper.length ≤ 1048576
theorem BndV.b4 {o : Ovr} (h : BndV o) : ∀ e ∈ o.base, e.path.length ≤ 1073741824 ∧ e.data.length ≤ 1073741824 := fun e he => by have := h.base e he; omega
def trD : Option (List Ent × List Ent) → D
 | some x => .tup [.sl (x.1.map Ent.c), .sl (x.2.map Ent.c), .b true]
 | none => .tup [.sl [], .sl [], .b false]
theorem stack_cons (t : List Ent) (l : List Mrk) (r : List (List Mrk)) : stackT t (l :: r) = match layerOn l t with | some u => stackT u r | none => none := rfl
theorem iOverTrees_con (o : Ovr) (hb : BndV o) : Con (E m) 170 0 [.agg o.c] [] (trD (overT o)) [] := by
 have hbl := hb.bl
 have hll := hb.ll
 have hul := hb.ul
 have e1 : (o.layers.map layC).length = o.layers.length := List.length_map ..
 have c1 := iTreeOk_con (m := m) o.base hb.b4
 have c2 := copyEnts_con (m := m) o.base (by omega)
 cases h1 : treeOk o.base with
 | false =>
   rw [h1] at c1
   have hx : overT o = none := by simp [overT, lowerT, h1]
   rw [hx]
   refine con_of_cd tyOk mix Tryz.func170 rfl rfl rfl (Nat.le_of_ble_eq_true rfl) ?_
   repeat' first | refine Ra ⟨?_⟩ | refine R0 c1 ⟨?_⟩ | refine Rd (fun h => ⟨?_⟩) fun h => ⟨?_⟩ | refine Rb ⟨?_⟩ | fail
   exact Rz
 | true =>
   rw [h1] at c1
   by_cases h2 : o.layers.length ≤ 4
   · have hx : overT o = match stackT o.base o.layers with | some t => (match layerOn o.upper t with | some v => if o.upper = diffL t v then some (t, v) else none | none => none) | none => none := by
       unfold overT lowerT
       rw [if_pos ⟨h1, h2⟩] <;> cases stackT o.base o.layers <;> rfl
     refine con_of_cd tyOk mix Tryz.func170 rfl rfl rfl (Nat.le_of_ble_eq_true rfl) ?_
     repeat' first | refine Ra ⟨?_⟩ | refine R0 c1 ⟨?_⟩ | refine Rk [] 1 c2 ⟨?_⟩ | refine Rd (fun h => ⟨?_⟩) fun h => ⟨?_⟩ | refine Rb ⟨?_⟩ | fail
     refine Cd.loop2 (fun mq tm S nx => ∃ (i : Nat) (now : List Ent), mq = (o.layers.length - i) ∧ tm = [(1, .bp 0 0), (5, .sl (now.map Ent.c)), (26, .sl (o.layers.map layC)), (27, .k .i64 ((o.layers.map layC).length : Int)), (28, .k .i64 i)] ∧ S = [(0, .box 49 o.c)] ∧ nx = 1 ∧ (i ≤ o.layers.length) ∧ (stackT o.base o.layers = stackT now (o.layers.drop i)) ∧ (treeOk now = true)) ?_ ?_
     · refine li [5] [1, 5, 26, 27, 28] ?_
       conv => whnf
       refine ⟨rfl, rfl, _, 0, o.base, rfl, rfl, rfl, rfl, by omega, rfl, h1⟩
     · rintro mq tm S nx ⟨i, now, hn, rfl, rfl, rfl, hi, hS, hok⟩
       have hnl := treeOk_len hok
       rcases drop_or o.layers i hi with ⟨rfl, hd⟩ | ⟨l, r, hl', hd, hr, hlt⟩
       · rw [hd] at hS
         have c3 := iLayerOn_con (m := m) o.upper now hb.upper (bE0 hok)
         rw [hx, hS]
         simp only [stackT]
         cases hv : layerOn o.upper now with
         | none =>
           rw [hv] at c3
           simp only [Option.getD_none, Option.isSome_none] at c3
           repeat' first | refine Ra ⟨?_⟩ | refine Rk [] 1 c3 ⟨?_⟩ | refine Rd (fun h => ⟨?_⟩) fun h => ⟨?_⟩ | refine Rb ⟨?_⟩ | fail
           exact Rz
         | some v =>
           rw [hv] at c3
           simp only [Option.getD_some, Option.isSome_some] at c3
           have k1 := layerOn_some hv
           have c4 := iLayerDiff_con (m := m) now v hok k1.2.2.1
           have kd := layer_len (diff_ok hok k1.2.2.1)
           have c5 := layerSame_con (m := m) o.upper (diffL now v) hul (by omega)
           by_cases hu : o.upper = diffL now v
           · rw [decide_eq_true hu] at c5
             simp only [if_pos hu]
             repeat' first | refine Ra ⟨?_⟩ | refine Rk [] 1 c3 ⟨?_⟩ | refine Rk [] 1 c4 ⟨?_⟩ | refine R0 c5 ⟨?_⟩ | refine Rd (fun h => ⟨?_⟩) fun h => ⟨?_⟩ | refine Rb ⟨?_⟩ | fail
             exact Rz
           · rw [decide_eq_false hu] at c5
             simp only [if_neg hu]
             repeat' first | refine Ra ⟨?_⟩ | refine Rk [] 1 c3 ⟨?_⟩ | refine Rk [] 1 c4 ⟨?_⟩ | refine R0 c5 ⟨?_⟩ | refine Rd (fun h => ⟨?_⟩) fun h => ⟨?_⟩ | refine Rb ⟨?_⟩ | fail
             exact Rz
       · rw [hd, stack_cons] at hS
         have c3 := iLayerOn_con (m := m) l now (hb.lay l (List.mem_of_getElem? hl')).1 (bE0 hok)
         cases hv : layerOn l now with
         | none =>
           rw [hv] at c3 hS
           simp only [Option.getD_none, Option.isSome_none] at c3
           simp only at hS
           rw [hx, hS]
           repeat' first | refine Ra ⟨?_⟩ | refine Rk [] 1 c3 ⟨?_⟩ | refine Rd (fun h => ⟨?_⟩) fun h => ⟨?_⟩ | refine Rb ⟨?_⟩ | fail
           exact Rz
         | some v =>
           rw [hv] at c3 hS
           simp only [Option.getD_some, Option.isSome_some] at c3
           simp only at hS
           have k1 := layerOn_some hv
           repeat' first | refine Ra ⟨?_⟩ | refine Rk [] 1 c3 ⟨?_⟩ | refine Rd (fun h => ⟨?_⟩) fun h => ⟨?_⟩ | refine Rb ⟨?_⟩ | fail
           refine .here ⟨mq - 1, by omega, ?_⟩
           refine li [5] [1, 5, 26, 27, 28] ?_
           conv => whnf
           refine ⟨rfl, rfl, i + 1, v, (by omega), rfl, rfl, rfl, by omega, (by rw [hS, hr]), k1.2.2.1⟩
   · have hx : overT o = none := by simp [overT, lowerT, h2]
     rw [hx]
     refine con_of_cd tyOk mix Tryz.func170 rfl rfl rfl (Nat.le_of_ble_eq_true rfl) ?_
     repeat' first | refine Ra ⟨?_⟩ | refine R0 c1 ⟨?_⟩ | refine Rd (fun h => ⟨?_⟩) fun h => ⟨?_⟩ | refine Rb ⟨?_⟩ | fail
     exact Rz
def vwD : Option (List Ent × List Ent) → D
 | some x => .tup [.sl (x.2.map Ent.c), .b true]
 | none => .tup [.sl [], .b false]
theorem iOverView_con (o : Ovr) (hb : BndV o) : Con (E m) 101 0 [.agg o.c] [] (vwD (overT o)) [] := by
 have c1 := iOverTrees_con (m := m) o hb
 cases h : overT o
 all_goals
  rw [h] at c1
  refine con_of_cd tyOk mix Tryz.func101 rfl rfl rfl (Nat.le_of_ble_eq_true rfl) ?_
  repeat' first | refine Ra ⟨?_⟩ | refine R0 c1 ⟨?_⟩ | refine Rd (fun h => ⟨?_⟩) fun h => ⟨?_⟩ | refine Rb ⟨?_⟩ | fail
  exact Rf
end Go.Proofs.YtlicaibhgcenhaaGreatDoor
namespace Go.Par
open Go.Ab
structure Lse where
 who : Int
 path : Bs
 num : Int
 til : Int
 deriving DecidableEq
structure Hld where
 path : Bs
 has : Bool
 ent : Ent
 num : Int
 til : Int
 deriving DecidableEq
structure Mes where
 kind : Int
 who : Int
 hold : Hld
 deriving DecidableEq
structure Wld where
 over : Ovr
 clock : Int
 count : Int
 leases : List Lse
 holds : List (List Hld)
 floors : List Int
 net : List Mes
 waits : Bool
 op : Opn
 deriving DecidableEq
structure Evn where
 kind : Int
 who : Int
 path : Bs
 op : Opn
 pos : Int
 deriving DecidableEq
def w0 : Wld := ⟨ov0, 0, 0, [], [], [], [], false, op0⟩
def whoB (n : Int) : Bool := decide (0 ≤ n) && decide (n ≤ 2)
def leaseB (who : Int) (p : Bs) (l : Lse) : Bool := decide (l.who = who) && decide (l.path = p)
def leaseOf (ls : List Lse) (who : Int) (p : Bs) : Option Lse := ls.find? (leaseB who p)
def bareH (p : Bs) (n : Int) : Hld := ⟨p, false, ent0, n, 0⟩
def floorOf (fl : List Int) (who : Int) : Int := fl.getD who.toNat 0
def holdsOf (hs : List (List Hld)) (who : Int) : List Hld := hs.getD who.toNat []
def fitsL (clk : Int) (ls : List Lse) (who : Int) (h : Hld) : Bool := match leaseOf ls who h.path with
 | some l => decide (clk < l.til) && decide (h.num ≤ l.num) && decide (h.til ≤ l.til)
 | none => false
def seenAs (v : List Ent) (h : Hld) : Bool := decide ((entGet v h.path).isSome = h.has) && decide ((entGet v h.path).getD ent0 = h.ent)
def soV (v : List Ent) (clk : Int) (ls : List Lse) (who : Int) (h : Hld) : Bool := decide (h.til ≤ clk) || (seenAs v h && fitsL clk ls who h)
def lsAt (cnt clk : Int) (ls : List Lse) (i : Nat) : Bool := match ls[i]? with
 | some l => whoB l.who && pathOk l.path && decide (1 ≤ l.num) && decide (l.num ≤ cnt) && decide (l.til ≤ clk + 5) && (ls.take i).all fun k => !leaseB l.who l.path k
 | none => true
def lsOk (cnt clk : Int) (ls : List Lse) : Bool := (List.range ls.length).all (lsAt cnt clk ls)
def hsAt (cnt : Int) (hs : List Hld) (i : Nat) : Bool := match hs[i]? with
 | some h => pathOk h.path && decide (0 ≤ h.num) && decide (h.num ≤ cnt) && (hs.take i).all fun k => !decide (k.path = h.path)
 | none => true
def hsOk (cnt : Int) (hs : List Hld) : Bool := (List.range hs.length).all (hsAt cnt hs)
def mesOk (cnt : Int) (m : Mes) : Bool := decide (1 ≤ m.kind) && decide (m.kind ≤ 4) && whoB m.who && pathOk m.hold.path && decide (0 ≤ m.hold.num) && decide (m.hold.num ≤ cnt) && (decide (m.kind = 2) || decide (m.hold = bareH m.hold.path m.hold.num))
def grOk (v : List Ent) (w : Wld) (m : Mes) : Bool := !decide (m.kind = 2) || decide (m.hold.num ≤ floorOf w.floors m.who) || soV v w.clock w.leases m.who m.hold
def bkOk (w : Wld) (m : Mes) : Bool := !decide (m.kind = 4) || (decide (m.hold.num ≤ floorOf w.floors m.who) && (holdsOf w.holds m.who).all fun h => !(decide (h.path = m.hold.path) && decide (h.num ≤ m.hold.num)))
def numsOk (w : Wld) : Bool := decide (0 ≤ w.clock) && decide (w.clock ≤ 10000) && decide (0 ≤ w.count) && decide (w.count ≤ 10000) && decide (w.holds.length = 3) && decide (w.floors.length = 3) && decide (w.net.length ≤ 12) &&
 w.floors.all fun f => decide (0 ≤ f) && decide (f ≤ w.count)
def waitOk (v : List Ent) (w : Wld) : Bool := if w.waits then decide ((treeDo v w.op).2 = 0) else decide (w.op = op0)
def hldOk (v : List Ent) (w : Wld) (i : Nat) : Bool := hsOk w.count (holdsOf w.holds i) && (holdsOf w.holds i).all (soV v w.clock w.leases i)
def worldOkV (v : List Ent) (w : Wld) : Bool := numsOk w && lsOk w.count w.clock w.leases && waitOk v w && (List.range 3).all (hldOk v w) && w.net.all fun m => mesOk w.count m && grOk v w m && bkOk w m
def worldOk (w : Wld) : Bool := match overT w.over with
 | some x => worldOkV x.2 w
 | none => false
def seen (o : Ovr) : List Ent := match overT o with
 | some x => x.2
 | none => []
def turnsV (v : List Ent) (p : Opn) : List Bs := if (treeDo v p).2 = 0 then turnedL v (treeDo v p).1 else []
def barsV (v : List Ent) (clk : Int) (ls : List Lse) (p : Opn) : List Lse := ls.filter fun l => decide (clk < l.til) && decide (l.path ∈ turnsV v p)
def worldBars (w : Wld) (p : Opn) : List Lse := if worldOk w then barsV (seen w.over) w.clock w.leases p else []
def So (v : List Ent) (w : Wld) (who : Int) (h : Hld) : Prop := h.til ≤ w.clock ∨ ((entGet v h.path).isSome = h.has ∧ (entGet v h.path).getD ent0 = h.ent ∧ ∃ l ∈ w.leases, l.who = who ∧ l.path = h.path ∧ w.clock < l.til ∧ h.num ≤ l.num ∧ h.til ≤ l.til)
structure OkW (v : List Ent) (w : Wld) : Prop where
 clk : 0 ≤ w.clock ∧ w.clock ≤ 10000
 cnt : 0 ≤ w.count ∧ w.count ≤ 10000
 hl : w.holds.length = 3
 fl : w.floors.length = 3
 nl : w.net.length ≤ 12
 fb : ∀ f ∈ w.floors, 0 ≤ f ∧ f ≤ w.count
 ls : ∀ l ∈ w.leases, (0 ≤ l.who ∧ l.who ≤ 2) ∧ pathOk l.path = true ∧ 1 ≤ l.num ∧ l.num ≤ w.count ∧ l.til ≤ w.clock + 5
 lu : w.leases.Pairwise fun a b => ¬ (a.who = b.who ∧ a.path = b.path)
 hs : ∀ l ∈ w.holds, ∀ h ∈ l, pathOk h.path = true ∧ 0 ≤ h.num ∧ h.num ≤ w.count
 hu : ∀ l ∈ w.holds, l.Pairwise fun a b => a.path ≠ b.path
 so : ∀ (i : Nat) l, w.holds[i]? = some l → ∀ h ∈ l, So v w i h
 nt : ∀ m ∈ w.net, (1 ≤ m.kind ∧ m.kind ≤ 4) ∧ (0 ≤ m.who ∧ m.who ≤ 2) ∧ pathOk m.hold.path = true ∧ 0 ≤ m.hold.num ∧ m.hold.num ≤ w.count ∧ (m.kind = 2 ∨ m.hold = bareH m.hold.path m.hold.num)
 gr : ∀ m ∈ w.net, m.kind = 2 → floorOf w.floors m.who < m.hold.num → So v w m.who m.hold
 bk : ∀ m ∈ w.net, m.kind = 4 → m.hold.num ≤ floorOf w.floors m.who ∧ ∀ h ∈ holdsOf w.holds m.who, h.path = m.hold.path → m.hold.num < h.num
 wt : if w.waits = true then (treeDo v w.op).2 = 0 else w.op = op0
theorem pair_take {α : Type} {R : α → α → Prop} {l : List α} : (∀ (i : Nat) x, l[i]? = some x → ∀ y ∈ l.take i, R y x) ↔ l.Pairwise R := by
 rw [List.pairwise_iff_getElem]
 constructor
 · intro h i j hi hj hij
   exact h j l[j] (List.getElem?_eq_getElem hj) l[i] (List.mem_take_iff_getElem.2 ⟨i, by omega, rfl⟩)
 · intro h i x hx y hy
   obtain ⟨hi, rfl⟩ := List.getElem?_eq_some_iff.1 hx
   obtain ⟨j, hj, rfl⟩ := List.mem_take_iff_getElem.1 hy
   exact h j i (by omega) hi (by omega)
theorem lsOk_iff {cnt clk : Int} {ls : List Lse} : lsOk cnt clk ls = true ↔ (∀ l ∈ ls, (0 ≤ l.who ∧ l.who ≤ 2) ∧ pathOk l.path = true ∧ 1 ≤ l.num ∧ l.num ≤ cnt ∧ l.til ≤ clk + 5) ∧ ls.Pairwise fun a b => ¬ (a.who = b.who ∧ a.path = b.path) := by
 rw [← pair_take]
 unfold lsOk
 rw [all_range]
 constructor
 · intro h
   have key : ∀ (i : Nat) x, ls[i]? = some x → _ := fun i x hx => by
    have := h i (List.getElem?_eq_some_iff.1 hx).1
    rw [lsAt, hx] at this
    exact this
   refine ⟨fun l hl => ?_, fun i x hx y hy => ?_⟩
   · obtain ⟨i, hi⟩ := List.mem_iff_getElem?.1 hl
     have := key i l hi
     simp only [whoB, Bool.and_eq_true, decide_eq_true_eq] at this
     exact ⟨this.1.1.1.1.1, this.1.1.1.1.2, this.1.1.1.2, this.1.1.2, this.1.2⟩
   · have := key i x hx
     simp only [Bool.and_eq_true] at this
     have := List.all_eq_true.1 this.2 y hy
     simp only [leaseB, Bool.not_eq_true', Bool.and_eq_false_iff, decide_eq_false_iff_not] at this
     rintro ⟨h1, h2⟩
     rcases this with h | h
     · exact h h1
     · exact h h2
 · rintro ⟨h1, h2⟩ i hi
   have hx : ls[i]? = some ls[i] := List.getElem?_eq_getElem hi
   rw [lsAt, hx]
   obtain ⟨a, b, c, d, e⟩ := h1 _ (List.getElem_mem hi)
   simp only [whoB, Bool.and_eq_true, decide_eq_true_eq]
   refine ⟨⟨⟨⟨⟨a, b⟩, c⟩, d⟩, e⟩, List.all_eq_true.2 fun y hy => ?_⟩
   have := h2 i _ hx y hy
   simp only [leaseB, Bool.not_eq_true', Bool.and_eq_false_iff, decide_eq_false_iff_not]
   by_cases h3 : y.who = ls[i].who
   · exact .inr fun h4 => this ⟨h3, h4⟩
   · exact .inl h3
theorem hsOk_iff {cnt : Int} {hs : List Hld} : hsOk cnt hs = true ↔ (∀ h ∈ hs, pathOk h.path = true ∧ 0 ≤ h.num ∧ h.num ≤ cnt) ∧ hs.Pairwise fun a b => a.path ≠ b.path := by
 rw [← pair_take]
 unfold hsOk
 rw [all_range]
 constructor
 · intro h
   have key : ∀ (i : Nat) x, hs[i]? = some x → _ := fun i x hx => by
    have := h i (List.getElem?_eq_some_iff.1 hx).1
    rw [hsAt, hx] at this
    exact this
   refine ⟨fun l hl => ?_, fun i x hx y hy => ?_⟩
   · obtain ⟨i, hi⟩ := List.mem_iff_getElem?.1 hl
     have := key i l hi
     simp only [Bool.and_eq_true, decide_eq_true_eq] at this
     exact ⟨this.1.1.1, this.1.1.2, this.1.2⟩
   · have := key i x hx
     simp only [Bool.and_eq_true] at this
     have := List.all_eq_true.1 this.2 y hy
     simpa using this
 · rintro ⟨h1, h2⟩ i hi
   have hx : hs[i]? = some hs[i] := List.getElem?_eq_getElem hi
   rw [hsAt, hx]
   obtain ⟨a, b, c⟩ := h1 _ (List.getElem_mem hi)
   simp only [Bool.and_eq_true, decide_eq_true_eq]
   refine ⟨⟨⟨a, b⟩, c⟩, List.all_eq_true.2 fun y hy => ?_⟩
   have := h2 i _ hx y hy
   simpa using this
theorem leaseOf_some {ls : List Lse} {who : Int} {p : Bs} {l : Lse} (h : leaseOf ls who p = some l) : l ∈ ls ∧ l.who = who ∧ l.path = p := by
 have h1 := List.mem_of_find?_eq_some h
 have h2 := List.find?_some h
 simp only [leaseB, Bool.and_eq_true, decide_eq_true_eq] at h2
 exact ⟨h1, h2⟩
theorem leaseOf_of {ls : List Lse} {who : Int} {p : Bs} {l : Lse} (hu : ls.Pairwise fun a b => ¬ (a.who = b.who ∧ a.path = b.path)) (h : l ∈ ls) (h1 : l.who = who) (h2 : l.path = p) : leaseOf ls who p = some l := by
 induction ls with
 | nil => cases h
 | cons x r ih =>
   rw [List.pairwise_cons] at hu
   unfold leaseOf
   rw [List.find?_cons]
   rcases List.mem_cons.1 h with rfl | h
   · have : leaseB who p l = true := by simp [leaseB, h1, h2]
     rw [this]
   · have : leaseB who p x = false := by
       have := hu.1 l h
       rw [h1, h2] at this
       simp only [leaseB, Bool.and_eq_false_iff, decide_eq_false_iff_not]
       by_cases hx : x.who = who
       · exact .inr fun h => this ⟨hx, h⟩
       · exact .inl hx
     rw [this]
     exact ih hu.2 h
theorem soV_iff {v : List Ent} {w : Wld} (hu : w.leases.Pairwise fun a b => ¬ (a.who = b.who ∧ a.path = b.path)) {who : Int} {h : Hld} : soV v w.clock w.leases who h = true ↔ So v w who h := by
 unfold soV So seenAs fitsL
 simp only [Bool.or_eq_true, Bool.and_eq_true, decide_eq_true_eq, and_assoc]
 refine or_congr Iff.rfl (and_congr Iff.rfl (and_congr Iff.rfl ?_))
 constructor
 · intro h1
   cases hl : leaseOf w.leases who h.path with
   | none => rw [hl] at h1; cases h1
   | some l =>
     rw [hl] at h1
     obtain ⟨g1, g2, g3⟩ := leaseOf_some hl
     simp only [Bool.and_eq_true, decide_eq_true_eq] at h1
     exact ⟨l, g1, g2, g3, h1.1.1, h1.1.2, h1.2⟩
 · rintro ⟨l, g1, g2, g3, g4, g5, g6⟩
   rw [leaseOf_of hu g1 g2 g3]
   simp only [Bool.and_eq_true, decide_eq_true_eq]
   exact ⟨⟨g4, g5⟩, g6⟩
theorem holdsOf_get {hs : List (List Hld)} {i : Nat} (h : i < hs.length) : hs[i]? = some (holdsOf hs i) := by
 simp [holdsOf, List.getD, List.getElem?_eq_getElem h]
theorem okW_iff {v : List Ent} {w : Wld} : worldOkV v w = true ↔ OkW v w := by
 unfold worldOkV
 simp only [Bool.and_eq_true, lsOk_iff, all_range, List.all_eq_true]
 constructor
 · rintro ⟨⟨⟨⟨h1, h2, h3⟩, h4⟩, h5⟩, h6⟩
   simp only [numsOk, Bool.and_eq_true, decide_eq_true_eq, List.all_eq_true] at h1
   obtain ⟨⟨⟨⟨⟨⟨⟨a1, a2⟩, a3⟩, a4⟩, a5⟩, a6⟩, a7⟩, a8⟩ := h1
   have hh : ∀ (i : Nat) l, w.holds[i]? = some l → hsOk w.count l = true ∧ l.all (soV v w.clock w.leases i) = true := by
    intro i l hl
    have hi := (List.getElem?_eq_some_iff.1 hl).1
    have := h5 i (by rw [List.mem_range]; omega)
    have e := holdsOf_get hi
    rw [hl] at e
    cases e
    simpa only [hldOk, Bool.and_eq_true] using this
   have hm : ∀ l ∈ w.holds, hsOk w.count l = true := fun l hl => by
    obtain ⟨i, hi⟩ := List.mem_iff_getElem?.1 hl
    exact (hh i l hi).1
   refine ⟨⟨a1, a2⟩, ⟨a3, a4⟩, a5, a6, a7, a8, h2, h3, fun l hl => (hsOk_iff.1 (hm l hl)).1, fun l hl => (hsOk_iff.1 (hm l hl)).2, fun i l hl h hx => ?_, fun m hmm => ?_, fun m hmm hk hf => ?_, fun m hmm hk => ?_, ?_⟩
   · exact (soV_iff h3).1 (List.all_eq_true.1 (hh i l hl).2 h hx)
   · have := (h6 m hmm).1.1
     simp only [mesOk, whoB, Bool.and_eq_true, Bool.or_eq_true, decide_eq_true_eq] at this
     obtain ⟨⟨⟨⟨⟨⟨b1, b2⟩, b3⟩, b4⟩, b5⟩, b6⟩, b7⟩ := this
     exact ⟨⟨b1, b2⟩, b3, b4, b5, b6, b7⟩
   · have := (h6 m hmm).1.2
     simp only [grOk, hk, Bool.or_eq_true, decide_eq_true_eq, Bool.not_eq_true', decide_true, Bool.true_eq_false, false_or] at this
     rcases this with h | h
     · omega
     · exact (soV_iff h3).1 h
   · have := (h6 m hmm).2
     simp only [bkOk, hk, Bool.or_eq_true, Bool.and_eq_true, decide_eq_true_eq, Bool.not_eq_true', decide_true, Bool.true_eq_false, false_or, List.all_eq_true] at this
     refine ⟨this.1, fun h hx hp => ?_⟩
     have := this.2 h hx
     simp only [hp, decide_true, Bool.true_and, decide_eq_false_iff_not] at this
     omega
   · unfold waitOk at h4
     split at h4
     · rename_i hw; rw [if_pos hw]; simpa using h4
     · rename_i hw; rw [if_neg hw]; simpa using h4
 · intro h
   refine ⟨⟨⟨⟨?_, h.ls, h.lu⟩, ?_⟩, fun i hi => ?_⟩, fun m hm => ⟨⟨?_, ?_⟩, ?_⟩⟩
   · simp only [numsOk, Bool.and_eq_true, decide_eq_true_eq, List.all_eq_true]
     exact ⟨⟨⟨⟨⟨⟨⟨h.clk.1, h.clk.2⟩, h.cnt.1⟩, h.cnt.2⟩, h.hl⟩, h.fl⟩, h.nl⟩, h.fb⟩
   · have := h.wt
     unfold waitOk
     split at this
     · rename_i hw; rw [if_pos hw]; simpa using this
     · rename_i hw; rw [if_neg hw]; simpa using this
   · have hg := holdsOf_get (hs := w.holds) (i := i) (by rw [h.hl]; exact List.mem_range.1 hi)
     have hmem := List.mem_of_getElem? hg
     simp only [hldOk, Bool.and_eq_true, hsOk_iff, List.all_eq_true]
     exact ⟨⟨h.hs _ hmem, h.hu _ hmem⟩, fun x hx => (soV_iff h.lu).2 (h.so i _ hg x hx)⟩
   · obtain ⟨⟨b1, b2⟩, b3, b4, b5, b6, b7⟩ := h.nt m hm
     simp only [mesOk, whoB, Bool.and_eq_true, Bool.or_eq_true, decide_eq_true_eq]
     exact ⟨⟨⟨⟨⟨⟨b1, b2⟩, b3⟩, b4⟩, b5⟩, b6⟩, b7⟩
   · simp only [grOk, Bool.or_eq_true, Bool.not_eq_true', decide_eq_false_iff_not, decide_eq_true_eq]
     by_cases hk : m.kind = 2
     · by_cases hf : m.hold.num ≤ floorOf w.floors m.who
       · exact .inl (.inr hf)
       · exact .inr ((soV_iff h.lu).2 (h.gr m hm hk (by omega)))
     · exact .inl (.inl hk)
   · simp only [bkOk, Bool.or_eq_true, Bool.and_eq_true, Bool.not_eq_true', decide_eq_false_iff_not, decide_eq_true_eq, List.all_eq_true]
     by_cases hk : m.kind = 4
     · obtain ⟨c1, c2⟩ := h.bk m hm hk
       refine .inr ⟨c1, fun x hx => ?_⟩
       by_cases hp : x.path = m.hold.path
       · have := c2 x hx hp
         simp [hp]; omega
       · simp [hp]
     · exact .inl hk
theorem worldOk_some {w : Wld} (h : worldOk w = true) : ∃ t v, overT w.over = some (t, v) ∧ OkW v w ∧ seen w.over = v := by
 unfold worldOk at h
 cases ho : overT w.over with
 | none => rw [ho] at h; cases h
 | some x =>
   rw [ho] at h
   exact ⟨x.1, x.2, rfl, okW_iff.1 h, by rw [seen, ho]⟩
section
variable {v : List Ent} {w : Wld}
end
end Go.Par
