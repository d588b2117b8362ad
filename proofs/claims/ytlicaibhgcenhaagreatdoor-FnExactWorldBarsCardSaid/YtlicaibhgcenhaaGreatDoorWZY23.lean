/- Texts of this claim, set close: lemmas and contracts. -/
import Derived.Test.YtlicaibhgcenhaaGreatDoorWZY22
set_option linter.unusedSimpArgs false
set_option linter.unusedVariables false
set_option maxHeartbeats 1000000
set_option maxRecDepth 10000
namespace Go.Proofs.YtlicaibhgcenhaaGreatDoor
open Go Go.RowKit Go.Ab Go.Par
variable {m : Int}
end Go.Proofs.YtlicaibhgcenhaaGreatDoor
namespace Go.Par
open Go.Ab Go.Proofs.YtlicaibhgcenhaaGreatDoor
def Lse.c (l : Lse) : List D := [.k .i64 l.who, .s l.path, .k .i64 l.num, .k .i64 l.til]
def Hld.c (h : Hld) : List D := [.s h.path, .b h.has, .s h.ent.path, .b h.ent.dir, .s h.ent.data, .k .i64 h.num, .k .i64 h.til]
def Mes.c (x : Mes) : List D := [.k .i64 x.kind, .k .i64 x.who, .s x.hold.path, .b x.hold.has, .s x.hold.ent.path, .b x.hold.ent.dir, .s x.hold.ent.data, .k .i64 x.hold.num, .k .i64 x.hold.til]
def Evn.c (e : Evn) : List D := [.k .i64 e.kind, .k .i64 e.who, .s e.path, .k .i64 e.op.kind, .s e.op.path, .s e.op.tgt, .s e.op.data, .k .i64 e.pos]
end Go.Par
namespace Go.Proofs.YtlicaibhgcenhaaGreatDoor
open Go Go.RowKit Go.Ab Go.Par
variable {m : Int}
def hlsC (l : List Hld) : List D := [.sl (l.map Hld.c)]
end Go.Proofs.YtlicaibhgcenhaaGreatDoor
namespace Go.Par
open Go.Ab Go.Proofs.YtlicaibhgcenhaaGreatDoor
def Wld.c (w : Wld) : List D := [.sl (w.over.base.map Ent.c), .sl (w.over.layers.map layC), .sl (w.over.upper.map Mrk.c), .k .i64 w.clock, .k .i64 w.count, .sl (w.leases.map Lse.c), .sl (w.holds.map hlsC), .sl (ints w.floors), .sl (w.net.map Mes.c), .b w.waits, .k .i64 w.op.kind, .s w.op.path, .s w.op.tgt, .s w.op.data]
end Go.Par
namespace Go.Proofs.YtlicaibhgcenhaaGreatDoor
open Go Go.RowKit Go.Ab Go.Par
variable {m : Int}
abbrev el (x y : Lse) : Bool := decide (x.who = y.who) && (decide (x.path = y.path) && (decide (x.num = y.num) && (decide (x.til = y.til) && true)))
abbrev eh (x y : Hld) : Bool := decide (x.path = y.path) && ((x.has == y.has) && (decide (x.ent.path = y.ent.path) && ((x.ent.dir == y.ent.dir) && (decide (x.ent.data = y.ent.data) && (decide (x.num = y.num) && (decide (x.til = y.til) && true))))))
theorem eh_eq (x : Hld) : eh x x = true := by simp [eh]
theorem eh_ne {x y : Hld} (h : x ≠ y) : eh x y = false := by
 rw [← Bool.not_eq_true]
 intro hf
 apply h
 obtain ⟨a, b, ⟨c, d, e⟩, f, g⟩ := x
 obtain ⟨a', b', ⟨c', d', e'⟩, f', g'⟩ := y
 simp [eh] at hf
 simp [hf]
abbrev es (x y : Mes) : Bool := decide (x.kind = y.kind) && (decide (x.who = y.who) && (decide (x.hold.path = y.hold.path) && ((x.hold.has == y.hold.has) && (decide (x.hold.ent.path = y.hold.ent.path) && ((x.hold.ent.dir == y.hold.ent.dir) && (decide (x.hold.ent.data = y.hold.ent.data) && (decide (x.hold.num = y.hold.num) && (decide (x.hold.til = y.hold.til) && true))))))))
def ixL {α : Type} (f : α → Bool) (l : List α) : Int := match l.findIdx? f with
 | some i => (i : Int)
 | none => -1
theorem ixL_hit {α : Type} {f : α → Bool} {l : List α} {i : Nat} {x : α} (ha : (l.take i).all (fun y => !f y) = true) (h : l[i]? = some x) (hf : f x = true) : ixL f l = (i : Int) := by
 have hi := (List.getElem?_eq_some_iff.1 h).1
 have : l.findIdx? f = some i := by
  rw [List.findIdx?_eq_some_iff_getElem]
  refine ⟨hi, by rw [(List.getElem?_eq_some_iff.1 h).2]; exact hf, fun j hj => ?_⟩
  have := List.all_eq_true.1 ha l[j] (List.mem_take_iff_getElem.2 ⟨j, by omega, rfl⟩)
  simpa using this
 rw [ixL, this]
theorem ixL_miss {α : Type} {f : α → Bool} {l : List α} {i : Nat} (ha : (l.take i).all (fun y => !f y) = true) (hi : l.length ≤ i) : ixL f l = -1 := by
 rw [List.take_of_length_le hi] at ha
 have : l.findIdx? f = none := by
  rw [List.findIdx?_eq_none_iff]
  intro x hx
  simpa using List.all_eq_true.1 ha x hx
 rw [ixL, this]
theorem ixL_or {α : Type} (f : α → Bool) (l : List α) : (ixL f l = -1 ∧ ∀ x ∈ l, f x = false) ∨ ∃ (i : Nat) (x : α), ixL f l = (i : Int) ∧ l[i]? = some x ∧ f x = true ∧ (l.take i).all (fun y => !f y) = true := by
 unfold ixL
 cases h : l.findIdx? f with
 | none => exact .inl ⟨rfl, List.findIdx?_eq_none_iff.1 h⟩
 | some i =>
   obtain ⟨hi, h1, h2⟩ := List.findIdx?_eq_some_iff_getElem.1 h
   refine .inr ⟨i, l[i], rfl, List.getElem?_eq_getElem hi, h1, List.all_eq_true.2 fun y hy => ?_⟩
   obtain ⟨j, hj, rfl⟩ := List.mem_take_iff_getElem.1 hy
   have := h2 j (by omega)
   simpa using this
theorem within_con (n a b : Int) : Con (E m) 102 0 [.k .i64 n, .k .i64 a, .k .i64 b] [] (.b (decide (a ≤ n) && decide (n ≤ b))) [] := by
 by_cases h1 : a ≤ n
 · refine con_of_cd tyOk mix Tryz.func102 rfl rfl rfl (Nat.le_of_ble_eq_true rfl) ?_
   repeat' first | refine Ra ⟨?_⟩ | refine Rd (fun h => ⟨?_⟩) fun h => ⟨?_⟩ | refine Rb ⟨?_⟩ | fail
   exact Rf
 · refine con_of_cd tyOk mix Tryz.func102 rfl rfl rfl (Nat.le_of_ble_eq_true rfl) ?_
   repeat' first | refine Ra ⟨?_⟩ | refine Rd (fun h => ⟨?_⟩) fun h => ⟨?_⟩ | refine Rb ⟨?_⟩ | fail
   exact Rf
theorem isWho_con (n : Int) : Con (E m) 143 0 [.k .i64 n] [] (.b (whoB n)) [] := by
 have c1 := within_con (m := m) n 0 2
 refine con_of_cd tyOk mix Tryz.func143 rfl rfl rfl (Nat.le_of_ble_eq_true rfl) ?_
 repeat' first | refine Ra ⟨?_⟩ | refine R0 c1 ⟨?_⟩ | refine Rd (fun h => ⟨?_⟩) fun h => ⟨?_⟩ | refine Rb ⟨?_⟩ | fail
 exact Rf
theorem index_con (t : List Bs) (p : Bs) (ht : t.length ≤ 1048576) : Con (E m) 111 0 [.sl (strs t), .s p] [] (.k .i64 (ixL (fun x => decide (p = x)) t)) [] := by
 have e1 : (strs t).length = t.length := List.length_map ..
 refine con_of_cd tyOk mix Tryz.func111 rfl rfl rfl (Nat.le_of_ble_eq_true rfl) ?_
 repeat' first | refine Ra ⟨?_⟩ | refine Rd (fun h => ⟨?_⟩) fun h => ⟨?_⟩ | refine Rb ⟨?_⟩ | fail
 refine Cd.loop2 (fun mq tm S nx => ∃ (i : Nat), mq = (t.length - i) ∧ tm = [(0, .sl (strs t)), (1, .s p), (7, .k .i64 ((strs t).length : Int)), (8, .k .i64 i)] ∧ S = [] ∧ nx = 0 ∧ (i ≤ t.length) ∧ ((t.take i).all (fun x => !decide (p = x)) = true)) ?_ ?_
 · refine la [0, 1, 7, 8] ?_
   conv => whnf
   refine ⟨rfl, rfl, _, 0, rfl, rfl, rfl, rfl, by omega, by simp⟩
 · rintro mq tm S nx ⟨i, hn, rfl, rfl, rfl, hi, ha⟩
   by_cases hlt : i < t.length
   · have g1 : t[i]? = some t[i] := List.getElem?_eq_getElem hlt
     generalize t[i] = x at g1
     by_cases hxy : p = x
     · rw [ixL_hit ha g1 (decide_eq_true hxy)]
       repeat' first | refine Ra ⟨?_⟩ | refine Rd (fun h => ⟨?_⟩) fun h => ⟨?_⟩ | refine Rb ⟨?_⟩ | fail
       exact Rf
     · repeat' first | refine Ra ⟨?_⟩ | refine Rd (fun h => ⟨?_⟩) fun h => ⟨?_⟩ | refine Rb ⟨?_⟩ | fail
       refine .here ⟨mq - 1, by omega, ?_⟩
       refine la [0, 1, 7, 8] ?_
       conv => whnf
       refine ⟨rfl, rfl, i + 1, (by omega), rfl, rfl, rfl, by omega, all_take_succ ha g1 (by simpa using hxy)⟩
   · rw [ixL_miss ha (by omega)]
     repeat' first | refine Ra ⟨?_⟩ | refine Rd (fun h => ⟨?_⟩) fun h => ⟨?_⟩ | refine Rb ⟨?_⟩ | fail
     exact Rf
theorem contains_con (t : List Bs) (p : Bs) (ht : t.length ≤ 1048576) : Con (E m) 50 0 [.sl (strs t), .s p] [] (.b (decide (p ∈ t))) [] := by
 have c1 := index_con (m := m) t p ht
 rcases ixL_or (fun x => decide (p = x)) t with ⟨h1, h2⟩ | ⟨i, x, h1, h2, h3, _⟩
 · rw [h1] at c1
   have : decide (p ∈ t) = false := decide_eq_false fun h => by simpa using h2 p h
   rw [this]
   refine con_of_cd tyOk mix Tryz.func50 rfl rfl rfl (Nat.le_of_ble_eq_true rfl) ?_
   repeat' first | refine Ra ⟨?_⟩ | refine R0 c1 ⟨?_⟩ | refine Rd (fun h => ⟨?_⟩) fun h => ⟨?_⟩ | refine Rb ⟨?_⟩ | fail
   exact Rf
 · rw [h1] at c1
   have : decide (p ∈ t) = true := decide_eq_true (by have := of_decide_eq_true h3; subst this; exact List.mem_of_getElem? h2)
   rw [this]
   refine con_of_cd tyOk mix Tryz.func50 rfl rfl rfl (Nat.le_of_ble_eq_true rfl) ?_
   repeat' first | refine Ra ⟨?_⟩ | refine R0 c1 ⟨?_⟩ | refine Rd (fun h => ⟨?_⟩) fun h => ⟨?_⟩ | refine Rb ⟨?_⟩ | fail
   exact Rf
theorem leaseAtF_con (l : Lse) (who : Int) (p : Bs) : Con (E m) 233 2 [.agg l.c, .bp 0 0, .bp 1 0] [(0, .box 3 [.k .i64 who]), (1, .box 9 [.s p])] (.b (leaseB who p l)) [(0, .box 3 [.k .i64 who]), (1, .box 9 [.s p])] := by
 by_cases h1 : l.who = who
 · refine con_of_cd tyOk mix Tryz.func233 rfl rfl rfl (Nat.le_of_ble_eq_true rfl) ?_
   repeat' first | refine Ra ⟨?_⟩ | refine Rd (fun h => ⟨?_⟩) fun h => ⟨?_⟩ | refine Rb ⟨?_⟩ | fail
   refine Rg ⟨?_⟩
   first | rfl | (simp_all [leaseB]; done) | (simp [leaseB] <;> (repeat' split) <;> omega) | (simp only [leaseB]; repeat' split) <;> first | omega | (simp_all; done) | (simp_all; omega) | (rw [Bool.eq_iff_iff]; simp [*, leaseB] <;> omega)
 · refine con_of_cd tyOk mix Tryz.func233 rfl rfl rfl (Nat.le_of_ble_eq_true rfl) ?_
   repeat' first | refine Ra ⟨?_⟩ | refine Rd (fun h => ⟨?_⟩) fun h => ⟨?_⟩ | refine Rb ⟨?_⟩ | fail
   refine Rg ⟨?_⟩
   first | rfl | (simp_all [leaseB]; done) | (simp [leaseB] <;> (repeat' split) <;> omega) | (simp only [leaseB]; repeat' split) <;> first | omega | (simp_all; done) | (simp_all; omega) | (rw [Bool.eq_iff_iff]; simp [*, leaseB] <;> omega)
theorem leaseIx_con (ls : List Lse) (who : Int) (p : Bs) (hl : ls.length ≤ 1048576) : Con (E m) 232 2 [.sl (ls.map Lse.c), .fn 233 [0, 1]] [(0, .box 3 [.k .i64 who]), (1, .box 9 [.s p])] (.k .i64 (ixL (leaseB who p) ls)) [(0, .box 3 [.k .i64 who]), (1, .box 9 [.s p])] := by
 have e1 : (ls.map Lse.c).length = ls.length := List.length_map ..
 refine con_of_cd tyOk mix Tryz.func232 rfl rfl rfl (Nat.le_of_ble_eq_true rfl) ?_
 repeat' first | refine Ra ⟨?_⟩ | refine Rd (fun h => ⟨?_⟩) fun h => ⟨?_⟩ | refine Rb ⟨?_⟩ | fail
 refine Cd.loop2 (fun mq tm S nx => ∃ (i : Nat), mq = (ls.length - i) ∧ tm = [(0, .sl (ls.map Lse.c)), (1, .fn 233 [0, 1]), (7, .k .i64 ((ls.map Lse.c).length : Int)), (8, .k .i64 i)] ∧ S = [(0, .box 3 [.k .i64 who]), (1, .box 9 [.s p])] ∧ nx = 2 ∧ (i ≤ ls.length) ∧ ((ls.take i).all (fun x => !leaseB who p x) = true)) ?_ ?_
 · refine la [0, 1, 7, 8] ?_
   conv => whnf
   refine ⟨rfl, rfl, _, 0, rfl, rfl, rfl, rfl, by omega, by simp⟩
 · rintro mq tm S nx ⟨i, hn, rfl, rfl, rfl, hi, ha⟩
   by_cases hlt : i < ls.length
   · have g1 : ls[i]? = some ls[i] := List.getElem?_eq_getElem hlt
     generalize ls[i] = x at g1
     have c1 := leaseAtF_con (m := m) x who p
     cases hx : leaseB who p x with
     | true =>
       rw [hx] at c1
       rw [ixL_hit ha g1 hx]
       repeat' first | refine Ra ⟨?_⟩ | refine Rk [0, 1] 0 c1 ⟨?_⟩ | refine Rd (fun h => ⟨?_⟩) fun h => ⟨?_⟩ | refine Rb ⟨?_⟩ | fail
       exact Rf
     | false =>
       rw [hx] at c1
       repeat' first | refine Ra ⟨?_⟩ | refine Rk [0, 1] 0 c1 ⟨?_⟩ | refine Rd (fun h => ⟨?_⟩) fun h => ⟨?_⟩ | refine Rb ⟨?_⟩ | fail
       refine .here ⟨mq - 1, by omega, ?_⟩
       refine la [0, 1, 7, 8] ?_
       conv => whnf
       refine ⟨rfl, rfl, i + 1, (by omega), rfl, rfl, rfl, by omega, all_take_succ ha g1 (by simp [hx])⟩
   · rw [ixL_miss ha (by omega)]
     repeat' first | refine Ra ⟨?_⟩ | refine Rd (fun h => ⟨?_⟩) fun h => ⟨?_⟩ | refine Rb ⟨?_⟩ | fail
     exact Rf
theorem leaseAt_con (ls : List Lse) (who : Int) (p : Bs) (hl : ls.length ≤ 1048576) : Con (E m) 171 0 [.sl (ls.map Lse.c), .k .i64 who, .s p] [] (.k .i64 (ixL (leaseB who p) ls)) [] := by
 have c1 := leaseIx_con (m := m) ls who p hl
 refine con_of_cd tyOk mix Tryz.func171 rfl rfl rfl (Nat.le_of_ble_eq_true rfl) ?_
 repeat' first | refine Ra ⟨?_⟩ | refine Rk [0, 1] 0 c1 ⟨?_⟩ | refine Rd (fun h => ⟨?_⟩) fun h => ⟨?_⟩ | refine Rb ⟨?_⟩ | fail
 exact Rf
abbrev hb (p : Bs) (h : Hld) : Bool := decide (h.path = p)
theorem holdAtF_con (h : Hld) (p : Bs) : Con (E m) 235 1 [.agg h.c, .bp 0 0] [(0, .box 9 [.s p])] (.b (hb p h)) [(0, .box 9 [.s p])] := by
 refine con_of_cd tyOk mix Tryz.func235 rfl rfl rfl (Nat.le_of_ble_eq_true rfl) ?_
 repeat' first | refine Ra ⟨?_⟩ | refine Rd (fun h => ⟨?_⟩) fun h => ⟨?_⟩ | refine Rb ⟨?_⟩ | fail
 exact Rf
theorem holdIx_con (ls : List Hld) (p : Bs) (hl : ls.length ≤ 1048576) : Con (E m) 234 1 [.sl (ls.map Hld.c), .fn 235 [0]] [(0, .box 9 [.s p])] (.k .i64 (ixL (hb p) ls)) [(0, .box 9 [.s p])] := by
 have e1 : (ls.map Hld.c).length = ls.length := List.length_map ..
 refine con_of_cd tyOk mix Tryz.func234 rfl rfl rfl (Nat.le_of_ble_eq_true rfl) ?_
 repeat' first | refine Ra ⟨?_⟩ | refine Rd (fun h => ⟨?_⟩) fun h => ⟨?_⟩ | refine Rb ⟨?_⟩ | fail
 refine Cd.loop2 (fun mq tm S nx => ∃ (i : Nat), mq = (ls.length - i) ∧ tm = [(0, .sl (ls.map Hld.c)), (1, .fn 235 [0]), (7, .k .i64 ((ls.map Hld.c).length : Int)), (8, .k .i64 i)] ∧ S = [(0, .box 9 [.s p])] ∧ nx = 1 ∧ (i ≤ ls.length) ∧ ((ls.take i).all (fun x => !hb p x) = true)) ?_ ?_
 · refine la [0, 1, 7, 8] ?_
   conv => whnf
   refine ⟨rfl, rfl, _, 0, rfl, rfl, rfl, rfl, by omega, by simp⟩
 · rintro mq tm S nx ⟨i, hn, rfl, rfl, rfl, hi, ha⟩
   by_cases hlt : i < ls.length
   · have g1 : ls[i]? = some ls[i] := List.getElem?_eq_getElem hlt
     generalize ls[i] = x at g1
     have c1 := holdAtF_con (m := m) x p
     cases hx : hb p x with
     | true =>
       rw [hx] at c1
       rw [ixL_hit ha g1 hx]
       repeat' first | refine Ra ⟨?_⟩ | refine Rk [0] 0 c1 ⟨?_⟩ | refine Rd (fun h => ⟨?_⟩) fun h => ⟨?_⟩ | refine Rb ⟨?_⟩ | fail
       exact Rf
     | false =>
       rw [hx] at c1
       repeat' first | refine Ra ⟨?_⟩ | refine Rk [0] 0 c1 ⟨?_⟩ | refine Rd (fun h => ⟨?_⟩) fun h => ⟨?_⟩ | refine Rb ⟨?_⟩ | fail
       refine .here ⟨mq - 1, by omega, ?_⟩
       refine la [0, 1, 7, 8] ?_
       conv => whnf
       refine ⟨rfl, rfl, i + 1, (by omega), rfl, rfl, rfl, by omega, all_take_succ ha g1 (by simp [hx])⟩
   · rw [ixL_miss ha (by omega)]
     repeat' first | refine Ra ⟨?_⟩ | refine Rd (fun h => ⟨?_⟩) fun h => ⟨?_⟩ | refine Rb ⟨?_⟩ | fail
     exact Rf
theorem holdAt_con (ls : List Hld) (p : Bs) (hl : ls.length ≤ 1048576) : Con (E m) 172 0 [.sl (ls.map Hld.c), .s p] [] (.k .i64 (ixL (hb p) ls)) [] := by
 have c1 := holdIx_con (m := m) ls p hl
 refine con_of_cd tyOk mix Tryz.func172 rfl rfl rfl (Nat.le_of_ble_eq_true rfl) ?_
 repeat' first | refine Ra ⟨?_⟩ | refine Rk [0] 0 c1 ⟨?_⟩ | refine Rd (fun h => ⟨?_⟩) fun h => ⟨?_⟩ | refine Rb ⟨?_⟩ | fail
 exact Rf
end Go.Proofs.YtlicaibhgcenhaaGreatDoor
