/- Texts of this claim, set close: lemmas and contracts. -/
import Derived.Test.YtlicaibhgcenhaaGreatDoorWZY5
import Derived.Test.YtlicaibhgcenhaaGreatDoorWZY10
import Derived.Test.YtlicaibhgcenhaaGreatDoorWZY19
import Derived.Test.YtlicaibhgcenhaaGreatDoorWZY24
set_option linter.unusedSimpArgs false
set_option linter.unusedVariables false
set_option maxHeartbeats 1000000
set_option maxRecDepth 10000
namespace Go.Proofs.YtlicaibhgcenhaaGreatDoor
open Go Go.RowKit Go.Ab Go.Par
variable {m : Int}
def fLs (k : Int) : Lse := ⟨k, markT (k + 1), k + 1 + 1, k + 1 + 1 + 1⟩
def fHd (k : Int) : Hld := ⟨markT k, decide ((k + 1) % 3 = 0), ⟨markT (k + 1 + 1), decide ((k + 1 + 1 + 1) % 3 = 0), markT (k + 1 + 1 + 1 + 1)⟩, k + 1 + 1 + 1 + 1 + 1, k + 1 + 1 + 1 + 1 + 1 + 1⟩
def fMs (k : Int) : Mes := ⟨k, k + 1, fHd (k + 1 + 1)⟩
def bL (l : Lse) : Prop := l.path.length ≤ 1048576
def bH (h : Hld) : Prop := h.path.length ≤ 1048576 ∧ h.ent.path.length ≤ 1048576 ∧ h.ent.data.length ≤ 1048576
def bM (x : Mes) : Prop := bH x.hold
def wL (l : Lse) : Prop := l.path.length ≤ 9223372036854775807
def wH (h : Hld) : Prop := h.path.length ≤ 9223372036854775807 ∧ h.ent.path.length ≤ 9223372036854775807 ∧ h.ent.data.length ≤ 9223372036854775807
def wM (x : Mes) : Prop := wH x.hold
theorem toLease_con (e : Lse) : Con (E m) 98 0 [.agg e.c] [] (.agg e.c) [] := by
 refine con_of_cd tyOk mix Tryz.func98 rfl rfl rfl (Nat.le_of_ble_eq_true rfl) ?_
 repeat' first | refine Ra ⟨?_⟩ | refine Rd (fun h => ⟨?_⟩) fun h => ⟨?_⟩ | refine Rb ⟨?_⟩ | fail
 exact Rf
theorem toHold_con (e : Hld) : Con (E m) 169 0 [.agg e.c] [] (.agg e.c) [] := by
 have c1 := toEnt_con (m := m) e.ent
 refine con_of_cd tyOk mix Tryz.func169 rfl rfl rfl (Nat.le_of_ble_eq_true rfl) ?_
 repeat' first | refine Ra ⟨?_⟩ | refine R0 c1 ⟨?_⟩ | refine Rd (fun h => ⟨?_⟩) fun h => ⟨?_⟩ | refine Rb ⟨?_⟩ | fail
 exact Rf
theorem toMsg_con (e : Mes) : Con (E m) 100 0 [.agg e.c] [] (.agg e.c) [] := by
 have c1 := toHold_con (m := m) e.hold
 refine con_of_cd tyOk mix Tryz.func100 rfl rfl rfl (Nat.le_of_ble_eq_true rfl) ?_
 repeat' first | refine Ra ⟨?_⟩ | refine R0 c1 ⟨?_⟩ | refine Rd (fun h => ⟨?_⟩) fun h => ⟨?_⟩ | refine Rb ⟨?_⟩ | fail
 exact Rf
theorem eqLease_con (e : Lse) : Con (E m) 51 0 [.agg e.c, .agg e.c] [] (.b true) [] := by
 refine con_of_cd tyOk mix Tryz.func51 rfl rfl rfl (Nat.le_of_ble_eq_true rfl) ?_
 repeat' first | refine Ra ⟨?_⟩ | refine Rd (fun h => ⟨?_⟩) fun h => ⟨?_⟩ | refine Rb ⟨?_⟩ | fail
 exact Rf
theorem eqHold_con (e : Hld) : Con (E m) 180 0 [.agg e.c, .agg e.c] [] (.b true) [] := by
 have c1 := eqEnt_con (m := m) e.ent e.ent
 rw [eqE_self] at c1
 refine con_of_cd tyOk mix Tryz.func180 rfl rfl rfl (Nat.le_of_ble_eq_true rfl) ?_
 repeat' first | refine Ra ⟨?_⟩ | refine R0 c1 ⟨?_⟩ | refine Rd (fun h => ⟨?_⟩) fun h => ⟨?_⟩ | refine Rb ⟨?_⟩ | fail
 exact Rf
theorem eqMsg_con (e : Mes) : Con (E m) 116 0 [.agg e.c, .agg e.c] [] (.b true) [] := by
 have c1 := eqHold_con (m := m) e.hold
 refine con_of_cd tyOk mix Tryz.func116 rfl rfl rfl (Nat.le_of_ble_eq_true rfl) ?_
 repeat' first | refine Ra ⟨?_⟩ | refine R0 c1 ⟨?_⟩ | refine Rd (fun h => ⟨?_⟩) fun h => ⟨?_⟩ | refine Rb ⟨?_⟩ | fail
 exact Rf
theorem szLease_any (e : Lse) (n : Int) (hn : 0 ≤ n ∧ n ≤ 1048576) (h : wL e) : ∃ r : Int, Con (E m) 84 0 [.agg e.c, .k .i64 n] [] (.k .i64 r) [] ∧ (r = -1 ∨ (0 ≤ r ∧ r ≤ n ∧ bL e)) := by
 unfold wL at h
 by_cases h0 : n - e.path.length < 0
 · refine ⟨-1, ?_, .inl rfl⟩
   refine con_of_cd tyOk mix Tryz.func84 rfl rfl rfl (Nat.le_of_ble_eq_true rfl) ?_
   repeat' first | refine Ra ⟨?_⟩ | refine Rd (fun h => ⟨?_⟩) fun h => ⟨?_⟩ | refine Rb ⟨?_⟩ | fail
   exact Rf
 · refine ⟨n - e.path.length, ?_, .inr ⟨by omega, by omega, by unfold bL; omega⟩⟩
   refine con_of_cd tyOk mix Tryz.func84 rfl rfl rfl (Nat.le_of_ble_eq_true rfl) ?_
   repeat' first | refine Ra ⟨?_⟩ | refine Rd (fun h => ⟨?_⟩) fun h => ⟨?_⟩ | refine Rb ⟨?_⟩ | fail
   exact Rf
theorem szHold_any (e : Hld) (n : Int) (hn : 0 ≤ n ∧ n ≤ 1048576) (h : wH e) : ∃ r : Int, Con (E m) 160 0 [.agg e.c, .k .i64 n] [] (.k .i64 r) [] ∧ (r = -1 ∨ (0 ≤ r ∧ r ≤ n ∧ bH e)) := by
 obtain ⟨w1, w2, w3⟩ := h
 by_cases h0 : n - e.path.length < 0
 · refine ⟨-1, ?_, .inl rfl⟩
   refine con_of_cd tyOk mix Tryz.func160 rfl rfl rfl (Nat.le_of_ble_eq_true rfl) ?_
   repeat' first | refine Ra ⟨?_⟩ | refine Rd (fun h => ⟨?_⟩) fun h => ⟨?_⟩ | refine Rb ⟨?_⟩ | fail
   exact Rf
 · have c1 := szEnt_con (m := m) e.ent (n - e.path.length) ⟨by omega, by omega⟩ w2 w3
   have hr := less2_or (n - e.path.length) e.ent.path.length e.ent.data.length
   generalize less2 (n - e.path.length) e.ent.path.length e.ent.data.length = r at c1 hr
   by_cases h1 : r < 0
   · refine ⟨-1, ?_, .inl rfl⟩
     refine con_of_cd tyOk mix Tryz.func160 rfl rfl rfl (Nat.le_of_ble_eq_true rfl) ?_
     repeat' first | refine Ra ⟨?_⟩ | refine R0 c1 ⟨?_⟩ | refine Rd (fun h => ⟨?_⟩) fun h => ⟨?_⟩ | refine Rb ⟨?_⟩ | fail
     exact Rf
   · refine ⟨r, ?_, .inr ⟨by omega, by omega, by unfold bH; omega⟩⟩
     refine con_of_cd tyOk mix Tryz.func160 rfl rfl rfl (Nat.le_of_ble_eq_true rfl) ?_
     repeat' first | refine Ra ⟨?_⟩ | refine R0 c1 ⟨?_⟩ | refine Rd (fun h => ⟨?_⟩) fun h => ⟨?_⟩ | refine Rb ⟨?_⟩ | fail
     exact Rf
theorem szMsg_any (e : Mes) (n : Int) (hn : 0 ≤ n ∧ n ≤ 1048576) (h : wM e) : ∃ r : Int, Con (E m) 86 0 [.agg e.c, .k .i64 n] [] (.k .i64 r) [] ∧ (r = -1 ∨ (0 ≤ r ∧ r ≤ n ∧ bM e)) := by
 obtain ⟨r, c1, hr⟩ := szHold_any (m := m) e.hold n hn h
 refine ⟨r, ?_, hr⟩
 by_cases h1 : r < 0
 · obtain rfl : r = -1 := by omega
   refine con_of_cd tyOk mix Tryz.func86 rfl rfl rfl (Nat.le_of_ble_eq_true rfl) ?_
   repeat' first | refine Ra ⟨?_⟩ | refine R0 c1 ⟨?_⟩ | refine Rd (fun h => ⟨?_⟩) fun h => ⟨?_⟩ | refine Rb ⟨?_⟩ | fail
   exact Rf
 · refine con_of_cd tyOk mix Tryz.func86 rfl rfl rfl (Nat.le_of_ble_eq_true rfl) ?_
   repeat' first | refine Ra ⟨?_⟩ | refine R0 c1 ⟨?_⟩ | refine Rd (fun h => ⟨?_⟩) fun h => ⟨?_⟩ | refine Rb ⟨?_⟩ | fail
   exact Rf
theorem szLeaseS_any (es : List Lse) (n : Int) (hn : 0 ≤ n ∧ n ≤ 1048576) (hl : es.length ≤ 9223372036854775807) (h : ∀ e ∈ es, wL e) : ∃ r : Int, Con (E m) 37 0 [.sl (es.map Lse.c), .k .i64 n] [] (.k .i64 r) [] ∧ (r = -1 ∨ (0 ≤ r ∧ r + es.length ≤ n ∧ ∀ e ∈ es, bL e)) := by
 have e1 : (es.map Lse.c).length = es.length := List.length_map ..
 suffices H : ∃ d S', (∃ r : Int, d = .k .i64 r ∧ S' = [] ∧ (r = -1 ∨ (0 ≤ r ∧ r + es.length ≤ n ∧ ∀ e ∈ es, bL e))) ∧ Con (E m) 37 0 [.sl (es.map Lse.c), .k .i64 n] [] d S' from by
  obtain ⟨d, S', ⟨r, rfl, rfl, h⟩, c⟩ := H
  exact ⟨r, c, h⟩
 by_cases h0 : n - es.length < 0
 · refine any_of_cd tyOk mix Tryz.func37 rfl rfl rfl (Nat.le_of_ble_eq_true rfl) ?_
   repeat' first | refine Ra ⟨?_⟩ | refine Rd (fun h => ⟨?_⟩) fun h => ⟨?_⟩ | refine Rb ⟨?_⟩ | fail
   refine AnyEnd.here (aa ?_)
   conv => whnf
   refine ⟨rfl, rfl, _, rfl, ⟨-1, rfl, rfl, .inl rfl⟩⟩
 · refine any_of_cd tyOk mix Tryz.func37 rfl rfl rfl (Nat.le_of_ble_eq_true rfl) ?_
   repeat' first | refine Ra ⟨?_⟩ | refine Rd (fun h => ⟨?_⟩) fun h => ⟨?_⟩ | refine Rb ⟨?_⟩ | fail
   refine Cd.loop2 (fun mq tm S nx => ∃ (i : Nat) (l : Int), mq = (es.length - i) ∧ tm = [(0, .sl (es.map Lse.c)), (1, .k .i64 l), (5, .k .i64 i)] ∧ S = [] ∧ nx = 0 ∧ (i ≤ es.length) ∧ (0 ≤ l) ∧ (l + es.length ≤ n) ∧ (∀ e ∈ es.take i, bL e)) ?_ ?_
   · refine la [0, 1, 5] ?_
     conv => whnf
     refine ⟨rfl, rfl, _, 0, _, rfl, rfl, rfl, rfl, Nat.zero_le _, (by omega), (by omega), by simp⟩
   · rintro mq tm S nx ⟨i, l, hn, rfl, rfl, rfl, hi, h1, h2, hB⟩
     rcases drop_or es i hi with ⟨rfl, hd⟩ | ⟨x, r, hx, hd, hr, hlt⟩
     · rw [List.take_length] at hB
       repeat' first | refine Ra ⟨?_⟩ | refine Rd (fun h => ⟨?_⟩) fun h => ⟨?_⟩ | refine Rb ⟨?_⟩ | fail
       refine AnyEnd.here (aa ?_)
       conv => whnf
       refine ⟨rfl, rfl, _, rfl, ⟨l, rfl, rfl, .inr ⟨h1, h2, hB⟩⟩⟩
     · obtain ⟨q, c1, hq⟩ := szLease_any (m := m) x l ⟨h1, by omega⟩ (h x (List.mem_of_getElem? hx))
       rcases hq with rfl | ⟨q1, q2, q3⟩
       · repeat' first | refine Ra ⟨?_⟩ | refine R0 c1 ⟨?_⟩ | refine Rd (fun h => ⟨?_⟩) fun h => ⟨?_⟩ | refine Rb ⟨?_⟩ | fail
         refine AnyEnd.here (aa ?_)
         conv => whnf
         refine ⟨rfl, rfl, _, rfl, ⟨-1, rfl, rfl, .inl rfl⟩⟩
       · repeat' first | refine Ra ⟨?_⟩ | refine R0 c1 ⟨?_⟩ | refine Rd (fun h => ⟨?_⟩) fun h => ⟨?_⟩ | refine Rb ⟨?_⟩ | fail
         refine .here ⟨mq - 1, by omega, ?_⟩
         refine la [0, 1, 5] ?_
         conv => whnf
         refine ⟨rfl, rfl, i + 1, q, (by omega), rfl, rfl, rfl, by omega, q1, by omega, ?_⟩
         intro e he
         rw [take_succ hx] at he
         rcases List.mem_append.1 he with he | he
         · exact hB e he
         · rw [List.mem_singleton.1 he]; exact q3
theorem toLeaseS_con (es : List Lse) (hl : es.length ≤ 1048576) : Con (E m) 44 0 [.sl (es.map Lse.c)] [] (.own 0) [(0, .own 93 (es.map Lse.c))] := by
 have e1 : (es.map Lse.c).length = es.length := List.length_map ..
 refine con_of_cd tyOk mix Tryz.func44 rfl rfl rfl (Nat.le_of_ble_eq_true rfl) ?_
 repeat' first | refine Ra ⟨?_⟩ | (refine ⟨es.length, by simp only [List.length_map], by simp only [List.length_map], (by unfold room; omega), Nat.le_of_ble_eq_true rfl, ?_⟩ <;> conv => whnf) | refine Rd (fun h => ⟨?_⟩) fun h => ⟨?_⟩ | refine Rb ⟨?_⟩ | fail
 refine Cd.loop2 (fun mq tm S nx => ∃ (i : Nat) (xs : List (List D)), mq = (es.length - i) ∧ tm = [(0, .sl (es.map Lse.c)), (3, .own 0), (4, .k .i64 i)] ∧ S = [(0, .own 93 xs)] ∧ nx = 1 ∧ (i ≤ es.length) ∧ (xs = (es.take i).map Lse.c ++ List.replicate (es.length - i) [.k .i64 0, .s [], .k .i64 0, .k .i64 0])) ?_ ?_
 · refine la [0, 3, 4] ?_
   conv => whnf
   refine ⟨rfl, rfl, _, 0, _, rfl, rfl, rfl, rfl, Nat.zero_le _, rfl⟩
 · rintro mq tm S nx ⟨i, xs, hn, rfl, rfl, rfl, hi, hxs⟩
   have hxl : xs.length = es.length := by rw [hxs]; simp; omega
   by_cases hlt : i < es.length
   · have hg : xs[i]? = some [.k .i64 0, .s [], .k .i64 0, .k .i64 0] := by rw [hxs]; exact fill_get hlt
     have g1 : es[i]? = some es[i] := List.getElem?_eq_getElem hlt
     have g2 := fill_set (f := Lse.c) (z := ([.k .i64 0, .s [], .k .i64 0, .k .i64 0] : List D)) hlt
     rw [← hxs] at g2
     generalize es[i] = x at g1 g2
     have c1 := toLease_con (m := m) x
     repeat' first | refine Ra ⟨?_⟩ | refine R0 c1 ⟨?_⟩ | (refine ⟨_, hg, Nat.le_of_ble_eq_true rfl, ?_⟩ <;> conv => whnf) | refine Rd (fun h => ⟨?_⟩) fun h => ⟨?_⟩ | refine Rb ⟨?_⟩ | fail
     refine .here ⟨mq - 1, by omega, ?_⟩
     refine la [0, 3, 4] ?_
     conv => whnf
     refine ⟨rfl, rfl, i + 1, _, (by omega), rfl, rfl, rfl, by omega, g2⟩
   · have hx : xs = es.map Lse.c := by
       rw [hxs, List.take_of_length_le (by omega)]
       have : es.length - i = 0 := by omega
       simp [this]
     subst hx
     repeat' first | refine Ra ⟨?_⟩ | refine Rd (fun h => ⟨?_⟩) fun h => ⟨?_⟩ | refine Rb ⟨?_⟩ | fail
     exact Rf
theorem eqLeaseS_con (t : List Lse) (hl : t.length ≤ 1048576) : Con (E m) 16 0 [.sl (t.map Lse.c), .sl (t.map Lse.c)] [] (.b true) [] := by
 have e1 : (t.map Lse.c).length = t.length := List.length_map ..
 refine con_of_cd tyOk mix Tryz.func16 rfl rfl rfl (Nat.le_of_ble_eq_true rfl) ?_
 repeat' first | refine Ra ⟨?_⟩ | refine Rd (fun h => ⟨?_⟩) fun h => ⟨?_⟩ | refine Rb ⟨?_⟩ | fail
 refine Cd.loop2 (fun mq tm S nx => ∃ (i : Nat), mq = (t.length - i) ∧ tm = [(0, .sl (t.map Lse.c)), (1, .sl (t.map Lse.c)), (5, .k .i64 i)] ∧ S = [] ∧ nx = 0 ∧ (i ≤ t.length)) ?_ ?_
 · refine la [0, 1, 5] ?_
   conv => whnf
   refine ⟨rfl, rfl, _, 0, rfl, rfl, rfl, rfl, by omega⟩
 · rintro mq tm S nx ⟨i, hn, rfl, rfl, rfl, hi⟩
   rcases drop_or t i hi with ⟨rfl, hd⟩ | ⟨x, r, hx, hd, hr, hlt⟩
   · repeat' first | refine Ra ⟨?_⟩ | refine Rd (fun h => ⟨?_⟩) fun h => ⟨?_⟩ | refine Rb ⟨?_⟩ | fail
     exact Rf
   · have c1 := eqLease_con (m := m) x
     repeat' first | refine Ra ⟨?_⟩ | refine R0 c1 ⟨?_⟩ | refine Rd (fun h => ⟨?_⟩) fun h => ⟨?_⟩ | refine Rb ⟨?_⟩ | fail
     refine .here ⟨mq - 1, by omega, ?_⟩
     refine la [0, 1, 5] ?_
     conv => whnf
     refine ⟨rfl, rfl, i + 1, (by omega), rfl, rfl, rfl, by omega⟩
theorem szHoldS_any (es : List Hld) (n : Int) (hn : 0 ≤ n ∧ n ≤ 1048576) (hl : es.length ≤ 9223372036854775807) (h : ∀ e ∈ es, wH e) : ∃ r : Int, Con (E m) 85 0 [.sl (es.map Hld.c), .k .i64 n] [] (.k .i64 r) [] ∧ (r = -1 ∨ (0 ≤ r ∧ r + es.length ≤ n ∧ ∀ e ∈ es, bH e)) := by
 have e1 : (es.map Hld.c).length = es.length := List.length_map ..
 suffices H : ∃ d S', (∃ r : Int, d = .k .i64 r ∧ S' = [] ∧ (r = -1 ∨ (0 ≤ r ∧ r + es.length ≤ n ∧ ∀ e ∈ es, bH e))) ∧ Con (E m) 85 0 [.sl (es.map Hld.c), .k .i64 n] [] d S' from by
  obtain ⟨d, S', ⟨r, rfl, rfl, h⟩, c⟩ := H
  exact ⟨r, c, h⟩
 by_cases h0 : n - es.length < 0
 · refine any_of_cd tyOk mix Tryz.func85 rfl rfl rfl (Nat.le_of_ble_eq_true rfl) ?_
   repeat' first | refine Ra ⟨?_⟩ | refine Rd (fun h => ⟨?_⟩) fun h => ⟨?_⟩ | refine Rb ⟨?_⟩ | fail
   refine AnyEnd.here (aa ?_)
   conv => whnf
   refine ⟨rfl, rfl, _, rfl, ⟨-1, rfl, rfl, .inl rfl⟩⟩
 · refine any_of_cd tyOk mix Tryz.func85 rfl rfl rfl (Nat.le_of_ble_eq_true rfl) ?_
   repeat' first | refine Ra ⟨?_⟩ | refine Rd (fun h => ⟨?_⟩) fun h => ⟨?_⟩ | refine Rb ⟨?_⟩ | fail
   refine Cd.loop2 (fun mq tm S nx => ∃ (i : Nat) (l : Int), mq = (es.length - i) ∧ tm = [(0, .sl (es.map Hld.c)), (1, .k .i64 l), (5, .k .i64 i)] ∧ S = [] ∧ nx = 0 ∧ (i ≤ es.length) ∧ (0 ≤ l) ∧ (l + es.length ≤ n) ∧ (∀ e ∈ es.take i, bH e)) ?_ ?_
   · refine la [0, 1, 5] ?_
     conv => whnf
     refine ⟨rfl, rfl, _, 0, _, rfl, rfl, rfl, rfl, Nat.zero_le _, (by omega), (by omega), by simp⟩
   · rintro mq tm S nx ⟨i, l, hn, rfl, rfl, rfl, hi, h1, h2, hB⟩
     rcases drop_or es i hi with ⟨rfl, hd⟩ | ⟨x, r, hx, hd, hr, hlt⟩
     · rw [List.take_length] at hB
       repeat' first | refine Ra ⟨?_⟩ | refine Rd (fun h => ⟨?_⟩) fun h => ⟨?_⟩ | refine Rb ⟨?_⟩ | fail
       refine AnyEnd.here (aa ?_)
       conv => whnf
       refine ⟨rfl, rfl, _, rfl, ⟨l, rfl, rfl, .inr ⟨h1, h2, hB⟩⟩⟩
     · obtain ⟨q, c1, hq⟩ := szHold_any (m := m) x l ⟨h1, by omega⟩ (h x (List.mem_of_getElem? hx))
       rcases hq with rfl | ⟨q1, q2, q3⟩
       · repeat' first | refine Ra ⟨?_⟩ | refine R0 c1 ⟨?_⟩ | refine Rd (fun h => ⟨?_⟩) fun h => ⟨?_⟩ | refine Rb ⟨?_⟩ | fail
         refine AnyEnd.here (aa ?_)
         conv => whnf
         refine ⟨rfl, rfl, _, rfl, ⟨-1, rfl, rfl, .inl rfl⟩⟩
       · repeat' first | refine Ra ⟨?_⟩ | refine R0 c1 ⟨?_⟩ | refine Rd (fun h => ⟨?_⟩) fun h => ⟨?_⟩ | refine Rb ⟨?_⟩ | fail
         refine .here ⟨mq - 1, by omega, ?_⟩
         refine la [0, 1, 5] ?_
         conv => whnf
         refine ⟨rfl, rfl, i + 1, q, (by omega), rfl, rfl, rfl, by omega, q1, by omega, ?_⟩
         intro e he
         rw [take_succ hx] at he
         rcases List.mem_append.1 he with he | he
         · exact hB e he
         · rw [List.mem_singleton.1 he]; exact q3
theorem toHoldS_con (es : List Hld) (hl : es.length ≤ 1048576) : Con (E m) 99 0 [.sl (es.map Hld.c)] [] (.own 0) [(0, .own 152 (es.map Hld.c))] := by
 have e1 : (es.map Hld.c).length = es.length := List.length_map ..
 refine con_of_cd tyOk mix Tryz.func99 rfl rfl rfl (Nat.le_of_ble_eq_true rfl) ?_
 repeat' first | refine Ra ⟨?_⟩ | (refine ⟨es.length, by simp only [List.length_map], by simp only [List.length_map], (by unfold room; omega), Nat.le_of_ble_eq_true rfl, ?_⟩ <;> conv => whnf) | refine Rd (fun h => ⟨?_⟩) fun h => ⟨?_⟩ | refine Rb ⟨?_⟩ | fail
 refine Cd.loop2 (fun mq tm S nx => ∃ (i : Nat) (xs : List (List D)), mq = (es.length - i) ∧ tm = [(0, .sl (es.map Hld.c)), (3, .own 0), (4, .k .i64 i)] ∧ S = [(0, .own 152 xs)] ∧ nx = 1 ∧ (i ≤ es.length) ∧ (xs = (es.take i).map Hld.c ++ List.replicate (es.length - i) [.s [], .b false, .s [], .b false, .s [], .k .i64 0, .k .i64 0])) ?_ ?_
 · refine la [0, 3, 4] ?_
   conv => whnf
   refine ⟨rfl, rfl, _, 0, _, rfl, rfl, rfl, rfl, Nat.zero_le _, rfl⟩
 · rintro mq tm S nx ⟨i, xs, hn, rfl, rfl, rfl, hi, hxs⟩
   have hxl : xs.length = es.length := by rw [hxs]; simp; omega
   by_cases hlt : i < es.length
   · have hg : xs[i]? = some [.s [], .b false, .s [], .b false, .s [], .k .i64 0, .k .i64 0] := by rw [hxs]; exact fill_get hlt
     have g1 : es[i]? = some es[i] := List.getElem?_eq_getElem hlt
     have g2 := fill_set (f := Hld.c) (z := ([.s [], .b false, .s [], .b false, .s [], .k .i64 0, .k .i64 0] : List D)) hlt
     rw [← hxs] at g2
     generalize es[i] = x at g1 g2
     have c1 := toHold_con (m := m) x
     repeat' first | refine Ra ⟨?_⟩ | refine R0 c1 ⟨?_⟩ | (refine ⟨_, hg, Nat.le_of_ble_eq_true rfl, ?_⟩ <;> conv => whnf) | refine Rd (fun h => ⟨?_⟩) fun h => ⟨?_⟩ | refine Rb ⟨?_⟩ | fail
     refine .here ⟨mq - 1, by omega, ?_⟩
     refine la [0, 3, 4] ?_
     conv => whnf
     refine ⟨rfl, rfl, i + 1, _, (by omega), rfl, rfl, rfl, by omega, g2⟩
   · have hx : xs = es.map Hld.c := by
       rw [hxs, List.take_of_length_le (by omega)]
       have : es.length - i = 0 := by omega
       simp [this]
     subst hx
     repeat' first | refine Ra ⟨?_⟩ | refine Rd (fun h => ⟨?_⟩) fun h => ⟨?_⟩ | refine Rb ⟨?_⟩ | fail
     exact Rf
theorem eqHoldS_con (t : List Hld) (hl : t.length ≤ 1048576) : Con (E m) 115 0 [.sl (t.map Hld.c), .sl (t.map Hld.c)] [] (.b true) [] := by
 have e1 : (t.map Hld.c).length = t.length := List.length_map ..
 refine con_of_cd tyOk mix Tryz.func115 rfl rfl rfl (Nat.le_of_ble_eq_true rfl) ?_
 repeat' first | refine Ra ⟨?_⟩ | refine Rd (fun h => ⟨?_⟩) fun h => ⟨?_⟩ | refine Rb ⟨?_⟩ | fail
 refine Cd.loop2 (fun mq tm S nx => ∃ (i : Nat), mq = (t.length - i) ∧ tm = [(0, .sl (t.map Hld.c)), (1, .sl (t.map Hld.c)), (5, .k .i64 i)] ∧ S = [] ∧ nx = 0 ∧ (i ≤ t.length)) ?_ ?_
 · refine la [0, 1, 5] ?_
   conv => whnf
   refine ⟨rfl, rfl, _, 0, rfl, rfl, rfl, rfl, by omega⟩
 · rintro mq tm S nx ⟨i, hn, rfl, rfl, rfl, hi⟩
   rcases drop_or t i hi with ⟨rfl, hd⟩ | ⟨x, r, hx, hd, hr, hlt⟩
   · repeat' first | refine Ra ⟨?_⟩ | refine Rd (fun h => ⟨?_⟩) fun h => ⟨?_⟩ | refine Rb ⟨?_⟩ | fail
     exact Rf
   · have c1 := eqHold_con (m := m) x
     repeat' first | refine Ra ⟨?_⟩ | refine R0 c1 ⟨?_⟩ | refine Rd (fun h => ⟨?_⟩) fun h => ⟨?_⟩ | refine Rb ⟨?_⟩ | fail
     refine .here ⟨mq - 1, by omega, ?_⟩
     refine la [0, 1, 5] ?_
     conv => whnf
     refine ⟨rfl, rfl, i + 1, (by omega), rfl, rfl, rfl, by omega⟩
theorem szMsgS_any (es : List Mes) (n : Int) (hn : 0 ≤ n ∧ n ≤ 1048576) (hl : es.length ≤ 9223372036854775807) (h : ∀ e ∈ es, wM e) : ∃ r : Int, Con (E m) 40 0 [.sl (es.map Mes.c), .k .i64 n] [] (.k .i64 r) [] ∧ (r = -1 ∨ (0 ≤ r ∧ r + es.length ≤ n ∧ ∀ e ∈ es, bM e)) := by
 have e1 : (es.map Mes.c).length = es.length := List.length_map ..
 suffices H : ∃ d S', (∃ r : Int, d = .k .i64 r ∧ S' = [] ∧ (r = -1 ∨ (0 ≤ r ∧ r + es.length ≤ n ∧ ∀ e ∈ es, bM e))) ∧ Con (E m) 40 0 [.sl (es.map Mes.c), .k .i64 n] [] d S' from by
  obtain ⟨d, S', ⟨r, rfl, rfl, h⟩, c⟩ := H
  exact ⟨r, c, h⟩
 by_cases h0 : n - es.length < 0
 · refine any_of_cd tyOk mix Tryz.func40 rfl rfl rfl (Nat.le_of_ble_eq_true rfl) ?_
   repeat' first | refine Ra ⟨?_⟩ | refine Rd (fun h => ⟨?_⟩) fun h => ⟨?_⟩ | refine Rb ⟨?_⟩ | fail
   refine AnyEnd.here (aa ?_)
   conv => whnf
   refine ⟨rfl, rfl, _, rfl, ⟨-1, rfl, rfl, .inl rfl⟩⟩
 · refine any_of_cd tyOk mix Tryz.func40 rfl rfl rfl (Nat.le_of_ble_eq_true rfl) ?_
   repeat' first | refine Ra ⟨?_⟩ | refine Rd (fun h => ⟨?_⟩) fun h => ⟨?_⟩ | refine Rb ⟨?_⟩ | fail
   refine Cd.loop2 (fun mq tm S nx => ∃ (i : Nat) (l : Int), mq = (es.length - i) ∧ tm = [(0, .sl (es.map Mes.c)), (1, .k .i64 l), (5, .k .i64 i)] ∧ S = [] ∧ nx = 0 ∧ (i ≤ es.length) ∧ (0 ≤ l) ∧ (l + es.length ≤ n) ∧ (∀ e ∈ es.take i, bM e)) ?_ ?_
   · refine la [0, 1, 5] ?_
     conv => whnf
     refine ⟨rfl, rfl, _, 0, _, rfl, rfl, rfl, rfl, Nat.zero_le _, (by omega), (by omega), by simp⟩
   · rintro mq tm S nx ⟨i, l, hn, rfl, rfl, rfl, hi, h1, h2, hB⟩
     rcases drop_or es i hi with ⟨rfl, hd⟩ | ⟨x, r, hx, hd, hr, hlt⟩
     · rw [List.take_length] at hB
       repeat' first | refine Ra ⟨?_⟩ | refine Rd (fun h => ⟨?_⟩) fun h => ⟨?_⟩ | refine Rb ⟨?_⟩ | fail
       refine AnyEnd.here (aa ?_)
       conv => whnf
       refine ⟨rfl, rfl, _, rfl, ⟨l, rfl, rfl, .inr ⟨h1, h2, hB⟩⟩⟩
     · obtain ⟨q, c1, hq⟩ := szMsg_any (m := m) x l ⟨h1, by omega⟩ (h x (List.mem_of_getElem? hx))
       rcases hq with rfl | ⟨q1, q2, q3⟩
       · repeat' first | refine Ra ⟨?_⟩ | refine R0 c1 ⟨?_⟩ | refine Rd (fun h => ⟨?_⟩) fun h => ⟨?_⟩ | refine Rb ⟨?_⟩ | fail
         refine AnyEnd.here (aa ?_)
         conv => whnf
         refine ⟨rfl, rfl, _, rfl, ⟨-1, rfl, rfl, .inl rfl⟩⟩
       · repeat' first | refine Ra ⟨?_⟩ | refine R0 c1 ⟨?_⟩ | refine Rd (fun h => ⟨?_⟩) fun h => ⟨?_⟩ | refine Rb ⟨?_⟩ | fail
         refine .here ⟨mq - 1, by omega, ?_⟩
         refine la [0, 1, 5] ?_
         conv => whnf
         refine ⟨rfl, rfl, i + 1, q, (by omega), rfl, rfl, rfl, by omega, q1, by omega, ?_⟩
         intro e he
         rw [take_succ hx] at he
         rcases List.mem_append.1 he with he | he
         · exact hB e he
         · rw [List.mem_singleton.1 he]; exact q3
theorem toMsgS_con (es : List Mes) (hl : es.length ≤ 1048576) : Con (E m) 47 0 [.sl (es.map Mes.c)] [] (.own 0) [(0, .own 154 (es.map Mes.c))] := by
 have e1 : (es.map Mes.c).length = es.length := List.length_map ..
 refine con_of_cd tyOk mix Tryz.func47 rfl rfl rfl (Nat.le_of_ble_eq_true rfl) ?_
 repeat' first | refine Ra ⟨?_⟩ | (refine ⟨es.length, by simp only [List.length_map], by simp only [List.length_map], (by unfold room; omega), Nat.le_of_ble_eq_true rfl, ?_⟩ <;> conv => whnf) | refine Rd (fun h => ⟨?_⟩) fun h => ⟨?_⟩ | refine Rb ⟨?_⟩ | fail
 refine Cd.loop2 (fun mq tm S nx => ∃ (i : Nat) (xs : List (List D)), mq = (es.length - i) ∧ tm = [(0, .sl (es.map Mes.c)), (3, .own 0), (4, .k .i64 i)] ∧ S = [(0, .own 154 xs)] ∧ nx = 1 ∧ (i ≤ es.length) ∧ (xs = (es.take i).map Mes.c ++ List.replicate (es.length - i) [.k .i64 0, .k .i64 0, .s [], .b false, .s [], .b false, .s [], .k .i64 0, .k .i64 0])) ?_ ?_
 · refine la [0, 3, 4] ?_
   conv => whnf
   refine ⟨rfl, rfl, _, 0, _, rfl, rfl, rfl, rfl, Nat.zero_le _, rfl⟩
 · rintro mq tm S nx ⟨i, xs, hn, rfl, rfl, rfl, hi, hxs⟩
   have hxl : xs.length = es.length := by rw [hxs]; simp; omega
   by_cases hlt : i < es.length
   · have hg : xs[i]? = some [.k .i64 0, .k .i64 0, .s [], .b false, .s [], .b false, .s [], .k .i64 0, .k .i64 0] := by rw [hxs]; exact fill_get hlt
     have g1 : es[i]? = some es[i] := List.getElem?_eq_getElem hlt
     have g2 := fill_set (f := Mes.c) (z := ([.k .i64 0, .k .i64 0, .s [], .b false, .s [], .b false, .s [], .k .i64 0, .k .i64 0] : List D)) hlt
     rw [← hxs] at g2
     generalize es[i] = x at g1 g2
     have c1 := toMsg_con (m := m) x
     repeat' first | refine Ra ⟨?_⟩ | refine R0 c1 ⟨?_⟩ | (refine ⟨_, hg, Nat.le_of_ble_eq_true rfl, ?_⟩ <;> conv => whnf) | refine Rd (fun h => ⟨?_⟩) fun h => ⟨?_⟩ | refine Rb ⟨?_⟩ | fail
     refine .here ⟨mq - 1, by omega, ?_⟩
     refine la [0, 3, 4] ?_
     conv => whnf
     refine ⟨rfl, rfl, i + 1, _, (by omega), rfl, rfl, rfl, by omega, g2⟩
   · have hx : xs = es.map Mes.c := by
       rw [hxs, List.take_of_length_le (by omega)]
       have : es.length - i = 0 := by omega
       simp [this]
     subst hx
     repeat' first | refine Ra ⟨?_⟩ | refine Rd (fun h => ⟨?_⟩) fun h => ⟨?_⟩ | refine Rb ⟨?_⟩ | fail
     exact Rf
theorem eqMsgS_con (t : List Mes) (hl : t.length ≤ 1048576) : Con (E m) 55 0 [.sl (t.map Mes.c), .sl (t.map Mes.c)] [] (.b true) [] := by
 have e1 : (t.map Mes.c).length = t.length := List.length_map ..
 refine con_of_cd tyOk mix Tryz.func55 rfl rfl rfl (Nat.le_of_ble_eq_true rfl) ?_
 repeat' first | refine Ra ⟨?_⟩ | refine Rd (fun h => ⟨?_⟩) fun h => ⟨?_⟩ | refine Rb ⟨?_⟩ | fail
 refine Cd.loop2 (fun mq tm S nx => ∃ (i : Nat), mq = (t.length - i) ∧ tm = [(0, .sl (t.map Mes.c)), (1, .sl (t.map Mes.c)), (5, .k .i64 i)] ∧ S = [] ∧ nx = 0 ∧ (i ≤ t.length)) ?_ ?_
 · refine la [0, 1, 5] ?_
   conv => whnf
   refine ⟨rfl, rfl, _, 0, rfl, rfl, rfl, rfl, by omega⟩
 · rintro mq tm S nx ⟨i, hn, rfl, rfl, rfl, hi⟩
   rcases drop_or t i hi with ⟨rfl, hd⟩ | ⟨x, r, hx, hd, hr, hlt⟩
   · repeat' first | refine Ra ⟨?_⟩ | refine Rd (fun h => ⟨?_⟩) fun h => ⟨?_⟩ | refine Rb ⟨?_⟩ | fail
     exact Rf
   · have c1 := eqMsg_con (m := m) x
     repeat' first | refine Ra ⟨?_⟩ | refine R0 c1 ⟨?_⟩ | refine Rd (fun h => ⟨?_⟩) fun h => ⟨?_⟩ | refine Rb ⟨?_⟩ | fail
     refine .here ⟨mq - 1, by omega, ?_⟩
     refine la [0, 1, 5] ?_
     conv => whnf
     refine ⟨rfl, rfl, i + 1, (by omega), rfl, rfl, rfl, by omega⟩
theorem markLeaseS_con (t : List Lse) (k : Int) (hk : 0 ≤ k ∧ k ≤ 10000000) (ht : t.length ≤ 1100000) : Con (E m) 19 1 [.own 0, .k .i64 k] [(0, .own 93 (t.map Lse.c))] (.k .i64 (k + 4 * t.length)) [(0, .own 93 ((mkL fLs 4 k t.length).map Lse.c))] := by
 refine con_of_cd tyOk mix Tryz.func19 rfl rfl rfl (Nat.le_of_ble_eq_true rfl) ?_
 repeat' first | refine Ra ⟨?_⟩ | refine Rd (fun h => ⟨?_⟩) fun h => ⟨?_⟩ | refine Rb ⟨?_⟩ | fail
 refine Cd.loop2 (fun mq tm S nx => ∃ (i : Nat) (q : Int) (xs : List (List D)), mq = (t.length - i) ∧ tm = [(0, .own 0), (1, .k .i64 q), (5, .k .i64 i)] ∧ S = [(0, .own 93 xs)] ∧ nx = 1 ∧ (i ≤ t.length) ∧ (q = k + 4 * i) ∧ (xs = (mkL fLs 4 k i).map Lse.c ++ (t.drop i).map Lse.c)) ?_ ?_
 · refine la [0, 1, 5] ?_
   conv => whnf
   refine ⟨rfl, rfl, _, 0, k, _, rfl, rfl, rfl, rfl, Nat.zero_le _, by omega, rfl⟩
 · rintro mq tm S nx ⟨i, q, xs, hn, rfl, rfl, rfl, hi, hq, hx⟩
   rcases drop_or t i hi with ⟨rfl, hd⟩ | ⟨x, r, hx', hd, hr, hlt⟩
   · rw [hd, List.map_nil, List.append_nil] at hx
     have hxl : xs.length = t.length := by rw [hx, List.length_map, mkL_len]
     rw [← hx, ← hq]
     repeat' first | refine Ra ⟨?_⟩ | (refine bf (by omega) ?_ <;> conv => whnf) | refine Rd (fun h => ⟨?_⟩) fun h => ⟨?_⟩ | refine Rb ⟨?_⟩ | fail
     exact Rf
   · rw [hd, List.map_cons] at hx
     have hAl : i = ((mkL fLs 4 k i).map Lse.c).length := by rw [List.length_map, mkL_len]
     have hxl : xs.length = t.length := by
      have := congrArg List.length hd
      simp at this
      rw [hx, List.length_append, ← hAl, List.length_cons, List.length_map]; omega
     have hg : xs[i]? = some (Lse.c x) := by rw [hx]; exact get_mid hAl
     have c1 := markText_con (m := m) (q + 1) (by omega)
     repeat' first | refine Ra ⟨?_⟩ | (refine bt (by omega) ?_ <;> conv => whnf) | refine R0 c1 ⟨?_⟩ | (refine ⟨i, rfl, by (try simp only [List.length_set]); omega, ?_⟩ <;> conv => whnf) | (refine ⟨_, hg, Nat.le_of_ble_eq_true rfl, ?_⟩ <;> conv => whnf) | (refine ⟨_, get_set (by (try simp only [List.length_set]); omega), Nat.le_of_ble_eq_true rfl, ?_⟩ <;> conv => whnf) | refine Rd (fun h => ⟨?_⟩) fun h => ⟨?_⟩ | refine Rb ⟨?_⟩ | fail
     refine .here ⟨mq - 1, by omega, ?_⟩
     refine la [0, 1, 5] ?_
     conv => whnf
     refine ⟨rfl, rfl, i + 1, q + 1 + 1 + 1 + 1, _, (by omega), rfl, rfl, rfl, by omega, by omega, ?_⟩
     rw [List.set_set, List.set_set, List.set_set, hx, set_mid hAl, mkL, hr, ← hq, List.map_append, List.append_assoc]
     rfl
theorem heldLeaseS_con (n : Nat) (k : Int) (hk : 0 ≤ k ∧ k ≤ 10000000) (ht : n ≤ 1100000) : Con (E m) 20 0 [.sl ((mkL fLs 4 k n).map Lse.c), .k .i64 k] [] (.k .i64 (k + 4 * n)) [] := by
 have hml : ((mkL fLs 4 k n).map Lse.c).length = n := by rw [List.length_map, mkL_len]
 refine con_of_cd tyOk mix Tryz.func20 rfl rfl rfl (Nat.le_of_ble_eq_true rfl) ?_
 repeat' first | refine Ra ⟨?_⟩ | refine Rd (fun h => ⟨?_⟩) fun h => ⟨?_⟩ | refine Rb ⟨?_⟩ | fail
 refine Cd.loop2 (fun mq tm S nx => ∃ (i : Nat) (q : Int), mq = (n - i) ∧ tm = [(0, .sl ((mkL fLs 4 k n).map Lse.c)), (1, .k .i64 q), (5, .k .i64 i)] ∧ S = [] ∧ nx = 0 ∧ (i ≤ n) ∧ (q = k + 4 * i)) ?_ ?_
 · refine la [0, 1, 5] ?_
   conv => whnf
   refine ⟨rfl, rfl, _, 0, k, rfl, rfl, rfl, rfl, Nat.zero_le _, by omega⟩
 · rintro mq tm S nx ⟨i, q, hn, rfl, rfl, rfl, hi, hq⟩
   by_cases hlt : i < n
   · have hg : ((mkL fLs 4 k n).map Lse.c)[i]? = some [.k .i64 (q), .s (markT (q + 1)), .k .i64 (q + 1 + 1), .k .i64 (q + 1 + 1 + 1)] := by rw [List.getElem?_map, mkL_get hlt, hq]; rfl
     have c1 := markText_con (m := m) (q + 1) (by omega)
     repeat' first | refine Ra ⟨?_⟩ | (refine bt (by omega) ?_ <;> conv => whnf) | refine R0 c1 ⟨?_⟩ | (refine ⟨i, _, rfl, hg, rfl, ?_⟩ <;> conv => whnf) | refine Rd (fun h => ⟨?_⟩) fun h => ⟨?_⟩ | refine Rb ⟨?_⟩ | fail
     refine .here ⟨mq - 1, by omega, ?_⟩
     refine la [0, 1, 5] ?_
     conv => whnf
     refine ⟨rfl, rfl, i + 1, q + 1 + 1 + 1 + 1, (by omega), rfl, rfl, rfl, by omega, by omega⟩
   · have hi2 : i = n := by omega
     subst hi2
     rw [← hq]
     repeat' first | refine Ra ⟨?_⟩ | (refine bf (by omega) ?_ <;> conv => whnf) | refine Rd (fun h => ⟨?_⟩) fun h => ⟨?_⟩ | refine Rb ⟨?_⟩ | fail
     exact Rf
theorem markHoldS_con (t : List Hld) (k : Int) (hk : 0 ≤ k ∧ k ≤ 10000000) (ht : t.length ≤ 1100000) : Con (E m) 120 1 [.own 0, .k .i64 k] [(0, .own 152 (t.map Hld.c))] (.k .i64 (k + 7 * t.length)) [(0, .own 152 ((mkL fHd 7 k t.length).map Hld.c))] := by
 refine con_of_cd tyOk mix Tryz.func120 rfl rfl rfl (Nat.le_of_ble_eq_true rfl) ?_
 repeat' first | refine Ra ⟨?_⟩ | refine Rd (fun h => ⟨?_⟩) fun h => ⟨?_⟩ | refine Rb ⟨?_⟩ | fail
 refine Cd.loop2 (fun mq tm S nx => ∃ (i : Nat) (q : Int) (xs : List (List D)), mq = (t.length - i) ∧ tm = [(0, .own 0), (1, .k .i64 q), (5, .k .i64 i)] ∧ S = [(0, .own 152 xs)] ∧ nx = 1 ∧ (i ≤ t.length) ∧ (q = k + 7 * i) ∧ (xs = (mkL fHd 7 k i).map Hld.c ++ (t.drop i).map Hld.c)) ?_ ?_
 · refine la [0, 1, 5] ?_
   conv => whnf
   refine ⟨rfl, rfl, _, 0, k, _, rfl, rfl, rfl, rfl, Nat.zero_le _, by omega, rfl⟩
 · rintro mq tm S nx ⟨i, q, xs, hn, rfl, rfl, rfl, hi, hq, hx⟩
   rcases drop_or t i hi with ⟨rfl, hd⟩ | ⟨x, r, hx', hd, hr, hlt⟩
   · rw [hd, List.map_nil, List.append_nil] at hx
     have hxl : xs.length = t.length := by rw [hx, List.length_map, mkL_len]
     rw [← hx, ← hq]
     repeat' first | refine Ra ⟨?_⟩ | (refine bf (by omega) ?_ <;> conv => whnf) | refine Rd (fun h => ⟨?_⟩) fun h => ⟨?_⟩ | refine Rb ⟨?_⟩ | fail
     exact Rf
   · rw [hd, List.map_cons] at hx
     have hAl : i = ((mkL fHd 7 k i).map Hld.c).length := by rw [List.length_map, mkL_len]
     have hxl : xs.length = t.length := by
      have := congrArg List.length hd
      simp at this
      rw [hx, List.length_append, ← hAl, List.length_cons, List.length_map]; omega
     have hg : xs[i]? = some (Hld.c x) := by rw [hx]; exact get_mid hAl
     have c0 := markText_con (m := m) (q) (by omega)
     have c2 := markText_con (m := m) (q + 1 + 1) (by omega)
     have c4 := markText_con (m := m) (q + 1 + 1 + 1 + 1) (by omega)
     repeat' first | refine Ra ⟨?_⟩ | (refine bt (by omega) ?_ <;> conv => whnf) | refine R0 c0 ⟨?_⟩ | refine R0 c2 ⟨?_⟩ | refine R0 c4 ⟨?_⟩ | (refine ⟨i, rfl, by (try simp only [List.length_set]); omega, ?_⟩ <;> conv => whnf) | (refine ⟨_, hg, Nat.le_of_ble_eq_true rfl, ?_⟩ <;> conv => whnf) | (refine ⟨_, get_set (by (try simp only [List.length_set]); omega), Nat.le_of_ble_eq_true rfl, ?_⟩ <;> conv => whnf) | (refine wr (by omega) (by omega) ?_ <;> conv => whnf) | refine Rd (fun h => ⟨?_⟩) fun h => ⟨?_⟩ | refine Rb ⟨?_⟩ | fail
     refine .here ⟨mq - 1, by omega, ?_⟩
     refine la [0, 1, 5] ?_
     conv => whnf
     refine ⟨rfl, rfl, i + 1, q + 1 + 1 + 1 + 1 + 1 + 1 + 1, _, (by omega), rfl, rfl, rfl, by omega, by omega, ?_⟩
     rw [List.set_set, List.set_set, List.set_set, List.set_set, List.set_set, List.set_set, hx, set_mid hAl, mkL, hr, ← hq, List.map_append, List.append_assoc]
     rfl
theorem markMsgS_con (t : List Mes) (k : Int) (hk : 0 ≤ k ∧ k ≤ 10000000) (ht : t.length ≤ 1100000) : Con (E m) 60 1 [.own 0, .k .i64 k] [(0, .own 154 (t.map Mes.c))] (.k .i64 (k + 9 * t.length)) [(0, .own 154 ((mkL fMs 9 k t.length).map Mes.c))] := by
 refine con_of_cd tyOk mix Tryz.func60 rfl rfl rfl (Nat.le_of_ble_eq_true rfl) ?_
 repeat' first | refine Ra ⟨?_⟩ | refine Rd (fun h => ⟨?_⟩) fun h => ⟨?_⟩ | refine Rb ⟨?_⟩ | fail
 refine Cd.loop2 (fun mq tm S nx => ∃ (i : Nat) (q : Int) (xs : List (List D)), mq = (t.length - i) ∧ tm = [(0, .own 0), (1, .k .i64 q), (5, .k .i64 i)] ∧ S = [(0, .own 154 xs)] ∧ nx = 1 ∧ (i ≤ t.length) ∧ (q = k + 9 * i) ∧ (xs = (mkL fMs 9 k i).map Mes.c ++ (t.drop i).map Mes.c)) ?_ ?_
 · refine la [0, 1, 5] ?_
   conv => whnf
   refine ⟨rfl, rfl, _, 0, k, _, rfl, rfl, rfl, rfl, Nat.zero_le _, by omega, rfl⟩
 · rintro mq tm S nx ⟨i, q, xs, hn, rfl, rfl, rfl, hi, hq, hx⟩
   rcases drop_or t i hi with ⟨rfl, hd⟩ | ⟨x, r, hx', hd, hr, hlt⟩
   · rw [hd, List.map_nil, List.append_nil] at hx
     have hxl : xs.length = t.length := by rw [hx, List.length_map, mkL_len]
     rw [← hx, ← hq]
     repeat' first | refine Ra ⟨?_⟩ | (refine bf (by omega) ?_ <;> conv => whnf) | refine Rd (fun h => ⟨?_⟩) fun h => ⟨?_⟩ | refine Rb ⟨?_⟩ | fail
     exact Rf
   · rw [hd, List.map_cons] at hx
     have hAl : i = ((mkL fMs 9 k i).map Mes.c).length := by rw [List.length_map, mkL_len]
     have hxl : xs.length = t.length := by
      have := congrArg List.length hd
      simp at this
      rw [hx, List.length_append, ← hAl, List.length_cons, List.length_map]; omega
     have hg : xs[i]? = some (Mes.c x) := by rw [hx]; exact get_mid hAl
     have c2 := markText_con (m := m) (q + 1 + 1) (by omega)
     have c4 := markText_con (m := m) (q + 1 + 1 + 1 + 1) (by omega)
     have c6 := markText_con (m := m) (q + 1 + 1 + 1 + 1 + 1 + 1) (by omega)
     repeat' first | refine Ra ⟨?_⟩ | (refine bt (by omega) ?_ <;> conv => whnf) | refine R0 c2 ⟨?_⟩ | refine R0 c4 ⟨?_⟩ | refine R0 c6 ⟨?_⟩ | (refine ⟨i, rfl, by (try simp only [List.length_set]); omega, ?_⟩ <;> conv => whnf) | (refine ⟨_, hg, Nat.le_of_ble_eq_true rfl, ?_⟩ <;> conv => whnf) | (refine ⟨_, get_set (by (try simp only [List.length_set]); omega), Nat.le_of_ble_eq_true rfl, ?_⟩ <;> conv => whnf) | (refine wr (by omega) (by omega) ?_ <;> conv => whnf) | refine Rd (fun h => ⟨?_⟩) fun h => ⟨?_⟩ | refine Rb ⟨?_⟩ | fail
     refine .here ⟨mq - 1, by omega, ?_⟩
     refine la [0, 1, 5] ?_
     conv => whnf
     refine ⟨rfl, rfl, i + 1, q + 1 + 1 + 1 + 1 + 1 + 1 + 1 + 1 + 1, _, (by omega), rfl, rfl, rfl, by omega, by omega, ?_⟩
     rw [List.set_set, List.set_set, List.set_set, List.set_set, List.set_set, List.set_set, List.set_set, List.set_set, hx, set_mid hAl, mkL, hr, ← hq, List.map_append, List.append_assoc]
     rfl
end Go.Proofs.YtlicaibhgcenhaaGreatDoor
