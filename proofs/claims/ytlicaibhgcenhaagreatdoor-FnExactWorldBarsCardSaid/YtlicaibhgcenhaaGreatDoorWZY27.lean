/- Texts of this claim, set close: lemmas and contracts. -/
import Derived.Test.YtlicaibhgcenhaaGreatDoorWZY25
import Derived.Test.YtlicaibhgcenhaaGreatDoorWZY26
import Derived.Test.YtlicaibhgcenhaaGreatDoorWZY23
set_option linter.unusedSimpArgs false
set_option linter.unusedVariables false
set_option maxHeartbeats 1000000
set_option maxRecDepth 10000
namespace Go.Proofs.YtlicaibhgcenhaaGreatDoor
open Go Go.RowKit Go.Ab Go.Par
variable {m : Int}
def tot {α : Type} : List (List α) → Nat
 | [] => 0
 | x :: r => x.length + tot r
theorem tot_app {α : Type} : ∀ a b : List (List α), tot (a ++ b) = tot a + tot b
 | [], b => by simp [tot]
 | x :: r, b => by rw [List.cons_append, tot, tot, tot_app r b]; omega
theorem tot_take {α : Type} {ls : List (List α)} {i : Nat} {x : List α} (h : ls[i]? = some x) : tot (ls.take (i + 1)) = tot (ls.take i) + x.length := by
 rw [take_succ h, tot_app]
 rfl
theorem tot_le {α : Type} (ls : List (List α)) (i : Nat) : tot (ls.take i) ≤ tot ls := by
 have := tot_app (ls.take i) (ls.drop i)
 rw [List.take_append_drop] at this
 omega
def mkLL {α β : Type} (f : Int → β) (s : Int) : Int → List (List α) → List (List β)
 | _, [] => []
 | k, x :: r => mkL f s k x.length :: mkLL f s (k + s * x.length) r
theorem mkLL_len {α β : Type} (f : Int → β) (s : Int) : ∀ (k : Int) (ls : List (List α)), (mkLL f s k ls).length = ls.length
 | _, [] => rfl
 | k, x :: r => by rw [mkLL, List.length_cons, List.length_cons, mkLL_len f s _ r]
theorem mkLL_app {α β : Type} (f : Int → β) (s : Int) : ∀ (k : Int) (a b : List (List α)), mkLL f s k (a ++ b) = mkLL f s k a ++ mkLL f s (k + s * tot a) b
 | k, [], b => by simp [mkLL, tot]
 | k, x :: r, b => by
   rw [List.cons_append, mkLL, mkLL, mkLL_app f s _ r b, List.cons_append, tot]
   have e : k + s * x.length + s * tot r = k + s * ((x.length + tot r : Nat) : Int) := by
    rw [Int.natCast_add, Int.mul_add, Int.add_assoc]
   rw [e]
theorem mkLL_take {α β : Type} {f : Int → β} {s k : Int} {ls : List (List α)} {i : Nat} {x : List α} (h : ls[i]? = some x) : mkLL f s k (ls.take (i + 1)) = mkLL f s k (ls.take i) ++ [mkL f s (k + s * tot (ls.take i)) x.length] := by
 rw [take_succ h, mkLL_app]
 rfl
theorem lws (n a i : Nat) {k0 : Nat} {tm : Tm} {S : Store} {nx e e2 : Nat} {ws : WsT} {xs : List (List D)} {J : Tm → Store → Nat → Prop} (ts ns : List Nat) (h1 : lk S n = some (.deep e e2 ((anZ ws).set i (.nm a)))) (h2 : lk S a = some (.own e2 xs)) (hi : i < ws.length) (h3 : nodupB [n, a] = true)
   (h : nodupB ns = true ∧ preB 0 k0 ns = true ∧ J (carTm ns tm ts) (carS ns ((n, Blk.deep e e2 (anZ (ws.set i xs))) :: del n (del a S)) ns 0) ns.length) : landK k0 tm S nx J := by
 refine ⟨[.shut n], ts, ns, ?_⟩
 have hm : mv (.shut n) tm S nx = some (tm, (n, Blk.deep e e2 (anZ (ws.set i xs))) :: del n (del a S), nx) := by
  unfold mv
  simp only [h1, closeZ_set h2 ws i hi, h3, dels]
 unfold mvs
 rw [hm]
 exact h
def wE (e : Ent) : Prop := e.path.length ≤ 9223372036854775807 ∧ e.data.length ≤ 9223372036854775807
def wM1 (e : Mrk) : Prop := e.path.length ≤ 9223372036854775807 ∧ e.data.length ≤ 9223372036854775807
def bE1 (e : Ent) : Prop := e.path.length ≤ 1048576 ∧ e.data.length ≤ 1048576
def bM1 (e : Mrk) : Prop := e.path.length ≤ 1048576 ∧ e.data.length ≤ 1048576
theorem szEntS_any (es : List Ent) (n : Int) (hn : 0 ≤ n ∧ n ≤ 1048576) (hl : es.length ≤ 9223372036854775807) (h : ∀ e ∈ es, wE e) : ∃ r : Int, Con (E m) 81 0 [.sl (es.map Ent.c), .k .i64 n] [] (.k .i64 r) [] ∧ (r = -1 ∨ (0 ≤ r ∧ r + es.length ≤ n ∧ ∀ e ∈ es, bE1 e)) := by
 have e1 : (es.map Ent.c).length = es.length := List.length_map ..
 suffices H : ∃ d S', (∃ r : Int, d = .k .i64 r ∧ S' = [] ∧ (r = -1 ∨ (0 ≤ r ∧ r + es.length ≤ n ∧ ∀ e ∈ es, bE1 e))) ∧ Con (E m) 81 0 [.sl (es.map Ent.c), .k .i64 n] [] d S' from by
  obtain ⟨d, S', ⟨r, rfl, rfl, h⟩, c⟩ := H
  exact ⟨r, c, h⟩
 by_cases h0 : n - es.length < 0
 · refine any_of_cd tyOk mix Tryz.func81 rfl rfl rfl (Nat.le_of_ble_eq_true rfl) ?_
   repeat' first | refine Ra ⟨?_⟩ | refine Rd (fun h => ⟨?_⟩) fun h => ⟨?_⟩ | refine Rb ⟨?_⟩ | fail
   refine AnyEnd.here (aa ?_)
   conv => whnf
   refine ⟨rfl, rfl, _, rfl, ⟨-1, rfl, rfl, .inl rfl⟩⟩
 · refine any_of_cd tyOk mix Tryz.func81 rfl rfl rfl (Nat.le_of_ble_eq_true rfl) ?_
   repeat' first | refine Ra ⟨?_⟩ | refine Rd (fun h => ⟨?_⟩) fun h => ⟨?_⟩ | refine Rb ⟨?_⟩ | fail
   refine Cd.loop2 (fun mq tm S nx => ∃ (i : Nat) (l : Int), mq = (es.length - i) ∧ tm = [(0, .sl (es.map Ent.c)), (1, .k .i64 l), (5, .k .i64 i)] ∧ S = [] ∧ nx = 0 ∧ (i ≤ es.length) ∧ (0 ≤ l) ∧ (l + es.length ≤ n) ∧ (∀ e ∈ es.take i, bE1 e)) ?_ ?_
   · refine la [0, 1, 5] ?_
     conv => whnf
     refine ⟨rfl, rfl, _, 0, _, rfl, rfl, rfl, rfl, Nat.zero_le _, (by omega), (by omega), by simp⟩
   · rintro mq tm S nx ⟨i, l, hn, rfl, rfl, rfl, hi, h1, h2, hB⟩
     rcases drop_or es i hi with ⟨rfl, hd⟩ | ⟨x, r, hx, hd, hr, hlt⟩
     · rw [List.take_length] at hB
       repeat' first | refine Ra ⟨?_⟩ | refine Rd (fun h => ⟨?_⟩) fun h => ⟨?_⟩ | refine Rb ⟨?_⟩ | fail
       refine AnyEnd.here (aa ?_)
       conv => whnf
       refine ⟨rfl, rfl, _, rfl, ⟨l, rfl, rfl, .inr ⟨h1, h2, hB⟩⟩⟩
     · have hw := h x (List.mem_of_getElem? hx)
       have c1 := szEnt_con (m := m) x l ⟨h1, by omega⟩ hw.1 hw.2
       have hq := less2_or l x.path.length x.data.length
       generalize less2 l x.path.length x.data.length = q at c1 hq
       by_cases hq0 : q < 0
       · repeat' first | refine Ra ⟨?_⟩ | refine R0 c1 ⟨?_⟩ | refine Rd (fun h => ⟨?_⟩) fun h => ⟨?_⟩ | refine Rb ⟨?_⟩ | fail
         refine AnyEnd.here (aa ?_)
         conv => whnf
         refine ⟨rfl, rfl, _, rfl, ⟨-1, rfl, rfl, .inl rfl⟩⟩
       · repeat' first | refine Ra ⟨?_⟩ | refine R0 c1 ⟨?_⟩ | refine Rd (fun h => ⟨?_⟩) fun h => ⟨?_⟩ | refine Rb ⟨?_⟩ | fail
         refine .here ⟨mq - 1, by omega, ?_⟩
         refine la [0, 1, 5] ?_
         conv => whnf
         refine ⟨rfl, rfl, i + 1, q, (by omega), rfl, rfl, rfl, by omega, (by omega), by omega, ?_⟩
         intro e he
         rw [take_succ hx] at he
         rcases List.mem_append.1 he with he | he
         · exact hB e he
         · rw [List.mem_singleton.1 he]; exact ⟨by omega, by omega⟩
theorem szMarkS_any (es : List Mrk) (n : Int) (hn : 0 ≤ n ∧ n ≤ 1048576) (hl : es.length ≤ 9223372036854775807) (h : ∀ e ∈ es, wM1 e) : ∃ r : Int, Con (E m) 83 0 [.sl (es.map Mrk.c), .k .i64 n] [] (.k .i64 r) [] ∧ (r = -1 ∨ (0 ≤ r ∧ r + es.length ≤ n ∧ ∀ e ∈ es, bM1 e)) := by
 have e1 : (es.map Mrk.c).length = es.length := List.length_map ..
 suffices H : ∃ d S', (∃ r : Int, d = .k .i64 r ∧ S' = [] ∧ (r = -1 ∨ (0 ≤ r ∧ r + es.length ≤ n ∧ ∀ e ∈ es, bM1 e))) ∧ Con (E m) 83 0 [.sl (es.map Mrk.c), .k .i64 n] [] d S' from by
  obtain ⟨d, S', ⟨r, rfl, rfl, h⟩, c⟩ := H
  exact ⟨r, c, h⟩
 by_cases h0 : n - es.length < 0
 · refine any_of_cd tyOk mix Tryz.func83 rfl rfl rfl (Nat.le_of_ble_eq_true rfl) ?_
   repeat' first | refine Ra ⟨?_⟩ | refine Rd (fun h => ⟨?_⟩) fun h => ⟨?_⟩ | refine Rb ⟨?_⟩ | fail
   refine AnyEnd.here (aa ?_)
   conv => whnf
   refine ⟨rfl, rfl, _, rfl, ⟨-1, rfl, rfl, .inl rfl⟩⟩
 · refine any_of_cd tyOk mix Tryz.func83 rfl rfl rfl (Nat.le_of_ble_eq_true rfl) ?_
   repeat' first | refine Ra ⟨?_⟩ | refine Rd (fun h => ⟨?_⟩) fun h => ⟨?_⟩ | refine Rb ⟨?_⟩ | fail
   refine Cd.loop2 (fun mq tm S nx => ∃ (i : Nat) (l : Int), mq = (es.length - i) ∧ tm = [(0, .sl (es.map Mrk.c)), (1, .k .i64 l), (5, .k .i64 i)] ∧ S = [] ∧ nx = 0 ∧ (i ≤ es.length) ∧ (0 ≤ l) ∧ (l + es.length ≤ n) ∧ (∀ e ∈ es.take i, bM1 e)) ?_ ?_
   · refine la [0, 1, 5] ?_
     conv => whnf
     refine ⟨rfl, rfl, _, 0, _, rfl, rfl, rfl, rfl, Nat.zero_le _, (by omega), (by omega), by simp⟩
   · rintro mq tm S nx ⟨i, l, hn, rfl, rfl, rfl, hi, h1, h2, hB⟩
     rcases drop_or es i hi with ⟨rfl, hd⟩ | ⟨x, r, hx, hd, hr, hlt⟩
     · rw [List.take_length] at hB
       repeat' first | refine Ra ⟨?_⟩ | refine Rd (fun h => ⟨?_⟩) fun h => ⟨?_⟩ | refine Rb ⟨?_⟩ | fail
       refine AnyEnd.here (aa ?_)
       conv => whnf
       refine ⟨rfl, rfl, _, rfl, ⟨l, rfl, rfl, .inr ⟨h1, h2, hB⟩⟩⟩
     · have hw := h x (List.mem_of_getElem? hx)
       have c1 := szMark_con (m := m) x l ⟨h1, by omega⟩ hw.1 hw.2
       have hq := less2_or l x.path.length x.data.length
       generalize less2 l x.path.length x.data.length = q at c1 hq
       by_cases hq0 : q < 0
       · repeat' first | refine Ra ⟨?_⟩ | refine R0 c1 ⟨?_⟩ | refine Rd (fun h => ⟨?_⟩) fun h => ⟨?_⟩ | refine Rb ⟨?_⟩ | fail
         refine AnyEnd.here (aa ?_)
         conv => whnf
         refine ⟨rfl, rfl, _, rfl, ⟨-1, rfl, rfl, .inl rfl⟩⟩
       · repeat' first | refine Ra ⟨?_⟩ | refine R0 c1 ⟨?_⟩ | refine Rd (fun h => ⟨?_⟩) fun h => ⟨?_⟩ | refine Rb ⟨?_⟩ | fail
         refine .here ⟨mq - 1, by omega, ?_⟩
         refine la [0, 1, 5] ?_
         conv => whnf
         refine ⟨rfl, rfl, i + 1, q, (by omega), rfl, rfl, rfl, by omega, (by omega), by omega, ?_⟩
         intro e he
         rw [take_succ hx] at he
         rcases List.mem_append.1 he with he | he
         · exact hB e he
         · rw [List.mem_singleton.1 he]; exact ⟨by omega, by omega⟩
theorem szMarkSS_any (ls : List (List Mrk)) (n : Int) (hn : 0 ≤ n ∧ n ≤ 1048576) (hl : ls.length ≤ 9223372036854775807) (h : ∀ l ∈ ls, l.length ≤ 9223372036854775807 ∧ ∀ e ∈ l, wM1 e) : ∃ r : Int, Con (E m) 82 0 [.sl (ls.map layC), .k .i64 n] [] (.k .i64 r) [] ∧ (r = -1 ∨ (0 ≤ r ∧ r + ls.length + tot ls ≤ n ∧ ∀ l ∈ ls, l.length ≤ 1048576 ∧ ∀ e ∈ l, bM1 e)) := by
 have e1 : (ls.map layC).length = ls.length := List.length_map ..
 suffices H : ∃ d S', (∃ r : Int, d = .k .i64 r ∧ S' = [] ∧ (r = -1 ∨ (0 ≤ r ∧ r + ls.length + tot ls ≤ n ∧ ∀ l ∈ ls, l.length ≤ 1048576 ∧ ∀ e ∈ l, bM1 e))) ∧ Con (E m) 82 0 [.sl (ls.map layC), .k .i64 n] [] d S' from by
  obtain ⟨d, S', ⟨r, rfl, rfl, h⟩, c⟩ := H
  exact ⟨r, c, h⟩
 by_cases h0 : n - ls.length < 0
 · refine any_of_cd tyOk mix Tryz.func82 rfl rfl rfl (Nat.le_of_ble_eq_true rfl) ?_
   repeat' first | refine Ra ⟨?_⟩ | refine Rd (fun h => ⟨?_⟩) fun h => ⟨?_⟩ | refine Rb ⟨?_⟩ | fail
   refine AnyEnd.here (aa ?_)
   conv => whnf
   refine ⟨rfl, rfl, _, rfl, ⟨-1, rfl, rfl, .inl rfl⟩⟩
 · refine any_of_cd tyOk mix Tryz.func82 rfl rfl rfl (Nat.le_of_ble_eq_true rfl) ?_
   repeat' first | refine Ra ⟨?_⟩ | refine Rd (fun h => ⟨?_⟩) fun h => ⟨?_⟩ | refine Rb ⟨?_⟩ | fail
   refine Cd.loop2 (fun mq tm S nx => ∃ (i : Nat) (l : Int), mq = (ls.length - i) ∧ tm = [(0, .sl (ls.map layC)), (1, .k .i64 l), (5, .k .i64 i)] ∧ S = [] ∧ nx = 0 ∧ (i ≤ ls.length) ∧ (0 ≤ l) ∧ (l + ls.length + tot (ls.take i) ≤ n) ∧ (∀ l ∈ ls.take i, l.length ≤ 1048576 ∧ ∀ e ∈ l, bM1 e)) ?_ ?_
   · refine la [0, 1, 5] ?_
     conv => whnf
     refine ⟨rfl, rfl, _, 0, _, rfl, rfl, rfl, rfl, Nat.zero_le _, (by omega), (by rw [List.take_zero, tot]; omega), by simp⟩
   · rintro mq tm S nx ⟨i, l, hn, rfl, rfl, rfl, hi, h1, h2, hB⟩
     rcases drop_or ls i hi with ⟨rfl, hd⟩ | ⟨x, r, hx, hd, hr, hlt⟩
     · rw [List.take_length] at hB h2
       repeat' first | refine Ra ⟨?_⟩ | refine Rd (fun h => ⟨?_⟩) fun h => ⟨?_⟩ | refine Rb ⟨?_⟩ | fail
       refine AnyEnd.here (aa ?_)
       conv => whnf
       refine ⟨rfl, rfl, _, rfl, ⟨l, rfl, rfl, .inr ⟨h1, h2, hB⟩⟩⟩
     · have hw := h x (List.mem_of_getElem? hx)
       have hg : (ls.map layC)[i]? = some [.sl (x.map Mrk.c)] := by rw [List.getElem?_map, hx]; rfl
       have ht := tot_take hx
       obtain ⟨q, c1, hq⟩ := szMarkS_any (m := m) x l ⟨h1, by omega⟩ hw.1 hw.2
       rcases hq with rfl | ⟨q1, q2, q3⟩
       · repeat' first | refine Ra ⟨?_⟩ | refine R0 c1 ⟨?_⟩ | (refine ⟨i, _, rfl, hg, rfl, ?_⟩ <;> conv => whnf) | refine Rd (fun h => ⟨?_⟩) fun h => ⟨?_⟩ | refine Rb ⟨?_⟩ | fail
         refine AnyEnd.here (aa ?_)
         conv => whnf
         refine ⟨rfl, rfl, _, rfl, ⟨-1, rfl, rfl, .inl rfl⟩⟩
       · repeat' first | refine Ra ⟨?_⟩ | refine R0 c1 ⟨?_⟩ | (refine ⟨i, _, rfl, hg, rfl, ?_⟩ <;> conv => whnf) | refine Rd (fun h => ⟨?_⟩) fun h => ⟨?_⟩ | refine Rb ⟨?_⟩ | fail
         refine .here ⟨mq - 1, by omega, ?_⟩
         refine la [0, 1, 5] ?_
         conv => whnf
         refine ⟨rfl, rfl, i + 1, q, (by omega), rfl, rfl, rfl, by omega, q1, by omega, ?_⟩
         intro e he
         rw [take_succ hx] at he
         rcases List.mem_append.1 he with he | he
         · exact hB e he
         · rw [List.mem_singleton.1 he]; exact ⟨by omega, q3⟩
theorem eqMarkSS_con (ls : List (List Mrk)) (hl : ls.length ≤ 1048576) (hb : ∀ l ∈ ls, l.length ≤ 1048576) : Con (E m) 113 0 [.sl (ls.map layC), .sl (ls.map layC)] [] (.b true) [] := by
 have e1 : (ls.map layC).length = ls.length := List.length_map ..
 refine con_of_cd tyOk mix Tryz.func113 rfl rfl rfl (Nat.le_of_ble_eq_true rfl) ?_
 repeat' first | refine Ra ⟨?_⟩ | refine Rd (fun h => ⟨?_⟩) fun h => ⟨?_⟩ | refine Rb ⟨?_⟩ | fail
 refine Cd.loop2 (fun mq tm S nx => ∃ (i : Nat), mq = (ls.length - i) ∧ tm = [(0, .sl (ls.map layC)), (1, .sl (ls.map layC)), (5, .k .i64 i)] ∧ S = [] ∧ nx = 0 ∧ (i ≤ ls.length)) ?_ ?_
 · refine la [0, 1, 5] ?_
   conv => whnf
   refine ⟨rfl, rfl, _, 0, rfl, rfl, rfl, rfl, Nat.zero_le _⟩
 · rintro mq tm S nx ⟨i, hn, rfl, rfl, rfl, hi⟩
   rcases drop_or ls i hi with ⟨rfl, hd⟩ | ⟨x, r, hx, hd, hr, hlt⟩
   · repeat' first | refine Ra ⟨?_⟩ | refine Rd (fun h => ⟨?_⟩) fun h => ⟨?_⟩ | refine Rb ⟨?_⟩ | fail
     exact Rf
   · have c1 := eqMarkS_con (m := m) x (hb x (List.mem_of_getElem? hx))
     have hg : (ls.map layC)[i]? = some [.sl (x.map Mrk.c)] := by rw [List.getElem?_map, hx]; rfl
     repeat' first | refine Ra ⟨?_⟩ | refine R0 c1 ⟨?_⟩ | (refine ⟨i, _, rfl, hg, rfl, ?_⟩ <;> conv => whnf) | refine Rd (fun h => ⟨?_⟩) fun h => ⟨?_⟩ | refine Rb ⟨?_⟩ | fail
     refine .here ⟨mq - 1, by omega, ?_⟩
     refine la [0, 1, 5] ?_
     conv => whnf
     refine ⟨rfl, rfl, i + 1, (by omega), rfl, rfl, rfl, by omega⟩
theorem markMarkSS_con (ls : List (List Mrk)) (k : Int) (hk : 0 ≤ k ∧ k + 3 * tot ls ≤ 10000000) (hl : ls.length ≤ 1048576) (hb : ∀ l ∈ ls, l.length ≤ 1048576) : Con (E m) 118 1 [.own 0, .k .i64 k] [(0, .deep 47 197 (anZ (ls.map fun l => l.map Mrk.c)))] (.k .i64 (k + 3 * tot ls)) [(0, .deep 47 197 (anZ ((mkLL fM 3 k ls).map fun l => l.map Mrk.c)))] := by
 refine cDE ?_
 refine con_of_cd tyOkD mixD Tryz.func118 rfl rfl rfl (Nat.le_of_ble_eq_true rfl) ?_
 repeat' first | refine Ra ⟨?_⟩ | refine Rd (fun h => ⟨?_⟩) fun h => ⟨?_⟩ | refine Rb ⟨?_⟩ | fail
 refine Cd.loop2 (fun mq tm S nx => ∃ (i : Nat) (q : Int) (ws : WsT), mq = (ls.length - i) ∧ tm = [(0, .own 0), (1, .k .i64 q), (5, .k .i64 i)] ∧ S = [(0, .deep 47 197 (anZ ws))] ∧ nx = 1 ∧ (i ≤ ls.length) ∧ (q = k + 3 * tot (ls.take i)) ∧ (ws = (mkLL fM 3 k (ls.take i)).map (fun l => l.map Mrk.c) ++ (ls.drop i).map fun l => l.map Mrk.c)) ?_ ?_
 · refine ⟨[], [0, 1, 5], [0], ?_⟩
   conv => whnf
   refine ⟨rfl, rfl, _, 0, k, ls.map fun l => l.map Mrk.c, rfl, rfl, congrArg (fun z => [(0, Blk.deep _ _ z)]) (car_an _ _), rfl, Nat.zero_le _, (by rw [List.take_zero, tot]; omega), rfl⟩
 · rintro mq tm S nx ⟨i, q, ws, hn, rfl, rfl, rfl, hi, hq, hw⟩
   have hAl : i = ((mkLL fM 3 k (ls.take i)).map fun l => l.map Mrk.c).length := by rw [List.length_map, mkLL_len, List.length_take]; omega
   have hwl : ws.length = ls.length := by rw [hw, List.length_append, ← hAl, List.length_map, List.length_drop]; omega
   have hwz : (anZ ws).length = ls.length := by rw [an_len, hwl]
   rcases drop_or ls i hi with ⟨rfl, hd⟩ | ⟨x, r, hx, hd, hr, hlt⟩
   · rw [List.take_length] at hw hq
     rw [hd, List.map_nil, List.append_nil] at hw
     rw [← hw, ← hq]
     repeat' first | refine Ra ⟨?_⟩ | (refine bf (by omega) ?_ <;> conv => whnf) | refine Rd (fun h => ⟨?_⟩) fun h => ⟨?_⟩ | refine Rb ⟨?_⟩ | fail
     refine CallEnd.here ⟨[], [0], ?_⟩
     conv => whnf
     exact ⟨rfl, rfl, rfl, congrArg (fun z => [(0, Blk.deep _ _ z)]) (car_an _ _)⟩
   · rw [hd, List.map_cons] at hw
     have hg : ws[i]? = some (x.map Mrk.c) := by rw [hw]; exact get_mid hAl
     have hxl := hb x (List.mem_of_getElem? hx)
     have ht := tot_take hx
     have htl := tot_le ls (i + 1)
     have c1 := cD (markMarkS_con (m := m) x q (by omega) (by omega))
     repeat' first | refine Ra ⟨?_⟩ | refine Rk [1] 0 c1 ⟨?_⟩ | (refine bt (by omega) ?_ <;> conv => whnf) | (refine ⟨i, rfl, (by rw [an_len]; omega), ?_⟩ <;> conv => whnf) | (refine ⟨_, an_get hg, ?_⟩ <;> conv => whnf) | refine Rd (fun h => ⟨?_⟩) fun h => ⟨?_⟩ | refine Rb ⟨?_⟩ | fail
     refine .here ⟨mq - 1, by omega, ?_⟩
     refine lws 0 1 i [0, 1, 5] [0] rfl rfl (by omega) rfl ?_
     conv => whnf
     refine ⟨rfl, rfl, i + 1, q + 3 * x.length, ws.set i ((mkL fM 3 q x.length).map Mrk.c), (by omega), rfl, congrArg (fun z => [(0, Blk.deep _ _ z)]) (car_an _ _), rfl, by omega, (by omega), ?_⟩
     rw [hw, set_mid hAl, mkLL_take hx, hr, ← hq, List.map_append, List.append_assoc]
     rfl
theorem szHoldSS_any (ls : List (List Hld)) (n : Int) (hn : 0 ≤ n ∧ n ≤ 1048576) (hl : ls.length ≤ 9223372036854775807) (h : ∀ l ∈ ls, l.length ≤ 9223372036854775807 ∧ ∀ e ∈ l, wH e) : ∃ r : Int, Con (E m) 38 0 [.sl (ls.map hlsC), .k .i64 n] [] (.k .i64 r) [] ∧ (r = -1 ∨ (0 ≤ r ∧ r + ls.length + tot ls ≤ n ∧ ∀ l ∈ ls, l.length ≤ 1048576 ∧ ∀ e ∈ l, bH e)) := by
 have e1 : (ls.map hlsC).length = ls.length := List.length_map ..
 suffices H : ∃ d S', (∃ r : Int, d = .k .i64 r ∧ S' = [] ∧ (r = -1 ∨ (0 ≤ r ∧ r + ls.length + tot ls ≤ n ∧ ∀ l ∈ ls, l.length ≤ 1048576 ∧ ∀ e ∈ l, bH e))) ∧ Con (E m) 38 0 [.sl (ls.map hlsC), .k .i64 n] [] d S' from by
  obtain ⟨d, S', ⟨r, rfl, rfl, h⟩, c⟩ := H
  exact ⟨r, c, h⟩
 by_cases h0 : n - ls.length < 0
 · refine any_of_cd tyOk mix Tryz.func38 rfl rfl rfl (Nat.le_of_ble_eq_true rfl) ?_
   repeat' first | refine Ra ⟨?_⟩ | refine Rd (fun h => ⟨?_⟩) fun h => ⟨?_⟩ | refine Rb ⟨?_⟩ | fail
   refine AnyEnd.here (aa ?_)
   conv => whnf
   refine ⟨rfl, rfl, _, rfl, ⟨-1, rfl, rfl, .inl rfl⟩⟩
 · refine any_of_cd tyOk mix Tryz.func38 rfl rfl rfl (Nat.le_of_ble_eq_true rfl) ?_
   repeat' first | refine Ra ⟨?_⟩ | refine Rd (fun h => ⟨?_⟩) fun h => ⟨?_⟩ | refine Rb ⟨?_⟩ | fail
   refine Cd.loop2 (fun mq tm S nx => ∃ (i : Nat) (l : Int), mq = (ls.length - i) ∧ tm = [(0, .sl (ls.map hlsC)), (1, .k .i64 l), (5, .k .i64 i)] ∧ S = [] ∧ nx = 0 ∧ (i ≤ ls.length) ∧ (0 ≤ l) ∧ (l + ls.length + tot (ls.take i) ≤ n) ∧ (∀ l ∈ ls.take i, l.length ≤ 1048576 ∧ ∀ e ∈ l, bH e)) ?_ ?_
   · refine la [0, 1, 5] ?_
     conv => whnf
     refine ⟨rfl, rfl, _, 0, _, rfl, rfl, rfl, rfl, Nat.zero_le _, (by omega), (by rw [List.take_zero, tot]; omega), by simp⟩
   · rintro mq tm S nx ⟨i, l, hn, rfl, rfl, rfl, hi, h1, h2, hB⟩
     rcases drop_or ls i hi with ⟨rfl, hd⟩ | ⟨x, r, hx, hd, hr, hlt⟩
     · rw [List.take_length] at hB h2
       repeat' first | refine Ra ⟨?_⟩ | refine Rd (fun h => ⟨?_⟩) fun h => ⟨?_⟩ | refine Rb ⟨?_⟩ | fail
       refine AnyEnd.here (aa ?_)
       conv => whnf
       refine ⟨rfl, rfl, _, rfl, ⟨l, rfl, rfl, .inr ⟨h1, h2, hB⟩⟩⟩
     · have hw := h x (List.mem_of_getElem? hx)
       have hg : (ls.map hlsC)[i]? = some [.sl (x.map Hld.c)] := by rw [List.getElem?_map, hx]; rfl
       have ht := tot_take hx
       obtain ⟨q, c1, hq⟩ := szHoldS_any (m := m) x l ⟨h1, by omega⟩ hw.1 hw.2
       rcases hq with rfl | ⟨q1, q2, q3⟩
       · repeat' first | refine Ra ⟨?_⟩ | refine R0 c1 ⟨?_⟩ | (refine ⟨i, _, rfl, hg, rfl, ?_⟩ <;> conv => whnf) | refine Rd (fun h => ⟨?_⟩) fun h => ⟨?_⟩ | refine Rb ⟨?_⟩ | fail
         refine AnyEnd.here (aa ?_)
         conv => whnf
         refine ⟨rfl, rfl, _, rfl, ⟨-1, rfl, rfl, .inl rfl⟩⟩
       · repeat' first | refine Ra ⟨?_⟩ | refine R0 c1 ⟨?_⟩ | (refine ⟨i, _, rfl, hg, rfl, ?_⟩ <;> conv => whnf) | refine Rd (fun h => ⟨?_⟩) fun h => ⟨?_⟩ | refine Rb ⟨?_⟩ | fail
         refine .here ⟨mq - 1, by omega, ?_⟩
         refine la [0, 1, 5] ?_
         conv => whnf
         refine ⟨rfl, rfl, i + 1, q, (by omega), rfl, rfl, rfl, by omega, q1, by omega, ?_⟩
         intro e he
         rw [take_succ hx] at he
         rcases List.mem_append.1 he with he | he
         · exact hB e he
         · rw [List.mem_singleton.1 he]; exact ⟨by omega, q3⟩
theorem toHoldSS_con (ls : List (List Hld)) (hl : ls.length ≤ 1048576) (hb : ∀ l ∈ ls, l.length ≤ 1048576) : Con (E m) 45 0 [.sl (ls.map hlsC)] [] (.own 0) [(0, .deep 159 152 (anZ (ls.map fun l => l.map Hld.c)))] := by
 have e1 : (ls.map hlsC).length = ls.length := List.length_map ..
 refine cDE ?_
 refine con_of_cd tyOkD mixD Tryz.func45 rfl rfl rfl (Nat.le_of_ble_eq_true rfl) ?_
 repeat' first | refine Ra ⟨?_⟩ | (refine ⟨rfl, ?_⟩ <;> conv => whnf) | (refine ⟨(ls.map hlsC).length, rfl, (by unfold room; omega), Nat.le_of_ble_eq_true rfl, ?_⟩ <;> conv => whnf) | refine Rd (fun h => ⟨?_⟩) fun h => ⟨?_⟩ | refine Rb ⟨?_⟩ | fail
 refine Cd.loop2 (fun mq tm S nx => ∃ (i : Nat) (ws : WsT), mq = (ls.length - i) ∧ tm = [(0, .sl (ls.map hlsC)), (3, .own 0), (4, .k .i64 i)] ∧ S = [(0, .deep 159 152 (anZ ws))] ∧ nx = 1 ∧ (i ≤ ls.length) ∧ (ws = (ls.take i).map (fun l => l.map Hld.c) ++ List.replicate (ls.length - i) [])) ?_ ?_
 · refine ⟨[], [0, 3, 4], [1], ?_⟩
   conv => whnf
   refine ⟨rfl, rfl, _, 0, List.replicate ls.length [], rfl, rfl, ?_, rfl, Nat.zero_le _, rfl⟩
   have e : List.replicate ls.length (Slot.an []) = anZ (List.replicate ls.length []) := by simp [anZ]
   rw [e1, e]
   exact congrArg (fun z => [(0, Blk.deep _ _ z)]) (car_an _ _)
 · rintro mq tm S nx ⟨i, ws, hn, rfl, rfl, rfl, hi, hw⟩
   have hwl : ws.length = ls.length := by rw [hw]; simp; omega
   rcases drop_or ls i hi with ⟨rfl, hd⟩ | ⟨x, r, hx, hd, hr, hlt⟩
   · have hws : ws = ls.map fun l => l.map Hld.c := by rw [hw]; simp
     rw [← hws]
     repeat' first | refine Ra ⟨?_⟩ | refine Rd (fun h => ⟨?_⟩) fun h => ⟨?_⟩ | refine Rb ⟨?_⟩ | fail
     refine CallEnd.here ⟨[], [0], ?_⟩
     conv => whnf
     exact ⟨rfl, rfl, rfl, congrArg (fun z => [(0, Blk.deep _ _ z)]) (car_an _ _)⟩
   · have c1 := cD (toHoldS_con (m := m) x (hb x (List.mem_of_getElem? hx)))
     repeat' first | refine Ra ⟨?_⟩ | refine Rk [] 1 c1 ⟨?_⟩ | (refine ⟨i, rfl, (by rw [an_len]; omega), ?_⟩ <;> conv => whnf) | (refine ⟨(by rw [an_len]; omega), ?_⟩ <;> conv => whnf) | refine Rd (fun h => ⟨?_⟩) fun h => ⟨?_⟩ | refine Rb ⟨?_⟩ | fail
     refine .here ⟨mq - 1, by omega, ?_⟩
     refine lwc 0 1 i [0, 3, 4] [2] rfl rfl (by omega) rfl ?_
     conv => whnf
     refine ⟨rfl, rfl, i + 1, ws.set i (x.map Hld.c), (by omega), rfl, congrArg (fun z => [(0, Blk.deep _ _ z)]) (car_an _ _), rfl, by omega, (by rw [hw, fill_set' hx])⟩
theorem eqHoldSS_con (ls : List (List Hld)) (hl : ls.length ≤ 1048576) (hb : ∀ l ∈ ls, l.length ≤ 1048576) : Con (E m) 53 0 [.sl (ls.map hlsC), .sl (ls.map hlsC)] [] (.b true) [] := by
 have e1 : (ls.map hlsC).length = ls.length := List.length_map ..
 refine con_of_cd tyOk mix Tryz.func53 rfl rfl rfl (Nat.le_of_ble_eq_true rfl) ?_
 repeat' first | refine Ra ⟨?_⟩ | refine Rd (fun h => ⟨?_⟩) fun h => ⟨?_⟩ | refine Rb ⟨?_⟩ | fail
 refine Cd.loop2 (fun mq tm S nx => ∃ (i : Nat), mq = (ls.length - i) ∧ tm = [(0, .sl (ls.map hlsC)), (1, .sl (ls.map hlsC)), (5, .k .i64 i)] ∧ S = [] ∧ nx = 0 ∧ (i ≤ ls.length)) ?_ ?_
 · refine la [0, 1, 5] ?_
   conv => whnf
   refine ⟨rfl, rfl, _, 0, rfl, rfl, rfl, rfl, Nat.zero_le _⟩
 · rintro mq tm S nx ⟨i, hn, rfl, rfl, rfl, hi⟩
   rcases drop_or ls i hi with ⟨rfl, hd⟩ | ⟨x, r, hx, hd, hr, hlt⟩
   · repeat' first | refine Ra ⟨?_⟩ | refine Rd (fun h => ⟨?_⟩) fun h => ⟨?_⟩ | refine Rb ⟨?_⟩ | fail
     exact Rf
   · have c1 := eqHoldS_con (m := m) x (hb x (List.mem_of_getElem? hx))
     have hg : (ls.map hlsC)[i]? = some [.sl (x.map Hld.c)] := by rw [List.getElem?_map, hx]; rfl
     repeat' first | refine Ra ⟨?_⟩ | refine R0 c1 ⟨?_⟩ | (refine ⟨i, _, rfl, hg, rfl, ?_⟩ <;> conv => whnf) | refine Rd (fun h => ⟨?_⟩) fun h => ⟨?_⟩ | refine Rb ⟨?_⟩ | fail
     refine .here ⟨mq - 1, by omega, ?_⟩
     refine la [0, 1, 5] ?_
     conv => whnf
     refine ⟨rfl, rfl, i + 1, (by omega), rfl, rfl, rfl, by omega⟩
theorem markHoldSS_con (ls : List (List Hld)) (k : Int) (hk : 0 ≤ k ∧ k + 7 * tot ls ≤ 10000000) (hl : ls.length ≤ 1048576) (hb : ∀ l ∈ ls, l.length ≤ 1048576) : Con (E m) 58 1 [.own 0, .k .i64 k] [(0, .deep 159 152 (anZ (ls.map fun l => l.map Hld.c)))] (.k .i64 (k + 7 * tot ls)) [(0, .deep 159 152 (anZ ((mkLL fHd 7 k ls).map fun l => l.map Hld.c)))] := by
 refine cDE ?_
 refine con_of_cd tyOkD mixD Tryz.func58 rfl rfl rfl (Nat.le_of_ble_eq_true rfl) ?_
 repeat' first | refine Ra ⟨?_⟩ | refine Rd (fun h => ⟨?_⟩) fun h => ⟨?_⟩ | refine Rb ⟨?_⟩ | fail
 refine Cd.loop2 (fun mq tm S nx => ∃ (i : Nat) (q : Int) (ws : WsT), mq = (ls.length - i) ∧ tm = [(0, .own 0), (1, .k .i64 q), (5, .k .i64 i)] ∧ S = [(0, .deep 159 152 (anZ ws))] ∧ nx = 1 ∧ (i ≤ ls.length) ∧ (q = k + 7 * tot (ls.take i)) ∧ (ws = (mkLL fHd 7 k (ls.take i)).map (fun l => l.map Hld.c) ++ (ls.drop i).map fun l => l.map Hld.c)) ?_ ?_
 · refine ⟨[], [0, 1, 5], [0], ?_⟩
   conv => whnf
   refine ⟨rfl, rfl, _, 0, k, ls.map fun l => l.map Hld.c, rfl, rfl, congrArg (fun z => [(0, Blk.deep _ _ z)]) (car_an _ _), rfl, Nat.zero_le _, (by rw [List.take_zero, tot]; omega), rfl⟩
 · rintro mq tm S nx ⟨i, q, ws, hn, rfl, rfl, rfl, hi, hq, hw⟩
   have hAl : i = ((mkLL fHd 7 k (ls.take i)).map fun l => l.map Hld.c).length := by rw [List.length_map, mkLL_len, List.length_take]; omega
   have hwl : ws.length = ls.length := by rw [hw, List.length_append, ← hAl, List.length_map, List.length_drop]; omega
   have hwz : (anZ ws).length = ls.length := by rw [an_len, hwl]
   rcases drop_or ls i hi with ⟨rfl, hd⟩ | ⟨x, r, hx, hd, hr, hlt⟩
   · rw [List.take_length] at hw hq
     rw [hd, List.map_nil, List.append_nil] at hw
     rw [← hw, ← hq]
     repeat' first | refine Ra ⟨?_⟩ | (refine bf (by omega) ?_ <;> conv => whnf) | refine Rd (fun h => ⟨?_⟩) fun h => ⟨?_⟩ | refine Rb ⟨?_⟩ | fail
     refine CallEnd.here ⟨[], [0], ?_⟩
     conv => whnf
     exact ⟨rfl, rfl, rfl, congrArg (fun z => [(0, Blk.deep _ _ z)]) (car_an _ _)⟩
   · rw [hd, List.map_cons] at hw
     have hg : ws[i]? = some (x.map Hld.c) := by rw [hw]; exact get_mid hAl
     have hxl := hb x (List.mem_of_getElem? hx)
     have ht := tot_take hx
     have htl := tot_le ls (i + 1)
     have c1 := cD (markHoldS_con (m := m) x q (by omega) (by omega))
     repeat' first | refine Ra ⟨?_⟩ | refine Rk [1] 0 c1 ⟨?_⟩ | (refine bt (by omega) ?_ <;> conv => whnf) | (refine ⟨i, rfl, (by rw [an_len]; omega), ?_⟩ <;> conv => whnf) | (refine ⟨_, an_get hg, ?_⟩ <;> conv => whnf) | refine Rd (fun h => ⟨?_⟩) fun h => ⟨?_⟩ | refine Rb ⟨?_⟩ | fail
     refine .here ⟨mq - 1, by omega, ?_⟩
     refine lws 0 1 i [0, 1, 5] [0] rfl rfl (by omega) rfl ?_
     conv => whnf
     refine ⟨rfl, rfl, i + 1, q + 7 * x.length, ws.set i ((mkL fHd 7 q x.length).map Hld.c), (by omega), rfl, congrArg (fun z => [(0, Blk.deep _ _ z)]) (car_an _ _), rfl, by omega, (by omega), ?_⟩
     rw [hw, set_mid hAl, mkLL_take hx, hr, ← hq, List.map_append, List.append_assoc]
     rfl
theorem szIntS_any (es : List Int) (n : Int) (hn : 0 ≤ n ∧ n ≤ 1048576) (hl : es.length ≤ 9223372036854775807) : ∃ r : Int, Con (E m) 39 0 [.sl (ints es), .k .i64 n] [] (.k .i64 r) [] ∧ (r = -1 ∨ (0 ≤ r ∧ r + es.length ≤ n)) := by
 have e1 : (ints es).length = es.length := List.length_map ..
 by_cases h0 : n - es.length < 0
 · refine ⟨-1, ?_, .inl rfl⟩
   refine con_of_cd tyOk mix Tryz.func39 rfl rfl rfl (Nat.le_of_ble_eq_true rfl) ?_
   repeat' first | refine Ra ⟨?_⟩ | refine Rd (fun h => ⟨?_⟩) fun h => ⟨?_⟩ | refine Rb ⟨?_⟩ | fail
   exact Rf
 · refine ⟨n - es.length, ?_, .inr ⟨by omega, by omega⟩⟩
   rw [← e1]
   refine con_of_cd tyOk mix Tryz.func39 rfl rfl rfl (Nat.le_of_ble_eq_true rfl) ?_
   repeat' first | refine Ra ⟨?_⟩ | refine Rd (fun h => ⟨?_⟩) fun h => ⟨?_⟩ | refine Rb ⟨?_⟩ | fail
   exact Rf
theorem toIntS_con (es : List Int) (hl : es.length ≤ 1048576) : Con (E m) 46 0 [.sl (ints es)] [] (.own 0) [(0, .own 3 (ints es))] := by
 have e1 : (ints es).length = es.length := List.length_map ..
 refine con_of_cd tyOk mix Tryz.func46 rfl rfl rfl (Nat.le_of_ble_eq_true rfl) ?_
 repeat' first | refine Ra ⟨?_⟩ | (refine ⟨es.length, by simp only [List.length_map], by simp only [List.length_map], (by unfold room; omega), Nat.le_of_ble_eq_true rfl, ?_⟩ <;> conv => whnf) | refine Rd (fun h => ⟨?_⟩) fun h => ⟨?_⟩ | refine Rb ⟨?_⟩ | fail
 refine Cd.loop2 (fun mq tm S nx => ∃ (i : Nat) (xs : List (List D)), mq = (es.length - i) ∧ tm = [(0, .sl (ints es)), (3, .own 0), (4, .k .i64 i)] ∧ S = [(0, .own 3 xs)] ∧ nx = 1 ∧ (i ≤ es.length) ∧ (xs = ints (es.take i) ++ List.replicate (es.length - i) [.k .i64 0])) ?_ ?_
 · refine la [0, 3, 4] ?_
   conv => whnf
   refine ⟨rfl, rfl, _, 0, _, rfl, rfl, rfl, rfl, Nat.zero_le _, rfl⟩
 · rintro mq tm S nx ⟨i, xs, hn, rfl, rfl, rfl, hi, hxs⟩
   have hxl : xs.length = es.length := by rw [hxs]; simp; omega
   by_cases hlt : i < es.length
   · have hg : xs[i]? = some [.k .i64 0] := by rw [hxs]; exact fill_get hlt
     have g1 : es[i]? = some es[i] := List.getElem?_eq_getElem hlt
     have g2 := fill_set (f := fun n => [D.k .i64 n]) (z := ([.k .i64 0] : List D)) hlt
     rw [← hxs] at g2
     generalize es[i] = x at g1 g2
     have g3 : (ints es)[i]? = some [.k .i64 x] := by rw [List.getElem?_map, g1]; rfl
     repeat' first | refine Ra ⟨?_⟩ | (refine ⟨_, hg, Nat.le_of_ble_eq_true rfl, ?_⟩ <;> conv => whnf) | (refine ⟨i, _, rfl, g3, rfl, ?_⟩ <;> conv => whnf) | refine Rd (fun h => ⟨?_⟩) fun h => ⟨?_⟩ | refine Rb ⟨?_⟩ | fail
     refine .here ⟨mq - 1, by omega, ?_⟩
     refine la [0, 3, 4] ?_
     conv => whnf
     refine ⟨rfl, rfl, i + 1, _, (by omega), rfl, rfl, rfl, by omega, g2⟩
   · have hx : xs = ints es := by
       rw [hxs, List.take_of_length_le (by omega)]
       have : es.length - i = 0 := by omega
       simp [this]
     subst hx
     repeat' first | refine Ra ⟨?_⟩ | refine Rd (fun h => ⟨?_⟩) fun h => ⟨?_⟩ | refine Rb ⟨?_⟩ | fail
     exact Rf
end Go.Proofs.YtlicaibhgcenhaaGreatDoor
