/- Texts of this claim, set close: lemmas and contracts. -/
import Derived.Test.YtlicaibhgcenhaaGreatDoorWZY12
import Derived.Test.YtlicaibhgcenhaaGreatDoorWZY11
import Derived.Test.YtlicaibhgcenhaaGreatDoorWZY6
import Derived.Test.YtlicaibhgcenhaaGreatDoorWZY10
set_option linter.unusedSimpArgs false
set_option linter.unusedVariables false
set_option maxHeartbeats 1000000
set_option maxRecDepth 10000
namespace Go.Proofs.YtlicaibhgcenhaaGreatDoor
open Go Go.RowKit Go.Ab Go.Par
variable {m : Int}
theorem sPut_con (t : List Ent) (e : Ent) (ht : t.length ≤ 1073741824) : Con (E m) 228 0 [.sl (t.map Ent.c), .agg e.c] [] (.own 0) [(0, .own 150 ((putE t e).map Ent.c))] := by
 refine con_of_cd tyOk mix Tryz.func228 rfl rfl rfl (Nat.le_of_ble_eq_true rfl) ?_
 repeat' first | refine Ra ⟨?_⟩ | refine Rd (fun h => ⟨?_⟩) fun h => ⟨?_⟩ | refine Rb ⟨?_⟩ | fail
 refine Cd.loop2 (fun mq tm S nx => ∃ (k : Nat) (xs : List (List D)), mq = (t.length - k) ∧ tm = [(0, .sl (t.map Ent.c)), (3, .bp 0 0), (5, .own 1), (6, .k .i64 k)] ∧ S = [(0, .box 150 e.c), (1, .own 150 xs)] ∧ nx = 2 ∧ (k ≤ t.length) ∧ (xs = (t.take k).map Ent.c) ∧ (putE t e = t.take k ++ putE (t.drop k) e)) ?_ ?_
 · refine la [0, 3, 5, 6] ?_
   conv => whnf
   refine ⟨rfl, rfl, _, 0, [], rfl, rfl, rfl, rfl, Nat.zero_le _, rfl, rfl⟩
 · rintro mq tm S nx ⟨k, xs, hn, rfl, rfl, rfl, hk, hx, ha⟩
   have hxl : xs.length = k := by rw [hx]; simp; omega
   rcases drop_or t k hk with ⟨rfl, hd⟩ | ⟨x, r, hx', hd, hr, hlt⟩
   · have hf : (putE t e).map Ent.c = (xs ++ [e.c]) ++ (((t.map Ent.c).take (t.map Ent.c).length).drop t.length) := by
       rw [ha, hx, hd, List.take_length]; simp [putE, List.drop_of_length_le]
     rw [hf]
     repeat' first | refine Ra ⟨?_⟩ | refine Rd (fun h => ⟨?_⟩) fun h => ⟨?_⟩ | refine Rb ⟨?_⟩ | fail
     exact Rf
   · rw [hd] at ha
     cases hl : lt x.path e.path with
     | true =>
       have hn : putE t e = t.take (k + 1) ++ putE r e := by rw [ha, putE, if_pos hl, take_succ hx']; simp
       rw [← hr] at hn
       repeat' first | refine Ra ⟨?_⟩ | refine Rd (fun h => ⟨?_⟩) fun h => ⟨?_⟩ | refine Rb ⟨?_⟩ | fail
       refine .here ⟨mq - 1, by omega, ?_⟩
       refine la [0, 3, 5, 6] ?_
       conv => whnf
       refine ⟨rfl, rfl, k + 1, _, (by omega), rfl, rfl, rfl, by omega, (by rw [hx]; exact take_map_succ hx'), hn⟩
     | false =>
       by_cases hp : x.path = e.path
       · have hf : (putE t e).map Ent.c = (xs ++ [e.c]) ++ (((t.map Ent.c).take (t.map Ent.c).length).drop (k + 1)) := by
           rw [ha, hx, putE, hl, if_neg (by simp), if_pos hp, List.take_length, ← List.map_drop, hr]; simp
         rw [hf]
         repeat' first | refine Ra ⟨?_⟩ | (refine ⟨k + 1, rfl, ?_⟩ <;> conv => whnf) | refine Rd (fun h => ⟨?_⟩) fun h => ⟨?_⟩ | refine Rb ⟨?_⟩ | fail
         exact Rf
       · have hf : (putE t e).map Ent.c = (xs ++ [e.c]) ++ (((t.map Ent.c).take (t.map Ent.c).length).drop k) := by
           rw [ha, hx, putE, hl, if_neg (by simp), if_neg hp, List.take_length, ← List.map_drop, hd]; simp
         rw [hf]
         repeat' first | refine Ra ⟨?_⟩ | refine Rd (fun h => ⟨?_⟩) fun h => ⟨?_⟩ | refine Rb ⟨?_⟩ | fail
         exact Rf
theorem off_step (t : List Ent) (p : Bs) {i : Nat} {x : Ent} (h : t[i]? = some x) : offT (t.take (i + 1)) p = offT (t.take i) p ++ if x.path ≠ p then [x] else [] := by
 unfold offT
 rw [filter_take_succ h]
 congr 1
 by_cases hp : x.path = p <;> simp [hp]
theorem offT_len (t : List Ent) (p : Bs) : (offT t p).length ≤ t.length := List.length_filter_le _ _
theorem sOff_con (t : List Ent) (p : Bs) (ht : t.length ≤ 1073741824) : Con (E m) 279 0 [.sl (t.map Ent.c), .s p] [] (.own 0) [(0, .own 150 ((offT t p).map Ent.c))] := by
 refine con_of_cd tyOk mix Tryz.func279 rfl rfl rfl (Nat.le_of_ble_eq_true rfl) ?_
 repeat' first | refine Ra ⟨?_⟩ | refine Rd (fun h => ⟨?_⟩) fun h => ⟨?_⟩ | refine Rb ⟨?_⟩ | fail
 refine Cd.loop2 (fun mq tm S nx => ∃ (i : Nat) (xs : List (List D)), mq = (t.length - i) ∧ tm = [(0, .sl (t.map Ent.c)), (1, .s p), (5, .own 0), (6, .k .i64 i)] ∧ S = [(0, .own 150 xs)] ∧ nx = 1 ∧ (i ≤ t.length) ∧ (xs = (offT (t.take i) p).map Ent.c)) ?_ ?_
 · refine la [0, 1, 5, 6] ?_
   conv => whnf
   refine ⟨rfl, rfl, _, 0, [], rfl, rfl, rfl, rfl, Nat.zero_le _, rfl⟩
 · rintro mq tm S nx ⟨i, xs, hn, rfl, rfl, rfl, hi, hx⟩
   have hxl : xs.length ≤ i := by rw [hx, List.length_map]; have := offT_len (t.take i) p; rw [List.length_take] at this; omega
   rcases drop_or t i hi with ⟨rfl, hd⟩ | ⟨x, r, hx', hd, hr, hlt⟩
   · rw [List.take_length] at hx
     rw [← hx]
     repeat' first | refine Ra ⟨?_⟩ | refine Rd (fun h => ⟨?_⟩) fun h => ⟨?_⟩ | refine Rb ⟨?_⟩ | fail
     exact Rf
   · have hs := off_step t p hx'
     by_cases hp : x.path = p
     · rw [if_neg (not_not_intro hp), List.append_nil] at hs
       repeat' first | refine Ra ⟨?_⟩ | refine Rd (fun h => ⟨?_⟩) fun h => ⟨?_⟩ | refine Rb ⟨?_⟩ | fail
       refine .here ⟨mq - 1, by omega, ?_⟩
       refine la [0, 1, 5, 6] ?_
       conv => whnf
       refine ⟨rfl, rfl, i + 1, _, (by omega), rfl, rfl, rfl, by omega, (by rw [hs, hx])⟩
     · rw [if_pos hp] at hs
       repeat' first | refine Ra ⟨?_⟩ | refine Rd (fun h => ⟨?_⟩) fun h => ⟨?_⟩ | refine Rb ⟨?_⟩ | fail
       refine .here ⟨mq - 1, by omega, ?_⟩
       refine la [0, 1, 5, 6] ?_
       conv => whnf
       refine ⟨rfl, rfl, i + 1, _, (by omega), rfl, rfl, rfl, by omega, (by rw [hs, hx, List.map_append]; rfl)⟩
theorem sMove_con (t : List Ent) (a b : Bs) (ht : t.length ≤ 1073741824) (hb : bndE 1073741823 t) (h1 : a.length ≤ 1073741823) (h2 : b.length ≤ 1073741823) : Con (E m) 278 0 [.sl (t.map Ent.c), .s a, .s b] [] (.own 0) [(0, .own 150 ((moveT t a b).map Ent.c))] := by
 refine con_of_cd tyOk mix Tryz.func278 rfl rfl rfl (Nat.le_of_ble_eq_true rfl) ?_
 repeat' first | refine Ra ⟨?_⟩ | refine Rd (fun h => ⟨?_⟩) fun h => ⟨?_⟩ | refine Rb ⟨?_⟩ | fail
 refine Cd.loop2 (fun mq tm S nx => ∃ (i : Nat) (xs : List (List D)), mq = (t.length - i) ∧ tm = [(0, .sl (t.map Ent.c)), (1, .s a), (2, .s b), (7, .own 0), (8, .k .i64 i)] ∧ S = [(0, .own 150 xs)] ∧ nx = 1 ∧ (i ≤ t.length) ∧ (xs = (moveT (t.take i) a b).map Ent.c)) ?_ ?_
 · refine la [0, 1, 2, 7, 8] ?_
   conv => whnf
   refine ⟨rfl, rfl, _, 0, [], rfl, rfl, rfl, rfl, Nat.zero_le _, rfl⟩
 · rintro mq tm S nx ⟨i, xs, hn, rfl, rfl, rfl, hi, hx⟩
   have hml : (moveT (t.take i) a b).length ≤ i := by
    have := putAll_len ((t.take i).map (moveE a b)) []
    simp only [List.length_map, List.length_take, List.length_nil] at this
    unfold moveT
    omega
   rcases drop_or t i hi with ⟨rfl, hd⟩ | ⟨x, r, hx', hd, hr, hlt⟩
   · rw [List.take_length] at hx
     rw [← hx]
     repeat' first | refine Ra ⟨?_⟩ | refine Rd (fun h => ⟨?_⟩) fun h => ⟨?_⟩ | refine Rb ⟨?_⟩ | fail
     exact Rf
   · have hbx := hb x (List.mem_of_getElem? hx')
     have c1 := sPathMove_con (m := m) x.path a b (by omega) h1 h2
     have hs : moveT (t.take (i + 1)) a b = putE (moveT (t.take i) a b) (moveE a b x) := by
      unfold moveT
      rw [take_succ hx', List.map_append, List.map_cons, List.map_nil, putAll_snoc]
     subst hx
     cases hm : pathMove x.path a b
     all_goals
      rw [hm] at c1
      have hme : moveE a b x = ⟨(pathMove x.path a b).getD [], x.dir, x.data⟩ := rfl
      rw [hm] at hme
      have c2 := sPut_con (m := m) (moveT (t.take i) a b) (moveE a b x) (by omega)
      rw [← hs, hme] at c2
      repeat' first | refine Ra ⟨?_⟩ | refine R0 c1 ⟨?_⟩ | refine Rk [] 1 c2 ⟨?_⟩ | refine Rd (fun h => ⟨?_⟩) fun h => ⟨?_⟩ | refine Rb ⟨?_⟩ | fail
      refine .here ⟨mq - 1, by omega, ?_⟩
      refine la [0, 1, 2, 7, 8] ?_
      conv => whnf
      refine ⟨rfl, rfl, i + 1, _, (by omega), rfl, rfl, rfl, by omega, rfl⟩
theorem sDo_con (t : List Ent) (o : Opn) (ht : t.length ≤ 1073741824) (hb : bndE 1073741823 t) (h1 : o.path.length ≤ 1073741823) (h2 : o.tgt.length ≤ 1073741823) : Con (E m) 226 0 [.sl (t.map Ent.c), .agg o.c] [] (.own 0) [(0, .own 150 ((doT t o).map Ent.c))] := by
 have c1 := sPut_con (m := m) t ⟨o.path, true, []⟩ ht
 have c2 := sPut_con (m := m) t ⟨o.path, false, o.data⟩ ht
 have c3 := sMove_con (m := m) t o.path o.tgt ht hb h1 h2
 have c4 := sOff_con (m := m) t o.path ht
 unfold doT
 by_cases k1 : o.kind = 1
 · simp only [k1, if_true]
   refine con_of_cd tyOk mix Tryz.func226 rfl rfl rfl (Nat.le_of_ble_eq_true rfl) ?_
   repeat' first | refine Ra ⟨?_⟩ | refine Rk [] 1 c1 ⟨?_⟩ | refine Rd (fun h => ⟨?_⟩) fun h => ⟨?_⟩ | refine Rb ⟨?_⟩ | fail
   exact Rf
 · by_cases k2 : o.kind = 2
   · simp only [k1, k2, if_true, if_false]
     refine con_of_cd tyOk mix Tryz.func226 rfl rfl rfl (Nat.le_of_ble_eq_true rfl) ?_
     repeat' first | refine Ra ⟨?_⟩ | refine Rk [] 1 c2 ⟨?_⟩ | refine Rd (fun h => ⟨?_⟩) fun h => ⟨?_⟩ | refine Rb ⟨?_⟩ | fail
     exact Rf
   · by_cases k5 : o.kind = 5
     · simp only [k1, k2, k5, if_true, if_false]
       refine con_of_cd tyOk mix Tryz.func226 rfl rfl rfl (Nat.le_of_ble_eq_true rfl) ?_
       repeat' first | refine Ra ⟨?_⟩ | refine Rk [] 1 c3 ⟨?_⟩ | refine Rd (fun h => ⟨?_⟩) fun h => ⟨?_⟩ | refine Rb ⟨?_⟩ | fail
       exact Rf
     · simp only [k1, k2, k5, if_false]
       refine con_of_cd tyOk mix Tryz.func226 rfl rfl rfl (Nat.le_of_ble_eq_true rfl) ?_
       repeat' first | refine Ra ⟨?_⟩ | refine Rk [] 1 c4 ⟨?_⟩ | refine Rd (fun h => ⟨?_⟩) fun h => ⟨?_⟩ | refine Rb ⟨?_⟩ | fail
       exact Rf
theorem sTreeDo_con (t : List Ent) (o : Opn) (ht : t.length ≤ 1073741824) (hb : bndE 1073741823 t) (h1 : o.path.length ≤ 1073741823) (h2 : o.tgt.length ≤ 1073741823) (h3 : o.data.length ≤ 1073741823) : Con (E m) 163 0 [.sl (t.map Ent.c), .agg o.c] [] (.tup [.own 0, .k .i64 (treeDo t o).2]) [(0, .own 150 ((treeDo t o).1.map Ent.c))] := by
 have c1 := sTreeOk_con (m := m) t fun e he => by have := hb e he; omega
 have c2 := sOpOk_con (m := m) o (by omega) (by omega) (by omega)
 have c3 := sCode_con (m := m) t o ht hb h1 h2
 have c4 := sDo_con (m := m) t o ht hb h1 h2
 cases k1 : treeOk t with
 | false =>
   have hx : treeDo t o = ([], 1) := by simp [treeDo, k1]
   rw [hx]
   rw [k1] at c1
   refine con_of_cd tyOk mix Tryz.func163 rfl rfl rfl (Nat.le_of_ble_eq_true rfl) ?_
   repeat' first | refine Ra ⟨?_⟩ | refine R0 c1 ⟨?_⟩ | refine Rd (fun h => ⟨?_⟩) fun h => ⟨?_⟩ | refine Rb ⟨?_⟩ | fail
   exact Rf
 | true =>
   rw [k1] at c1
   cases k2 : opOk o with
   | false =>
     have hx : treeDo t o = (t, 1) := by simp [treeDo, k1, k2]
     rw [hx]
     rw [k2] at c2
     refine con_of_cd tyOk mix Tryz.func163 rfl rfl rfl (Nat.le_of_ble_eq_true rfl) ?_
     repeat' first | refine Ra ⟨?_⟩ | refine R0 c1 ⟨?_⟩ | refine R0 c2 ⟨?_⟩ | refine Rd (fun h => ⟨?_⟩) fun h => ⟨?_⟩ | refine Rb ⟨?_⟩ | fail
     exact Rf
   | true =>
     rw [k2] at c2
     by_cases k3 : opCode t o = 0
     · have hx : treeDo t o = (doT t o, 0) := by simp [treeDo, k1, k2, k3]
       rw [hx]
       rw [k3] at c3
       refine con_of_cd tyOk mix Tryz.func163 rfl rfl rfl (Nat.le_of_ble_eq_true rfl) ?_
       repeat' first | refine Ra ⟨?_⟩ | refine R0 c1 ⟨?_⟩ | refine R0 c2 ⟨?_⟩ | refine R0 c3 ⟨?_⟩ | refine Rk [] 1 c4 ⟨?_⟩ | refine Rd (fun h => ⟨?_⟩) fun h => ⟨?_⟩ | refine Rb ⟨?_⟩ | fail
       exact Rf
     · have hx : treeDo t o = (t, opCode t o) := by simp [treeDo, k1, k2, k3]
       rw [hx]
       refine con_of_cd tyOk mix Tryz.func163 rfl rfl rfl (Nat.le_of_ble_eq_true rfl) ?_
       repeat' first | refine Ra ⟨?_⟩ | refine R0 c1 ⟨?_⟩ | refine R0 c2 ⟨?_⟩ | refine R0 c3 ⟨?_⟩ | refine Rd (fun h => ⟨?_⟩) fun h => ⟨?_⟩ | refine Rb ⟨?_⟩ | fail
       exact Rf
set_option maxHeartbeats 1000000 in
theorem sLayerOk_con (l : List Mrk) (hl : l.length ≤ 1073741824) (hb : ∀ e ∈ l, e.path.length ≤ 1073741823 ∧ e.data.length ≤ 1073741823) : Con (E m) 192 0 [.sl (l.map Mrk.c)] [] (.b (layerOk l)) [] := by
 refine con_of_cd tyOk mix Tryz.func192 rfl rfl rfl (Nat.le_of_ble_eq_true rfl) ?_
 repeat' first | refine Ra ⟨?_⟩ | refine Rd (fun h => ⟨?_⟩) fun h => ⟨?_⟩ | refine Rb ⟨?_⟩ | fail
 refine Cd.loop2 (fun mq tm S nx => ∃ (i : Nat), mq = (l.length - i) ∧ tm = [(0, .sl (l.map Mrk.c)), (3, .k .i64 i)] ∧ S = [] ∧ nx = 0 ∧ (i ≤ l.length) ∧ (∀ k, k < i → okLS l k = true)) ?_ ?_
 · refine la [0, 3] ?_
   conv => whnf
   refine ⟨rfl, rfl, _, 0, rfl, rfl, rfl, rfl, Nat.zero_le _, fun k h => absurd h (Nat.not_lt_zero _)⟩
 · rintro mq tm S nx ⟨i, hn, rfl, rfl, rfl, hi, ha⟩
   by_cases hlt : i < l.length
   · have hq := hb l[i] (List.getElem_mem hlt)
     have h1 := sPathOk_con (m := m) l[i].path (by omega)
     have h2 := sData_con (m := m) l[i].data (by omega)
     have h3 := sl3In_con (m := m) (l.take i) l[i].path (by rw [List.length_take]; omega) (by omega)
     have h4 := sl3Bare_con (m := m) (l.take i) l[i].path (by rw [List.length_take]; omega) (by omega) (fun x hx => (hb x (List.mem_of_mem_take hx)).1)
     rw [List.map_take] at h3 h4
     repeat' first | refine Ra ⟨?_⟩ | refine R0 h1 ⟨?_⟩ | refine R0 h2 ⟨?_⟩ | refine R0 h3 ⟨?_⟩ | refine R0 h4 ⟨?_⟩ | (refine ⟨i - 1, _, by omega, map_get (by omega), rfl, ?_⟩ <;> conv => whnf) | refine Rd (fun h => ⟨?_⟩) fun h => ⟨?_⟩ | refine Rb ⟨?_⟩ | fail
     all_goals first
      | (have hf : okLS l i = false := by
           clear h1 h2 h3 h4 hb ha hn
           rw [okLS_at hlt]
           try have hi0 : 0 < i := by omega
           try have hi0 : i = 0 := by omega
           first | (rw [markOk_bad ‹_›]; simp; done) | (unfold markOk; simp_all [lt]; done) | (unfold markOk; simp_all [lt]; omega)
         have hg := layerOk_false hlt hf
         rw [hg]
         refine CallEnd.here (fa ?_)
         conv => whnf
         exact ⟨rfl, rfl, rfl, rfl⟩)
      | (have hf : okLS l i = true := by
           clear h1 h2 h3 h4 hb ha hn
           rw [okLS_at hlt]
           unfold markOk
           try have hi0 : 0 < i := by omega
           try have hi0 : i = 0 := by omega
           first | (simp_all [lt]; done) | (simp_all [lt]; omega)
         refine .here ⟨mq - 1, by omega, ?_⟩
         refine la [0, 3] ?_
         conv => whnf
         refine ⟨rfl, rfl, i + 1, (by omega), rfl, rfl, rfl, by omega, all_lt ha hf⟩)
   · repeat' first | refine Ra ⟨?_⟩ | refine Rd (fun h => ⟨?_⟩) fun h => ⟨?_⟩ | refine Rb ⟨?_⟩ | fail
     have hi2 : i = l.length := by omega
     subst hi2
     by_cases h32 : l.length ≤ 32
     · have hf : layerOk l = true := layerOk_true h32 ha
       rw [hf]
       exact Rf
     · have hf : layerOk l = false := by simp [layerOk, h32]
       rw [hf]
       exact Rf
theorem toMarkS_con (es : List Mrk) (hl : es.length ≤ 1048576) : Con (E m) 97 0 [.sl (es.map Mrk.c)] [] (.own 0) [(0, .own 197 (es.map Mrk.c))] := by
 refine con_of_cd tyOk mix Tryz.func97 rfl rfl rfl (Nat.le_of_ble_eq_true rfl) ?_
 repeat' first | refine Ra ⟨?_⟩ | (refine ⟨es.length, by simp only [List.length_map], by simp only [List.length_map], (by unfold room; omega), Nat.le_of_ble_eq_true rfl, ?_⟩ <;> conv => whnf) | refine Rd (fun h => ⟨?_⟩) fun h => ⟨?_⟩ | refine Rb ⟨?_⟩ | fail
 refine Cd.loop2 (fun mq tm S nx => ∃ (i : Nat) (xs : List (List D)), mq = (es.length - i) ∧ tm = [(0, .sl (es.map Mrk.c)), (3, .own 0), (4, .k .i64 i)] ∧ S = [(0, .own 197 xs)] ∧ nx = 1 ∧ (i ≤ es.length) ∧ (xs = (es.take i).map Mrk.c ++ List.replicate (es.length - i) [.s [], .k .i64 0, .s []])) ?_ ?_
 · refine la [0, 3, 4] ?_
   conv => whnf
   refine ⟨rfl, rfl, _, 0, _, rfl, rfl, rfl, rfl, Nat.zero_le _, rfl⟩
 · rintro mq tm S nx ⟨i, xs, hn, rfl, rfl, rfl, hi, hxs⟩
   have hxl : xs.length = es.length := by rw [hxs]; simp; omega
   by_cases hlt : i < es.length
   · have hg : xs[i]? = some [.s [], .k .i64 0, .s []] := by rw [hxs]; exact fill_get hlt
     repeat' first | refine Ra ⟨?_⟩ | refine R0 (toMark_con es[i]) ⟨?_⟩ | (refine ⟨_, hg, Nat.le_of_ble_eq_true rfl, ?_⟩ <;> conv => whnf) | refine Rd (fun h => ⟨?_⟩) fun h => ⟨?_⟩ | refine Rb ⟨?_⟩ | fail
     refine .here ⟨mq - 1, by omega, ?_⟩
     refine la [0, 3, 4] ?_
     conv => whnf
     refine ⟨rfl, rfl, i + 1, _, (by omega), rfl, rfl, rfl, by omega, (by rw [hxs]; exact fill_set hlt)⟩
   · have hx : xs = es.map Mrk.c := by
       rw [hxs, List.take_of_length_le (by omega)]
       have : es.length - i = 0 := by omega
       simp [this]
     subst hx
     repeat' first | refine Ra ⟨?_⟩ | refine Rd (fun h => ⟨?_⟩) fun h => ⟨?_⟩ | refine Rb ⟨?_⟩ | fail
     exact Rf
theorem eqMark_con (a b : Mrk) : Con (E m) 179 0 [.agg a.c, .agg b.c] [] (.b (eqM a b)) [] := by
 refine con_of_cd tyOk mix Tryz.func179 rfl rfl rfl (Nat.le_of_ble_eq_true rfl) ?_
 repeat' first | refine Ra ⟨?_⟩ | refine Rd (fun h => ⟨?_⟩) fun h => ⟨?_⟩ | refine Rb ⟨?_⟩ | fail
 all_goals
  refine Rg ⟨?_⟩
  first | rfl | (simp_all [eqM]; done) | (simp [eqM] <;> (repeat' split) <;> omega) | (simp only [eqM]; repeat' split) <;> first | omega | (simp_all; done) | (simp_all; omega) | (rw [Bool.eq_iff_iff]; simp [*, eqM] <;> omega)
theorem eqMarkS_con (t : List Mrk) (hl : t.length ≤ 1048576) : Con (E m) 114 0 [.sl (t.map Mrk.c), .sl (t.map Mrk.c)] [] (.b true) [] := by
 refine con_of_cd tyOk mix Tryz.func114 rfl rfl rfl (Nat.le_of_ble_eq_true rfl) ?_
 repeat' first | refine Ra ⟨?_⟩ | refine Rd (fun h => ⟨?_⟩) fun h => ⟨?_⟩ | refine Rb ⟨?_⟩ | fail
 refine Cd.loop2 (fun mq tm S nx => ∃ (i : Nat), mq = (t.length - i) ∧ tm = [(0, .sl (t.map Mrk.c)), (1, .sl (t.map Mrk.c)), (5, .k .i64 i)] ∧ S = [] ∧ nx = 0 ∧ (i ≤ t.length)) ?_ ?_
 · refine la [0, 1, 5] ?_
   conv => whnf
   refine ⟨rfl, rfl, _, 0, rfl, rfl, rfl, rfl, Nat.zero_le _⟩
 · rintro mq tm S nx ⟨i, hn, rfl, rfl, rfl, hi⟩
   rcases drop_or t i hi with ⟨rfl, hd⟩ | ⟨x, r, hx, hd, hr, hlt⟩
   · repeat' first | refine Ra ⟨?_⟩ | refine Rd (fun h => ⟨?_⟩) fun h => ⟨?_⟩ | refine Rb ⟨?_⟩ | fail
     exact Rf
   · have he := eqMark_con (m := m) x x
     rw [eqM_self] at he
     repeat' first | refine Ra ⟨?_⟩ | refine R0 he ⟨?_⟩ | refine Rd (fun h => ⟨?_⟩) fun h => ⟨?_⟩ | refine Rb ⟨?_⟩ | fail
     refine .here ⟨mq - 1, by omega, ?_⟩
     refine la [0, 1, 5] ?_
     conv => whnf
     refine ⟨rfl, rfl, i + 1, (by omega), rfl, rfl, rfl, by omega⟩
theorem sPutM_con (t : List Mrk) (e : Mrk) (ht : t.length ≤ 1073741824) : Con (E m) 273 0 [.sl (t.map Mrk.c), .agg e.c] [] (.own 0) [(0, .own 197 ((putM t e).map Mrk.c))] := by
 refine con_of_cd tyOk mix Tryz.func273 rfl rfl rfl (Nat.le_of_ble_eq_true rfl) ?_
 repeat' first | refine Ra ⟨?_⟩ | refine Rd (fun h => ⟨?_⟩) fun h => ⟨?_⟩ | refine Rb ⟨?_⟩ | fail
 refine Cd.loop2 (fun mq tm S nx => ∃ (k : Nat) (xs : List (List D)), mq = (t.length - k) ∧ tm = [(0, .sl (t.map Mrk.c)), (3, .bp 0 0), (5, .own 1), (6, .k .i64 k)] ∧ S = [(0, .box 197 e.c), (1, .own 197 xs)] ∧ nx = 2 ∧ (k ≤ t.length) ∧ (xs = (t.take k).map Mrk.c) ∧ (putM t e = t.take k ++ putM (t.drop k) e)) ?_ ?_
 · refine la [0, 3, 5, 6] ?_
   conv => whnf
   refine ⟨rfl, rfl, _, 0, [], rfl, rfl, rfl, rfl, Nat.zero_le _, rfl, rfl⟩
 · rintro mq tm S nx ⟨k, xs, hn, rfl, rfl, rfl, hk, hx, ha⟩
   have hxl : xs.length = k := by rw [hx]; simp; omega
   rcases drop_or t k hk with ⟨rfl, hd⟩ | ⟨x, r, hx', hd, hr, hlt⟩
   · have hf : (putM t e).map Mrk.c = (xs ++ [e.c]) ++ (((t.map Mrk.c).take (t.map Mrk.c).length).drop t.length) := by
       rw [ha, hx, hd, List.take_length]; simp [putM, List.drop_of_length_le]
     rw [hf]
     repeat' first | refine Ra ⟨?_⟩ | refine Rd (fun h => ⟨?_⟩) fun h => ⟨?_⟩ | refine Rb ⟨?_⟩ | fail
     exact Rf
   · rw [hd] at ha
     cases hl : lt x.path e.path with
     | true =>
       have hn : putM t e = t.take (k + 1) ++ putM r e := by rw [ha, putM, if_pos hl, take_succ hx']; simp
       rw [← hr] at hn
       repeat' first | refine Ra ⟨?_⟩ | refine Rd (fun h => ⟨?_⟩) fun h => ⟨?_⟩ | refine Rb ⟨?_⟩ | fail
       refine .here ⟨mq - 1, by omega, ?_⟩
       refine la [0, 3, 5, 6] ?_
       conv => whnf
       refine ⟨rfl, rfl, k + 1, _, (by omega), rfl, rfl, rfl, by omega, (by rw [hx]; exact take_map_succ hx'), hn⟩
     | false =>
       by_cases hp : x.path = e.path
       · have hf : (putM t e).map Mrk.c = (xs ++ [e.c]) ++ (((t.map Mrk.c).take (t.map Mrk.c).length).drop (k + 1)) := by
           rw [ha, hx, putM, hl, if_neg (by simp), if_pos hp, List.take_length, ← List.map_drop, hr]; simp
         rw [hf]
         repeat' first | refine Ra ⟨?_⟩ | (refine ⟨k + 1, rfl, ?_⟩ <;> conv => whnf) | refine Rd (fun h => ⟨?_⟩) fun h => ⟨?_⟩ | refine Rb ⟨?_⟩ | fail
         exact Rf
       · have hf : (putM t e).map Mrk.c = (xs ++ [e.c]) ++ (((t.map Mrk.c).take (t.map Mrk.c).length).drop k) := by
           rw [ha, hx, putM, hl, if_neg (by simp), if_neg hp, List.take_length, ← List.map_drop, hd]; simp
         rw [hf]
         repeat' first | refine Ra ⟨?_⟩ | refine Rd (fun h => ⟨?_⟩) fun h => ⟨?_⟩ | refine Rb ⟨?_⟩ | fail
         exact Rf
theorem sUps_con : ∀ (n : Nat) (l : List Mrk) (p : Bs), p.length ≤ n → pathOk p = true → l.length + n ≤ 1000000 → Con (E m) 272 0 [.sl (l.map Mrk.c), .s p] [] (.sl ((upsM n l p).map Mrk.c)) [] := by
 intro n
 induction n with
 | zero => intro l p hp hok _; have := (pathOk_pos hok).1; omega
 | succ n ih =>
   intro l p hp hok hln
   have c1 := sUp_con (m := m) p (by omega)
   by_cases hr : pathUp p = [47]
   · have hx : upsM (n + 1) l p = l := by simp [upsM, hr]
     rw [hx]
     rw [hr] at c1
     refine con_of_cd tyOk mix Tryz.func272 rfl rfl rfl (Nat.le_of_ble_eq_true rfl) ?_
     repeat' first | refine Ra ⟨?_⟩ | refine R0 c1 ⟨?_⟩ | refine Rd (fun h => ⟨?_⟩) fun h => ⟨?_⟩ | refine Rb ⟨?_⟩ | fail
     exact Rf
   · have hup := (pathUp_less hok).resolve_left hr
     have hlt := pathUp_short hok hr
     have c2 := sl3Kind_con (m := m) l (pathUp p) (by omega)
     by_cases hk : kindAt l (pathUp p) = 0
     · have hx : upsM (n + 1) l p = upsM n (putM l ⟨pathUp p, 2, []⟩) (pathUp p) := by simp [upsM, hr, hk]
       rw [hx]
       rw [hk] at c2
       have c3 := sPutM_con (m := m) l ⟨pathUp p, 2, []⟩ (by omega)
       have hl3 := (putM_len l ⟨pathUp p, 2, []⟩).2
       have c4 := ih (putM l ⟨pathUp p, 2, []⟩) (pathUp p) (by omega) hup.1 (by omega)
       refine con_of_cd tyOk mix Tryz.func272 rfl rfl rfl (Nat.le_of_ble_eq_true rfl) ?_
       repeat' first | refine Ra ⟨?_⟩ | refine R0 c1 ⟨?_⟩ | refine R0 c2 ⟨?_⟩ | refine Rk [] 1 c3 ⟨?_⟩ | refine R0 c4 ⟨?_⟩ | refine Rd (fun h => ⟨?_⟩) fun h => ⟨?_⟩ | refine Rb ⟨?_⟩ | fail
       exact Rf
     · have hx : upsM (n + 1) l p = upsM n l (pathUp p) := by simp [upsM, hr, hk]
       rw [hx]
       have c4 := ih l (pathUp p) (by omega) hup.1 (by omega)
       refine con_of_cd tyOk mix Tryz.func272 rfl rfl rfl (Nat.le_of_ble_eq_true rfl) ?_
       repeat' first | refine Ra ⟨?_⟩ | refine R0 c1 ⟨?_⟩ | refine R0 c2 ⟨?_⟩ | refine R0 c4 ⟨?_⟩ | refine Rd (fun h => ⟨?_⟩) fun h => ⟨?_⟩ | refine Rb ⟨?_⟩ | fail
       exact Rf
end Go.Proofs.YtlicaibhgcenhaaGreatDoor
namespace Go.Par
open Go.Ab
end Go.Par
namespace Go.Proofs.YtlicaibhgcenhaaGreatDoor
open Go Go.RowKit Go.Ab Go.Par
variable {m : Int}
end Go.Proofs.YtlicaibhgcenhaaGreatDoor
