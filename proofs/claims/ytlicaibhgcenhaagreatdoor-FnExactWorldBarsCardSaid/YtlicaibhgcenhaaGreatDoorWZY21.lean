/- Texts of this claim, set close: lemmas and contracts. -/
import Derived.Test.YtlicaibhgcenhaaGreatDoorWZY19
import Derived.Test.YtlicaibhgcenhaaGreatDoorWZY20
import Derived.Test.YtlicaibhgcenhaaGreatDoorWZY16
set_option linter.unusedSimpArgs false
set_option linter.unusedVariables false
set_option maxHeartbeats 1000000
set_option maxRecDepth 10000
namespace Go.Proofs.YtlicaibhgcenhaaGreatDoor
open Go Go.RowKit Go.Ab Go.Par Go.Proofs Go.Sort Go.Shelf
variable {m : Int}
def hidesI (l : List Mrk) (p : Bs) : Bool := l.any fun x => decide (x.kind ≠ 2) && (decide (x.path = p) || pathUnder p x.path)
theorem hidesI_eq {l : List Mrk} (h : ∀ x ∈ l, pathOk x.path = true) {p : Bs} (hp : pathOk p = true) : hidesI l p = hides l p := by
 unfold hidesI hides
 rw [Bool.eq_iff_iff, List.any_eq_true, List.any_eq_true]
 constructor
 · rintro ⟨x, hx, h1⟩
   refine ⟨x, hx, ?_⟩
   simp only [Bool.and_eq_true, Bool.or_eq_true, decide_eq_true_eq, inP_iff, pathUnder, hp, h x hx, Bool.or_true, true_and] at h1 ⊢
   exact ⟨h1.1, h1.2.elim (fun q => .inl q.symm) .inr⟩
 · rintro ⟨x, hx, h1⟩
   refine ⟨x, hx, ?_⟩
   simp only [Bool.and_eq_true, Bool.or_eq_true, decide_eq_true_eq, inP_iff, pathUnder, hp, h x hx, Bool.or_true, true_and] at h1 ⊢
   exact ⟨h1.1, h1.2.elim (fun q => .inl q.symm) .inr⟩
theorem layer_paths {l : List Mrk} (h : layerOk l = true) : ∀ x ∈ l, pathOk x.path = true := fun x hx => (markOk_parts ((layerOk_iff.1 h).2.2 x hx).1).2.1
theorem layer_len {l : List Mrk} (h : layerOk l = true) : l.length ≤ 32 := (layerOk_iff.1 h).1
theorem layer_bnd {l : List Mrk} (h : layerOk l = true) : ∀ x ∈ l, x.path.length ≤ 12 ∧ x.data.length ≤ 6 := fun x hx => by
 have h1 := ((layerOk_iff.1 h).2.2 x hx).1
 obtain ⟨_, h2, h3, _⟩ := markOk_parts h1
 refine ⟨(pathOk_pos h2).2, ?_⟩
 have h4 := dataOk_len h3
 omega
theorem iHides_con (l : List Mrk) (p : Bs) (hl : l.length ≤ 1073741824) (hp : p.length ≤ 1073741823) (hb : ∀ x ∈ l, x.path.length ≤ 1073741823) : Con (E m) 281 0 [.sl (l.map Mrk.c), .s p] [] (.b (hidesI l p)) [] := by
 have e1 : (l.map Mrk.c).length = l.length := List.length_map ..
 refine con_of_cd tyOk mix Tryz.func281 rfl rfl rfl (Nat.le_of_ble_eq_true rfl) ?_
 repeat' first | refine Ra ⟨?_⟩ | refine Rd (fun h => ⟨?_⟩) fun h => ⟨?_⟩ | refine Rb ⟨?_⟩ | fail
 refine Cd.loop2 (fun mq tm S nx => ∃ (i : Nat), mq = (l.length - i) ∧ tm = [(1, .s p), (7, .sl (l.map Mrk.c)), (8, .k .i64 ((l.map Mrk.c).length : Int)), (9, .k .i64 i)] ∧ S = [] ∧ nx = 0 ∧ (i ≤ l.length) ∧ (hidesI l p = hidesI (l.drop i) p)) ?_ ?_
 · refine la [1, 7, 8, 9] ?_
   conv => whnf
   refine ⟨rfl, rfl, _, 0, rfl, rfl, rfl, rfl, by omega, rfl⟩
 · rintro mq tm S nx ⟨i, hn, rfl, rfl, rfl, hi, ha⟩
   rcases drop_or l i hi with ⟨rfl, hd⟩ | ⟨x, r, hx, hd, hr, hlt⟩
   · rw [hd] at ha
     rw [ha]
     repeat' first | refine Ra ⟨?_⟩ | refine Rd (fun h => ⟨?_⟩) fun h => ⟨?_⟩ | refine Rb ⟨?_⟩ | fail
     exact Rf
   · rw [hd] at ha
     have c1 := iUnder_con (m := m) p x.path hp (hb x (List.mem_of_getElem? hx))
     by_cases h2 : x.kind = 2
     · have hs : hidesI l p = hidesI (l.drop (i + 1)) p := by rw [ha, hr]; simp [hidesI, h2]
       repeat' first | refine Ra ⟨?_⟩ | refine Rd (fun h => ⟨?_⟩) fun h => ⟨?_⟩ | refine Rb ⟨?_⟩ | fail
       refine .here ⟨mq - 1, by omega, ?_⟩
       refine la [1, 7, 8, 9] ?_
       conv => whnf
       refine ⟨rfl, rfl, i + 1, (by omega), rfl, rfl, rfl, by omega, hs⟩
     · by_cases h3 : x.path = p
       · have hs : hidesI l p = true := by rw [ha]; simp [hidesI, h2, h3]
         rw [hs]
         repeat' first | refine Ra ⟨?_⟩ | refine Rd (fun h => ⟨?_⟩) fun h => ⟨?_⟩ | refine Rb ⟨?_⟩ | fail
         exact Rf
       · cases h4 : pathUnder p x.path with
         | true =>
           rw [h4] at c1
           have hs : hidesI l p = true := by rw [ha]; simp [hidesI, h2, h3, h4]
           rw [hs]
           repeat' first | refine Ra ⟨?_⟩ | refine R0 c1 ⟨?_⟩ | refine Rd (fun h => ⟨?_⟩) fun h => ⟨?_⟩ | refine Rb ⟨?_⟩ | fail
           exact Rf
         | false =>
           rw [h4] at c1
           have hs : hidesI l p = hidesI (l.drop (i + 1)) p := by rw [ha, hr]; simp [hidesI, h2, h3, h4]
           repeat' first | refine Ra ⟨?_⟩ | refine R0 c1 ⟨?_⟩ | refine Rd (fun h => ⟨?_⟩) fun h => ⟨?_⟩ | refine Rb ⟨?_⟩ | fail
           refine .here ⟨mq - 1, by omega, ?_⟩
           refine la [1, 7, 8, 9] ?_
           conv => whnf
           refine ⟨rfl, rfl, i + 1, (by omega), rfl, rfl, rfl, by omega, hs⟩
theorem cmpM_run (x y : Mrk) (W : World) : Calls Tryz.prog 308 #[.agg (Mrk.v x).toArray, .agg (Mrk.v y).toArray] W fun e w' => e = .returned (.int .i64 (cmpS x.path y.path)) ∧ ∃ q os', w' = grow (W.drewN q) os' := by
 have hcon := fun W' => cmpStr_run x.path y.path W'
 generalize cmpS x.path y.path = r at hcon ⊢
 unfold Mrk.v
 go_enter Tryz.func308, Tryz.ntmps308
 go_wp2_with (go_at_call 247; refine (hcon _).mono ?_; rintro e w' ⟨rfl, rfl⟩)
 go_ret
 exact ⟨rfl, 0, _, by rw [alloc_eq_grow, alloc_eq_grow, grow_grow]; rfl⟩
theorem sortFuncM_con (L U : List Mrk) (hU : ∀ S : List Mrk, S.Perm L → (S.Pairwise fun a b => lt b.path a.path = false) → S = U) (hl : L.length ≤ 1000000) :
   Con (E m) 307 1 [.own 0, .fn 308 []] [(0, .own 197 (L.map Mrk.c))] (.tup []) [(0, .own 197 (U.map Mrk.c))] :=
 con_turn cellsM (by decide) (by kernel_rfl) ⟨_, Tryz.func307, rfl, rfl⟩ (uniq_len' (pa := fun e : Mrk => e.path) hU)
  (fun _ w => AnyF.slices_SortFunc_none Tryz.sortM none 0 _ w)
  (fun b cap w hH hb => by
   have eg : ∀ args w, (callFunc 308 args).run Tryz.prog w = .ok (.enter 308 args) w := enters_of Tryz.func308 (by kernel_rfl) rfl
   refine (AnyQ.slices_SortFunc Tryz.sortM 3 Tryz.isAgg197 Tryz.sizeOf197 Mrk.v cellsM.len cellsM.one (fun x y => cmpS x.path y.path) swoM 308 #[] b 0 cap L.toArray w eg (fun _ _ _ _ x y => cmpM_run x y _) hH hb (by simp; omega)).mono ?_
   rintro e w' ⟨he, d, n, os, hp, hs, rfl⟩
   have hd : d.toList = U := hU _ (perm_list hp) (sorted_list (pa := fun e : Mrk => e.path) hp.1 hs)
   refine ⟨he, n, os, ?_⟩
   rw [← hd])
theorem sortMarks_con (L U : List Mrk) (hU : ∀ S : List Mrk, S.Perm L → (S.Pairwise fun a b => lt b.path a.path = false) → S = U) (hl : L.length ≤ 1000000) :
   Con (E m) 271 1 [.own 0] [(0, .own 197 (L.map Mrk.c))] (.tup []) [(0, .own 197 (U.map Mrk.c))] := by
 have c1 := sortFuncM_con (m := m) L U hU hl
 refine con_of_cd tyOk mix Tryz.func271 rfl rfl rfl (Nat.le_of_ble_eq_true rfl) ?_
 repeat' first | refine Ra ⟨?_⟩ | refine Rk [0] 0 c1 ⟨?_⟩ | refine Rd (fun h => ⟨?_⟩) fun h => ⟨?_⟩ | refine Rb ⟨?_⟩ | fail
 exact Rf
def keepL (l : List Mrk) (p : Bs) : Bool := (markAt l p).isNone && !hides l p
def onI (l : List Mrk) (t : List Ent) : List Ent := (t.filter fun e => keepL l e.path) ++ l.filterMap markEnt
theorem entAt_app (l r : List Ent) (q : Bs) : entAt (l ++ r) q = (entAt l q).or (entAt r q) := by simp [entAt, List.find?_append]
theorem onI_one {l : List Mrk} {t : List Ent} (hl : layerOk l = true) (ht : treeOk t = true) {S : List Ent} (hp : S.Perm (onI l t)) (hs : S.Pairwise fun a b => lt b.path a.path = false) : S = onL l t := by
 have h1 := layer_srt hl
 have h2 := treeOk_srt ht
 refine sort_one hp hs ?_ (onL_srt h2) fun q => ?_
 · unfold onI
   rw [pathsE, List.map_append, List.nodup_append]
   refine ⟨sorted_nodup (filter_srt h2 _), marks_ent_nodup h1, ?_⟩
   intro a ha b hb hab
   subst hab
   obtain ⟨e, he, rfl⟩ := List.mem_map.1 ha
   obtain ⟨x, hx, hxe⟩ := List.mem_map.1 hb
   obtain ⟨y, hy, hyx⟩ := List.mem_filterMap.1 hx
   have h3 := (List.mem_filter.1 he).2
   simp only [keepL, Bool.and_eq_true, Option.isNone_iff_eq_none] at h3
   refine (markAt_none.1 h3.1) ?_
   rw [← hxe, markEnt_path hyx]
   exact List.mem_map_of_mem hy
 · rw [onL_at h1 h2]
   unfold onI onAt
   rw [entAt_app, ent_filter (keepL l), marks_ent h1]
   unfold keepL
   cases hm : markAt l q with
   | some x => simp
   | none => cases hh : hides l q <;> simp
theorem onI_len {l : List Mrk} {t : List Ent} (hl : layerOk l = true) (ht : treeOk t = true) : (onI l t).length = (onL l t).length ∧ (onI l t).length ≤ 48 := by
 have h1 := layer_srt hl
 have h2 := treeOk_srt ht
 have e : (onI l t).length ≤ 48 := by
  have a1 := List.length_filter_le (fun e : Ent => keepL l e.path) t
  have a2 := List.length_filterMap_le markEnt l
  have a3 := layer_len hl
  have a4 := treeOk_len ht
  unfold onI
  rw [List.length_append]
  omega
 exact ⟨(uniq_len' (pa := fun e : Ent => e.path) (fun S g1 g2 => onI_one hl ht g1 g2)).symm, e⟩
theorem filter_step {α : Type} {f : α → Bool} {t : List α} {i : Nat} {x : α} (h : t[i]? = some x) : (t.take (i + 1)).filter f = (t.take i).filter f ++ (bif f x then [x] else []) := by
 rw [List.take_add_one, h, List.filter_append]
 cases hf : f x <;> simp [hf]
theorem bind_step {α β : Type} {f : α → Option β} {t : List α} {i : Nat} {x : α} (h : t[i]? = some x) : (t.take (i + 1)).filterMap f = (t.take i).filterMap f ++ (match f x with | some y => [y] | none => []) := by
 rw [List.take_add_one, h, List.filterMap_append]
 cases hf : f x <;> simp [hf]
theorem iLayerOn_con (l : List Mrk) (t : List Ent) (hb : ∀ e ∈ l, e.path.length ≤ 1073741823 ∧ e.data.length ≤ 1073741823) (ht : ∀ e ∈ t, e.path.length ≤ 1073741824 ∧ e.data.length ≤ 1073741824) :
   Con (E m) 229 0 [.sl (l.map Mrk.c), .sl (t.map Ent.c)] [] (.tup [.own 0, .b (layerOn l t).isSome]) [(0, .own 150 (((layerOn l t).getD []).map Ent.c))] := by
 have c1 := iLayerOk_con (m := m) l hb
 have c2 := iTreeOk_con (m := m) t ht
 cases h1 : layerOk l with
 | false =>
   rw [h1] at c1
   have hx : layerOn l t = none := by simp [layerOn, h1]
   rw [hx]
   refine con_of_cd tyOk mix Tryz.func229 rfl rfl rfl (Nat.le_of_ble_eq_true rfl) ?_
   repeat' first | refine Ra ⟨?_⟩ | refine R0 c1 ⟨?_⟩ | refine Rd (fun h => ⟨?_⟩) fun h => ⟨?_⟩ | refine Rb ⟨?_⟩ | fail
   exact Rf
 | true =>
   rw [h1] at c1
   cases h2 : treeOk t with
   | false =>
     rw [h2] at c2
     have hx : layerOn l t = none := by simp [layerOn, h2]
     rw [hx]
     refine con_of_cd tyOk mix Tryz.func229 rfl rfl rfl (Nat.le_of_ble_eq_true rfl) ?_
     repeat' first | refine Ra ⟨?_⟩ | refine R0 c1 ⟨?_⟩ | refine R0 c2 ⟨?_⟩ | refine Rd (fun h => ⟨?_⟩) fun h => ⟨?_⟩ | refine Rb ⟨?_⟩ | fail
     exact Rf
   | true =>
     rw [h2] at c2
     have hlp := layer_paths h1
     have hll := layer_len h1
     have htl := treeOk_len h2
     have e1 : (l.map Mrk.c).length = l.length := List.length_map ..
     have e2 : (t.map Ent.c).length = t.length := List.length_map ..
     obtain ⟨n1, n2⟩ := onI_len h1 h2
     have hx : layerOn l t = if (onL l t).length ≤ 16 then some (onL l t) else none := by simp [layerOn, h1, h2]
     have c9 := sortEnts_con (m := m) (onI l t) (onL l t) (fun S g1 g2 => onI_one h1 h2 g1 g2) (by omega)
     have hfin : onI l t = (t.filter fun e => keepL l e.path) ++ l.filterMap markEnt := rfl
     generalize hF : (t.filter fun e => keepL l e.path) = F at hfin
     have hFl : F.length ≤ 16 := by have := List.length_filter_le (fun e : Ent => keepL l e.path) t; rw [← hF]; omega
     refine con_of_cd tyOk mix Tryz.func229 rfl rfl rfl (Nat.le_of_ble_eq_true rfl) ?_
     repeat' first | refine Ra ⟨?_⟩ | refine R0 c1 ⟨?_⟩ | refine R0 c2 ⟨?_⟩ | refine Rd (fun h => ⟨?_⟩) fun h => ⟨?_⟩ | refine Rb ⟨?_⟩ | fail
     refine Cd.loop2 (fun mq tm S nx => ∃ (i : Nat) (A : List Ent), mq = (t.length - i) ∧ tm = [(0, .sl (l.map Mrk.c)), (6, .own 0), (21, .sl (t.map Ent.c)), (22, .k .i64 ((t.map Ent.c).length : Int)), (23, .k .i64 i)] ∧ S = [(0, .own 150 (A.map Ent.c))] ∧ nx = 1 ∧ (i ≤ t.length) ∧ (A = (t.take i).filter fun e => keepL l e.path) ∧ (A.length ≤ i)) ?_ ?_
     · refine la [0, 6, 21, 22, 23] ?_
       conv => whnf
       refine ⟨rfl, rfl, _, 0, [], rfl, rfl, rfl, rfl, by omega, (by simp), by simp⟩
     · rintro mq tm S nx ⟨i, A, hn, rfl, rfl, rfl, hi, hA, hAl⟩
       have e3 : (A.map Ent.c).length = A.length := List.length_map ..
       rcases drop_or t i hi with ⟨rfl, hd⟩ | ⟨x, r, hx', hd, hr, hlt⟩
       · rw [List.take_length, hF] at hA
         subst hA
         repeat' first | refine Ra ⟨?_⟩ | refine Rd (fun h => ⟨?_⟩) fun h => ⟨?_⟩ | refine Rb ⟨?_⟩ | fail
         refine Cd.loop2 (fun mq tm S nx => ∃ (j : Nat) (B : List Ent), mq = (l.length - j) ∧ tm = [(6, .own 0), (48, .sl (l.map Mrk.c)), (49, .k .i64 ((l.map Mrk.c).length : Int)), (50, .k .i64 j)] ∧ S = [(0, .own 150 (B.map Ent.c))] ∧ nx = 1 ∧ (j ≤ l.length) ∧ (B = A ++ (l.take j).filterMap markEnt) ∧ (B.length ≤ 16 + j)) ?_ ?_
         · refine la [6, 48, 49, 50] ?_
           conv => whnf
           refine ⟨rfl, rfl, _, 0, A, rfl, rfl, rfl, rfl, by omega, (by simp), by omega⟩
         · rintro mq tm S nx ⟨j, B, hn, rfl, rfl, rfl, hj, hB, hBl⟩
           have e4 : (B.map Ent.c).length = B.length := List.length_map ..
           rcases drop_or l j hj with ⟨rfl, hd⟩ | ⟨y, s, hy', hd, hr, hlt⟩
           · rw [List.take_length, ← hfin] at hB
             by_cases hn : B.length ≤ 16
             · rw [hx, if_pos (by rw [← n1, ← hB]; exact hn)]
               rw [← hB] at c9
               repeat' first | refine Ra ⟨?_⟩ | refine Rk [0] 0 c9 ⟨?_⟩ | refine Rd (fun h => ⟨?_⟩) fun h => ⟨?_⟩ | refine Rb ⟨?_⟩ | fail
               exact Rf
             · rw [hx, if_neg (by rw [← n1, ← hB]; exact hn)]
               repeat' first | refine Ra ⟨?_⟩ | refine Rd (fun h => ⟨?_⟩) fun h => ⟨?_⟩ | refine Rb ⟨?_⟩ | fail
               exact Rf
           · have g1 := bind_step (f := markEnt) hy'
             have c5 := iIsDir_con (m := m) y
             by_cases h3 : y.kind = 3
             · have g2 : markEnt y = none := by rw [markEnt, if_pos h3]
               rw [g2, List.append_nil] at g1
               repeat' first | refine Ra ⟨?_⟩ | refine Rd (fun h => ⟨?_⟩) fun h => ⟨?_⟩ | refine Rb ⟨?_⟩ | fail
               refine .here ⟨mq - 1, by omega, ?_⟩
               refine la [6, 48, 49, 50] ?_
               conv => whnf
               refine ⟨rfl, rfl, j + 1, B, (by omega), rfl, rfl, rfl, by omega, (by rw [hB, g1]), by omega⟩
             · have g2 : markEnt y = some ⟨y.path, isDirM y, y.data⟩ := by rw [markEnt, if_neg h3]
               rw [g2] at g1
               repeat' first | refine Ra ⟨?_⟩ | refine R0 c5 ⟨?_⟩ | refine Rd (fun h => ⟨?_⟩) fun h => ⟨?_⟩ | refine Rb ⟨?_⟩ | fail
               refine .here ⟨mq - 1, by omega, ?_⟩
               refine la [6, 48, 49, 50] ?_
               conv => whnf
               refine ⟨rfl, rfl, j + 1, B ++ [⟨y.path, isDirM y, y.data⟩], (by omega), rfl, ?_, rfl, by omega, (by rw [hB, g1, List.append_assoc]), (by simp; omega)⟩
               rw [List.map_append]
               rfl
       · have g1 := filter_step (f := fun e : Ent => keepL l e.path) hx'
         have hxp := (tree_mem h2 (List.mem_of_getElem? hx')).2.1
         have hxl := (pathOk_pos hxp).2
         have c3 := iMarkAt_con (m := m) l x.path (by omega)
         have c4 := iHides_con (m := m) l x.path (by omega) (by omega) (fun y hy => (hb y hy).1)
         rw [hidesI_eq hlp hxp] at c4
         cases hm : markAt l x.path with
         | some y =>
           rw [hm] at c3
           have kx : keepL l x.path = false := by simp [keepL, hm]
           simp only [kx, cond_false, List.append_nil] at g1
           repeat' first | refine Ra ⟨?_⟩ | refine R0 c3 ⟨?_⟩ | refine Rd (fun h => ⟨?_⟩) fun h => ⟨?_⟩ | refine Rb ⟨?_⟩ | fail
           refine .here ⟨mq - 1, by omega, ?_⟩
           refine la [0, 6, 21, 22, 23] ?_
           conv => whnf
           refine ⟨rfl, rfl, i + 1, A, (by omega), rfl, rfl, rfl, by omega, (by rw [hA, g1]), by omega⟩
         | none =>
           rw [hm] at c3
           cases hh : hides l x.path with
           | true =>
             rw [hh] at c4
             have kx : keepL l x.path = false := by simp [keepL, hm, hh]
             simp only [kx, cond_false, List.append_nil] at g1
             repeat' first | refine Ra ⟨?_⟩ | refine R0 c3 ⟨?_⟩ | refine R0 c4 ⟨?_⟩ | refine Rd (fun h => ⟨?_⟩) fun h => ⟨?_⟩ | refine Rb ⟨?_⟩ | fail
             refine .here ⟨mq - 1, by omega, ?_⟩
             refine la [0, 6, 21, 22, 23] ?_
             conv => whnf
             refine ⟨rfl, rfl, i + 1, A, (by omega), rfl, rfl, rfl, by omega, (by rw [hA, g1]), by omega⟩
           | false =>
             rw [hh] at c4
             have kx : keepL l x.path = true := by simp [keepL, hm, hh]
             simp only [kx, cond_true] at g1
             repeat' first | refine Ra ⟨?_⟩ | refine R0 c3 ⟨?_⟩ | refine R0 c4 ⟨?_⟩ | refine Rd (fun h => ⟨?_⟩) fun h => ⟨?_⟩ | refine Rb ⟨?_⟩ | fail
             refine .here ⟨mq - 1, by omega, ?_⟩
             refine la [0, 6, 21, 22, 23] ?_
             conv => whnf
             refine ⟨rfl, rfl, i + 1, A ++ [x], (by omega), rfl, ?_, rfl, by omega, (by rw [hA, g1]), (by simp; omega)⟩
             rw [List.map_append]
             rfl
theorem iLayerDiff_con (a b : List Ent) (ha : treeOk a = true) (hb : treeOk b = true) :
   Con (E m) 231 0 [.sl (a.map Ent.c), .sl (b.map Ent.c)] [] (.own 0) [(0, .own 197 ((diffL a b).map Mrk.c))] := by
 have c1 := iTurned_con (m := m) a b (bE0 ha) (bE0 hb)
 have hbl := treeOk_len hb
 have hWl := turned_len a b
 have hW := fun p (hp : p ∈ turnedL a b) => turned_ok ha hb hp
 have hne := fun p (hp : p ∈ turnedL a b) => (turned_mem ha hb).1 hp
 have hD0 : diffB a b = (turnedL a b).filterMap (baseM a b) := rfl
 have hBl := diffB_len (a := a) (b := b)
 have hinv := diffU_inv ha hb
 have hstep := fun (i : Nat) (x : Mrk) (h : (diffB a b)[i]? = some x) => diffU_succ h
 have hU0 : diffU a b 0 = diffB a b := by simp [diffU]
 have hBp : ∀ x ∈ diffB a b, pathOk x.path = true := fun x hx => by
  obtain ⟨p, hp, hpx⟩ := List.mem_filterMap.1 (hD0 ▸ hx)
  rw [(baseM_some hpx).1]
  exact hW p hp
 have c9 : ∀ L, L = diffU a b (diffB a b).length → L.length ≤ 1000000 → Con (E m) 271 1 [.own 0] [(0, .own 197 (L.map Mrk.c))] (.tup []) [(0, .own 197 ((diffL a b).map Mrk.c))] := fun L hL hl => by
  subst hL
  exact sortMarks_con (m := m) _ _ (fun S g1 g2 => diff_one ha hb g1 g2) hl
 generalize diffL a b = R at c9
 generalize diffU a b = U at hinv hstep hU0 c9
 generalize diffB a b = D at hD0 hBl hinv hstep hU0 c9 hBp
 generalize turnedL a b = W at c1 hWl hW hne hD0
 have e1 : (strs W).length = W.length := List.length_map ..
 refine con_of_cd tyOk mix Tryz.func231 rfl rfl rfl (Nat.le_of_ble_eq_true rfl) ?_
 repeat' first | refine Ra ⟨?_⟩ | refine Rk [] 1 c1 ⟨?_⟩ | refine Rd (fun h => ⟨?_⟩) fun h => ⟨?_⟩ | refine Rb ⟨?_⟩ | fail
 refine Cd.loop2 (fun mq tm S nx => ∃ (i : Nat) (A : List Mrk), mq = (W.length - i) ∧ tm = [(1, .sl (b.map Ent.c)), (5, .own 0), (16, .sl (strs W)), (17, .k .i64 ((strs W).length : Int)), (18, .k .i64 i)] ∧ S = [(0, .own 197 (A.map Mrk.c))] ∧ nx = 1 ∧ (i ≤ W.length) ∧ (A = (W.take i).filterMap (baseM a b)) ∧ (A.length ≤ i)) ?_ ?_
 · refine li [16] [1, 5, 16, 17, 18] ?_
   conv => whnf
   refine ⟨rfl, rfl, _, 0, [], rfl, rfl, rfl, rfl, by omega, (by simp), by simp⟩
 · rintro mq tm S nx ⟨i, A, hn, rfl, rfl, rfl, hi, hA, hAl⟩
   have e2 : (A.map Mrk.c).length = A.length := List.length_map ..
   rcases drop_or W i hi with ⟨rfl, hd⟩ | ⟨p, r, hp', hd, hr, hlt⟩
   · rw [List.take_length, ← hD0] at hA
     subst hA
     have e3 : (A.map Mrk.c).length = A.length := List.length_map ..
     repeat' first | refine Ra ⟨?_⟩ | refine Rd (fun h => ⟨?_⟩) fun h => ⟨?_⟩ | refine Rb ⟨?_⟩ | fail
     refine Cd.loop2 (fun mq tm S nx => ∃ (j : Nat) (C : List Mrk), mq = (A.length - j) ∧ tm = [(5, .own 0), (60, .k .i64 ((A.map Mrk.c).length : Int)), (61, .k .i64 j)] ∧ S = [(0, .own 197 (C.map Mrk.c))] ∧ nx = 1 ∧ (j ≤ A.length) ∧ (C = U j)) ?_ ?_
     · refine la [5, 60, 61] ?_
       conv => whnf
       refine ⟨rfl, rfl, _, 0, A, rfl, rfl, rfl, rfl, by omega, hU0.symm⟩
     · rintro mq tm S nx ⟨j, C, hn, rfl, rfl, rfl, hj, hC⟩
       have e4 : (C.map Mrk.c).length = C.length := List.length_map ..
       obtain ⟨i1, ⟨X, i2, i3⟩, _⟩ := hinv j hj
       rw [← hC] at i2
       have hUl : C.length ≤ 32 + 12 * j := by rw [i2, List.length_append]; omega
       by_cases hlt : j < A.length
       · have r1 : A[j]? = some A[j] := List.getElem?_eq_getElem hlt
         have r2 := hBp _ (List.getElem_mem hlt)
         have r3 := hstep j _ r1
         have r4 : C[j]? = some A[j] := by rw [i2, List.getElem?_append_left hlt]; exact r1
         generalize A[j] = x at r1 r2 r3 r4
         have hxl := (pathOk_pos r2).2
         have c5 := iUp_con (m := m) x.path (by omega)
         obtain ⟨mo, hmo⟩ : ∃ mo, mo = mq := ⟨_, rfl⟩
         subst hmo
         have hno := hn
         have hAC : A.length ≤ C.length := by rw [i2, List.length_append]; omega
         have hjC : j < (C.map Mrk.c).length := by omega
         repeat' first | refine Ra ⟨?_⟩ | refine R0 c5 ⟨?_⟩ | (refine ⟨hjC, ?_⟩ <;> conv => whnf) | refine Rd (fun h => ⟨?_⟩) fun h => ⟨?_⟩ | refine Rb ⟨?_⟩ | fail
         refine Cd.loop2 (fun mq tm S nx => ∃ (n : Nat) (p : Bs) (B : List Mrk), mq = (n) ∧ tm = [(5, .own 0), (11, .s (pathUp p)), (60, .k .i64 ((A.map Mrk.c).length : Int)), (61, .k .i64 j)] ∧ S = [(0, .own 197 (B.map Mrk.c))] ∧ nx = 1 ∧ (pathOk p = true) ∧ (p.length ≤ n) ∧ (upsA n B p = U (j + 1)) ∧ (B.length + n ≤ 44 + 12 * j)) ?_ ?_
         · refine la [5, 11, 60, 61] ?_
           conv => whnf
           refine ⟨rfl, rfl, _, 12, x.path, C, rfl, rfl, rfl, rfl, r2, by omega, (by rw [hC]; exact r3.symm), by omega⟩
         · rintro mq tm S nx ⟨n, p, B, hn, rfl, rfl, rfl, hpk, hpn, hB, hBl⟩
           have e5 : (B.map Mrk.c).length = B.length := List.length_map ..
           have hpl := (pathOk_pos hpk).2
           have hpp := (pathOk_pos hpk).1
           obtain ⟨n', rfl⟩ : ∃ n', n = n' + 1 := ⟨n - 1, by omega⟩
           by_cases hr : pathUp p ≠ [47]
           · rw [upsA, if_neg hr] at hB
             obtain ⟨u1, u2⟩ := up_of_ne hpk hr
             have u3 := under_lt u1 u2
             have u4 := (pathOk_pos u1).2
             have c6 := iMarkAt_con (m := m) B (pathUp p) (by omega)
             have c7 := iUp_con (m := m) (pathUp p) (by omega)
             cases hm : markAt B (pathUp p) with
             | some y =>
               rw [hm] at c6 hB
               simp only [Option.isNone_some, Bool.false_eq_true, if_false] at hB
               rw [show mrkD (some y) = D.tup [.agg [.s y.path, .k .i64 y.kind, .s y.data], .b true] from rfl] at c6
               repeat' first | refine Ra ⟨?_⟩ | (refine ⟨[], _, _, _, _, 0, ⟨rfl, rfl, rfl, c6, rfl, rfl⟩, .inl ⟨[], trivial, rfl, .inl ⟨by simp [NoImmD, NoImmG, NoImmA], by simp [NoImmS, NoImmB, NoImmA, Ent.c, Mrk.c, Opn.c]⟩, ?_⟩⟩ <;> conv => whnf) | refine R0 c7 ⟨?_⟩ | refine Rd (fun h => ⟨?_⟩) fun h => ⟨?_⟩ | refine Rb ⟨?_⟩ | fail
               refine .here ⟨mq - 1, by omega, ?_⟩
               refine la [5, 11, 60, 61] ?_
               conv => whnf
               refine ⟨rfl, rfl, n', pathUp p, B, (by omega), rfl, rfl, rfl, u1, by omega, hB, by omega⟩
             | none =>
               rw [hm] at c6 hB
               simp only [Option.isNone_none, if_true] at hB
               rw [show mrkD none = D.tup [.agg [.s [], .k .i64 0, .s []], .b false] from rfl] at c6
               repeat' first | refine Ra ⟨?_⟩ | (refine ⟨[], _, _, _, _, 0, ⟨rfl, rfl, rfl, c6, rfl, rfl⟩, .inl ⟨[], trivial, rfl, .inl ⟨by simp [NoImmD, NoImmG, NoImmA], by simp [NoImmS, NoImmB, NoImmA, Ent.c, Mrk.c, Opn.c]⟩, ?_⟩⟩ <;> conv => whnf) | refine R0 c7 ⟨?_⟩ | refine Rd (fun h => ⟨?_⟩) fun h => ⟨?_⟩ | refine Rb ⟨?_⟩ | fail
               refine .here ⟨mq - 1, by omega, ?_⟩
               refine la [5, 11, 60, 61] ?_
               conv => whnf
               refine ⟨rfl, rfl, n', pathUp p, B ++ [⟨pathUp p, 2, []⟩], (by omega), rfl, ?_, rfl, u1, by omega, hB, (by simp; omega)⟩
               rw [List.map_append]
               rfl
           · have hr := Decidable.not_not.1 hr
             have hs : B = U (j + 1) := by rw [← hB, upsA, if_pos hr]
             rw [hr]
             repeat' first | refine Ra ⟨?_⟩ | refine Rd (fun h => ⟨?_⟩) fun h => ⟨?_⟩ | refine Rb ⟨?_⟩ | fail
             refine .here ⟨mo - 1, by omega, ?_⟩
             refine la [5, 60, 61] ?_
             conv => whnf
             refine ⟨rfl, rfl, j + 1, B, (by omega), rfl, rfl, rfl, by omega, hs⟩
       · obtain rfl : j = A.length := by omega
         have c9' := c9 C hC (by omega)
         repeat' first | refine Ra ⟨?_⟩ | refine Rk [0] 0 c9' ⟨?_⟩ | refine Rd (fun h => ⟨?_⟩) fun h => ⟨?_⟩ | refine Rb ⟨?_⟩ | fail
         exact Rf
   · have g1 := bind_step (f := baseM a b) hp'
     have hpk := hW p (List.mem_of_getElem? hp')
     have hpn := hne p (List.mem_of_getElem? hp')
     have hpl := (pathOk_pos hpk).2
     have c3 := iAt_con (m := m) b p (by omega)
     have c4 := iUpCode_con (m := m) b p (by omega) (by omega)
     cases he : entAt b p with
     | some e =>
       rw [he] at c3
       cases hd : e.dir with
       | true =>
         have kx : baseM a b p = some ⟨p, 2, []⟩ := by rw [baseM, if_neg hpn, he]; simp [hd]
         rw [kx] at g1
         repeat' first | refine Ra ⟨?_⟩ | refine R0 c3 ⟨?_⟩ | refine Rd (fun h => ⟨?_⟩) fun h => ⟨?_⟩ | refine Rb ⟨?_⟩ | fail
         refine .here ⟨mq - 1, by omega, ?_⟩
         refine la [1, 5, 16, 17, 18] ?_
         conv => whnf
         refine ⟨rfl, rfl, i + 1, A ++ [⟨p, 2, []⟩], (by omega), rfl, ?_, rfl, by omega, (by rw [hA, g1]), (by simp; omega)⟩
         rw [List.map_append]
         rfl
       | false =>
         have kx : baseM a b p = some ⟨p, 1, e.data⟩ := by rw [baseM, if_neg hpn, he]; simp [hd]
         rw [kx] at g1
         repeat' first | refine Ra ⟨?_⟩ | refine R0 c3 ⟨?_⟩ | refine Rd (fun h => ⟨?_⟩) fun h => ⟨?_⟩ | refine Rb ⟨?_⟩ | fail
         refine .here ⟨mq - 1, by omega, ?_⟩
         refine la [1, 5, 16, 17, 18] ?_
         conv => whnf
         refine ⟨rfl, rfl, i + 1, A ++ [⟨p, 1, e.data⟩], (by omega), rfl, ?_, rfl, by omega, (by rw [hA, g1]), (by simp; omega)⟩
         rw [List.map_append]
         rfl
     | none =>
       rw [he] at c3
       by_cases hu : upCode b p = 0
       · have kx : baseM a b p = some ⟨p, 3, []⟩ := by rw [baseM, if_neg hpn, he]; simp [hu]
         rw [kx] at g1
         rw [hu] at c4
         repeat' first | refine Ra ⟨?_⟩ | refine R0 c3 ⟨?_⟩ | refine R0 c4 ⟨?_⟩ | refine Rd (fun h => ⟨?_⟩) fun h => ⟨?_⟩ | refine Rb ⟨?_⟩ | fail
         refine .here ⟨mq - 1, by omega, ?_⟩
         refine la [1, 5, 16, 17, 18] ?_
         conv => whnf
         refine ⟨rfl, rfl, i + 1, A ++ [⟨p, 3, []⟩], (by omega), rfl, ?_, rfl, by omega, (by rw [hA, g1]), (by simp; omega)⟩
         rw [List.map_append]
         rfl
       · have kx : baseM a b p = none := by rw [baseM, if_neg hpn, he]; simp [hu]
         rw [kx, List.append_nil] at g1
         repeat' first | refine Ra ⟨?_⟩ | refine R0 c3 ⟨?_⟩ | refine R0 c4 ⟨?_⟩ | refine Rd (fun h => ⟨?_⟩) fun h => ⟨?_⟩ | refine Rb ⟨?_⟩ | fail
         refine .here ⟨mq - 1, by omega, ?_⟩
         refine la [1, 5, 16, 17, 18] ?_
         conv => whnf
         refine ⟨rfl, rfl, i + 1, A, (by omega), rfl, rfl, rfl, by omega, (by rw [hA, g1]), by omega⟩
end Go.Proofs.YtlicaibhgcenhaaGreatDoor
namespace Go.Par
open Go.Ab
section
variable {a b : List Mrk} (ha : layerOk a = true) (hb : layerOk b = true)
include ha hb
end
structure Ovr where
 base : List Ent
 layers : List (List Mrk)
 upper : List Mrk
 deriving DecidableEq
def ov0 : Ovr := ⟨[], [], []⟩
def stackT : List Ent → List (List Mrk) → Option (List Ent)
 | t, [] => some t
 | t, l :: r => match layerOn l t with
   | some u => stackT u r
   | none => none
def lowerT (o : Ovr) : Option (List Ent) := if treeOk o.base = true ∧ o.layers.length ≤ 4 then stackT o.base o.layers else none
def viewT (o : Ovr) : Option (List Ent) := match lowerT o with
 | some t => layerOn o.upper t
 | none => none
def overT (o : Ovr) : Option (List Ent × List Ent) := match lowerT o with
 | some t => match layerOn o.upper t with
   | some v => if o.upper = diffL t v then some (t, v) else none
   | none => none
 | none => none
def overOk (o : Ovr) : Bool := (overT o).isSome
theorem stack_ok : ∀ (ls : List (List Mrk)) {t u : List Ent}, treeOk t = true → stackT t ls = some u → treeOk u = true
 | [], t, u, ht, h => by cases h; exact ht
 | l :: r, t, u, ht, h => by
   unfold stackT at h
   cases hl : layerOn l t with
   | none => rw [hl] at h; cases h
   | some x =>
     rw [hl] at h
     exact stack_ok r (layerOn_some hl).2.2.1 h
theorem lower_ok {o : Ovr} {t : List Ent} (h : lowerT o = some t) : treeOk o.base = true ∧ o.layers.length ≤ 4 ∧ stackT o.base o.layers = some t ∧ treeOk t = true := by
 unfold lowerT at h
 split at h
 · rename_i hc
   exact ⟨hc.1, hc.2, h, stack_ok _ hc.1 h⟩
 · cases h
theorem overT_iff {o : Ovr} {t v : List Ent} : overT o = some (t, v) ↔ lowerT o = some t ∧ layerOn o.upper t = some v ∧ o.upper = diffL t v := by
 unfold overT
 constructor
 · intro h
   cases hl : lowerT o with
   | none => rw [hl] at h; cases h
   | some x =>
     rw [hl] at h
     simp only at h
     cases hv : layerOn o.upper x with
     | none => rw [hv] at h; cases h
     | some y =>
       rw [hv] at h
       simp only at h
       split at h
       · rename_i hd
         cases h
         exact ⟨rfl, hv, hd⟩
       · cases h
 · rintro ⟨h1, h2, h3⟩
   rw [h1]
   simp only
   rw [h2]
   simp only
   rw [if_pos h3]
theorem overT_ok {o : Ovr} {t v : List Ent} (h : overT o = some (t, v)) : treeOk o.base = true ∧ o.layers.length ≤ 4 ∧ treeOk t = true ∧ treeOk v = true := by
 obtain ⟨h1, h2, _⟩ := overT_iff.1 h
 obtain ⟨g1, g2, _, g4⟩ := lower_ok h1
 exact ⟨g1, g2, g4, (layerOn_some h2).2.2.1⟩
end Go.Par
