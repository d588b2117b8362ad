/- Texts of this claim, set close: lemmas and contracts. -/
import Derived.Test.YtlicaibhgcenhaaGreatDoorWZY16
import Derived.Test.YtlicaibhgcenhaaGreatDoorWZY5
set_option linter.unusedSimpArgs false
set_option linter.unusedVariables false
set_option maxHeartbeats 1000000
set_option maxRecDepth 10000
namespace Go.Proofs.YtlicaibhgcenhaaGreatDoor
open Go Go.RowKit Go.Ab Go.Par Go.Proofs Go.Sort Go.Shelf
variable {m : Int}
theorem isNaN_run (x : Value) (l : Bs) (hx : x = vS l) (W : World) : Calls Tryz.prog 288 #[x] W fun e w' => e = .returned (.bool false) ∧ w' = W := by
 subst hx
 go_enter Tryz.func288, Tryz.ntmps288
 go_wp2
 go_ret
 exact ⟨by simp, rfl⟩
theorem cmpStr_run (a b : Bs) (W : World) : Calls Tryz.prog 247 #[vS a, vS b] W fun e w' => e = .returned (.int .i64 (cmpS a b)) ∧ w' = W := by
 have h1 := fun W => isNaN_run (vS a) a rfl W
 have h2 := fun W => isNaN_run (vS b) b rfl W
 unfold cmpS
 go_enter Tryz.func247, Tryz.ntmps247
 go_wp2_with (go_at_call 288; first | (refine (h1 _).mono ?_; rintro e w' ⟨rfl, rfl⟩) | (refine (h2 _).mono ?_; rintro e w' ⟨rfl, rfl⟩))
 all_goals first
  | (go_ret; exact ⟨rfl, rfl⟩)
  | (go_ret; refine ⟨?_, rfl⟩; simp_all; done)
  | (go_ret; refine ⟨?_, rfl⟩; rcases lt_total a b with g | g | g <;> simp_all)
  | (exfalso; rcases lt_total a b with g | g | g <;> simp_all)
theorem cmpE_run (x y : Ent) (W : World) : Calls Tryz.prog 246 #[.agg (Ent.v x).toArray, .agg (Ent.v y).toArray] W fun e w' => e = .returned (.int .i64 (cmpS x.path y.path)) ∧ ∃ q os', w' = grow (W.drewN q) os' := by
 have hcon := fun W' => cmpStr_run x.path y.path W'
 generalize cmpS x.path y.path = r at hcon ⊢
 unfold Ent.v
 go_enter Tryz.func246, Tryz.ntmps246
 go_wp2_with (go_at_call 247; refine (hcon _).mono ?_; rintro e w' ⟨rfl, rfl⟩)
 go_ret
 exact ⟨rfl, 0, _, by rw [alloc_eq_grow, alloc_eq_grow, grow_grow]; rfl⟩
theorem sortFuncE_con (L U : List Ent) (hU : ∀ S : List Ent, S.Perm L → (S.Pairwise fun a b => lt b.path a.path = false) → S = U) (hl : L.length ≤ 1000000) :
   Con (E m) 245 1 [.own 0, .fn 246 []] [(0, .own 150 (L.map Ent.c))] (.tup []) [(0, .own 150 (U.map Ent.c))] :=
 con_turn cellsE (by decide) (by kernel_rfl) ⟨_, Tryz.func245, rfl, rfl⟩ (uniq_len' (pa := fun e : Ent => e.path) hU)
  (fun _ w => AnyF.slices_SortFunc_none Tryz.sortE none 0 _ w)
  (fun b cap w hH hb => by
   have eg : ∀ args w, (callFunc 246 args).run Tryz.prog w = .ok (.enter 246 args) w := enters_of Tryz.func246 (by kernel_rfl) rfl
   refine (AnyQ.slices_SortFunc Tryz.sortE 3 Tryz.isAgg150 Tryz.sizeOf150 Ent.v cellsE.len cellsE.one (fun x y => cmpS x.path y.path) swoE 246 #[] b 0 cap L.toArray w eg (fun _ _ _ _ x y => cmpE_run x y _) hH hb (by simp; omega)).mono ?_
   rintro e w' ⟨he, d, n, os, hp, hs, rfl⟩
   have hd : d.toList = U := hU _ (perm_list hp) (sorted_list (pa := fun e : Ent => e.path) hp.1 hs)
   refine ⟨he, n, os, ?_⟩
   rw [← hd])
theorem sortEnts_con (L U : List Ent) (hU : ∀ S : List Ent, S.Perm L → (S.Pairwise fun a b => lt b.path a.path = false) → S = U) (hl : L.length ≤ 1000000) :
   Con (E m) 177 1 [.own 0] [(0, .own 150 (L.map Ent.c))] (.tup []) [(0, .own 150 (U.map Ent.c))] := by
 have c1 := sortFuncE_con (m := m) L U hU hl
 refine con_of_cd tyOk mix Tryz.func177 rfl rfl rfl (Nat.le_of_ble_eq_true rfl) ?_
 repeat' first | refine Ra ⟨?_⟩ | refine Rk [0] 0 c1 ⟨?_⟩ | refine Rd (fun h => ⟨?_⟩) fun h => ⟨?_⟩ | refine Rb ⟨?_⟩ | fail
 exact Rf
end Go.Proofs.YtlicaibhgcenhaaGreatDoor
