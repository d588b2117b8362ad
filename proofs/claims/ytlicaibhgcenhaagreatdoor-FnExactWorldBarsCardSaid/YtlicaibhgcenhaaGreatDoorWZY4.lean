/- Texts of this claim, set close: lemmas and contracts. -/
import Derived.Test.YtlicaibhgcenhaaGreatDoorWZY3
import Derived.Shelf.SlSortCmp.WholeK
import Derived.Shelf.SlSortCmp.NoneTotal
set_option linter.unusedVariables false
set_option linter.unusedSimpArgs false
namespace Go.Ab
open Go Go.RowKit Go.Proofs Go.Sort
section
variable {α : Type} {enc : α → List Value} {c : α → List D} {k : Nat}
theorem flat_len (hv : ∀ x, (enc x).length = k) (ls : List α) : (ls.flatMap enc).length = ls.length * k := by
 induction ls with
 | nil => simp
 | cons x r ih => rw [List.flatMap_cons, List.length_append, hv, ih, List.length_cons, Nat.succ_mul, Nat.add_comm]
theorem flat_get (hv : ∀ x, (enc x).length = k) : ∀ (ls : List α) (i j : Nat), j < k → (ls.flatMap enc)[i * k + j]? = (ls[i]?).bind fun x => (enc x)[j]?
 | [], i, j, _ => by simp
 | x :: r, 0, j, hj => by
   rw [List.flatMap_cons, Nat.zero_mul, Nat.zero_add, List.getElem?_append_left (by rw [hv]; exact hj)]
   rfl
 | x :: r, i + 1, j, hj => by
   have ih := flat_get hv r i j hj
   rw [List.flatMap_cons, List.getElem?_append_right (by rw [hv, Nat.succ_mul]; omega), hv]
   have e : (i + 1) * k + j - k = i * k + j := by rw [Nat.succ_mul]; omega
   rw [e, ih]
   rfl
theorem flatK_list [Inhabited α] (hv : ∀ x, (enc x).length = k) (hk : 0 < k) (ls : List α) : (flatK enc k ls.toArray).toList = ls.flatMap enc := by
 refine List.ext_getElem? fun t => ?_
 by_cases ht : t < ls.length * k
 · have hi : t / k < ls.length := Nat.div_lt_of_lt_mul (by rw [Nat.mul_comm]; exact ht)
   have hj : t % k < k := Nat.mod_lt _ hk
   have hz : t < (flatK enc k ls.toArray).size := by simpa using ht
   have e : t = t / k * k + t % k := (Nat.div_add_mod' t k).symm
   have hR : (ls.flatMap enc)[t]? = some ((enc ls[t / k])[t % k]'(by rw [hv]; exact hj)) := by
    conv => lhs; rw [e]
    rw [flat_get hv _ _ _ hj, List.getElem?_eq_getElem hi]
    exact List.getElem?_eq_getElem (by rw [hv]; exact hj)
   rw [hR, Array.getElem?_toList, Array.getElem?_eq_getElem hz]
   have h1 := get_flatK enc k ls.toArray t (by simpa using ht)
   rw [getElem!_pos _ t hz] at h1
   rw [h1]
   congr 1
   have h2 : ls.toArray[t / k]! = ls[t / k] := by rw [getElem!_pos _ (t / k) (by simpa using hi)]; rfl
   rw [h2, getElem!_pos _ (t % k) (by rw [hv]; exact hj)]
 · rw [List.getElem?_eq_none (by simpa using ht), List.getElem?_eq_none (by rw [flat_len hv]; omega)]
structure Cells (enc : α → List Value) (c : α → List D) (k : Nat) : Prop where
 len : ∀ x, (enc x).length = k
 lenD : ∀ x, (c x).length = k
 one : ∀ x, ∀ u ∈ enc x, u.oneCell' = true
 rel : ∀ (w : World) (Av : Nat → Prop) (x : α) (j : Nat) (d : D), (c x)[j]? = some d → ∃ u, (enc x)[j]? = some u ∧ VI w Av d u
 inv : ∀ (w : World) (Av : Nat → Prop) (x : α) (j : Nat) (d : D) (u : Value), (c x)[j]? = some d → VI w Av d u → (enc x)[j]? = some u
variable {w : World} {Av : Nat → Prop}
theorem rows_k (h : Cells enc c k) (ls : List α) : Rows (VI w Av) k (ls.map c) (ls.flatMap enc) := by
 refine ⟨by rw [flat_len h.len, List.length_map], fun cs hcs => ?_, fun u hu => ?_, fun i j cs d hc hd' => ?_⟩
 · obtain ⟨l, _, rfl⟩ := List.mem_map.1 hcs
   exact h.lenD l
 · obtain ⟨l, _, hl⟩ := List.mem_flatMap.1 hu
   exact h.one l u hl
 · simp only [List.getElem?_map, Option.map_eq_some_iff] at hc
   obtain ⟨l, hl', rfl⟩ := hc
   have hj : j < k := by
    rw [← h.lenD l]
    exact (List.getElem?_eq_some_iff.1 hd').1
   obtain ⟨u, hu, hv⟩ := h.rel w Av l j d hd'
   exact ⟨u, by rw [flat_get h.len _ _ _ hj, hl']; exact hu, hv⟩
theorem k_rows (h : Cells enc c k) (hk : 0 < k) {ls : List α} {us : List Value} (hr : Rows (VI w Av) k (ls.map c) us) : us = ls.flatMap enc := by
 have hl : us.length = ls.length * k := by have := hr.len; simpa using this
 refine List.ext_getElem? fun t => ?_
 by_cases ht : t < ls.length * k
 · have hi : t / k < ls.length := Nat.div_lt_of_lt_mul (by rw [Nat.mul_comm]; exact ht)
   have hj : t % k < k := Nat.mod_lt _ hk
   have e : t = t / k * k + t % k := (Nat.div_add_mod' t k).symm
   have hd : (c ls[t / k])[t % k]? = some ((c ls[t / k])[t % k]'(by rw [h.lenD]; exact hj)) := List.getElem?_eq_getElem _
   obtain ⟨u, hu, hv⟩ := hr.at_ (t / k) (t % k) (c ls[t / k]) _ (by rw [List.getElem?_map, List.getElem?_eq_getElem hi]; rfl) hd
   have h1 := h.inv w Av _ _ _ _ hd hv
   rw [e, hu, flat_get h.len _ _ _ hj, List.getElem?_eq_getElem hi]
   exact h1.symm
 · rw [List.getElem?_eq_none (by omega), List.getElem?_eq_none (by rw [flat_len h.len]; omega)]
end
theorem putV_size (d : Array Value) (c : Array Value) : (Sort.putCells id 0 d c).size = c.size := by simp [Sort.putCells]
theorem putV_take (zs : List Value) (c : Array Value) (h : zs.length ≤ c.size) : (Sort.putCells id 0 zs.toArray c).toList.take zs.length = zs := by
 refine List.ext_getElem? fun i => ?_
 by_cases hi : i < zs.length
 · rw [List.getElem?_take_of_lt hi, Array.getElem?_toList]
   unfold Sort.putCells
   rw [Array.getElem?_mapIdx, Array.getElem?_eq_getElem (by omega), List.getElem?_eq_getElem hi]
   simp only [Option.map_some]
   rw [if_pos ⟨Nat.zero_le _, by simpa using hi⟩]
   simp [hi]
 · rw [List.getElem?_eq_none_iff.2 (by simp; omega), List.getElem?_eq_none_iff.2 (by omega)]
theorem putV_at {w : World} {g n : Nat} {d : Array Value} {cur : Array Value} {e : TypeId} {fz : Nat × Nat} (os : Array Obj) (h : w.heap[g]? = some (.cells cur e fz)) :
   (Sort.grow (Sort.putRow id (Sort.ahead w n) g 0 d) os).heap[g]? = some (.cells (Sort.putCells id 0 d cur) e fz) := by
 have hg : g < w.heap.size := by
  by_cases hg : g < w.heap.size
  · exact hg
  · rw [Array.getElem?_eq_none (by omega)] at h; cases h
 have h1 : (Sort.putRow id (Sort.ahead w n) g 0 d).heap[g]? = some (.cells (Sort.putCells id 0 d cur) e fz) := by
  simp only [Sort.putRow, Sort.mapBlock, Sort.ahead, Array.getElem?_modify, if_true, h, Option.map_some, Sort.onCells]
 have h2 : (Sort.putRow id (Sort.ahead w n) g 0 d).heap.size = w.heap.size := by simp [Sort.putRow, Sort.mapBlock, Sort.ahead]
 simp only [Sort.grow]
 rw [Array.getElem?_append_left (by rw [h2]; exact hg), h1]
theorem putV_fr {w : World} {g n : Nat} {d : Array Value} (os : Array Obj) {F : Nat → Prop} (hF : F g) : Fr F w (Sort.grow (Sort.putRow id (Sort.ahead w n) g 0 d) os) := by
 have h2 : (Sort.putRow id (Sort.ahead w n) g 0 d).heap.size = w.heap.size := by simp [Sort.putRow, Sort.mapBlock, Sort.ahead]
 refine ⟨rfl, rfl, rfl, by simp only [Sort.grow, Array.size_append, h2]; omega, fun k hk hn => ?_⟩
 have hne : g ≠ k := by rintro rfl; exact hn hF
 simp only [Sort.grow]
 rw [Array.getElem?_append_left (by rw [h2]; exact hk)]
 simp only [Sort.putRow, Sort.mapBlock, Sort.ahead, Array.getElem?_modify, hne, if_false]
theorem holds_v {w : World} {g : Nat} {cur : Array Value} {e : TypeId} {F : Array Value} (h : w.heap[g]? = some (.cells cur e (0, 0))) (ht : cur.toList.take F.size = F.toList) : Sort.Holds id w g 0 F := by
 intro j hj
 have h1 : cur[j]? = some F[j]! := by
  have this : (cur.toList.take F.size)[j]? = (F.toList)[j]? := by rw [ht]
  rw [List.getElem?_take_of_lt hj, Array.getElem?_toList, Array.getElem?_toList] at this
  rw [this, getElem!_pos _ j hj]
  exact Array.getElem?_eq_getElem hj
 refine ⟨?_, ?_⟩
 · simp only [World.cell?, h]
   simp [h1]
 · simp [World.frozen?, h]
theorem VA.fn_inv {w : World} {Av : Nat → Prop} {ρ : Nat → Option Value} {g : FuncId} {v : Value} (h : VA w Av ρ (.fn g []) v) : v = .func (.func g) #[] #[] := by
 cases h with
 | im h => cases h; rfl
 | fn hl hh =>
   rename_i us
   cases us with
   | nil => rfl
   | cons a b => simp at hl
section
variable {E : Env} {f : FuncId} {α : Type} [Inhabited α] {enc : α → List Value} {c : α → List D} {k : Nat}
theorem con_turnG {et : TypeId} {ls ls' : List α} {td : List D} {tv : List Value} (hT : ∀ (w : World) (Av : Nat → Prop) (ρ : Nat → Option Value) (vs : List Value), td.length = vs.length → (∀ (i : Nat) (d : D) (u : Value), td[i]? = some d → vs[i]? = some u → VG w Av ρ d u) → vs = tv)
   (h : Cells enc c k) (hk : 0 < k) (hce : E.P.cellsOf et = k) (hf : Callable E.P f) (hlen : ls'.length = ls.length)
   (h0 : ls = [] → ∀ (w : World), Calls E.P f (.slice none 0 0 :: tv).toArray w fun e w' => e = .returned (.tuple #[]) ∧ w' = w)
   (h1 : ∀ (b cap : Nat) (w : World), HoldsK enc k w b 0 ls.toArray → b < w.heap.size → Calls E.P f (.slice (some ⟨b, 0, none⟩) ls.length cap :: tv).toArray w fun e w' => e = .returned (.tuple #[]) ∧ ∃ n os, w' = sortWorldK enc k w b 0 n ls'.toArray os) :
   Con E f 1 (.own 0 :: td) [(0, .own et (ls.map c))] (.tup []) [(0, .own et (ls'.map c))] := by
 refine ⟨hf, fun w vs ρ G hl hG hGh ha hs hdis hd hg => ?_⟩
 match vs, hl, ha with
 | v0 :: vs, hl, ha =>
   have hv1 : nmv ρ 0 = some v0 := by
    cases ha 0 (.own 0) v0 rfl rfl with
    | atom h =>
      cases h with
      | im h => cases h
      | own h _ => exact h
   obtain rfl := hT _ _ _ vs (by simpa using hl) (fun i d u h1 h2 => ha (i + 1) d u (by simpa using h1) (by simpa using h2))
   obtain ⟨u, us, hu, ho, hr⟩ := hs 0 _ rfl
   rw [nmv_of hu (top_row ho)] at hv1
   obtain rfl := Option.some.inj hv1
   have hv0 := hu
   rw [hce] at ho hr
   obtain rfl := k_rows h hk hr
   obtain ⟨ho1, ho2⟩ := ho
   have lk0 : ∀ (t : Nat) (b : Blk) (zs : List α), lk [(0, Blk.own et (zs.map c))] t = some b → t = 0 ∧ b = .own et (zs.map c) := by
    intro t b zs hb
    rw [lk_cons] at hb
    split at hb
    · rename_i ht; cases hb; exact ⟨ht.symm, rfl⟩
    · simp [lk] at hb
   have hd1 : Dis [(0, Blk.own et (ls'.map c))] ρ := fun t t' b b' x hb hb' _ _ _ _ => by rw [(lk0 _ _ _ hb).1, (lk0 _ _ _ hb').1]
   have hh : ∀ x, Held [(0, Blk.own et (ls'.map c))] ρ x → w.heap.size ≤ x ∨ Held [(0, Blk.own et (ls.map c))] ρ x := by
    rintro x ⟨t, b, hb, _, hx⟩
    obtain ⟨rfl, rfl⟩ := lk0 _ _ _ hb
    exact .inr ⟨0, _, rfl, rfl, hx⟩
   rcases ho2 with ⟨rfl, hn⟩ | ⟨b, cap, cur, rfl, hb0, hgc, hnc, hcm, hcs, htk⟩
   · have hls : ls = [] := by simpa using hn
     subst hls
     obtain rfl : ls' = [] := List.length_eq_zero_iff.1 hlen
     refine (h0 rfl w).mono ?_
     rintro e w' ⟨he, rfl⟩
     exact ⟨_, ρ, he, .tup (ds := []) (us := []) rfl (fun i d u h => by simp at h), hs, hd1, hh, fun _ u _ h => ⟨u, h, .refl u⟩, Fr.refl _ _⟩
   · simp only [List.length_map] at hcs htk hnc
     have hlt : b < w.heap.size := by
      by_cases hlt : b < w.heap.size
      · exact hlt
      · rw [Array.getElem?_eq_none (by omega)] at hgc; cases hgc
     have hF1 : (flatK enc k ls.toArray).toList = ls.flatMap enc := flatK_list h.len hk ls
     have hFs : (flatK enc k ls.toArray).size = ls.length * k := by simp
     have hholds : HoldsK enc k w b 0 ls.toArray := holds_v hgc (by rw [hF1, hFs]; exact htk)
     have hcall := h1 b cap w hholds hlt
     rw [List.length_map] at hv0 hu
     simp only [List.length_map]
     refine hcall.mono ?_
     rintro e w' ⟨he, n, os, rfl⟩
     have hF : Held [(0, Blk.own et (ls.map c))] ρ b := ⟨0, _, rfl, rfl, by rw [hv0]; rfl⟩
     have hF2 : (flatK enc k ls'.toArray).toList = ls'.flatMap enc := flatK_list h.len hk ls'
     have hFa : flatK enc k ls'.toArray = (ls'.flatMap enc).toArray := by rw [← hF2]
     refine ⟨_, ρ, he, .tup (ds := []) (us := []) rfl (fun i d u h => by simp at h), fun t b' hb => ?_, hd1, hh, fun _ u _ h => ⟨u, h, .refl u⟩, putV_fr os hF⟩
     obtain ⟨rfl, rfl⟩ := lk0 _ _ _ hb
     refine ⟨_, ls'.flatMap enc, hv0, ?_, by rw [hce]; exact rows_k h ls'⟩
     rw [hce]
     refine ⟨by rw [flat_len h.len, List.length_map], .inr ⟨b, cap, Sort.putCells id 0 (flatK enc k ls'.toArray) cur, by simp [hlen], Nat.zero_le _, putV_at os hgc, by simp [hlen]; exact hnc, hcm, by rw [putV_size, hcs], ?_⟩⟩
     rw [List.length_map]
     have hle : (ls'.flatMap enc).length ≤ cur.size := by
      rw [flat_len h.len, hlen, hcs]
      exact Nat.mul_le_mul_right k hnc
     have := putV_take (ls'.flatMap enc) cur hle
     rw [flat_len h.len] at this
     rw [hFa]
     exact this
theorem con_turn {et : TypeId} {g : FuncId} {ls ls' : List α} (h : Cells enc c k) (hk : 0 < k) (hce : E.P.cellsOf et = k) (hf : Callable E.P f) (hlen : ls'.length = ls.length)
   (h0 : ls = [] → ∀ (w : World), Calls E.P f #[.slice none 0 0, .func (.func g) #[] #[]] w fun e w' => e = .returned (.tuple #[]) ∧ w' = w)
   (h1 : ∀ (b cap : Nat) (w : World), HoldsK enc k w b 0 ls.toArray → b < w.heap.size → Calls E.P f #[.slice (some ⟨b, 0, none⟩) ls.length cap, .func (.func g) #[] #[]] w fun e w' => e = .returned (.tuple #[]) ∧ ∃ n os, w' = sortWorldK enc k w b 0 n ls'.toArray os) :
   Con E f 1 [.own 0, .fn g []] [(0, .own et (ls.map c))] (.tup []) [(0, .own et (ls'.map c))] :=
 con_turnG (tv := [.func (.func g) #[] #[]]) (fun _ _ _ vs hl ha => by
  match vs, hl, ha with
  | [v1], _, ha =>
    cases ha 0 (.fn g []) v1 rfl rfl with
    | atom h => rw [VA.fn_inv h]) h hk hce hf hlen h0 h1
end
end Go.Ab
namespace Go.Ab
open Go Go.RowKit
theorem mvs_cons (m : Mv) (r : List Mv) (tm : Tm) (S : Store) (nx : Nat) : mvs (m :: r) tm S nx = match mv m tm S nx with
 | some (tm, S, nx) => mvs r tm S nx
 | none => none := rfl
theorem mvs_app : ∀ (a b : List Mv) (tm : Tm) (S : Store) (nx : Nat), mvs (a ++ b) tm S nx = match mvs a tm S nx with
   | some (tm, S, nx) => mvs b tm S nx
   | none => none
 | [], b, tm, S, nx => rfl
 | m :: r, b, tm, S, nx => by
   rw [List.cons_append, mvs_cons, mvs_cons]
   cases mv m tm S nx with
   | none => rfl
   | some x =>
     obtain ⟨tm1, S1, nx1⟩ := x
     exact mvs_app r b tm1 S1 nx1
def forceV : List Mv → (List Mv → Prop) → Prop
 | [], k => k []
 | n :: r, k => forceV r fun r' => k (n :: r')
theorem forceV_eq : ∀ (l : List Mv) (k : List Mv → Prop), forceV l k = k l
 | [], _ => rfl
 | n :: r, k => by rw [forceV, forceV_eq r]
def thawC (n : Nat) : Nat → List D → List Mv
 | _, [] => []
 | i, d :: r => match isNil d with
   | true => .thawB n i 0 :: thawC n (i + 1) r
   | false => thawC n (i + 1) r
def thawR (tm : Tm) (S : Store) : List ResultVar → List Mv
 | [] => []
 | .cell a _ :: r => match lk tm a with
   | some (.bp n _) => match lk S n with
     | some (.box _ cs) => thawC n 0 cs ++ thawR tm S r
     | _ => thawR tm S r
   | _ => thawR tm S r
 | _ :: r => thawR tm S r
def icesB (tm : Tm) (S : Store) : List ResultVar → List Nat → List Nat
 | [], ns => ns
 | .tmp t :: r, ns => match lk tm t with
   | some d => icesB tm S r (addNew ns (nmD d))
   | none => icesB tm S r ns
 | .cell a _ :: r, ns => match lk tm a with
   | some (.bp n _) => match lk S n with
     | some (.box _ cs) => icesB tm S r (addNew ns (nmAs cs))
     | _ => icesB tm S r ns
   | _ => icesB tm S r ns
def mvK : List Mv → Tm → Store → Nat → (Tm → Store → Nat → Prop) → Prop
 | [], tm, S, nx, k => k tm S nx
 | m :: r, tm, S, nx, k => match mv m tm S nx with
   | some (tm', S', nx') => fS S' fun S'' => mvK r tm' S'' nx' k
   | none => False
theorem mvK_ex : ∀ {ms : List Mv} {tm : Tm} {S : Store} {nx : Nat} {k : Tm → Store → Nat → Prop}, mvK ms tm S nx k → ∃ tm1 S1 nx1, mvs ms tm S nx = some (tm1, S1, nx1) ∧ k tm1 S1 nx1
 | [], tm, S, nx, k, h => ⟨tm, S, nx, rfl, h⟩
 | m :: r, tm, S, nx, k, h => by
   unfold mvK at h
   split at h
   · rename_i tm' S' nx' hm
     rw [fS_eq] at h
     obtain ⟨tm1, S1, nx1, h1, h2⟩ := mvK_ex h
     refine ⟨tm1, S1, nx1, ?_, h2⟩
     simp only [mvs, hm]
     exact h1
   · exact h.elim
theorem fz {E : Env} {k0 : Nat} {rv : List ResultVar} {d : D} {S' : Store} {tm : Tm} {S : Store} {nx : Nat}
   (h : forceV (thawR tm S rv) fun ts => mvK ts tm S nx fun tm0 S0 nx0 => force (icesB tm0 S0 rv []) fun ls => mvK (icesD k0 S0 ls) tm0 S0 nx0 fun tm1 S1 _ => resK E tm1 S1 rv fun ds => force (addNew (news 0 k0) (nmDs ds)) fun n0 => reachF S1 16 n0 n0 fun ns => nodupB ns = true ∧ preB 0 k0 ns = true ∧ carR ns (oneRes ds) = some d ∧ carS ns S1 ns 0 = S') : finK E k0 rv d S' tm S nx := by
 rw [forceV_eq] at h
 obtain ⟨tm0, S0, nx0, hm0, h⟩ := mvK_ex h
 rw [force_eq] at h
 obtain ⟨tm1, S1, nx1, hm, h⟩ := mvK_ex h
 simp only [force_eq, reachF_eq] at h
 obtain ⟨ds, h1, h2⟩ := resK_some h
 refine ⟨thawR tm S rv ++ icesD k0 S0 (icesB tm0 S0 rv []), reachNames S1 16 (addNew (news 0 k0) (nmDs ds)) (addNew (news 0 k0) (nmDs ds)), ?_⟩
 rw [mvs_app, hm0]
 simp only
 rw [hm]
 exact h2 _ h1
theorem Rz {P : Prop} (h : P := by
 first | refine CallEnd.here (fz ?_) | refine fz ?_
 conv => whnf
 first
  | exact ⟨rfl, rfl, rfl, rfl⟩
  | refine ⟨rfl, rfl, congrArg some (congrArg D.s ?_), rfl⟩
  | refine ⟨rfl, rfl, congrArg some (congrArg D.b ?_), rfl⟩
  | refine ⟨rfl, rfl, congrArg some (congrArg (D.k _) ?_), rfl⟩
  | refine ⟨rfl, rfl, congrArg some (congrArg D.agg ?_), rfl⟩
  | refine ⟨rfl, rfl, rfl, ?_⟩
 all_goals first
  | rfl
  | (simp_all; done)
  | (simp <;> (repeat' split) <;> omega)
  | (rw [Bool.eq_iff_iff]; simp [*] <;> omega)
  | fail) : P := h
end Go.Ab
namespace Go.Ab
open Go Go.RowKit
section
variable {w : World} {Av Av' : Nat → Prop} {ρ : Nat → Option Value}
end
section
variable {E : Env} {f : FuncId} {k : Nat} {cds : List D} {d : D} {P Q L : Store}
end
end Go.Ab
