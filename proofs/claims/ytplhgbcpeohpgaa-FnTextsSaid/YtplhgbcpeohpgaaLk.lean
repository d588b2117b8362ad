/- Contracts: the reader of a code that the laws' generators draw from. -/
import Derived.Test.YtplhgbcpeohpgaaLj
set_option linter.unusedSimpArgs false
set_option linter.unusedVariables false
set_option maxHeartbeats 1000000
set_option maxRecDepth 10000
namespace Go.Proofs.Ytplhgbcpeohpgaa
open Go Go.RowKit Go.Ab Go.Par
variable {m : Int}
noncomputable abbrev rd (l : Bs) (p : Int) : Blk := .box 42 [.sl (bytesOf l), .k .i64 p]
theorem xor_nn {a b : Int} (ha : 0 ≤ a ∧ a < 4611686018427387904) (hb : 0 ≤ b ∧ b < 4611686018427387904) {K : Int → Prop} (h : ∀ r, 0 ≤ r → r < 4611686018427387904 → K r) : ∃ r, Op.intBits .xor .i64 a b = Sem.pure (.int .i64 r) ∧ K r := by
  have e1 : (BitVec.ofInt 64 a).toNat = a.toNat := by
    have h64 : ((2 ^ 64 : Nat) : Int) = 18446744073709551616 := rfl
    rw [BitVec.toNat_ofInt, h64]; omega
  have e2 : (BitVec.ofInt 64 b).toNat = b.toNat := by
    have h64 : ((2 ^ 64 : Nat) : Int) = 18446744073709551616 := rfl
    rw [BitVec.toNat_ofInt, h64]; omega
  have hx : (BitVec.ofInt 64 a ^^^ BitVec.ofInt 64 b).toNat < 2 ^ 62 := by
    rw [BitVec.toNat_xor, e1, e2]
    exact Nat.xor_lt_two_pow (by omega) (by omega)
  refine ⟨IntKind.i64.wrap ((BitVec.ofInt 64 a ^^^ BitVec.ofInt 64 b).toNat : Int), rfl, ?_⟩
  rw [Go.IntWalk.i64_in _ (by omega)]
  exact h _ (by omega) (by omega)
theorem pick_raw (l : Bs) (p n : Int) (hp : 0 ≤ p ∧ p ≤ 1048576) (hn : -1099511627776 ≤ n ∧ n ≤ 1099511627776) (hl : l.length ≤ 2000) :
    ∃ d S', (∃ r : Int, 0 ≤ r ∧ (r < n ∨ r = 0) ∧ d = .k .i64 r ∧ S' = [(0, rd l (p + 1))]) ∧ Con (E m) 13 1 [.bp 0 0, .k .i64 n] [(0, rd l p)] d S' := by
  obtain ⟨q, rfl⟩ : ∃ q : Nat, p = q := ⟨p.toNat, by omega⟩
  have hlen : (bytesOf l).length = l.length := by simp [bytesOf]
  by_cases hn1 : n < 1
  · refine any_of_cd tyOk mix Try.func13 rfl rfl rfl (Nat.le_of_ble_eq_true rfl) ?_
    repeat' first | refine Ra ⟨?_⟩ | ((first | (refine bd (fun h => ?_) (fun h => ?_) <;> (try simp only [List.length_map] at h)) | refine bsplit.mk (fun h => ?_) (fun h => ?_)) <;> conv => whnf) | refine Rb ⟨?_⟩ | fail
    refine AnyEnd.here (aa ?_)
    conv => whnf
    refine ⟨rfl, rfl, _, rfl, 0, by omega, .inr rfl, rfl, rfl⟩
  · by_cases hl0 : l.length = 0
    · refine any_of_cd tyOk mix Try.func13 rfl rfl rfl (Nat.le_of_ble_eq_true rfl) ?_
      repeat' first | refine Ra ⟨?_⟩ | ((first | refine bt (by rw [hlen]; omega) ?_ | (refine bd (fun h => ?_) (fun h => ?_) <;> (try simp only [List.length_map] at h)) | refine bsplit.mk (fun h => ?_) (fun h => ?_)) <;> conv => whnf) | refine Rb ⟨?_⟩ | fail
      refine AnyEnd.here (aa ?_)
      conv => whnf
      refine ⟨rfl, rfl, _, rfl, 0, by omega, .inr rfl, rfl, rfl⟩
    · have hpos : 0 < n := by omega
      by_cases hq : q < l.length
      · have hb := l[q].toNat_lt
        have h1 := Int.emod_nonneg (l[q].toNat : Int) (by omega : n ≠ 0)
        have h2 := Int.emod_lt_of_pos (l[q].toNat : Int) hpos
        refine any_of_cd tyOk mix Try.func13 rfl rfl rfl (Nat.le_of_ble_eq_true rfl) ?_
        repeat' first | refine Ra ⟨?_⟩ | ((first | refine bf (by rw [hlen]; omega) ?_ | refine bt (by rw [hlen]; omega) ?_ | refine ⟨q, _, by omega, map_get hq, rfl, ?_⟩ | refine wr (by omega) (by omega) ?_ | (refine bd (fun h => ?_) (fun h => ?_) <;> (try simp only [List.length_map] at h)) | refine bsplit.mk (fun h => ?_) (fun h => ?_)) <;> conv => whnf) | refine Rb ⟨?_⟩ | fail
        refine AnyEnd.here (aa ?_)
        conv => whnf
        refine ⟨rfl, rfl, _, rfl, _, h1, .inl h2, rfl, rfl⟩
      · have hL : (0 : Int) < (bytesOf l).length := by rw [hlen]; omega
        have a1 := Int.emod_nonneg ((q : Int) + 1 - 1) (by omega : ((bytesOf l).length : Int) ≠ 0)
        have a2 := Int.emod_lt_of_pos ((q : Int) + 1 - 1) hL
        have a3 := Int.emod_nonneg (((q : Int) + 1 - 1) * 7 + 3) (by omega : ((bytesOf l).length : Int) ≠ 0)
        have a4 := Int.emod_lt_of_pos (((q : Int) + 1 - 1) * 7 + 3) hL
        have a5 := Int.ediv_nonneg (by omega : 0 ≤ (q : Int) + 1 - 1) (by omega : 0 ≤ ((bytesOf l).length : Int))
        have a6 := Int.ediv_le_self ((bytesOf l).length : Int) (by omega : 0 ≤ (q : Int) + 1 - 1)
        generalize hx : (((q : Int) + 1 - 1) % ((bytesOf l).length : Int)) = x at *
        generalize hy : ((((q : Int) + 1 - 1) * 7 + 3) % ((bytesOf l).length : Int)) = y at *
        generalize hz : (((q : Int) + 1 - 1) / ((bytesOf l).length : Int)) = z at *
        obtain ⟨x, rfl⟩ : ∃ k : Nat, x = k := ⟨x.toNat, by omega⟩
        obtain ⟨y, rfl⟩ : ∃ k : Nat, y = k := ⟨y.toNat, by omega⟩
        have hxl : x < l.length := by omega
        have hyl : y < l.length := by omega
        have b1 := l[x].toNat_lt
        have b2 := l[y].toNat_lt
        have hr : ∀ v : Int, 0 ≤ v → 0 ≤ v % n ∧ v % n < n := fun v _ => ⟨Int.emod_nonneg v (by omega), Int.emod_lt_of_pos v hpos⟩
        refine any_of_cd tyOk mix Try.func13 rfl rfl rfl (Nat.le_of_ble_eq_true rfl) ?_
        repeat' first | refine Ra ⟨?_⟩ | ((first | refine bf (by rw [hlen]; omega) ?_ | (refine wr (by omega) hL ?_; rw [hx]) | (refine wr (by omega) hL ?_; rw [hy]) | (refine wq (by omega) hL ?_; rw [hz]) | refine ⟨x, _, rfl, map_get hxl, rfl, ?_⟩ | refine ⟨y, _, rfl, map_get hyl, rfl, ?_⟩ | refine wq (by omega) (by omega) ?_ | (refine xor_nn (by omega) (by omega) fun v hv1 hv2 => ?_) | refine wr (by omega) hpos ?_ | (refine bd (fun h => ?_) (fun h => ?_) <;> (try simp only [List.length_map] at h)) | refine bsplit.mk (fun h => ?_) (fun h => ?_)) <;> conv => whnf) | refine Rb ⟨?_⟩ | fail
        refine AnyEnd.here (aa ?_)
        conv => whnf
        refine ⟨rfl, rfl, _, rfl, _, (hr _ (by omega)).1, .inl (hr _ (by omega)).2, rfl, rfl⟩
noncomputable def pickV (m : Int) (l : Bs) (p n : Int) : Int :=
  open Classical in if h : ∃ r : Int, 0 ≤ r ∧ (r < n ∨ r = 0) ∧ Con (E m) 13 1 [.bp 0 0, .k .i64 n] [(0, rd l p)] (.k .i64 r) [(0, rd l (p + 1))] then h.choose else 0
theorem pickV_bd (l : Bs) (p n : Int) : 0 ≤ pickV m l p n ∧ (pickV m l p n < n ∨ pickV m l p n = 0) := by
  unfold pickV
  split
  · rename_i h; exact ⟨h.choose_spec.1, h.choose_spec.2.1⟩
  · exact ⟨by omega, .inr rfl⟩
theorem pick_con (l : Bs) (p n : Int) (hp : 0 ≤ p ∧ p ≤ 1048576) (hn : -1099511627776 ≤ n ∧ n ≤ 1099511627776) (hl : l.length ≤ 2000) : Con (E m) 13 1 [.bp 0 0, .k .i64 n] [(0, rd l p)] (.k .i64 (pickV m l p n)) [(0, rd l (p + 1))] := by
  obtain ⟨d, S', ⟨r, h1, h2, rfl, rfl⟩, hc⟩ := pick_raw (m := m) l p n hp hn hl
  unfold pickV
  rw [dif_pos ⟨r, h1, h2, hc⟩]
  exact (Exists.choose_spec (⟨r, h1, h2, hc⟩ : ∃ r : Int, 0 ≤ r ∧ (r < n ∨ r = 0) ∧ Con (E m) 13 1 [.bp 0 0, .k .i64 n] [(0, rd l p)] (.k .i64 r) [(0, rd l (p + 1))])).2.2
noncomputable def ofV (m : Int) (l : Bs) (p : Int) (ls : List Bs) : Bs := ls.getD (pickV m l p ls.length).toNat []
theorem ofV_mem (l : Bs) (p : Int) {ls : List Bs} (h : ls ≠ []) : ofV m l p ls ∈ ls := by
  have h1 := pickV_bd (m := m) l p ls.length
  have h2 := List.length_pos_iff.2 h
  unfold ofV
  have h3 : (pickV m l p ls.length).toNat < ls.length := by omega
  rw [List.getD_eq_getElem?_getD, List.getElem?_eq_getElem h3]
  exact List.getElem_mem h3
theorem of_con (l : Bs) (p : Int) (ls : List Bs) (hp : 0 ≤ p ∧ p ≤ 1048576) (hl : l.length ≤ 2000) (h : ls ≠ []) (hls : ls.length ≤ 1000) : Con (E m) 16 1 [.bp 0 0, .sl (ls.map fun s => [.s s])] [(0, rd l p)] (.s (ofV m l p ls)) [(0, rd l (p + 1))] := by
  have h1 := pickV_bd (m := m) l p ls.length
  have h2 := List.length_pos_iff.2 h
  have h3 : (pickV m l p ls.length).toNat < ls.length := by omega
  have hx : ofV m l p ls = ls[(pickV m l p ls.length).toNat] := by unfold ofV; rw [List.getD_eq_getElem?_getD, List.getElem?_eq_getElem h3]; rfl
  have c1 := pick_con (m := m) l p ls.length hp (by omega) hl
  have hm : ((ls.map fun s => [D.s s]).length : Int) = ls.length := by rw [List.length_map]
  rw [← hm] at c1
  rw [hx]
  refine con_of_cd tyOk mix Try.func16 rfl rfl rfl (Nat.le_of_ble_eq_true rfl) ?_
  repeat' first | refine Ra ⟨?_⟩ | ((first | refine Rc [0] 0 rfl rfl (c1) ?_ | refine ⟨(pickV m l p ls.length).toNat, _, by rw [hm]; omega, map_get h3, rfl, ?_⟩ | (refine bd (fun h => ?_) (fun h => ?_) <;> (try simp only [List.length_map] at h)) | refine bsplit.mk (fun h => ?_) (fun h => ?_)) <;> conv => whnf) | refine Rb ⟨?_⟩ | fail
  exact Rf
noncomputable def numV (m : Int) (l : Bs) (p : Int) (ls : List Int) : Int := ls.getD (pickV m l p ls.length).toNat 0
theorem numV_mem (l : Bs) (p : Int) {ls : List Int} (h : ls ≠ []) : numV m l p ls ∈ ls := by
  have h1 := pickV_bd (m := m) l p ls.length
  have h2 := List.length_pos_iff.2 h
  unfold numV
  have h3 : (pickV m l p ls.length).toNat < ls.length := by omega
  rw [List.getD_eq_getElem?_getD, List.getElem?_eq_getElem h3]
  exact List.getElem_mem h3
theorem num_con (l : Bs) (p : Int) (ls : List Int) (hp : 0 ≤ p ∧ p ≤ 1048576) (hl : l.length ≤ 2000) (h : ls ≠ []) (hls : ls.length ≤ 1000) : Con (E m) 17 1 [.bp 0 0, .sl (ls.map fun n => [.k .i64 n])] [(0, rd l p)] (.k .i64 (numV m l p ls)) [(0, rd l (p + 1))] := by
  have h1 := pickV_bd (m := m) l p ls.length
  have h2 := List.length_pos_iff.2 h
  have h3 : (pickV m l p ls.length).toNat < ls.length := by omega
  have hx : numV m l p ls = ls[(pickV m l p ls.length).toNat] := by unfold numV; rw [List.getD_eq_getElem?_getD, List.getElem?_eq_getElem h3]; rfl
  have c1 := pick_con (m := m) l p ls.length hp (by omega) hl
  have hm : ((ls.map fun n => [D.k .i64 n]).length : Int) = ls.length := by rw [List.length_map]
  rw [← hm] at c1
  rw [hx]
  refine con_of_cd tyOk mix Try.func17 rfl rfl rfl (Nat.le_of_ble_eq_true rfl) ?_
  repeat' first | refine Ra ⟨?_⟩ | ((first | refine Rc [0] 0 rfl rfl (c1) ?_ | refine ⟨(pickV m l p ls.length).toNat, _, by rw [hm]; omega, map_get h3, rfl, ?_⟩ | (refine bd (fun h => ?_) (fun h => ?_) <;> (try simp only [List.length_map] at h)) | refine bsplit.mk (fun h => ?_) (fun h => ?_)) <;> conv => whnf) | refine Rb ⟨?_⟩ | fail
  exact Rf
theorem open_con (l : Bs) (hl : l.length ≤ 1048576) : Con (E m) 10 0 [.sl (bytesOf l)] [] (.bp 0 0) [(0, rd (l.take 2000) 0)] := by
  have hlen : (bytesOf l).length = l.length := by simp [bytesOf]
  by_cases h : l.length ≤ 2000
  · rw [List.take_of_length_le h]
    refine con_of_cd tyOk mix Try.func10 rfl rfl rfl (Nat.le_of_ble_eq_true rfl) ?_
    repeat' first | refine Ra ⟨?_⟩ | ((first | refine bf (by rw [hlen]; omega) ?_ | (refine bd (fun h => ?_) (fun h => ?_) <;> (try simp only [List.length_map] at h)) | refine bsplit.mk (fun h => ?_) (fun h => ?_)) <;> conv => whnf) | refine Rb ⟨?_⟩ | fail
    exact Rf
  · have hx : bytesOf (l.take 2000) = ((bytesOf l).take 2000).drop 0 := by simp [bytesOf, List.map_take]
    rw [rd, hx]
    refine con_of_cd tyOk mix Try.func10 rfl rfl rfl (Nat.le_of_ble_eq_true rfl) ?_
    repeat' first | refine Ra ⟨?_⟩ | ((first | refine bt (by rw [hlen]; omega) ?_ | refine ⟨2000, rfl, Nat.zero_le _, by rw [hlen]; omega, ?_⟩ | (refine bd (fun h => ?_) (fun h => ?_) <;> (try simp only [List.length_map] at h)) | refine bsplit.mk (fun h => ?_) (fun h => ?_)) <;> conv => whnf) | refine Rb ⟨?_⟩ | fail
    exact Rf
end Go.Proofs.Ytplhgbcpeohpgaa
