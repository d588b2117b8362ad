/- Contracts: what the laws write into memory, to see whether it is shared. -/
import Derived.Test.YtoaiplobfellaaaGreatDoorLe
import Derived.Test.YtoaiplobfellaaaGreatDoorPm
import Derived.Test.YtoaiplobfellaaaGreatDoorX3
set_option linter.unusedSimpArgs false
set_option linter.unusedVariables false
set_option maxHeartbeats 1000000
set_option maxRecDepth 10000
namespace Go.Proofs.YtoaiplobfellaaaGreatDoor
open Go Go.RowKit Go.Ab Go.Par
variable {m : Int}
abbrev cS (l : Bs) : List D := [.s l]
abbrev cI (n : Int) : List D := [.k .i64 n]
theorem markText_con (k : Int) (hk : k ≤ 100000000) : Con (E m) 122 0 [.k .i64 k] [] (.s (markT k)) [] := by
  unfold markT
  by_cases h0 : k ≤ 0
  · rw [if_pos h0]
    refine con_of_cd tyOk mix Tryz.func122 rfl rfl rfl (Nat.le_of_ble_eq_true rfl) ?_
    repeat' first | refine Ra ⟨?_⟩ | ((first | (refine bd (fun h => ?_) (fun h => ?_) <;> (try simp only [List.length_map] at h)) | refine bsplit.mk (fun h => ?_) (fun h => ?_)) <;> conv => whnf) | refine Rb ⟨?_⟩ | fail
    exact Rf
  · rw [if_neg h0]
    refine con_of_cd tyOk mix Tryz.func122 rfl rfl rfl (Nat.le_of_ble_eq_true rfl) ?_
    repeat' first | refine Ra ⟨?_⟩ | ((first | (refine bd (fun h => ?_) (fun h => ?_) <;> (try simp only [List.length_map] at h)) | refine bsplit.mk (fun h => ?_) (fun h => ?_)) <;> conv => whnf) | refine Rb ⟨?_⟩ | fail
    refine Cd.loop2 (fun mq tm S nx => ∃ (q : Nat) (n : Nat) (out : Bs), mq = (q) ∧ tm = [(0, .k .i64 n), (3, .s out)] ∧ S = [] ∧ nx = 0 ∧ (n ≤ q) ∧ (n + out.length ≤ 100000000) ∧ (digs k.toNat [] = digs n out)) ?_ ?_
    · obtain ⟨n, rfl⟩ : ∃ n : Nat, k = n := ⟨k.toNat, by omega⟩
      refine la [0, 3] ?_
      conv => whnf
      refine ⟨rfl, rfl, _, n, n, [], rfl, rfl, rfl, rfl, Nat.le_refl _, (by simp; omega), by simp⟩
    · rintro mq tm S nx ⟨q, n, out, hn, rfl, rfl, rfl, hq, hnb, ha⟩
      rw [ha]
      by_cases hz : n = 0
      · subst hz
        rw [digs_zero]
        repeat' first | refine Ra ⟨?_⟩ | ((first | (refine bd (fun h => ?_) (fun h => ?_) <;> (try simp only [List.length_map] at h)) | refine bsplit.mk (fun h => ?_) (fun h => ?_)) <;> conv => whnf) | refine Rb ⟨?_⟩ | fail
        exact Rf
      · rw [digs_pos (by omega)]
        have hu : ((UInt8.ofNat (48 + n % 10)).toNat : Int) = 48 + ((n % 10 : Nat) : Int) := by
          have : (UInt8.ofNat (48 + n % 10)).toNat = (48 + n % 10) % 256 := by simp
          omega
        have e1 : (n : Int) % 10 = ((n % 10 : Nat) : Int) := by omega
        have e2 : (n : Int) / 10 = ((n / 10 : Nat) : Int) := by omega
        have hby : [[D.k .u8 (48 + ((n % 10 : Nat) : Int))]] = bytesOf [UInt8.ofNat (48 + n % 10)] := by simp only [bytesOf, List.map_cons, List.map_nil, hu]
        repeat' first | refine Ra ⟨?_⟩ | ((first | (refine wr (by omega) (by omega) ?_; rw [e1]) | (refine wq (by omega) (by omega) ?_; rw [e2]) | refine wb (by omega) ?_ | refine ⟨_, hby, by simp [room], ?_⟩ | (refine bd (fun h => ?_) (fun h => ?_) <;> (try simp only [List.length_map] at h)) | refine bsplit.mk (fun h => ?_) (fun h => ?_)) <;> conv => whnf) | refine Rb ⟨?_⟩ | fail
        refine .here ⟨mq - 1, by omega, ?_⟩
        refine la [0, 3] ?_
        conv => whnf
        refine ⟨rfl, rfl, q - 1, n / 10, _, (by omega), rfl, rfl, rfl, by omega, (by simp; omega), rfl⟩
theorem markEntS_con (t : List Ent) (k : Int) (hk : 0 ≤ k ∧ k ≤ 10000000) (ht : t.length ≤ 1100000) : Con (E m) 59 1 [.own 0, .k .i64 k] [(0, .own 76 (t.map Ent.c))] (.k .i64 (k + 3 * t.length)) [(0, .own 76 ((mkL fE 3 k t.length).map Ent.c))] := by
  refine con_of_cd tyOk mix Tryz.func59 rfl rfl rfl (Nat.le_of_ble_eq_true rfl) ?_
  repeat' first | refine Ra ⟨?_⟩ | ((first | (refine bd (fun h => ?_) (fun h => ?_) <;> (try simp only [List.length_map] at h)) | refine bsplit.mk (fun h => ?_) (fun h => ?_)) <;> conv => whnf) | refine Rb ⟨?_⟩ | fail
  refine Cd.loop2 (fun mq tm S nx => ∃ (i : Nat) (q : Int) (xs : List (List D)), mq = (t.length - i) ∧ tm = [(0, .own 0), (1, .k .i64 q), (5, .k .i64 i)] ∧ S = [(0, .own 76 xs)] ∧ nx = 1 ∧ (i ≤ t.length) ∧ (q = k + 3 * i) ∧ (xs = (mkL fE 3 k i).map Ent.c ++ (t.drop i).map Ent.c)) ?_ ?_
  · refine la [0, 1, 5] ?_
    conv => whnf
    refine ⟨rfl, rfl, _, 0, k, _, rfl, rfl, rfl, rfl, Nat.zero_le _, by omega, rfl⟩
  · rintro mq tm S nx ⟨i, q, xs, hn, rfl, rfl, rfl, hi, hq, hx⟩
    rcases drop_or t i hi with ⟨rfl, hd⟩ | ⟨x, r, hx', hd, hr, hlt⟩
    · rw [hd, List.map_nil, List.append_nil] at hx
      have hxl : xs.length = t.length := by rw [hx, List.length_map, mkL_len]
      rw [← hx, ← hq]
      repeat' first | refine Ra ⟨?_⟩ | ((first | refine bf (by omega) ?_ | (refine bd (fun h => ?_) (fun h => ?_) <;> (try simp only [List.length_map] at h)) | refine bsplit.mk (fun h => ?_) (fun h => ?_)) <;> conv => whnf) | refine Rb ⟨?_⟩ | fail
      exact Rf
    · rw [hd, List.map_cons] at hx
      have hAl : i = ((mkL fE 3 k i).map Ent.c).length := by rw [List.length_map, mkL_len]
      have hxl : xs.length = t.length := by
        have := congrArg List.length hd
        simp at this
        rw [hx, List.length_append, ← hAl, List.length_cons, List.length_map]; omega
      have hg : xs[i]? = some (Ent.c x) := by rw [hx]; exact get_mid hAl
      have c0 := markText_con (m := m) (q) (by omega)
      have c2 := markText_con (m := m) (q + 1 + 1) (by omega)
      repeat' first | refine Ra ⟨?_⟩ | ((first | refine bt (by omega) ?_ | refine Rc [] 0 rfl rfl (c0) ?_ | refine Rc [] 0 rfl rfl (c2) ?_ | refine ⟨i, rfl, by (try simp only [List.length_set]); omega, ?_⟩ | refine ⟨_, hg, Nat.le_of_ble_eq_true rfl, ?_⟩ | refine ⟨_, get_set (by (try simp only [List.length_set]); omega), Nat.le_of_ble_eq_true rfl, ?_⟩ | refine wr (by omega) (by omega) ?_ | (refine bd (fun h => ?_) (fun h => ?_) <;> (try simp only [List.length_map] at h)) | refine bsplit.mk (fun h => ?_) (fun h => ?_)) <;> conv => whnf) | refine Rb ⟨?_⟩ | fail
      refine .here ⟨mq - 1, by omega, ?_⟩
      refine la [0, 1, 5] ?_
      conv => whnf
      refine ⟨rfl, rfl, i + 1, q + 1 + 1 + 1, _, (by omega), rfl, rfl, rfl, by omega, by omega, ?_⟩
      rw [List.set_set, List.set_set, hx, set_mid hAl, mkL, hr, ← hq, List.map_append, List.append_assoc]
      rfl
theorem heldEntS_con (n : Nat) (k : Int) (hk : 0 ≤ k ∧ k ≤ 10000000) (ht : n ≤ 1100000) : Con (E m) 64 0 [.sl ((mkL fE 3 k n).map Ent.c), .k .i64 k] [] (.k .i64 (k + 3 * n)) [] := by
  have hml : ((mkL fE 3 k n).map Ent.c).length = n := by rw [List.length_map, mkL_len]
  refine con_of_cd tyOk mix Tryz.func64 rfl rfl rfl (Nat.le_of_ble_eq_true rfl) ?_
  repeat' first | refine Ra ⟨?_⟩ | ((first | (refine bd (fun h => ?_) (fun h => ?_) <;> (try simp only [List.length_map] at h)) | refine bsplit.mk (fun h => ?_) (fun h => ?_)) <;> conv => whnf) | refine Rb ⟨?_⟩ | fail
  refine Cd.loop2 (fun mq tm S nx => ∃ (i : Nat) (q : Int), mq = (n - i) ∧ tm = [(0, .sl ((mkL fE 3 k n).map Ent.c)), (1, .k .i64 q), (5, .k .i64 i)] ∧ S = [] ∧ nx = 0 ∧ (i ≤ n) ∧ (q = k + 3 * i)) ?_ ?_
  · refine la [0, 1, 5] ?_
    conv => whnf
    refine ⟨rfl, rfl, _, 0, k, rfl, rfl, rfl, rfl, Nat.zero_le _, by omega⟩
  · rintro mq tm S nx ⟨i, q, hn, rfl, rfl, rfl, hi, hq⟩
    by_cases hlt : i < n
    · have hg : ((mkL fE 3 k n).map Ent.c)[i]? = some [.s (markT (q)), .b (decide ((q + 1) % 3 = 0)), .s (markT (q + 1 + 1))] := by rw [List.getElem?_map, mkL_get hlt, hq]; rfl
      have c0 := markText_con (m := m) (q) (by omega)
      have c2 := markText_con (m := m) (q + 1 + 1) (by omega)
      repeat' first | refine Ra ⟨?_⟩ | ((first | refine bt (by omega) ?_ | refine Rc [] 0 rfl rfl (c0) ?_ | refine Rc [] 0 rfl rfl (c2) ?_ | refine ⟨i, _, rfl, hg, rfl, ?_⟩ | refine wr (by omega) (by omega) ?_ | (refine bd (fun h => ?_) (fun h => ?_) <;> (try simp only [List.length_map] at h)) | refine bsplit.mk (fun h => ?_) (fun h => ?_)) <;> conv => whnf) | refine Rb ⟨?_⟩ | fail
      refine .here ⟨mq - 1, by omega, ?_⟩
      refine la [0, 1, 5] ?_
      conv => whnf
      refine ⟨rfl, rfl, i + 1, q + 1 + 1 + 1, (by omega), rfl, rfl, rfl, by omega, by omega⟩
    · have hi2 : i = n := by omega
      subst hi2
      rw [← hq]
      repeat' first | refine Ra ⟨?_⟩ | ((first | refine bf (by omega) ?_ | (refine bd (fun h => ?_) (fun h => ?_) <;> (try simp only [List.length_map] at h)) | refine bsplit.mk (fun h => ?_) (fun h => ?_)) <;> conv => whnf) | refine Rb ⟨?_⟩ | fail
      exact Rf
theorem markMarkS_con (t : List Mrk) (k : Int) (hk : 0 ≤ k ∧ k ≤ 10000000) (ht : t.length ≤ 1100000) : Con (E m) 158 1 [.own 0, .k .i64 k] [(0, .own 80 (t.map Mrk.c))] (.k .i64 (k + 3 * t.length)) [(0, .own 80 ((mkL fM 3 k t.length).map Mrk.c))] := by
  refine con_of_cd tyOk mix Tryz.func158 rfl rfl rfl (Nat.le_of_ble_eq_true rfl) ?_
  repeat' first | refine Ra ⟨?_⟩ | ((first | (refine bd (fun h => ?_) (fun h => ?_) <;> (try simp only [List.length_map] at h)) | refine bsplit.mk (fun h => ?_) (fun h => ?_)) <;> conv => whnf) | refine Rb ⟨?_⟩ | fail
  refine Cd.loop2 (fun mq tm S nx => ∃ (i : Nat) (q : Int) (xs : List (List D)), mq = (t.length - i) ∧ tm = [(0, .own 0), (1, .k .i64 q), (5, .k .i64 i)] ∧ S = [(0, .own 80 xs)] ∧ nx = 1 ∧ (i ≤ t.length) ∧ (q = k + 3 * i) ∧ (xs = (mkL fM 3 k i).map Mrk.c ++ (t.drop i).map Mrk.c)) ?_ ?_
  · refine la [0, 1, 5] ?_
    conv => whnf
    refine ⟨rfl, rfl, _, 0, k, _, rfl, rfl, rfl, rfl, Nat.zero_le _, by omega, rfl⟩
  · rintro mq tm S nx ⟨i, q, xs, hn, rfl, rfl, rfl, hi, hq, hx⟩
    rcases drop_or t i hi with ⟨rfl, hd⟩ | ⟨x, r, hx', hd, hr, hlt⟩
    · rw [hd, List.map_nil, List.append_nil] at hx
      have hxl : xs.length = t.length := by rw [hx, List.length_map, mkL_len]
      rw [← hx, ← hq]
      repeat' first | refine Ra ⟨?_⟩ | ((first | refine bf (by omega) ?_ | (refine bd (fun h => ?_) (fun h => ?_) <;> (try simp only [List.length_map] at h)) | refine bsplit.mk (fun h => ?_) (fun h => ?_)) <;> conv => whnf) | refine Rb ⟨?_⟩ | fail
      exact Rf
    · rw [hd, List.map_cons] at hx
      have hAl : i = ((mkL fM 3 k i).map Mrk.c).length := by rw [List.length_map, mkL_len]
      have hxl : xs.length = t.length := by
        have := congrArg List.length hd
        simp at this
        rw [hx, List.length_append, ← hAl, List.length_cons, List.length_map]; omega
      have hg : xs[i]? = some (Mrk.c x) := by rw [hx]; exact get_mid hAl
      have c0 := markText_con (m := m) (q) (by omega)
      have c2 := markText_con (m := m) (q + 1 + 1) (by omega)
      repeat' first | refine Ra ⟨?_⟩ | ((first | refine bt (by omega) ?_ | refine Rc [] 0 rfl rfl (c0) ?_ | refine Rc [] 0 rfl rfl (c2) ?_ | refine ⟨i, rfl, by (try simp only [List.length_set]); omega, ?_⟩ | refine ⟨_, hg, Nat.le_of_ble_eq_true rfl, ?_⟩ | refine ⟨_, get_set (by (try simp only [List.length_set]); omega), Nat.le_of_ble_eq_true rfl, ?_⟩ | (refine bd (fun h => ?_) (fun h => ?_) <;> (try simp only [List.length_map] at h)) | refine bsplit.mk (fun h => ?_) (fun h => ?_)) <;> conv => whnf) | refine Rb ⟨?_⟩ | fail
      refine .here ⟨mq - 1, by omega, ?_⟩
      refine la [0, 1, 5] ?_
      conv => whnf
      refine ⟨rfl, rfl, i + 1, q + 1 + 1 + 1, _, (by omega), rfl, rfl, rfl, by omega, by omega, ?_⟩
      rw [List.set_set, List.set_set, hx, set_mid hAl, mkL, hr, ← hq, List.map_append, List.append_assoc]
      rfl
theorem heldMarkS_con (n : Nat) (k : Int) (hk : 0 ≤ k ∧ k ≤ 10000000) (ht : n ≤ 1100000) : Con (E m) 160 0 [.sl ((mkL fM 3 k n).map Mrk.c), .k .i64 k] [] (.k .i64 (k + 3 * n)) [] := by
  have hml : ((mkL fM 3 k n).map Mrk.c).length = n := by rw [List.length_map, mkL_len]
  refine con_of_cd tyOk mix Tryz.func160 rfl rfl rfl (Nat.le_of_ble_eq_true rfl) ?_
  repeat' first | refine Ra ⟨?_⟩ | ((first | (refine bd (fun h => ?_) (fun h => ?_) <;> (try simp only [List.length_map] at h)) | refine bsplit.mk (fun h => ?_) (fun h => ?_)) <;> conv => whnf) | refine Rb ⟨?_⟩ | fail
  refine Cd.loop2 (fun mq tm S nx => ∃ (i : Nat) (q : Int), mq = (n - i) ∧ tm = [(0, .sl ((mkL fM 3 k n).map Mrk.c)), (1, .k .i64 q), (5, .k .i64 i)] ∧ S = [] ∧ nx = 0 ∧ (i ≤ n) ∧ (q = k + 3 * i)) ?_ ?_
  · refine la [0, 1, 5] ?_
    conv => whnf
    refine ⟨rfl, rfl, _, 0, k, rfl, rfl, rfl, rfl, Nat.zero_le _, by omega⟩
  · rintro mq tm S nx ⟨i, q, hn, rfl, rfl, rfl, hi, hq⟩
    by_cases hlt : i < n
    · have hg : ((mkL fM 3 k n).map Mrk.c)[i]? = some [.s (markT (q)), .k .i64 (q + 1), .s (markT (q + 1 + 1))] := by rw [List.getElem?_map, mkL_get hlt, hq]; rfl
      have c0 := markText_con (m := m) (q) (by omega)
      have c2 := markText_con (m := m) (q + 1 + 1) (by omega)
      repeat' first | refine Ra ⟨?_⟩ | ((first | refine bt (by omega) ?_ | refine Rc [] 0 rfl rfl (c0) ?_ | refine Rc [] 0 rfl rfl (c2) ?_ | refine ⟨i, _, rfl, hg, rfl, ?_⟩ | (refine bd (fun h => ?_) (fun h => ?_) <;> (try simp only [List.length_map] at h)) | refine bsplit.mk (fun h => ?_) (fun h => ?_)) <;> conv => whnf) | refine Rb ⟨?_⟩ | fail
      refine .here ⟨mq - 1, by omega, ?_⟩
      refine la [0, 1, 5] ?_
      conv => whnf
      refine ⟨rfl, rfl, i + 1, q + 1 + 1 + 1, (by omega), rfl, rfl, rfl, by omega, by omega⟩
    · have hi2 : i = n := by omega
      subst hi2
      rw [← hq]
      repeat' first | refine Ra ⟨?_⟩ | ((first | refine bf (by omega) ?_ | (refine bd (fun h => ?_) (fun h => ?_) <;> (try simp only [List.length_map] at h)) | refine bsplit.mk (fun h => ?_) (fun h => ?_)) <;> conv => whnf) | refine Rb ⟨?_⟩ | fail
      exact Rf
theorem markOpS_con (t : List Opn) (k : Int) (hk : 0 ≤ k ∧ k ≤ 10000000) (ht : t.length ≤ 1100000) : Con (E m) 60 1 [.own 0, .k .i64 k] [(0, .own 27 (t.map Opn.c))] (.k .i64 (k + 4 * t.length)) [(0, .own 27 ((mkL fO 4 k t.length).map Opn.c))] := by
  refine con_of_cd tyOk mix Tryz.func60 rfl rfl rfl (Nat.le_of_ble_eq_true rfl) ?_
  repeat' first | refine Ra ⟨?_⟩ | ((first | (refine bd (fun h => ?_) (fun h => ?_) <;> (try simp only [List.length_map] at h)) | refine bsplit.mk (fun h => ?_) (fun h => ?_)) <;> conv => whnf) | refine Rb ⟨?_⟩ | fail
  refine Cd.loop2 (fun mq tm S nx => ∃ (i : Nat) (q : Int) (xs : List (List D)), mq = (t.length - i) ∧ tm = [(0, .own 0), (1, .k .i64 q), (5, .k .i64 i)] ∧ S = [(0, .own 27 xs)] ∧ nx = 1 ∧ (i ≤ t.length) ∧ (q = k + 4 * i) ∧ (xs = (mkL fO 4 k i).map Opn.c ++ (t.drop i).map Opn.c)) ?_ ?_
  · refine la [0, 1, 5] ?_
    conv => whnf
    refine ⟨rfl, rfl, _, 0, k, _, rfl, rfl, rfl, rfl, Nat.zero_le _, by omega, rfl⟩
  · rintro mq tm S nx ⟨i, q, xs, hn, rfl, rfl, rfl, hi, hq, hx⟩
    rcases drop_or t i hi with ⟨rfl, hd⟩ | ⟨x, r, hx', hd, hr, hlt⟩
    · rw [hd, List.map_nil, List.append_nil] at hx
      have hxl : xs.length = t.length := by rw [hx, List.length_map, mkL_len]
      rw [← hx, ← hq]
      repeat' first | refine Ra ⟨?_⟩ | ((first | refine bf (by omega) ?_ | (refine bd (fun h => ?_) (fun h => ?_) <;> (try simp only [List.length_map] at h)) | refine bsplit.mk (fun h => ?_) (fun h => ?_)) <;> conv => whnf) | refine Rb ⟨?_⟩ | fail
      exact Rf
    · rw [hd, List.map_cons] at hx
      have hAl : i = ((mkL fO 4 k i).map Opn.c).length := by rw [List.length_map, mkL_len]
      have hxl : xs.length = t.length := by
        have := congrArg List.length hd
        simp at this
        rw [hx, List.length_append, ← hAl, List.length_cons, List.length_map]; omega
      have hg : xs[i]? = some (Opn.c x) := by rw [hx]; exact get_mid hAl
      have c1 := markText_con (m := m) (q + 1) (by omega)
      have c2 := markText_con (m := m) (q + 1 + 1) (by omega)
      have c3 := markText_con (m := m) (q + 1 + 1 + 1) (by omega)
      repeat' first | refine Ra ⟨?_⟩ | ((first | refine bt (by omega) ?_ | refine Rc [] 0 rfl rfl (c1) ?_ | refine Rc [] 0 rfl rfl (c2) ?_ | refine Rc [] 0 rfl rfl (c3) ?_ | refine ⟨i, rfl, by (try simp only [List.length_set]); omega, ?_⟩ | refine ⟨_, hg, Nat.le_of_ble_eq_true rfl, ?_⟩ | refine ⟨_, get_set (by (try simp only [List.length_set]); omega), Nat.le_of_ble_eq_true rfl, ?_⟩ | (refine bd (fun h => ?_) (fun h => ?_) <;> (try simp only [List.length_map] at h)) | refine bsplit.mk (fun h => ?_) (fun h => ?_)) <;> conv => whnf) | refine Rb ⟨?_⟩ | fail
      refine .here ⟨mq - 1, by omega, ?_⟩
      refine la [0, 1, 5] ?_
      conv => whnf
      refine ⟨rfl, rfl, i + 1, q + 1 + 1 + 1 + 1, _, (by omega), rfl, rfl, rfl, by omega, by omega, ?_⟩
      rw [List.set_set, List.set_set, List.set_set, hx, set_mid hAl, mkL, hr, ← hq, List.map_append, List.append_assoc]
      rfl
theorem heldOpS_con (n : Nat) (k : Int) (hk : 0 ≤ k ∧ k ≤ 10000000) (ht : n ≤ 1100000) : Con (E m) 61 0 [.sl ((mkL fO 4 k n).map Opn.c), .k .i64 k] [] (.k .i64 (k + 4 * n)) [] := by
  have hml : ((mkL fO 4 k n).map Opn.c).length = n := by rw [List.length_map, mkL_len]
  refine con_of_cd tyOk mix Tryz.func61 rfl rfl rfl (Nat.le_of_ble_eq_true rfl) ?_
  repeat' first | refine Ra ⟨?_⟩ | ((first | (refine bd (fun h => ?_) (fun h => ?_) <;> (try simp only [List.length_map] at h)) | refine bsplit.mk (fun h => ?_) (fun h => ?_)) <;> conv => whnf) | refine Rb ⟨?_⟩ | fail
  refine Cd.loop2 (fun mq tm S nx => ∃ (i : Nat) (q : Int), mq = (n - i) ∧ tm = [(0, .sl ((mkL fO 4 k n).map Opn.c)), (1, .k .i64 q), (5, .k .i64 i)] ∧ S = [] ∧ nx = 0 ∧ (i ≤ n) ∧ (q = k + 4 * i)) ?_ ?_
  · refine la [0, 1, 5] ?_
    conv => whnf
    refine ⟨rfl, rfl, _, 0, k, rfl, rfl, rfl, rfl, Nat.zero_le _, by omega⟩
  · rintro mq tm S nx ⟨i, q, hn, rfl, rfl, rfl, hi, hq⟩
    by_cases hlt : i < n
    · have hg : ((mkL fO 4 k n).map Opn.c)[i]? = some [.k .i64 (q), .s (markT (q + 1)), .s (markT (q + 1 + 1)), .s (markT (q + 1 + 1 + 1))] := by rw [List.getElem?_map, mkL_get hlt, hq]; rfl
      have c1 := markText_con (m := m) (q + 1) (by omega)
      have c2 := markText_con (m := m) (q + 1 + 1) (by omega)
      have c3 := markText_con (m := m) (q + 1 + 1 + 1) (by omega)
      repeat' first | refine Ra ⟨?_⟩ | ((first | refine bt (by omega) ?_ | refine Rc [] 0 rfl rfl (c1) ?_ | refine Rc [] 0 rfl rfl (c2) ?_ | refine Rc [] 0 rfl rfl (c3) ?_ | refine ⟨i, _, rfl, hg, rfl, ?_⟩ | (refine bd (fun h => ?_) (fun h => ?_) <;> (try simp only [List.length_map] at h)) | refine bsplit.mk (fun h => ?_) (fun h => ?_)) <;> conv => whnf) | refine Rb ⟨?_⟩ | fail
      refine .here ⟨mq - 1, by omega, ?_⟩
      refine la [0, 1, 5] ?_
      conv => whnf
      refine ⟨rfl, rfl, i + 1, q + 1 + 1 + 1 + 1, (by omega), rfl, rfl, rfl, by omega, by omega⟩
    · have hi2 : i = n := by omega
      subst hi2
      rw [← hq]
      repeat' first | refine Ra ⟨?_⟩ | ((first | refine bf (by omega) ?_ | (refine bd (fun h => ?_) (fun h => ?_) <;> (try simp only [List.length_map] at h)) | refine bsplit.mk (fun h => ?_) (fun h => ?_)) <;> conv => whnf) | refine Rb ⟨?_⟩ | fail
      exact Rf
theorem markIntS_con (t : List Int) (k : Int) (hk : 0 ≤ k ∧ k ≤ 10000000) (ht : t.length ≤ 1100000) : Con (E m) 63 1 [.own 0, .k .i64 k] [(0, .own 3 (t.map cI))] (.k .i64 (k + 1 * t.length)) [(0, .own 3 ((mkL fI 1 k t.length).map cI))] := by
  refine con_of_cd tyOk mix Tryz.func63 rfl rfl rfl (Nat.le_of_ble_eq_true rfl) ?_
  repeat' first | refine Ra ⟨?_⟩ | ((first | (refine bd (fun h => ?_) (fun h => ?_) <;> (try simp only [List.length_map] at h)) | refine bsplit.mk (fun h => ?_) (fun h => ?_)) <;> conv => whnf) | refine Rb ⟨?_⟩ | fail
  refine Cd.loop2 (fun mq tm S nx => ∃ (i : Nat) (q : Int) (xs : List (List D)), mq = (t.length - i) ∧ tm = [(0, .own 0), (1, .k .i64 q), (5, .k .i64 i)] ∧ S = [(0, .own 3 xs)] ∧ nx = 1 ∧ (i ≤ t.length) ∧ (q = k + 1 * i) ∧ (xs = (mkL fI 1 k i).map cI ++ (t.drop i).map cI)) ?_ ?_
  · refine la [0, 1, 5] ?_
    conv => whnf
    refine ⟨rfl, rfl, _, 0, k, _, rfl, rfl, rfl, rfl, Nat.zero_le _, by omega, rfl⟩
  · rintro mq tm S nx ⟨i, q, xs, hn, rfl, rfl, rfl, hi, hq, hx⟩
    rcases drop_or t i hi with ⟨rfl, hd⟩ | ⟨x, r, hx', hd, hr, hlt⟩
    · rw [hd, List.map_nil, List.append_nil] at hx
      have hxl : xs.length = t.length := by rw [hx, List.length_map, mkL_len]
      rw [← hx, ← hq]
      repeat' first | refine Ra ⟨?_⟩ | ((first | refine bf (by omega) ?_ | (refine bd (fun h => ?_) (fun h => ?_) <;> (try simp only [List.length_map] at h)) | refine bsplit.mk (fun h => ?_) (fun h => ?_)) <;> conv => whnf) | refine Rb ⟨?_⟩ | fail
      exact Rf
    · rw [hd, List.map_cons] at hx
      have hAl : i = ((mkL fI 1 k i).map cI).length := by rw [List.length_map, mkL_len]
      have hxl : xs.length = t.length := by
        have := congrArg List.length hd
        simp at this
        rw [hx, List.length_append, ← hAl, List.length_cons, List.length_map]; omega
      have hg : xs[i]? = some (cI x) := by rw [hx]; exact get_mid hAl

      repeat' first | refine Ra ⟨?_⟩ | ((first | refine bt (by omega) ?_ | refine ⟨i, rfl, by (try simp only [List.length_set]); omega, ?_⟩ | refine ⟨_, hg, Nat.le_of_ble_eq_true rfl, ?_⟩ | refine ⟨_, get_set (by (try simp only [List.length_set]); omega), Nat.le_of_ble_eq_true rfl, ?_⟩ | (refine bd (fun h => ?_) (fun h => ?_) <;> (try simp only [List.length_map] at h)) | refine bsplit.mk (fun h => ?_) (fun h => ?_)) <;> conv => whnf) | refine Rb ⟨?_⟩ | fail
      refine .here ⟨mq - 1, by omega, ?_⟩
      refine la [0, 1, 5] ?_
      conv => whnf
      refine ⟨rfl, rfl, i + 1, q + 1, _, (by omega), rfl, rfl, rfl, by omega, by omega, ?_⟩
      rw [hx, set_mid hAl, mkL, hr, ← hq, List.map_append, List.append_assoc]
      rfl
theorem heldIntS_con (n : Nat) (k : Int) (hk : 0 ≤ k ∧ k ≤ 10000000) (ht : n ≤ 1100000) : Con (E m) 65 0 [.sl ((mkL fI 1 k n).map cI), .k .i64 k] [] (.k .i64 (k + 1 * n)) [] := by
  have hml : ((mkL fI 1 k n).map cI).length = n := by rw [List.length_map, mkL_len]
  refine con_of_cd tyOk mix Tryz.func65 rfl rfl rfl (Nat.le_of_ble_eq_true rfl) ?_
  repeat' first | refine Ra ⟨?_⟩ | ((first | (refine bd (fun h => ?_) (fun h => ?_) <;> (try simp only [List.length_map] at h)) | refine bsplit.mk (fun h => ?_) (fun h => ?_)) <;> conv => whnf) | refine Rb ⟨?_⟩ | fail
  refine Cd.loop2 (fun mq tm S nx => ∃ (i : Nat) (q : Int), mq = (n - i) ∧ tm = [(0, .sl ((mkL fI 1 k n).map cI)), (1, .k .i64 q), (5, .k .i64 i)] ∧ S = [] ∧ nx = 0 ∧ (i ≤ n) ∧ (q = k + 1 * i)) ?_ ?_
  · refine la [0, 1, 5] ?_
    conv => whnf
    refine ⟨rfl, rfl, _, 0, k, rfl, rfl, rfl, rfl, Nat.zero_le _, by omega⟩
  · rintro mq tm S nx ⟨i, q, hn, rfl, rfl, rfl, hi, hq⟩
    by_cases hlt : i < n
    · have hg : ((mkL fI 1 k n).map cI)[i]? = some [.k .i64 (q)] := by rw [List.getElem?_map, mkL_get hlt, hq]; rfl

      repeat' first | refine Ra ⟨?_⟩ | ((first | refine bt (by omega) ?_ | refine ⟨i, _, rfl, hg, rfl, ?_⟩ | (refine bd (fun h => ?_) (fun h => ?_) <;> (try simp only [List.length_map] at h)) | refine bsplit.mk (fun h => ?_) (fun h => ?_)) <;> conv => whnf) | refine Rb ⟨?_⟩ | fail
      refine .here ⟨mq - 1, by omega, ?_⟩
      refine la [0, 1, 5] ?_
      conv => whnf
      refine ⟨rfl, rfl, i + 1, q + 1, (by omega), rfl, rfl, rfl, by omega, by omega⟩
    · have hi2 : i = n := by omega
      subst hi2
      rw [← hq]
      repeat' first | refine Ra ⟨?_⟩ | ((first | refine bf (by omega) ?_ | (refine bd (fun h => ?_) (fun h => ?_) <;> (try simp only [List.length_map] at h)) | refine bsplit.mk (fun h => ?_) (fun h => ?_)) <;> conv => whnf) | refine Rb ⟨?_⟩ | fail
      exact Rf
end Go.Proofs.YtoaiplobfellaaaGreatDoor
