/- Contracts: paths and trees, as the program has them. -/
import Derived.Test.YtoaiplobfellaaaGreatDoorRLc
set_option linter.unusedSimpArgs false
set_option linter.unusedVariables false
set_option maxHeartbeats 1000000
set_option maxRecDepth 10000
namespace Go.Proofs.YtoaiplobfellaaaGreatDoor
open Go Go.RowKit Go.Ab Go.Par
variable {m : Int}
theorem iNames_con (s : Bs) (hs : s.length ≤ 1073741824) : Con (E m) 166 0 [.s s] [] (.tup [.own 0, .b (pathOk s)]) [(0, .own 9 ((if pathOk s then names s else []).map fun l => [.s l]))] := by
  match s, hs with
  | [], hs =>
    refine con_of_cd tyOk mix Tryz.func166 rfl rfl rfl (Nat.le_of_ble_eq_true rfl) ?_
    repeat' first | refine Rw ⟨?_⟩ | (refine bsplit.mk (fun h => ?_) (fun h => ?_) <;> (try simp only [decide_eq_true_eq, decide_eq_false_iff_not, Bool.not_eq_true', Bool.not_eq_false', Bool.not_true, Bool.not_false, Bool.true_eq_false, Bool.false_eq_true, List.length_map] at h) <;> conv => whnf) | refine Rs ⟨?_⟩ | fail
    · exact Rf
    · exact absurd trivial ‹¬True›
  | x :: r, hs =>
    have hs' : (((x :: r).take (x :: r).length).drop 1).length < 4294967281 := by simp at hs ⊢; omega
    have hc := split_con (m := m) (((x :: r).take (x :: r).length).drop 1) 47 hs'
    rw [show cut 47 (((x :: r).take (x :: r).length).drop 1) = cut 47 r by rw [List.take_length]; rfl] at hc
    have hpc := cut_piece 47 r
    have hn : names (x :: r) = if x = 47 ∧ r ≠ [] then cut 47 r else [] := rfl
    have bad : pathOk (x :: r) = false → (if pathOk (x :: r) then names (x :: r) else []) = [] := fun h => by rw [h]; rfl
    refine con_of_cd tyOk mix Tryz.func166 rfl rfl rfl (Nat.le_of_ble_eq_true rfl) ?_
    repeat' first | refine Rw ⟨?_⟩ | (refine bsplit.mk (fun h => ?_) (fun h => ?_) <;> (try simp only [decide_eq_true_eq, decide_eq_false_iff_not, Bool.not_eq_true', Bool.not_eq_false', Bool.not_true, Bool.not_false, Bool.true_eq_false, Bool.false_eq_true, List.length_map] at h) <;> conv => whnf) | (refine Rc [] 1 rfl rfl (hc) ?_; conv => whnf) | refine Rs ⟨?_⟩ | fail
    · exact absurd ‹x :: r = []› (by simp)
    · have hx : x ≠ 47 := fun e => ‹¬((x.toNat : Int) = 47)› (by rw [e]; rfl)
      have hp : pathOk (x :: r) = false := by
        rw [pathOk_eq (hn.trans (if_neg fun h => hx h.1))]
        simp
      rw [bad hp, hp]
      exact Rf
    · have hp : pathOk (x :: r) = false := by
        have h : ((x :: r).length : Int) > 12 := ‹_›
        have h' : ¬ (x :: r).length ≤ 12 := by omega
        simp only [pathOk, h', decide_false, Bool.false_and]
      rw [bad hp, hp]
      exact Rf
    · have hcl : ((cut 47 r).length : Int) > 3 := ‹_›
      have hr : r ≠ [] := by
        rintro rfl
        simp [cut] at hcl
      have hx : x = 47 := UInt8.toNat_inj.1 (by have h : (x.toNat : Int) = 47 := ‹_›; exact Int.ofNat_inj.1 h)
      have hp : pathOk (x :: r) = false := by
        have h' : ¬ (cut 47 r).length ≤ 3 := by omega
        rw [pathOk_eq (hn.trans (if_pos ⟨hx, hr⟩))]
        simp [h']
      rw [bad hp, hp]
      exact Rf
    · have hx : x = 47 := UInt8.toNat_inj.1 (by have h : (x.toNat : Int) = 47 := ‹_›; exact Int.ofNat_inj.1 h)
      have hlen : (x :: r).length ≤ 12 := by have h : ¬ ((x :: r).length : Int) > 12 := ‹_›; omega
      have hcl : (cut 47 r).length ≤ 3 := by have h : ¬ ((cut 47 r).length : Int) > 3 := ‹_›; omega
      refine Cd.loop (fun n tm S nx => ∃ i : Nat, i ≤ (cut 47 r).length ∧ n = (cut 47 r).length - i ∧ tm = [(4, .own 0), (25, .own 0), (26, .k .i64 ((cut 47 r).map fun l => [D.s l]).length), (27, .k .i64 i)] ∧ S = [(0, .own 9 ((cut 47 r).map fun l => [.s l]))] ∧ nx = 1 ∧ ((cut 47 r).take i).all nameOk = true) ⟨(cut 47 r).length, ?_⟩ ?_
      · refine la [4, 25, 26, 27] ?_
        conv => whnf
        refine ⟨rfl, rfl, 0, Nat.zero_le _, rfl, rfl, rfl, rfl, rfl⟩
      · rintro n tm S nx ⟨i, hi, hn2, rfl, rfl, rfl, ha⟩
        by_cases hlt : i < (cut 47 r).length
        · have hpi := hpc _ (List.getElem_mem hlt)
          repeat' first | refine Rw ⟨?_⟩ | (refine bsplit.mk (fun h => ?_) (fun h => ?_) <;> (try simp only [decide_eq_true_eq, decide_eq_false_iff_not, Bool.not_eq_true', Bool.not_eq_false', Bool.not_true, Bool.not_false, Bool.true_eq_false, Bool.false_eq_true, List.length_map] at h) <;> conv => whnf) | (refine Rc [] 0 rfl rfl (iName_con (cut 47 r)[i] (by simp at hs; omega)) ?_; conv => whnf) | refine Rs ⟨?_⟩ | fail
          · have hf : (cut 47 r).all nameOk = false := all_false (List.getElem?_eq_getElem hlt) ‹_›
            have hp : pathOk (x :: r) = false := by
              by_cases hr : r = []
              · rw [pathOk_eq (hn.trans (if_neg fun h => h.2 hr))]
                simp
              · rw [pathOk_eq (hn.trans (if_pos ⟨hx, hr⟩))]
                simp [hf]
            rw [bad hp, hp]
            exact Rf
          · refine .here ⟨n - 1, by omega, ?_⟩
            refine la [4, 25, 26, 27] ?_
            conv => whnf
            refine ⟨rfl, rfl, i + 1, by omega, by omega, rfl, rfl, rfl, all_take_succ ha (List.getElem?_eq_getElem hlt) ‹_›⟩
          · exact absurd hlt (by omega)
        · have hal : (cut 47 r).all nameOk = true := all_take_full ha (by omega)
          have hr : r ≠ [] := by
            rintro rfl
            simp [cut, nameOk] at hal
          have hne := List.length_pos_iff.2 (cut_ne 47 r)
          have hp : pathOk (x :: r) = true := by
            have h1 : 1 ≤ (cut 47 r).length := by omega
            have h0 : r.length + 1 ≤ 12 := by simpa using hlen
            rw [pathOk_eq (hn.trans (if_pos ⟨hx, hr⟩))]
            simp only [hal, hlen, h1, hcl, decide_true, Bool.and_self]
          have hnn : names (x :: r) = cut 47 r := by rw [hn, if_pos ⟨hx, hr⟩]
          have good : (if pathOk (x :: r) then names (x :: r) else []) = cut 47 r := by rw [hp, hnn]; rfl
          rw [good, hp]
          repeat' first | refine Rw ⟨?_⟩ | (refine bsplit.mk (fun h => ?_) (fun h => ?_) <;> (try simp only [decide_eq_true_eq, decide_eq_false_iff_not, Bool.not_eq_true', Bool.not_eq_false', Bool.not_true, Bool.not_false, Bool.true_eq_false, Bool.false_eq_true, List.length_map] at h) <;> conv => whnf) | refine Rs ⟨?_⟩ | fail
          · exact absurd hlt (by omega)
          · exact Rf
theorem iPathOk_con (s : Bs) (hs : s.length ≤ 1073741824) : Con (E m) 100 0 [.s s] [] (.b (pathOk s)) [] := by
  refine con_of_cd tyOk mix Tryz.func100 rfl rfl rfl (Nat.le_of_ble_eq_true rfl) ?_
  repeat' first | refine Rw ⟨?_⟩ | (refine bsplit.mk (fun h => ?_) (fun h => ?_) <;> (try simp only [decide_eq_true_eq, decide_eq_false_iff_not, Bool.not_eq_true', Bool.not_eq_false', Bool.not_true, Bool.not_false, Bool.true_eq_false, Bool.false_eq_true, List.length_map] at h) <;> conv => whnf) | (refine Rc [] 1 rfl rfl (iNames_con s hs) ?_; conv => whnf) | refine Rs ⟨?_⟩ | fail
  exact Rf
theorem iUp_con (s : Bs) (hs : s.length ≤ 1073741824) : Con (E m) 134 0 [.s s] [] (.s (pathUp s)) [] := by
  have h1 := iNames_con (m := m) s hs
  cases hok : pathOk s with
  | false =>
    simp only [hok] at h1
    have hx : pathUp s = [] := by simp [pathUp, hok]
    rw [hx]
    refine con_of_cd tyOk mix Tryz.func134 rfl rfl rfl (Nat.le_of_ble_eq_true rfl) ?_
    repeat' first | refine Rw ⟨?_⟩ | (refine bsplit.mk (fun h => ?_) (fun h => ?_) <;> (try simp only [decide_eq_true_eq, decide_eq_false_iff_not, Bool.not_eq_true', Bool.not_eq_false', Bool.not_true, Bool.not_false, Bool.true_eq_false, Bool.false_eq_true, List.length_map] at h) <;> conv => whnf) | (refine Rc [] 1 rfl rfl (h1) ?_; conv => whnf) | refine Rs ⟨?_⟩ | fail
    exact Rf
  | true =>
    simp only [hok, if_true] at h1
    have hp := path_names hok
    have hpl := names_piece s
    have hj := join_con (m := m) ((names s).take ((names s).length - 1)) 47 (by rw [List.length_take]; omega) (by
      rw [← List.dropLast_eq_take]
      have := pathUp_len s
      rw [pathUp_join hok] at this
      simp at this
      omega)
    rw [List.map_take] at hj
    have hx : pathUp s = [47] ++ join 47 ((names s).take ((names s).length - 1)) := by
      rw [pathUp_join hok, List.dropLast_eq_take]
      rfl
    have hlj : (join 47 ((names s).take ((names s).length - 1))).length ≤ 12 := by
      have := pathUp_len s
      rw [hx] at this
      simp at this
      omega
    rw [hx]
    refine con_of_cd tyOk mix Tryz.func134 rfl rfl rfl (Nat.le_of_ble_eq_true rfl) ?_
    repeat' first | refine Rw ⟨?_⟩ | (refine bsplit.mk (fun h => ?_) (fun h => ?_) <;> (try simp only [decide_eq_true_eq, decide_eq_false_iff_not, Bool.not_eq_true', Bool.not_eq_false', Bool.not_true, Bool.not_false, Bool.true_eq_false, Bool.false_eq_true, List.length_map] at h) <;> conv => whnf) | (refine Rc [] 1 rfl rfl (h1) ?_; conv => whnf) | (refine Rc [] 0 rfl rfl (hj) ?_; conv => whnf) | (refine ⟨(names s).length - 1, by simp only [List.length_map]; omega, ?_⟩; conv => whnf) | refine Rs ⟨?_⟩ | fail
    exact Rf
theorem iData_con (s : Bs) (hs : s.length ≤ 1073741824) : Con (E m) 101 0 [.s s] [] (.b (dataOk s)) [] := by
  refine con_of_cd tyOk mix Tryz.func101 rfl rfl rfl (Nat.le_of_ble_eq_true rfl) ?_
  repeat' first | refine Rw ⟨?_⟩ | (refine bsplit.mk (fun h => ?_) (fun h => ?_) <;> (try simp only [decide_eq_true_eq, decide_eq_false_iff_not, Bool.not_eq_true', Bool.not_eq_false', Bool.not_true, Bool.not_false, Bool.true_eq_false, Bool.false_eq_true, List.length_map] at h) <;> conv => whnf) | refine Rs ⟨?_⟩ | fail
  · have : ¬ s.length ≤ 6 := by omega
    first | refine CallEnd.here (fa ?_) | refine fa ?_
    conv => whnf
    first | exact ⟨rfl, rfl, rfl, rfl⟩ | refine ⟨rfl, rfl, congrArg some (congrArg D.s ?_), rfl⟩ | refine ⟨rfl, rfl, congrArg some (congrArg D.b ?_), rfl⟩ | refine ⟨rfl, rfl, congrArg some (congrArg (D.k _) ?_), rfl⟩ | refine ⟨rfl, rfl, congrArg some (congrArg D.agg ?_), rfl⟩ | refine ⟨rfl, rfl, rfl, ?_⟩
    all_goals first | rfl | (simp_all [dataOk]; done) | (simp [dataOk] <;> (repeat' split) <;> omega) | (simp only [dataOk]; repeat' split) <;> first | omega | (simp_all; done) | (simp_all; omega) | (rw [Bool.eq_iff_iff]; simp [*, dataOk] <;> omega)
  refine Cd.loop (fun n tm S nx => ∃ i : Nat, i ≤ s.length ∧ n = s.length - i ∧ tm = [(0, .s s), (3, .k .i64 i)] ∧ S = [] ∧ nx = 0 ∧ (s.take i).all (fun b => lower b || digit b) = true) ⟨s.length, ?_⟩ ?_
  · refine la [0, 3] ?_
    conv => whnf
    refine ⟨rfl, rfl, 0, Nat.zero_le _, rfl, rfl, rfl, rfl, rfl⟩
  · rintro n tm S nx ⟨i, hi, hn, rfl, rfl, rfl, ha⟩
    repeat' first | refine Rw ⟨?_⟩ | (refine bsplit.mk (fun h => ?_) (fun h => ?_) <;> (try simp only [decide_eq_true_eq, decide_eq_false_iff_not, Bool.not_eq_true', Bool.not_eq_false', Bool.not_true, Bool.not_false, Bool.true_eq_false, Bool.false_eq_true, List.length_map] at h) <;> conv => whnf) | refine Rs ⟨?_⟩ | fail
    all_goals first
      | (have hf : s.all (fun b => lower b || digit b) = false := all_false (List.getElem?_eq_getElem (by omega : i < s.length)) (ld_false (by omega))
         (first | refine CallEnd.here (fa ?_) | refine fa ?_)
         conv => whnf
         refine ⟨rfl, rfl, congrArg some (congrArg D.b ?_), rfl⟩
         first | (simp_all [dataOk]; done) | (rw [Bool.eq_iff_iff]; simp [*, dataOk] <;> omega))
      | (refine .here ⟨n - 1, by omega, ?_⟩
         refine la [0, 3] ?_
         conv => whnf
         refine ⟨rfl, rfl, i + 1, by omega, by omega, rfl, rfl, rfl, all_take_succ ha (List.getElem?_eq_getElem (by omega : i < s.length)) (ld_true (by omega))⟩)
      | (have hf : s.all (fun b => lower b || digit b) = true := all_take_full ha (by omega)
         (first | refine CallEnd.here (fa ?_) | refine fa ?_)
         conv => whnf
         refine ⟨rfl, rfl, congrArg some (congrArg D.b ?_), rfl⟩
         first | (simp_all [dataOk]; done) | (rw [Bool.eq_iff_iff]; simp [*, dataOk] <;> omega))
def entD : Option Ent → D
  | some e => .tup [.agg e.c, .b true]
  | none => .tup [.agg [.s [], .b false, .s []], .b false]
theorem entAt_at {t : List Ent} {p : Bs} {i : Nat} {e : Ent} (h : t[i]? = some e) (hp : e.path = p) (hb : ∀ k e, k < i → t[k]? = some e → e.path ≠ p) : entAt t p = some e := by
  rcases entIx_or t p with ⟨j, hx, hj, he⟩ | ⟨hx, he⟩
  · rw [entIx_at h hp hb] at hx
    have : i = j := by omega
    subst this
    rw [List.getElem?_eq_getElem hj] at h
    rw [he, h]
  · rw [entIx_at h hp hb] at hx
    omega
theorem entAt_miss {t : List Ent} {p : Bs} (hb : ∀ (k : Nat) e, t[k]? = some e → e.path ≠ p) : entAt t p = none := by
  rcases entIx_or t p with ⟨j, hx, hj, he⟩ | ⟨hx, he⟩
  · rw [entIx_none hb] at hx
    omega
  · exact he
theorem iAt_con (t : List Ent) (p : Bs) (ht : t.length ≤ 1073741824) : Con (E m) 133 0 [.sl (t.map Ent.c), .s p] [] (entD (entAt t p)) [] := by
  refine con_of_cd tyOk mix Tryz.func133 rfl rfl rfl (Nat.le_of_ble_eq_true rfl) ?_
  repeat' first | refine Rw ⟨?_⟩ | (refine bsplit.mk (fun h => ?_) (fun h => ?_) <;> (try simp only [decide_eq_true_eq, decide_eq_false_iff_not, Bool.not_eq_true', Bool.not_eq_false', Bool.not_true, Bool.not_false, Bool.true_eq_false, Bool.false_eq_true, List.length_map] at h) <;> conv => whnf) | refine Rs ⟨?_⟩ | fail
  refine Cd.loop (fun n tm S nx => ∃ i : Nat, i ≤ t.length ∧ n = t.length - i ∧ tm = [(1, .s p), (4, .bp 0 0), (8, .sl (t.map Ent.c)), (9, .k .i64 (t.map Ent.c).length), (10, .k .i64 i)] ∧ S = [(0, .box 76 [.s [], .b false, .s []])] ∧ nx = 1 ∧ ∀ k e, k < i → t[k]? = some e → e.path ≠ p) ⟨t.length, ?_⟩ ?_
  · refine la [1, 4, 8, 9, 10] ?_
    conv => whnf
    refine ⟨rfl, rfl, 0, Nat.zero_le _, rfl, rfl, rfl, rfl, fun k e h => absurd h (Nat.not_lt_zero _)⟩
  · rintro n tm S nx ⟨i, hi, hn, rfl, rfl, rfl, ha⟩
    by_cases hlt : i < t.length
    · repeat' first | refine Rw ⟨?_⟩ | (refine bsplit.mk (fun h => ?_) (fun h => ?_) <;> (try simp only [decide_eq_true_eq, decide_eq_false_iff_not, Bool.not_eq_true', Bool.not_eq_false', Bool.not_true, Bool.not_false, Bool.true_eq_false, Bool.false_eq_true, List.length_map] at h) <;> conv => whnf) | refine Rs ⟨?_⟩ | fail
      · have he : entAt t p = some t[i] := entAt_at (List.getElem?_eq_getElem hlt) ‹_› ha
        rw [he]
        exact Rf
      · refine .here ⟨n - 1, by omega, ?_⟩
        refine la [1, 4, 8, 9, 10] ?_
        conv => whnf
        refine ⟨rfl, rfl, i + 1, by omega, by omega, rfl, rfl, rfl, fun k e h1 h2 => ?_⟩
        by_cases hk : k = i
        · subst hk
          rw [List.getElem?_eq_getElem hlt] at h2
          cases h2
          assumption
        · exact ha k e (by omega) h2
      · exact absurd hlt (by omega)
    · repeat' first | refine Rw ⟨?_⟩ | (refine bsplit.mk (fun h => ?_) (fun h => ?_) <;> (try simp only [decide_eq_true_eq, decide_eq_false_iff_not, Bool.not_eq_true', Bool.not_eq_false', Bool.not_true, Bool.not_false, Bool.true_eq_false, Bool.false_eq_true, List.length_map] at h) <;> conv => whnf) | refine Rs ⟨?_⟩ | fail
      · exact absurd hlt (by omega)
      · have he : entAt t p = none := entAt_miss fun k e h => ha k e (by have := (List.getElem?_eq_some_iff.1 h).1; omega) h
        rw [he]
        exact Rf
theorem iUpCode_con (t : List Ent) (p : Bs) (ht : t.length ≤ 1073741824) (hp : p.length ≤ 1073741824) : Con (E m) 102 0 [.sl (t.map Ent.c), .s p] [] (.k .i64 (upCode t p)) [] := by
  have h1 := iUp_con (m := m) p hp
  have h2 := iAt_con (m := m) t (pathUp p) ht
  by_cases hr : pathUp p = [47]
  · have hx : upCode t p = 0 := by simp [upCode, hr]
    rw [hx]
    rw [hr] at h1
    refine con_of_cd tyOk mix Tryz.func102 rfl rfl rfl (Nat.le_of_ble_eq_true rfl) ?_
    repeat' first | refine Rw ⟨?_⟩ | (refine bsplit.mk (fun h => ?_) (fun h => ?_) <;> (try simp only [decide_eq_true_eq, decide_eq_false_iff_not, Bool.not_eq_true', Bool.not_eq_false', Bool.not_true, Bool.not_false, Bool.true_eq_false, Bool.false_eq_true, List.length_map] at h) <;> conv => whnf) | (refine Rc [] 0 rfl rfl (h1) ?_; conv => whnf) | refine Rs ⟨?_⟩ | fail
    all_goals first
      | exact absurd rfl ‹¬([47] : Bs) = [47]›
      | exact absurd trivial ‹¬True›
      | skip
    exact Rf
  · match he : entAt t (pathUp p), h2 with
    | none, h2 =>
      have hx : upCode t p = 2 := by simp [upCode, hr, he]
      rw [hx]
      refine con_of_cd tyOk mix Tryz.func102 rfl rfl rfl (Nat.le_of_ble_eq_true rfl) ?_
      repeat' first | refine Rw ⟨?_⟩ | (refine bsplit.mk (fun h => ?_) (fun h => ?_) <;> (try simp only [decide_eq_true_eq, decide_eq_false_iff_not, Bool.not_eq_true', Bool.not_eq_false', Bool.not_true, Bool.not_false, Bool.true_eq_false, Bool.false_eq_true, List.length_map] at h) <;> conv => whnf) | (refine Rc [] 0 rfl rfl (h1) ?_; conv => whnf) | (refine Rc [] 0 rfl rfl (h2) ?_; conv => whnf) | refine Rs ⟨?_⟩ | fail
      all_goals first
        | exact absurd ‹pathUp p = [47]› hr
        | skip
      exact Rf
    | some e, h2 =>
      have hx : upCode t p = if e.dir then 0 else 3 := by simp [upCode, hr, he]
      rw [hx]
      refine con_of_cd tyOk mix Tryz.func102 rfl rfl rfl (Nat.le_of_ble_eq_true rfl) ?_
      repeat' first | refine Rw ⟨?_⟩ | (refine bsplit.mk (fun h => ?_) (fun h => ?_) <;> (try simp only [decide_eq_true_eq, decide_eq_false_iff_not, Bool.not_eq_true', Bool.not_eq_false', Bool.not_true, Bool.not_false, Bool.true_eq_false, Bool.false_eq_true, List.length_map] at h) <;> conv => whnf) | (refine Rc [] 0 rfl rfl (h1) ?_; conv => whnf) | (refine Rc [] 0 rfl rfl (h2) ?_; conv => whnf) | refine Rs ⟨?_⟩ | fail
      · exact absurd ‹pathUp p = [47]› hr
      all_goals
        exact Rf
end Go.Proofs.YtoaiplobfellaaaGreatDoor
